/- A part of the abstract machine: definitions and lemmas for all programs, no claim of its own; no condition. -/
import Derived.Test.YtpmlgmhmejhfeaaGreatAmRel
set_option linter.unusedVariables false
set_option linter.unusedSimpArgs false
namespace Go.AM

def live : Blk → Bool
  | .dead => false
  | _ => true
theorem live_of_owned {b : Blk} (h : owned b = true) : live b = true := by cases b <;> simp_all [owned, live]

def ER (ρ : Ren) (e e' : MapEntry) : Prop := VR ρ e.key e'.key ∧ VR ρ e.val e'.val ∧ e'.born = e.born
def EL (ρ : Ren) (es : List MapEntry) (es' : List MapEntry) : Prop :=
  es.length = es'.length ∧ ∀ (i : Nat) (e : MapEntry), es[i]? = some e → ∃ e', es'[i]? = some e' ∧ ER ρ e e'
def TR (ρ : Ren) (t : Tmps) (tmps : Array Value) : Prop := ∀ i, VR ρ (t i) (tmps.getD i undef)

theorem TR.mono {ρ ρ' : Ren} (hs : Sub ρ ρ') {t : Tmps} {a : Array Value} (h : TR ρ t a) : TR ρ' t a := fun i => (h i).mono hs
theorem EL.mono {ρ ρ' : Ren} (hs : Sub ρ ρ') {es es' : List MapEntry} (h : EL ρ es es') : EL ρ' es es' :=
  ⟨h.1, fun i e he => let ⟨e', h1, h2, h3, h4⟩ := h.2 i e he; ⟨e', h1, h2.mono hs, h3.mono hs, h4⟩⟩

theorem TR.cut {ρ : Ren} {N : Nat} {t : Tmps} {tmps : Array Value} (ht : TR ρ t tmps) (hn : tmps.size = N) : TR ρ (cutT N t) tmps := fun i => by
  unfold cutT
  split
  · exact ht i
  · rename_i hb
    have : ¬ i < N := fun hlt => by rw [show Nat.blt i N = true from Nat.ble_eq_true_of_le hlt] at hb; cases hb
    have e : tmps.getD i undef = undef := by
      unfold Array.getD
      rw [dif_neg (by omega)]
    rw [e]; exact .undef ρ

/-- A row of cells in the world. -/
def Row (ρ : Ren) (vs : List Value) (e : TypeId) (m : Mode) (l : Loc) (w : World) : Prop :=
  ∃ cs fr, w.heap[l.blk]? = some (.cells cs e fr) ∧ ((∀ es, m ≠ .ro es) → fr = (0, 0)) ∧ ((∀ es, m = .grown es → cs.size = l.size) ∧ ∀ es, m.es = some es → l.es = es) ∧ VL ρ vs ((cs.toList.drop l.base).take vs.length) ∧ l.base + vs.length ≤ cs.size

def BR (ρ : Ren) (b : Blk) (l : Loc) (w : World) : Prop :=
  match b with
  | .cells vs e m => Row ρ vs e m l w
  | .map es clock => ∃ es', w.heap[l.blk]? = some (.map es' clock) ∧ EL ρ es es'.toList
  | .siter s pos => w.heap[l.blk]? = some (.stringIter s pos) ∧ l.base = 0
  | .loop r => ∃ q ld, w.heap[l.blk]? = some (.loop q) ∧ q.state = r.state ∧ q.pending = r.pending ∧ q.params = r.params ∧ q.assign = r.assign ∧ q.body = r.body ∧
      (TR ρ r.tmps q.tmps ∧ q.tmps.size = r.ntmps) ∧ ρ r.defers = some ld ∧ q.defers = ld.blk
  | .defs => ∃ ds, w.heap[l.blk]? = some (.deferred ds)
  | .dead => True

theorem BR.mono {ρ ρ' : Ren} (hs : Sub ρ ρ') {b : Blk} {l : Loc} {w : World} (h : BR ρ b l w) : BR ρ' b l w := by
  cases b with
  | cells vs e m => obtain ⟨cs, fr, h1, h2, h3, h4, h5⟩ := h; exact ⟨cs, fr, h1, h2, h3, h4.mono hs, h5⟩
  | map es clock => obtain ⟨es', h1, h2⟩ := h; exact ⟨es', h1, h2.mono hs⟩
  | siter s pos => exact h
  | loop r => obtain ⟨q, ld, h1, h2, h3, h4, h5, h6, h7, h8, h9⟩ := h; exact ⟨q, ld, h1, h2, h3, h4, h5, h6, ⟨h7.1.mono hs, h7.2⟩, hs _ _ h8, h9⟩
  | defs => exact h
  | dead => trivial

theorem BR.congr {ρ : Ren} {b : Blk} {l : Loc} {w w' : World} (hw : w'.heap[l.blk]? = w.heap[l.blk]?) (h : BR ρ b l w) : BR ρ b l w' := by
  cases b with
  | cells vs e m => obtain ⟨cs, fr, h1, h2⟩ := h; exact ⟨cs, fr, hw.trans h1, h2⟩
  | map es clock => obtain ⟨es', h1, h2⟩ := h; exact ⟨es', hw.trans h1, h2⟩
  | siter s pos => exact ⟨hw.trans h.1, h.2⟩
  | loop r => obtain ⟨q, ld, h1, h2⟩ := h; exact ⟨q, ld, hw.trans h1, h2⟩
  | defs => obtain ⟨ds, h1⟩ := h; exact ⟨ds, hw.trans h1⟩
  | dead => trivial

structure HR (ρ : Ren) (h : Heap) (w : World) : Prop where
  n_le : h.n ≤ 32768
  dom : ∀ i l, ρ i = some l → i < h.n ∧ l.blk < w.heap.size ∧ BR ρ (h.get i) l w
  inj : ∀ i j li lj, i ≠ j → ρ i = some li → ρ j = some lj → owned (h.get i) = true → live (h.get j) = true → li.blk ≠ lj.blk

structure Fr (ρ : Ren) (h : Heap) (w : World) (ρ' : Ren) (h' : Heap) (w' : World) : Prop where
  size : w.heap.size ≤ w'.heap.size
  same : ∀ c, c < w.heap.size → (∀ i l, ρ i = some l → owned (h.get i) = true → l.blk ≠ c) → w'.heap[c]? = w.heap[c]?
  new : ∀ i l, ρ' i = some l → owned (h'.get i) = true → w.heap.size ≤ l.blk ∨ ∃ j lj, ρ j = some lj ∧ owned (h.get j) = true ∧ lj.blk = l.blk
  os : w'.os = w.os
  output : w'.output = w.output
  tape : w'.tape = w.tape

/-- All that a block holds names blocks below m alone. -/
def LowB (m : Nat) : Blk → Prop
  | .cells vs _ _ => ∀ v ∈ vs, Low m v
  | .map es _ => ∀ e ∈ es, Low m e.key ∧ Low m e.val
  | .siter _ _ => True
  | .loop r => (∀ i, Low m (r.tmps i)) ∧ r.defers < m
  | .defs => True
  | .dead => True

/-- What the heap's own marks say of what was written. -/
structure Trk (h h' : Heap) : Prop where
  base : h'.base = h.base
  wr : h'.wr ≤ h.wr
  hi : h.hi ≤ h'.hi
  same : ∀ i, i < h.n → i < h'.wr → h'.get i = h.get i
  low : ∀ i m, i < h.base → i < h.n → h'.hi ≤ m → m < big → LowB m (h.get i) → LowB m (h'.get i)
  defs : ∀ i, i < h.n → h.get i = .defs → h'.get i = .defs

theorem Trk.refl (h : Heap) : Trk h h := ⟨rfl, Nat.le_refl _, Nat.le_refl _, fun _ _ _ => rfl, fun _ _ _ _ _ _ hb => hb, fun _ _ hd => hd⟩
theorem Trk.trans {h h₁ h₂ : Heap} (hn : h.n ≤ h₁.n) (p : Trk h h₁) (q : Trk h₁ h₂) : Trk h h₂ :=
  ⟨q.base.trans p.base, Nat.le_trans q.wr p.wr, Nat.le_trans p.hi q.hi,
   fun i hi hw => (q.same i (Nat.lt_of_lt_of_le hi hn) hw).trans (p.same i hi (Nat.lt_of_lt_of_le hw q.wr)),
   fun i m hb hi hm hbig hl => q.low i m (by rw [p.base]; exact hb) (Nat.lt_of_lt_of_le hi hn) hm hbig (p.low i m hb hi (Nat.le_trans q.hi hm) hbig hl),
   fun i hi hd => q.defs i (Nat.lt_of_lt_of_le hi hn) (p.defs i hi hd)⟩

structure Post (ρ : Ren) (h : Heap) (w : World) (ρ' : Ren) (h' : Heap) (w' : World) : Prop where
  n_le : h.n ≤ h'.n
  ext : ∀ i, i < h.n → ρ' i = ρ i
  hr : HR ρ' h' w'
  fr : Fr ρ h w ρ' h' w'
  trk : Trk h h'
  far : ∀ i, i < h.n → ρ i = none → h'.get i = h.get i

section
variable {ρ ρ' ρ₁ ρ₂ : Ren} {h h' h₁ h₂ : Heap} {w w' w₁ w₂ : World}

theorem Post.sub (hr : HR ρ h w) (p : Post ρ h w ρ' h' w') : Sub ρ ρ' := fun b l e => by rw [p.ext b (hr.dom b l e).1]; exact e

theorem Post.refl (hr : HR ρ h w) : Post ρ h w ρ h w :=
  ⟨Nat.le_refl _, fun _ _ => rfl, hr, ⟨Nat.le_refl _, fun _ _ _ => rfl, fun i l e o => .inr ⟨i, l, e, o, rfl⟩, rfl, rfl, rfl⟩, .refl h, fun _ _ _ => rfl⟩

theorem Post.trans (p : Post ρ h w ρ₁ h₁ w₁) (q : Post ρ₁ h₁ w₁ ρ₂ h₂ w₂) : Post ρ h w ρ₂ h₂ w₂ := by
  refine ⟨Nat.le_trans p.n_le q.n_le, fun i hi => (q.ext i (Nat.lt_of_lt_of_le hi p.n_le)).trans (p.ext i hi), q.hr, ?_, p.trk.trans p.n_le q.trk,
    fun i hi e => (q.far i (Nat.lt_of_lt_of_le hi p.n_le) ((p.ext i hi).trans e)).trans (p.far i hi e)⟩
  refine ⟨Nat.le_trans p.fr.size q.fr.size, fun c hc hno => ?_, fun i l e o => ?_, q.fr.os.trans p.fr.os, q.fr.output.trans p.fr.output, q.fr.tape.trans p.fr.tape⟩
  · rw [q.fr.same c (Nat.lt_of_lt_of_le hc p.fr.size) (fun i l e o hl => ?_)]
    · exact p.fr.same c hc hno
    · rcases p.fr.new i l e o with h1 | ⟨j, lj, e1, o1, e2⟩
      · omega
      · exact hno j lj e1 o1 (e2.trans hl)
  · rcases q.fr.new i l e o with h1 | ⟨j, lj, e1, o1, e2⟩
    · exact .inl (Nat.le_trans p.fr.size h1)
    · rcases p.fr.new j lj e1 o1 with h1 | ⟨k, lk, e3, o3, e4⟩
      · exact .inl (e2 ▸ h1)
      · exact .inr ⟨k, lk, e3, o3, e4.trans e2⟩

theorem blt_true {a b : Nat} : Nat.blt a b = true ↔ a < b := by
  unfold Nat.blt; rw [Nat.ble_eq]; exact Iff.rfl
theorem blt_false {a b : Nat} : Nat.blt a b = false ↔ b ≤ a := by
  rw [Bool.eq_false_iff, ne_eq, blt_true]; omega
theorem ble_false {a b : Nat} : Nat.ble a b = false ↔ b < a := by
  rw [Bool.eq_false_iff, ne_eq, Nat.ble_eq]; omega
theorem get_of_lt {i : Nat} (hi : i < h.n) : h.get i = HT.get i h.t := by
  simp [Heap.get, blt_true.2 hi]
theorem get_of_ge {i : Nat} (hi : h.n ≤ i) : h.get i = .dead := by
  simp [Heap.get, blt_false.2 hi]

theorem get_put {i : Nat} {b : Blk} (hn : h.n < 32768) : (h.put b).get i = if i = h.n then b else h.get i := by
  by_cases hi : i < h.n
  · have h1 : i < (h.put b).n := by simp [Heap.put]; omega
    rw [get_of_lt h1, get_of_lt hi, if_neg (by omega)]
    simp only [Heap.put]
    rw [HT.get_set hn (by omega), if_neg (by omega)]
  · by_cases he : i = h.n
    · subst he
      have h1 : h.n < (h.put b).n := by simp [Heap.put]
      rw [get_of_lt h1]
      simp only [Heap.put]
      rw [HT.get_set hn hn]; simp
    · rw [get_of_ge (h := h.put b) (by simp [Heap.put]; omega), if_neg he, get_of_ge (by omega)]

theorem get_write {i j : Nat} {b : Blk} {m : Nat} (hn : h.n ≤ 32768) (hi : i < h.n) : (h.write i b m).get j = if j = i then b else h.get j := by
  by_cases hj : j < h.n
  · have h1 : j < (h.write i b m).n := hj
    rw [get_of_lt h1, get_of_lt hj]
    simp only [Heap.write]
    rw [HT.get_set (by omega) (by omega)]
    by_cases e : i = j
    · subst e; simp
    · rw [if_neg e, if_neg (fun e' => e e'.symm)]
  · rw [get_of_ge (h := h.write i b m) (by show h.n ≤ j; omega), if_neg (by omega), get_of_ge (by omega)]

/-- One block more. -/
def Ren.add (ρ : Ren) (n : Nat) (l : Loc) : Ren := fun i => if i = n then some l else ρ i

theorem Ren.add_same {n : Nat} {l : Loc} : ρ.add n l n = some l := by simp [Ren.add]
theorem Ren.add_other {n i : Nat} {l : Loc} (hi : i ≠ n) : ρ.add n l i = ρ i := by simp [Ren.add, hi]
theorem HR.none (hr : HR ρ h w) : ρ h.n = none := by
  cases e : ρ h.n with
  | none => rfl
  | some l => have := (hr.dom _ _ e).1; omega
theorem HR.sub_add (hr : HR ρ h w) (l : Loc) : Sub ρ (ρ.add h.n l) := fun b lb e => by
  rw [Ren.add_other]; exact e
  intro hb; subst hb; rw [hr.none] at e; cases e

/-- The world has one block more. -/
structure New1 (o : Obj) (w w' : World) : Prop where
  heap : w'.heap = w.heap.push o
  os : w'.os = w.os
  output : w'.output = w.output
  tape : w'.tape = w.tape

theorem Trk.put {b : Blk} (hn : h.n < 32768) : Trk h (h.put b) := by
  have hg : ∀ i, i < h.n → (h.put b).get i = h.get i := fun i hi => by rw [get_put hn, if_neg (by omega)]
  exact ⟨rfl, Nat.le_refl _, Nat.le_refl _, fun i hi _ => hg i hi, fun i m _ hi _ _ hl => by rw [hg i hi]; exact hl, fun i hi hd => by rw [hg i hi]; exact hd⟩

theorem Trk.write {i m : Nat} {b : Blk} (hn : h.n ≤ 32768) (hi : i < h.n) (ho : owned (h.get i) = true) (hb : ∀ m', m ≤ m' → m' < big → LowB m' (h.get i) → LowB m' b) : Trk h (h.write i b m) := by
  refine ⟨rfl, Nat.min_le_left _ _, ?_, fun j hj hw => ?_, fun j m' hjb hj hm hbig hl => ?_, fun j hj hd => ?_⟩
  · simp only [Heap.write]; split
    · exact Nat.le_max_left _ _
    · exact Nat.le_refl _
  · rw [get_write hn hi, if_neg]
    intro e; subst e
    have : j < Nat.min h.wr j := hw
    have := Nat.lt_of_lt_of_le this (Nat.min_le_right _ _)
    omega
  · rw [get_write hn hi]
    by_cases he : j = i
    · rw [if_pos he]
      subst he
      refine hb m' ?_ hbig hl
      have hbt : Nat.blt j h.base = true := blt_true.2 hjb
      simp only [Heap.write, hbt] at hm
      exact Nat.le_trans (Nat.le_max_right _ _) hm
    · rw [if_neg he]; exact hl
  · rw [get_write hn hi, if_neg]
    · exact hd
    · intro e; subst e; rw [hd] at ho; cases ho

theorem Post.alloc (hr : HR ρ h w) (hn : h.n < 32768) {b : Blk} {l : Loc} {o : Obj} (hl : l.blk = w.heap.size)
    (hw : New1 o w w') (hb : BR (ρ.add h.n l) b l w') : Post ρ h w (ρ.add h.n l) (h.put b) w' := by
  have hsz : w'.heap.size = w.heap.size + 1 := by rw [hw.heap]; simp
  have hold : ∀ c, c < w.heap.size → w'.heap[c]? = w.heap[c]? := fun c hc => by
    rw [hw.heap]; simp [Array.getElem?_push]; omega
  refine ⟨by simp [Heap.put], fun i hi => Ren.add_other (by omega), ⟨by simp [Heap.put]; omega, fun i li e => ?_, fun i j li lj hij ei ej oi vj => ?_⟩, ?_, .put hn, fun i hi _ => by rw [get_put hn, if_neg (by omega)]⟩
  · by_cases hi : i = h.n
    · subst hi
      rw [Ren.add_same] at e
      cases e
      refine ⟨by simp [Heap.put], by omega, ?_⟩
      rw [get_put hn, if_pos rfl]; exact hb
    · rw [Ren.add_other hi] at e
      obtain ⟨h1, h2, h3⟩ := hr.dom i li e
      refine ⟨by simp [Heap.put]; omega, by omega, ?_⟩
      rw [get_put hn, if_neg hi]
      exact (h3.mono (hr.sub_add l)).congr (hold _ h2)
  · by_cases hi : i = h.n
    · have hj : j ≠ h.n := fun e => hij (hi.trans e.symm)
      subst hi
      rw [Ren.add_same] at ei; cases ei
      rw [Ren.add_other hj] at ej
      have := (hr.dom j lj ej).2.1
      omega
    · rw [Ren.add_other hi] at ei
      rw [get_put hn, if_neg hi] at oi
      have h1 := (hr.dom i li ei).2.1
      by_cases hj : j = h.n
      · subst hj; rw [Ren.add_same] at ej; cases ej; omega
      · rw [Ren.add_other hj] at ej
        rw [get_put hn, if_neg hj] at vj
        exact hr.inj i j li lj hij ei ej oi vj
  · refine ⟨by omega, fun c hc _ => hold c hc, fun i li e o => ?_, hw.os, hw.output, hw.tape⟩
    by_cases hi : i = h.n
    · subst hi; rw [Ren.add_same] at e; cases e; exact .inl (by omega)
    · rw [Ren.add_other hi] at e
      rw [get_put hn, if_neg hi] at o
      exact .inr ⟨i, li, e, o, rfl⟩

/-- The world differs at one block alone. -/
structure At1 (c : Nat) (w w' : World) : Prop where
  size : w'.heap.size = w.heap.size
  other : ∀ d, d ≠ c → w'.heap[d]? = w.heap[d]?
  os : w'.os = w.os
  output : w'.output = w.output
  tape : w'.tape = w.tape

theorem At1.refl (c : Nat) : At1 c w w := ⟨rfl, fun _ _ => rfl, rfl, rfl, rfl⟩

theorem Post.write (hr : HR ρ h w) {i : Nat} {l : Loc} {b : Blk} {m : Nat} (hi : ρ i = some l) (ho : owned (h.get i) = true) (ha : At1 l.blk w w')
    (hb : BR ρ b l w') (hlow : ∀ m', m ≤ m' → m' < big → LowB m' (h.get i) → LowB m' b) : Post ρ h w ρ (h.write i b m) w' := by
  have hin := (hr.dom i l hi).1
  refine ⟨Nat.le_refl _, fun _ _ => rfl, ⟨hr.n_le, fun j lj e => ?_, fun j k lj lk hjk ej ek oj vk => ?_⟩, ?_, .write hr.n_le hin ho hlow, fun j _ e => by rw [get_write hr.n_le hin, if_neg (fun e' => by subst e'; rw [hi] at e; cases e)]⟩
  · obtain ⟨h1, h2, h3⟩ := hr.dom j lj e
    refine ⟨h1, by rw [ha.size]; exact h2, ?_⟩
    rw [get_write hr.n_le hin]
    by_cases hj : j = i
    · subst hj; rw [hi] at e; cases e; rw [if_pos rfl]; exact hb
    · rw [if_neg hj]
      by_cases hd : live (h.get j) = true
      · exact h3.congr (ha.other _ (fun e' => hr.inj i j l lj (fun e => hj e.symm) hi e ho hd e'.symm))
      · have : h.get j = .dead := by cases hg : h.get j <;> simp_all [live]
        rw [this]; trivial
  · rw [get_write hr.n_le hin] at oj vk
    by_cases hj : j = i
    · subst hj
      rw [hi] at ej; cases ej
      rw [if_neg (fun e => hjk e.symm)] at vk
      exact hr.inj j k _ lk hjk hi ek ho vk
    · rw [if_neg hj] at oj
      by_cases hk : k = i
      · subst hk
        rw [hi] at ek; cases ek
        exact fun e => hr.inj k j _ lj (fun e => hjk e.symm) hi ej ho (live_of_owned oj) e.symm
      · rw [if_neg hk] at vk
        exact hr.inj j k lj lk hjk ej ek oj vk
  · refine ⟨by rw [ha.size]; exact Nat.le_refl _, fun c hc hno => ha.other c (fun e => hno i l hi ho e.symm), fun j lj e o => ?_, ha.os, ha.output, ha.tape⟩
    by_cases hj : j = i
    · subst hj; rw [hi] at e; cases e; exact .inr ⟨j, _, hi, ho, rfl⟩
    · rw [get_write hr.n_le hin, if_neg hj] at o
      exact .inr ⟨j, lj, e, o, rfl⟩

/-- A block is given up, and a new one takes its row over (in place, with what lies behind it) or lies in new memory. -/
theorem Post.take (hr : HR ρ h w) (hn : h.n < 32768) {i : Nat} {l l' : Loc} {b : Blk} {m : Nat} (hi : ρ i = some l) (ho : owned (h.get i) = true) (ha : At1 l.blk w w')
    (hl : l'.blk = l.blk) (hb : BR (ρ.add h.n l') b l' w') : Post ρ h w (ρ.add h.n l') ((h.write i .dead m).put b) w' := by
  have hin := (hr.dom i l hi).1
  have hn' : (h.write i .dead m).n < 32768 := hn
  have hget : ∀ j, ((h.write i .dead m).put b).get j = if j = h.n then b else if j = i then .dead else h.get j := fun j => by
    rw [get_put hn', get_write hr.n_le hin]; rfl
  refine ⟨by simp [Heap.put, Heap.write], fun j hj => Ren.add_other (by omega), ⟨by simp [Heap.put, Heap.write]; omega, fun j lj e => ?_, fun j k lj lk hjk ej ek oj vk => ?_⟩, ?_, Trk.trans (h₁ := h.write i .dead m) (Nat.le_refl _) (Trk.write hr.n_le hin ho fun _ _ _ _ => trivial) (Trk.put hn'),
    fun j hj e => by rw [hget, if_neg (by omega), if_neg (fun e' => by subst e'; rw [hi] at e; cases e)]⟩
  · rw [hget]
    by_cases hj : j = h.n
    · subst hj
      rw [Ren.add_same] at e; cases e
      have := (hr.dom i l hi).2.1
      refine ⟨by simp [Heap.put, Heap.write], by rw [ha.size, hl]; exact this, ?_⟩
      rw [if_pos rfl]; exact hb
    · rw [Ren.add_other hj] at e
      obtain ⟨h1, h2, h3⟩ := hr.dom j lj e
      refine ⟨by simp [Heap.put, Heap.write]; omega, by rw [ha.size]; exact h2, ?_⟩
      rw [if_neg hj]
      by_cases hji : j = i
      · rw [if_pos hji]; trivial
      · rw [if_neg hji]
        by_cases hd : live (h.get j) = true
        · exact (h3.mono (hr.sub_add l')).congr (ha.other _ (fun e' => hr.inj i j l lj (fun e => hji e.symm) hi e ho hd e'.symm))
        · have : h.get j = .dead := by cases hg : h.get j <;> simp_all [live]
          rw [this]; trivial
  · rw [hget] at oj vk
    by_cases hj : j = h.n
    · subst hj
      have hk : k ≠ h.n := fun e => hjk e.symm
      rw [Ren.add_same] at ej; cases ej
      rw [Ren.add_other hk] at ek
      rw [if_neg hk] at vk
      by_cases hki : k = i
      · rw [if_pos hki] at vk; cases vk
      · rw [if_neg hki] at vk
        rw [hl]
        exact hr.inj i k l lk (fun e => hki e.symm) hi ek ho vk
    · rw [if_neg hj] at oj
      rw [Ren.add_other hj] at ej
      by_cases hji : j = i
      · rw [if_pos hji] at oj; cases oj
      · rw [if_neg hji] at oj
        by_cases hk : k = h.n
        · subst hk
          rw [Ren.add_same] at ek; cases ek
          rw [hl]
          exact fun e => hr.inj i j l lj (fun e => hji e.symm) hi ej ho (live_of_owned oj) e.symm
        · rw [Ren.add_other hk] at ek
          rw [if_neg hk] at vk
          by_cases hki : k = i
          · rw [if_pos hki] at vk; cases vk
          · rw [if_neg hki] at vk
            exact hr.inj j k lj lk hjk ej ek oj vk
  · refine ⟨by rw [ha.size]; exact Nat.le_refl _, fun c hc hno => ha.other c (fun e => hno i l hi ho e.symm), fun j lj e o => ?_, ha.os, ha.output, ha.tape⟩
    rw [hget] at o
    by_cases hj : j = h.n
    · subst hj; rw [Ren.add_same] at e; cases e; exact .inr ⟨i, l, hi, ho, hl.symm⟩
    · rw [if_neg hj] at o
      rw [Ren.add_other hj] at e
      by_cases hji : j = i
      · rw [if_pos hji] at o; cases o
      · rw [if_neg hji] at o; exact .inr ⟨j, lj, e, o, rfl⟩
end
end Go.AM
