/- A part of the abstract machine: definitions and lemmas for all programs, no claim of its own; no condition. -/
import Derived.Test.YtpmlgmhmejhfeaaGreatAmPost
set_option linter.unusedVariables false
set_option linter.unusedSimpArgs false
namespace Go.AM
open Go

/-! ### Calls whose answer is known, by what their arguments lead to -/

/-- A row that may be read alone: its element's type, the cells that an element takes, its cells; and where the way to it begins: at which argument (0, k) or row (i + 1, k), and on through which places. -/
structure DRow where
  elem : TypeId
  es : Nat
  vs : List Value
  src : Nat
  path : List Nat

structure Memo where
  f : FuncId
  args : List Value
  rows : List DRow
  v : Value

def putAll : Heap → List DRow → Heap
  | h, [] => h
  | h, r :: rs => putAll (h.put (.cells r.vs r.elem (.ro r.es))) rs
def heapOf (q : Memo) : Heap := putAll none0 q.rows

def nth {α : Type} : List α → Nat → Option α
  | [], _ => none
  | x :: xs, i => match i with
    | 0 => some x
    | i + 1 => nth xs i
theorem nth_eq {α : Type} : ∀ (l : List α) (i : Nat), nth l i = l[i]?
  | [], i => by simp [nth]
  | x :: xs, 0 => rfl
  | x :: xs, i + 1 => by simp only [nth]; rw [nth_eq xs i]; simp

/-- A block's number in the abstract heap, and whether the room behind its slices is known by the block. -/
abbrev Map1 := List (Nat × Bool)

def sameInt (a b : Int) : Bool :=
  match a, b with
  | .ofNat m, .ofNat n => Nat.beq m n
  | .negSucc m, .negSucc n => Nat.beq m n
  | _, _ => false
def matchL (f : Value → Value → Bool) : List Value → List Value → Bool
  | [], [] => true
  | x :: xs, y :: ys => match f x y with | true => matchL f xs ys | false => false
  | _, _ => false
def matchP (m : Map1) (b b' : Nat) : Bool :=
  match nth m b with
  | some (j, _) => Nat.beq j b'
  | none => false
def matchU (m : Map1) (b c : Nat) : Bool :=
  match Nat.ble unk c with
  | false => true
  | true => match nth m b with
    | some (_, fl) => fl
    | none => false
def matchV (m : Map1) : Nat → Value → Value → Bool
  | 0, _, _ => false
  | f + 1, x, y =>
    match x, y with
    | .bool a, .bool b => a == b
    | .int k a, .int l b => k == l && sameInt a b
    | .string a, .string b => a.data.toList == b.data.toList
    | .pointer none, .pointer none => true
    | .pointer (some ⟨b, o, none⟩), .pointer (some ⟨b', o', none⟩) => Nat.beq o o' && matchP m b b'
    | .slice none 0 0, .slice none 0 0 => true
    | .slice (some ⟨b, o, none⟩) n c, .slice (some ⟨b', o', none⟩) n' c' => (Nat.beq o o' && Nat.beq n n') && (Nat.beq c c' && (matchP m b b' && matchU m b c))
    | .map none, .map none => true
    | .nilFunc, .nilFunc => true
    | .nilIface, .nilIface => true
    | .func (.func g) as bs, .func (.func g') cs ds => Nat.beq g g' && (matchL (matchV m f) as.toList cs.toList && matchL (matchV m f) bs.toList ds.toList)
    | .iface t a, .iface u b => Nat.beq t u && matchV m f a b
    | .agg as, .agg bs => matchL (matchV m f) as.toList bs.toList
    | .tuple as, .tuple bs => matchL (matchV m f) as.toList bs.toList
    | _, _ => false

def rowOk (m : Map1) (h : Heap) (r : DRow) (p : Nat × Bool) : Bool :=
  match h.get p.1 with
  | .cells vs e md => Nat.beq r.elem e && ((match p.2, md.es with | true, some es => Nat.beq r.es es | true, none => false | false, _ => true) && matchL (matchV m 20) r.vs vs)
  | _ => false
def rowsOk (m : Map1) (h : Heap) : List DRow → Map1 → Bool
  | [], [] => true
  | r :: rs, p :: ps => match rowOk m h r p with | true => rowsOk m h rs ps | false => false
  | _, _ => false

def blockOf : Value → Option Nat
  | .pointer (some a) => some a.block
  | .slice (some a) _ _ => some a.block
  | _ => none
def go1 : List Nat → Value → Option Value
  | [], v => some v
  | i :: is, v =>
    match v with
    | .agg vs => match nth vs.toList i with | some u => go1 is u | none => none
    | .tuple vs => match nth vs.toList i with | some u => go1 is u | none => none
    | .iface _ u => go1 is u
    | .func _ _ cs => match nth cs.toList i with | some u => go1 is u | none => none
    | _ => none
def startOf (h : Heap) (args : List Value) (m : Map1) (s : Nat) (i : Nat) : Option Value :=
  match s with
  | 0 => nth args i
  | s + 1 => match nth m s with
    | some (b, _) => match h.get b with
      | .cells vs _ _ => nth vs i
      | _ => none
    | none => none
def flagOf : Blk → Bool
  | .cells _ _ md => match md.es with | some _ => true | none => false
  | _ => false
def find1 (h : Heap) (args : List Value) (m : Map1) (r : DRow) : Option (Nat × Bool) :=
  match r.path with
  | [] => none
  | i :: is => match startOf h args m r.src i with
    | some v => match go1 is v with
      | some u => match blockOf u with
        | some b => some (b, flagOf (h.get b))
        | none => none
      | none => none
    | none => none
def findAll (h : Heap) (args : List Value) : List DRow → Map1 → Option Map1
  | [], m => some m
  | r :: rs, m => match find1 h args m r with
    | some p => findAll h args rs (m ++ [p])
    | none => none
def fits (h : Heap) (args : List Value) (q : Memo) : Bool :=
  match findAll h args q.rows [] with
  | none => false
  | some m => match matchL (matchV m 20) q.args args with
    | true => rowsOk m h q.rows m
    | false => false

def MemoOk (P : Program) (q : Memo) : Prop := plainV 20 q.v = true ∧ ∀ ρ w (cargs : Array Value), HR ρ (heapOf q) w → VL ρ q.args cargs.toList → Calls P q.f cargs w fun e w' => e = .returned q.v ∧ Kept w w'

/-! ### Its soundness -/
section
variable {ρ : Ren} {h : Heap} {w : World}

def renOf (rows : List DRow) (m : Map1) (ρ : Ren) : Ren := fun i =>
  match m[i]?, rows[i]? with
  | some (j, _), some r => (ρ j).map fun l => ⟨l.blk, l.base, l.size, r.es⟩
  | _, _ => none

/-- Where the flag stands, the location's element is the row's. -/
def FlagOk (rows : List DRow) (m : Map1) (ρ : Ren) : Prop := ∀ (i j : Nat) (r : DRow) (l : Loc), m[i]? = some (j, true) → rows[i]? = some r → ρ j = some l → l.es = r.es

theorem sameInt_eq {a b : Int} (h : sameInt a b = true) : a = b := by
  unfold sameInt at h
  split at h
  · rw [Nat.eq_of_beq_eq_true h]
  · rw [Nat.eq_of_beq_eq_true h]
  · cases h

theorem matchP_ok {rows : List DRow} {m : Map1} (hl : m.length = rows.length) {b b' : Nat} (h : matchP m b b' = true) {l : Loc} (hb : ρ b' = some l) :
    ∃ r fl, m[b]? = some (b', fl) ∧ rows[b]? = some r ∧ renOf rows m ρ b = some ⟨l.blk, l.base, l.size, r.es⟩ := by
  unfold matchP at h
  split at h
  · rename_i j fl hm
    rw [nth_eq] at hm
    obtain rfl := Nat.eq_of_beq_eq_true h
    have hlt : b < rows.length := by rw [← hl]; exact (List.getElem?_eq_some_iff.1 hm).1
    refine ⟨rows[b], fl, hm, List.getElem?_eq_getElem hlt, ?_⟩
    simp [renOf, hm, List.getElem?_eq_getElem hlt, hb]
  · cases h

theorem matchL_ok {f : Value → Value → Bool} {ρ' : Ren} : ∀ {xs ys cs : List Value}, (∀ x ∈ xs, ∀ y c, f x y = true → VR ρ y c → VR ρ' x c) → matchL f xs ys = true → VL ρ ys cs → VL ρ' xs cs
  | [], [], cs, _, _, hv => by obtain rfl := hv.cases_nil; exact .nil
  | [], _ :: _, _, _, h, _ => by simp [matchL] at h
  | _ :: _, [], _, _, h, _ => by simp [matchL] at h
  | x :: xs, y :: ys, cs, hf, h, hv => by
    simp only [matchL] at h
    split at h
    · rename_i hx
      obtain ⟨c, cs', rfl, h1, h2⟩ := hv.cases_cons
      exact .cons (hf x (List.mem_cons_self ..) y c hx h1) (matchL_ok (fun x hm => hf x (List.mem_cons_of_mem _ hm)) h h2)
    · cases h
theorem vl_of {ρ : Ren} {as bs : Array Value} (h₁ : as.size = bs.size) (h₂ : ∀ i, i < as.size → VR ρ (gl as.toList i) (gl bs.toList i)) : VL ρ as.toList bs.toList :=
  ⟨by simpa using h₁, fun i hi => h₂ i (by simpa using hi)⟩

theorem matchV_ok {rows : List DRow} {m : Map1} (hl : m.length = rows.length) (hfl : FlagOk rows m ρ) : ∀ (f : Nat) (x y c : Value), matchV m f x y = true → VR ρ y c → VR (renOf rows m ρ) x c
  | 0, _, _, _, h, _ => by simp [matchV] at h
  | f + 1, x, y, c, h, hv => by
    have ih := matchV_ok hl hfl f
    unfold matchV at h
    split at h
    · rw [eq_of_beq h]; cases hv; exact .bool _
    · rw [Bool.and_eq_true] at h; rw [eq_of_beq h.1, sameInt_eq h.2]; cases hv; exact .int _ _
    · rename_i a b
      have e := eq_of_beq h
      obtain ⟨a⟩ := a
      obtain ⟨b⟩ := b
      have e' : a = b := Array.ext' e
      rw [e']; cases hv; exact .string _
    · cases hv; exact .nilPtr
    · rename_i b o b' o'
      rw [Bool.and_eq_true] at h
      obtain rfl := Nat.eq_of_beq_eq_true h.1
      cases hv
      rename_i l hb
      obtain ⟨r, fl, _, _, h3⟩ := matchP_ok hl h.2 hb
      exact VR.ptr (l := ⟨l.blk, l.base, l.size, r.es⟩) h3
    · cases hv; exact .nilSlice
    · rename_i b o n cc b' o' n' cc'
      simp only [Bool.and_eq_true] at h
      obtain ⟨⟨h1, h2⟩, h3, h4, h5⟩ := h
      obtain rfl := Nat.eq_of_beq_eq_true h1
      obtain rfl := Nat.eq_of_beq_eq_true h2
      obtain rfl := Nat.eq_of_beq_eq_true h3
      cases hv with
      | @slice _ _ _ _ l hb hc =>
        obtain ⟨r, fl, _, _, g3⟩ := matchP_ok hl h4 hb
        exact VR.slice (l := ⟨l.blk, l.base, l.size, r.es⟩) g3 hc
      | @sliceU _ _ _ _ _ _ l hb hc hn ho =>
        obtain ⟨r, fl, g1, g2, g3⟩ := matchP_ok hl h4 hb
        have hfl' : fl = true := by
          have hu : Nat.ble unk cc = true := Nat.ble_eq_true_of_le hc
          simp only [matchU, hu, nth_eq, g1] at h5
          exact h5
        subst hfl'
        have he := hfl _ _ _ _ g1 g2 hb
        exact VR.sliceU (l := ⟨l.blk, l.base, l.size, r.es⟩) g3 hc hn (by rw [he] at ho; exact ho)
    · cases hv; exact .nilMap
    · cases hv; exact .nilFunc
    · cases hv; exact .nilIface
    · simp only [Bool.and_eq_true] at h
      obtain ⟨h1, h2, h3⟩ := h
      obtain rfl := Nat.eq_of_beq_eq_true h1
      cases hv
      rename_i g1 g2 g3 g4
      exact .func' _ (matchL_ok (fun x _ y c => ih x y c) h2 (vl_of g1 g2)) (matchL_ok (fun x _ y c => ih x y c) h3 (vl_of g3 g4))
    · rw [Bool.and_eq_true] at h
      obtain rfl := Nat.eq_of_beq_eq_true h.1
      cases hv
      rename_i hx
      exact .iface _ (ih _ _ _ h.2 hx)
    · cases hv
      rename_i g1 g2
      exact .agg' (matchL_ok (fun x _ y c => ih x y c) h (vl_of g1 g2))
    · cases hv
      rename_i g1 g2
      exact .tuple' (matchL_ok (fun x _ y c => ih x y c) h (vl_of g1 g2))
    · cases h

theorem rowsOk_ok {m : Map1} : ∀ {rows : List DRow} {ps : Map1}, rowsOk m h rows ps = true → ps.length = rows.length ∧ ∀ (i : Nat) (r : DRow) (p : Nat × Bool), rows[i]? = some r → ps[i]? = some p → rowOk m h r p = true
  | [], [], _ => ⟨rfl, fun i r p e => by simp at e⟩
  | [], _ :: _, hh => by simp [rowsOk] at hh
  | _ :: _, [], hh => by simp [rowsOk] at hh
  | r :: rs, p :: ps, hh => by
    simp only [rowsOk] at hh
    split at hh
    · rename_i h1
      obtain ⟨h2, h3⟩ := rowsOk_ok hh
      refine ⟨by simp [h2], fun i r' p' e e' => ?_⟩
      cases i with
      | zero => simp only [List.getElem?_cons_zero, Option.some.injEq] at e e'; subst e; subst e'; exact h1
      | succ i => exact h3 i r' p' (by simpa using e) (by simpa using e')
    · cases hh

theorem putAll_n : ∀ (rows : List DRow) (h : Heap), (putAll h rows).n = h.n + rows.length
  | [], h => rfl
  | r :: rs, h => by simp only [putAll, putAll_n rs, Heap.put, List.length_cons]; omega
theorem putAll_get : ∀ (rows : List DRow) (h : Heap), h.n + rows.length ≤ 32768 → ∀ i, (putAll h rows).get i = match rows[i - h.n]? with
    | some r => if h.n ≤ i then .cells r.vs r.elem (.ro r.es) else h.get i
    | none => h.get i
  | [], h, _, i => by simp [putAll]
  | r :: rs, h, hn, i => by
    simp only [List.length_cons] at hn
    have hput : (h.put (.cells r.vs r.elem (.ro r.es))).n = h.n + 1 := rfl
    simp only [putAll]
    rw [putAll_get rs _ (by rw [hput]; omega), hput, get_put (by omega)]
    by_cases h1 : i < h.n
    · rw [show i - h.n = 0 by omega]
      simp only [List.getElem?_cons_zero]
      rw [if_neg (by omega), if_neg (by omega)]
      split
      · rw [if_neg (by omega)]
      · rfl
    · by_cases h2 : i = h.n
      · subst h2
        simp only [Nat.sub_self, List.getElem?_cons_zero, Nat.le_refl, if_true]
        split
        · rw [if_neg (by omega)]
        · rfl
      · rw [show i - h.n = (i - (h.n + 1)) + 1 by omega, List.getElem?_cons_succ]
        rw [if_neg h2]
        split
        · rename_i r' e
          rw [if_pos (by omega), if_pos (by omega)]
        · rfl

theorem fits_ok (hr : HR ρ h w) {q : Memo} {args cargs : List Value} (hq : q.rows.length ≤ 32768) (ha : VL ρ args cargs) (hh : fits h args q = true) : ∃ ρ', HR ρ' (heapOf q) w ∧ VL ρ' q.args cargs := by
  unfold fits at hh
  split at hh
  · cases hh
  · rename_i m hm
    split at hh
    case h_2 => cases hh
    rename_i hargs
    obtain ⟨hl, hrow⟩ := rowsOk_ok hh
    have hflag : FlagOk q.rows m ρ := by
      intro i j r l hi hri hj
      have := hrow i r _ hri hi
      unfold rowOk at this
      split at this
      · rename_i vs e md hg
        simp only [Bool.and_eq_true] at this
        have h2 := this.2.1
        have hb := (hr.dom j l hj).2.2
        rw [hg] at hb
        obtain ⟨cs, fr, _, _, ⟨_, h3⟩, _⟩ := hb
        cases hes : md.es with
        | none => rw [hes] at h2; cases h2
        | some es =>
          rw [hes] at h2
          rw [h3 es hes, Nat.eq_of_beq_eq_true h2]
      · cases this
    have hget : ∀ i, (heapOf q).get i = match q.rows[i]? with
        | some r => .cells r.vs r.elem (.ro r.es)
        | none => .dead := by
      intro i
      unfold heapOf
      rw [putAll_get q.rows none0 (by simpa [none0] using hq)]
      simp only [none0, Nat.sub_zero, Nat.zero_le, if_true]
      split
      · rfl
      · exact get_of_ge (h := ⟨0, HT.none, 0, big, 0⟩) (Nat.zero_le _)
    have hn : (heapOf q).n = q.rows.length := by simp [heapOf, putAll_n, none0]
    refine ⟨renOf q.rows m ρ, ⟨by rw [hn]; exact hq, fun i l e => ?_, fun i j li lj _ _ _ oi _ => ?_⟩, matchL_ok (fun x _ y c => matchV_ok hl hflag 20 x y c) hargs ha⟩
    · unfold renOf at e
      split at e
      · rename_i j fl r hi hri
        cases hj : ρ j with
        | none => rw [hj] at e; cases e
        | some l₀ =>
          rw [hj] at e
          simp only [Option.map_some, Option.some.injEq] at e
          subst e
          obtain ⟨_, h2, h3⟩ := hr.dom j l₀ hj
          refine ⟨by rw [hn]; exact (List.getElem?_eq_some_iff.1 hri).1, h2, ?_⟩
          rw [hget, hri]
          have := hrow i r _ hri hi
          unfold rowOk at this
          split at this
          · rename_i vs e md hg
            simp only [Bool.and_eq_true] at this
            simp only [] at hg
            rw [hg] at h3
            obtain ⟨cs, fr, g1, g2, g3, g4, g5⟩ := h3
            have hlen : r.vs.length = vs.length := by
              have hvl := matchL_ok (ρ := ρ) (ρ' := renOf q.rows m ρ) (fun x _ y c => matchV_ok hl hflag 20 x y c) this.2.2 g4
              have := hvl.1
              rw [this, ← g4.1]
            refine ⟨cs, fr, by rw [Nat.eq_of_beq_eq_true this.1]; exact g1, fun hne => absurd rfl (hne r.es), ⟨fun es he => (by cases he), fun es he => (by cases he; rfl)⟩, ?_, by rw [hlen]; exact g5⟩
            rw [hlen]
            exact matchL_ok (fun x _ y c => matchV_ok hl hflag 20 x y c) this.2.2 g4
          · cases this
      · cases e
    · rw [hget] at oi
      split at oi
      · cases oi
      · cases oi
end

def pick1 (h : Heap) (args : List Value) : List Memo → Option Value
  | [] => none
  | q :: qs => match fits h args q with
    | true => some q.v
    | false => pick1 h args qs
def group : List (FuncId × List Memo) → FuncId → List Memo
  | [], _ => []
  | (g, qs) :: l, f => match Nat.beq g f with | true => qs | false => group l f

noncomputable def callM (P : Program) (facts : List (FuncId × List Memo)) (r : Rec) (L : Nat) (f : FuncId) (args : Array Value) (h : Heap) : R (Value × Heap) :=
  match pick1 h args.toList (group facts f) with
  | none => callF P r L f args h
  | some v => .ok (v, h)
noncomputable def recM (P : Program) (L : Nat) (facts : List (FuncId × List Memo)) (n : Nat) : Rec :=
  @Nat.rec (fun _ => Rec) { call := fun _ _ _ => .error "fuel", round := fun _ _ _ => .error "fuel", again := fun _ _ _ _ _ _ => .error "fuel" }
    (fun _ r => { call := callM P facts r L, round := roundF P r L, again := fun N => againF P r L N }) n

/-- All facts hold, and stand under their functions. -/
def FactsOk (P : Program) (facts : List (FuncId × List Memo)) : Prop := ∀ g ∈ facts, ∀ q ∈ g.2, q.f = g.1 ∧ q.rows.length ≤ 32768 ∧ MemoOk P q

theorem pick1_ok {h : Heap} {args : List Value} {v : Value} : ∀ {qs : List Memo}, pick1 h args qs = some v → ∃ q ∈ qs, fits h args q = true ∧ v = q.v
  | [], hh => by simp [pick1] at hh
  | q :: qs, hh => by
    simp only [pick1] at hh
    split at hh
    · rename_i h1; cases hh; exact ⟨q, List.mem_cons_self .., h1, rfl⟩
    · obtain ⟨q', h1, h2⟩ := pick1_ok hh; exact ⟨q', List.mem_cons_of_mem _ h1, h2⟩
theorem group_ok {P : Program} {f : FuncId} : ∀ {facts : List (FuncId × List Memo)}, FactsOk P facts → ∀ q ∈ group facts f, q.f = f ∧ q.rows.length ≤ 32768 ∧ MemoOk P q
  | [], _, q, hq => by simp [group] at hq
  | (g, qs) :: l, hf, q, hq => by
    simp only [group] at hq
    split at hq
    · rename_i hb
      obtain rfl := Nat.eq_of_beq_eq_true hb
      exact hf _ (List.mem_cons_self ..) q hq
    · exact group_ok (fun g hg => hf g (List.mem_cons_of_mem _ hg)) q hq

theorem recM_sound {P : Program} {L : Nat} {facts : List (FuncId × List Memo)} (hf : FactsOk P facts) : ∀ n, RecSound P (recM P L facts n)
  | 0 => ⟨fun hh => by simp [recM] at hh, fun hh => by simp [recM] at hh, fun hh => by simp [recM] at hh⟩
  | n + 1 => by
    have ih := recM_sound (L := L) hf n
    refine ⟨fun {f args h v h'} hh ρ w cargs hr ha k => ?_, fun hh _ _ _ _ hr hl ha k => roundK_sound (L := L) ih (by rw [← roundF_eq]; exact hh) hr hl ha k,
      fun hh _ _ _ _ _ _ _ hF hn ht hr hd hk => againK_sound (L := L) ih (by rw [← againF_eq]; exact hh) hF hn ht hr hd hk⟩
    have hh' : callM P facts (recM P L facts n) L f args h = .ok (v, h') := hh
    unfold callM at hh'
    split at hh'
    · rw [callF_eq] at hh'; exact callK_sound ih hh' hr ha k
    · rename_i u hu
      simp only [Except.ok.injEq, Prod.mk.injEq] at hh'
      obtain ⟨rfl, rfl⟩ := hh'
      obtain ⟨q, hq, hfit, rfl⟩ := pick1_ok hu
      obtain ⟨rfl, hlen, hp, hc⟩ := group_ok hf q hq
      obtain ⟨ρ', h1, h2⟩ := fits_ok hr hlen ha hfit
      refine (callsIn_wide.2 (hc ρ' w cargs h1 h2)).mono fun e w' ⟨he, hk⟩ => ?_
      exact ⟨q.v, ρ, he, plain_refl 20 q.v hp, .kept hr hk⟩

/-- One run proves a fact. -/
def runOk (r : Rec) (q : Memo) : Bool :=
  match r.call q.f q.args.toArray (heapOf q) with
  | .ok (v, _) => sameV 20 q.v v
  | _ => false
theorem memo_of_run {P : Program} {L n : Nat} {facts : List (FuncId × List Memo)} (hf : FactsOk P facts) {q : Memo} (hp : (plainV 20 q.v && Nat.ble q.rows.length 32768) = true) (h : runOk (recM P L facts n) q = true) : MemoOk P q := by
  rw [Bool.and_eq_true] at hp
  refine ⟨hp.1, fun ρ w cargs hr ha => ?_⟩
  unfold runOk at h
  split at h
  · rename_i v h' hh
    obtain rfl := sameV_eq 20 _ _ h
    have := (recM_sound (L := L) hf n).call hh hr (cargs := cargs) (by simpa using ha) 0
    refine (callsIn_wide.1 this).mono fun e w' ⟨c, ρ', he, hv, hpo⟩ => ?_
    obtain rfl := plain_eq 20 _ hp.1 _ hv
    refine ⟨he, hpo.fr.size, fun c hc => hpo.fr.same c hc fun i l e o => ?_, hpo.fr.os, hpo.fr.output, hpo.fr.tape⟩
    unfold heapOf at o
    rw [putAll_get q.rows none0 (by simpa [none0] using Nat.le_of_ble_eq_true hp.2)] at o
    simp only [none0, Nat.sub_zero, Nat.zero_le, if_true] at o
    split at o
    · cases o
    · rw [get_of_ge (h := ⟨0, HT.none, 0, big, 0⟩) (Nat.zero_le _)] at o; cases o
  · cases h
end Go.AM
