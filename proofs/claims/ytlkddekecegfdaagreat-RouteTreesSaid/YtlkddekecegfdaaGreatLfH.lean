/- Of the abstract machine, for all programs: definitions and lemmas, no claim of its own; no condition. -/
import Derived.Test.YtlkddekecegfdaaGreatLfE
set_option linter.unusedVariables false
set_option linter.unusedSimpArgs false
namespace Go.AM
open Go
section
variable {P : Program} {φ φ' : Fz} {lo : Nat} {h : Heap} {own : OwnL} {v : Value}
theorem and_tt {a b : Bool} (h : a = true) (h' : b = true) : (a && b) = true := by rw [h, h']; rfl
theorem rdE1 {vs cs : List Value} {off off' k : Nat} {c : Value} (hc : (vs.drop off).take cs.length = cs) (ho : off' = off + k) (hk : cs[k]? = some c) : readW vs off' none = .ok c := by
  subst ho
  have := take_get hc hk
  simp only [readW, cell, this]
def placesOf (P : Program) (t : TypeId) : R (List (Nat × Nat)) := bindR (under P t) fun d => match d with | .struct fs => places P fs.toList | _ => .error "build"
def arrOf (P : Program) (t : TypeId) : R Nat := bindR (under P t) fun d => match d with | .array _ e => tsize P e | _ => .error "build"
theorem build_st {t : TypeId} {z : Value} {pl : List (Nat × Nat)} {parts : List (Nat × Value)} (hz : tzero P t = .ok z) (hp : placesOf P t = .ok pl) : buildV P t parts = bindR (ofOpt (Instr.fill (pl[·]?) z.cells parts)) fun cs => .ok (.agg cs) := by
  unfold placesOf at hp
  obtain ⟨d, h1, h2⟩ := bindR_ok.1 hp
  split at h2
  · simp only [buildV, hz, bindR, h1, h2]
  · cases h2
theorem build_ar {t : TypeId} {z : Value} {n : Nat} {parts : List (Nat × Value)} (hz : tzero P t = .ok z) (hp : arrOf P t = .ok n) : buildV P t parts = bindR (ofOpt (Instr.fill (fun i => some (i * n, n)) z.cells parts)) fun cs => .ok (.agg cs) := by
  unfold arrOf at hp
  obtain ⟨d, h1, h2⟩ := bindR_ok.1 hp
  split at h2
  · simp only [buildV, hz, bindR, h1, h2]
  · cases h2
theorem setAt_nilx {l : List Value} {i : Nat} : setAt l i [] = l := by cases l <;> rfl
theorem setAt_step : ∀ {l : List Value} {i : Nat} {x : Value} {xs : List Value}, setAt l i (x :: xs) = setAt (l.set i x) (i + 1) xs
  | [], i, x, xs => by cases xs <;> simp [setAt]
  | v :: l, 0, x, xs => by
    cases xs with
    | nil => simp [setAt]
    | cons y ys => simp [setAt]
  | v :: l, i + 1, x, xs => by
    simp only [setAt, List.set_cons_succ]
    rw [setAt_step (l := l)]
    cases xs with
    | nil => simp [setAt_nilx]
    | cons y ys => simp [setAt]
theorem fold_set {off : Nat} : ∀ {xs : List Value} {k : Nat} {cells : Array Value}, ((xs.zipIdx k).foldl (fun (cs : Array Value) (p : Value × Nat) => cs.setIfInBounds (off + p.2) p.1) cells).toList = setAt cells.toList (off + k) xs
  | [], k, cells => by simp [setAt_nilx]
  | x :: xs, k, cells => by
    rw [List.zipIdx_cons, List.foldl_cons, fold_set, setAt_step]
    simp [Nat.add_assoc]
def fillL (place : Nat → Option (Nat × Nat)) (cs : List Value) : List (Nat × Value) → Option (List Value)
  | [] => some cs
  | (i, v) :: rest =>
    match place i with
    | none => none
    | some (off, size) =>
      match Nat.beq v.cells.toList.length size && Nat.ble (off + size) cs.length with
      | true => fillL place (setAt cs off v.cells.toList) rest
      | false => none
theorem fill_of : ∀ {place : Nat → Option (Nat × Nat)} {parts : List (Nat × Value)} {cells : Array Value} {cs : List Value}, fillL place cells.toList parts = some cs → Instr.fill place cells parts = some cs.toArray
  | place, [], cells, cs, h => by
    simp only [fillL, Option.some.injEq] at h
    subst h
    simp [Instr.fill]
  | place, (i, v) :: rest, cells, cs, h => by
    unfold fillL at h
    unfold Instr.fill
    cases hp : place i with
    | none => rw [hp] at h; cases h
    | some p =>
      obtain ⟨off, size⟩ := p
      rw [hp] at h
      simp only at h ⊢
      split at h
      · rename_i hb
        simp only [Bool.and_eq_true] at hb
        have h1 := Nat.eq_of_beq_eq_true hb.1
        have h2 := Nat.le_of_ble_eq_true hb.2
        have h1 : v.cells.size = size := by simpa using h1
        have h2 : off + size ≤ cells.size := by simpa only [Array.length_toList] using h2
        have hc : ¬ ((decide (v.cells.size ≠ size) || decide (off + v.cells.size > cells.size)) = true) := by
          rw [h1]
          simp
          have e : cells.toList.length = cells.size := Array.length_toList ..
          omega
        rw [if_neg hc]
        refine fill_of ?_
        rw [← h]
        congr 1
        rw [← Array.foldl_toList]
        have := fold_set (off := off) (xs := v.cells.toList) (k := 0) (cells := cells)
        rw [Nat.add_zero] at this
        rw [← this]
        congr 1
        simp
      · cases h
theorem build_st' {t : TypeId} {z : Value} {pl : List (Nat × Nat)} {parts : List (Nat × Value)} {cs : List Value} (hz : tzero P t = .ok z) (hp : placesOf P t = .ok pl) (hf : fillL (pl[·]?) z.cells.toList parts = some cs) : buildV P t parts = .ok (.agg cs.toArray) := by
  rw [build_st hz hp, fill_of hf]; rfl
theorem build_ar' {t : TypeId} {z : Value} {n : Nat} {parts : List (Nat × Value)} {cs : List Value} (hz : tzero P t = .ok z) (hp : arrOf P t = .ok n) (hf : fillL (fun i => some (i * n, n)) z.cells.toList parts = some cs) : buildV P t parts = .ok (.agg cs.toArray) := by
  rw [build_ar hz hp, fill_of hf]; rfl
theorem OSl.iaC {α : Type} {E : Enc α} {te te' : TypeId} {b : Nat} {vs : List Value} {m : Mode} {l : List α} (hO : OSl E φ te (some b) (.cells vs te' m) v l) {ix : Int} {a : α} (hi : idx l ix = .ok a) {kd : IntKind} {n : Nat} (hn : n = E.es) :
    ∃ off cs, AM.iaC n v (.int kd ix) = .ok (.pointer (some ⟨b, off, none⟩)) ∧ (vs.drop off).take cs.length = cs ∧ E.R φ cs a ∧ off + cs.length ≤ vs.length ∧ wrM m = true ∧
      ∀ (xs : List Value) (a' : α), E.R φ xs a' → OSl E φ te (some b) (.cells (setAt vs off xs) te m) v (l.set ix.toNat a') := by
  obtain ⟨b', vs', m', off, cs, h1, h2, h3⟩ := hO.ia hi (kd := kd) hn
  cases h1; cases h2
  exact ⟨off, cs, h3⟩
end
end Go.AM
namespace Go.AM
open Go
section
variable {P : Program} {r : Rec} {φ φ' : Fz} {lo lo0 : Nat} {h : Heap} {own : OwnL} {v : Value} {α : Type} {E : Enc α}

/-! ### Rows: made, read, grown -/
def okLen (n : Nat) : Bool := Nat.ble n 1000000000
theorem zeros_list {cs : Array Value} (hs : 0 < cs.size) : ∀ n, (zeros cs (n * cs.size)).toList = (List.replicate n cs.toList).flatten := by
  intro n
  apply List.ext_getElem
  · simp [zeros, List.length_flatten]
  · intro i h1 h2
    simp only [zeros, Array.toList_map, List.getElem_map, Array.toList_range, List.getElem_range]
    have hi : i < n * cs.size := by simpa [zeros] using h1
    have hm : i % cs.size < cs.size := Nat.mod_lt _ hs
    rw [getElem!_pos cs (i % cs.size) hm]
    have key : ∀ (n i : Nat) (hi : i < (List.replicate n cs.toList).flatten.length), (List.replicate n cs.toList).flatten[i] = cs[i % cs.size]'(Nat.mod_lt _ hs) := by
      intro n
      induction n with
      | zero => intro i hi; simp at hi
      | succ n ih =>
        intro i hi
        simp only [List.replicate_succ, List.flatten_cons]
        by_cases hlt : i < cs.toList.length
        · rw [List.getElem_append_left hlt]
          have : i % cs.size = i := Nat.mod_eq_of_lt (by simpa using hlt)
          simp [this]
        · rw [List.getElem_append_right (by omega)]
          have hl : cs.toList.length = cs.size := by simp
          rw [ih]
          have e : i % cs.size = (i - cs.size) % cs.size := Nat.mod_eq_sub_mod (by omega)
          simp only [e, hl]
    rw [key n i h2]
theorem RowD.rep_take {cs : List Value} {a : α} (h : E.R φ cs a) (n m : Nat) (hm : m ≤ n) : RowD E φ ((List.replicate n cs).flatten.take (m * E.es)) (List.replicate m a) := by
  have h1 := (RowD.replicate h n).take m
  rw [List.take_replicate, Nat.min_eq_left hm] at h1
  exact h1
theorem OSl.mk {te : TypeId} {t : TypeId} {z : Value} {cs : List Value} {a0 : α} {bytes n : Nat} {k k' : IntKind} {l c : Int} (hu : under P t = .ok (.slice te)) (hb : tbytes P te = .ok bytes) (hbb : Nat.ble bytes 65536 = true) (hn : tsize P te = .ok n) (hes : n = E.es) (h0 : Nat.blt 0 n = true)
    (hz : tzero P te = .ok z) (hzc : z.cells.toList = cs) (hcell : cs.all isCell = true) (hR : E.R φ cs a0) (hl : 0 ≤ l) (hlc : l ≤ c) (hc : c ≤ 1000000000) (X : St φ lo h own) :
    ∃ h' b vs, makeSliceV P h t (.int k l) (.int k' c) = .ok (.slice (some ⟨b, 0, none⟩) l.toNat c.toNat, h') ∧ St φ lo h' ((some b, .cells vs te .exact) :: own) ∧
      OSl E φ te (some b) (.cells vs te .exact) (.slice (some ⟨b, 0, none⟩) l.toNat c.toNat) (List.replicate l.toNat a0) := by
  subst hes
  have hbb := ble_iff.1 hbb
  have hcs : z.cells.size = E.es := by rw [← E.len hR, ← hzc]; simp
  have h0 := blt_true.1 h0
  have hlen : l.toNat ≤ c.toNat := by omega
  have hm : (decide (0 ≤ l) && decide (l ≤ c) && decide ((bytes : Int) * c ≤ 140737488355328) && decide (c ≤ 140737488355328)) = true := by
    have : (bytes : Int) * c ≤ 65536 * 1000000000 := Int.mul_le_mul (by omega) hc (by omega) (by omega)
    simp; omega
  obtain ⟨zz, h1, h2⟩ : ∃ zz, zeroFor P te (c.toNat * E.es) = .ok zz ∧ (zeros zz (c.toNat * E.es)).toList = (List.replicate c.toNat cs).flatten ∧ zz.toList.all isCell = true := by
    unfold zeroFor
    by_cases hc0 : c.toNat = 0
    · refine ⟨#[], by rw [hc0, Nat.zero_mul], by rw [hc0, Nat.zero_mul]; simp [zeros], rfl⟩
    · have : Nat.beq (c.toNat * E.es) 0 = false := by
        cases hbq : Nat.beq (c.toNat * E.es) 0 with
        | false => rfl
        | true =>
          have := Nat.eq_of_beq_eq_true hbq
          have : 0 < c.toNat * E.es := Nat.mul_pos (by omega) h0
          omega
      refine ⟨z.cells, by simp only [this, hz, bindR], ?_, by rw [hzc]; exact hcell⟩
      rw [← hcs, zeros_list (by omega), hzc]
  refine ⟨_, h.n, (List.replicate c.toNat cs).flatten, ?_, X.put _, .inr ⟨h.n, _, .exact, c.toNat, rfl, rfl, by simp, ?_, .inl ⟨rfl, by unfold unk; omega, by simpa using hlen, ?_⟩⟩⟩
  · simp only [makeSliceV, hu, bindR, intOf, hb, hm, must, hn, h1, Heap.room, h2.2]
    rw [h2.1]
  · rw [List.length_replicate]; exact RowD.rep_take hR _ _ hlen
  · simp [List.length_flatten, E.len hR]

/-- The cells of a row. -/
theorem RSl.read {l : List α} (hR : RSl E φ v l) (X : St φ lo h own) {n : Nat} (hn : n = E.es) : ∃ ws, readCells h n l.length v = .ok ws ∧ RowD E φ ws l ∧ lenOf v = .ok l.length := by
  subst hn
  rcases hR with ⟨h1, h2⟩ | ⟨b, off, c, vs, e, m, h1, h2, h3, h4, h5, h6⟩ | ⟨b, off, c, h1, h2, h3, h4⟩
  · subst h1; subst h2; exact ⟨[], rfl, rfl, rfl⟩
  · subst h1
    refine ⟨_, ?_, h6, rfl⟩
    unfold readCells
    simp only
    cases hb : Nat.beq (l.length * E.es) 0 with
    | true => rw [Nat.eq_of_beq_eq_true hb]; simp
    | false =>
      simp only
      rw [(X.fz _ _ h2).2]
      have hpos : 0 < l.length := by
        rcases Nat.eq_zero_or_pos l.length with hz | hz
        · rw [hz, Nat.zero_mul] at hb; cases hb
        · exact hz
      simp only [cellsAt, ble_iff.2 (h4 hpos)]
  · subst h2; subst h1
    exact ⟨[], by simp only [readCells, List.length_nil, Nat.zero_mul, Nat.beq_refl], rfl, rfl⟩
theorem OSl.read {te : TypeId} {ob : Option Nat} {blk : Blk} {l : List α} {k : Nat} (hO : OSl E φ te ob blk v l) (X : St φ lo h own) (hk : own[k]? = some (ob, blk)) {n : Nat} (hn : n = E.es) : ∃ ws, readCells h n l.length v = .ok ws ∧ RowD E φ ws l ∧ lenOf v = .ok l.length := by
  subst hn
  rcases hO with ⟨h0, h1, h2⟩ | ⟨b, vs, m, c, h1, h2, h3, h4, h5⟩
  · subst h1; subst h2; exact ⟨[], rfl, rfl, rfl⟩
  · subst h1; subst h2; subst h3
    have hlen := h4.len
    rw [List.length_take] at hlen
    refine ⟨_, ?_, h4, rfl⟩
    unfold readCells
    simp only
    cases hb : Nat.beq (l.length * E.es) 0 with
    | true => rw [Nat.eq_of_beq_eq_true hb]; simp
    | false =>
      simp only
      rw [(X.at hk).2.2.1]
      simp only [cellsAt]
      rw [ble_iff.2 (by omega)]
      simp
theorem RowD.cells {l : List α} {ws : List Value} (h : RowD E φ ws l) : ws.all isCell = true := List.all_eq_true.2 fun v hv => (h.good v hv).cell
theorem bindR_of {α β : Type} {X : R α} {f : α → R β} {a : α} {Y : R β} (h : X = .ok a) (h2 : f a = Y) : bindR X f = Y := by rw [h]; exact h2
theorem OSl.append {te st : TypeId} {ob : Option Nat} {blk : Blk} {l l2 : List α} {j n bytes : Nat} {z x : Value} {ts : Array TypeId} {ws : List Value} (hO : OSl E φ te ob blk v l) (X : St φ lo h own) (hj : own[j]? = some (ob, blk))
    (hw : readCells h n l2.length x = .ok ws ∧ RowD E φ ws l2 ∧ lenOf x = .ok l2.length) (hlim : okLen (l.length + l2.length) = true)
    (ht : ts[0]? = some st) (hu : under P st = .ok (.slice te)) (hxt : (match ts[1]? with | some xt => bindR (under P xt) fun d => must (match d with | .int _ => false | _ => true) | none => (.ok () : R Unit)) = .ok ())
    (hn : tsize P te = .ok n) (hes : n = E.es) (h0 : Nat.blt 0 n = true) (hb : tbytes P te = .ok bytes) (hbb : (Nat.ble bytes 65536 && Nat.blt 0 bytes) = true) (hz : tzero P te = .ok z) (hzs : Nat.beq z.cells.size n = true) :
    ∃ h' a' c' ob' blk', appendV P h ts [v, x] = .ok (.slice a' (l.length + l2.length) c', h') ∧ St φ lo h' (own.set j (ob', blk')) ∧ OSl E φ te ob' blk' (.slice a' (l.length + l2.length) c') (l ++ l2) := by
  subst hes
  obtain ⟨hw1, hw2, hw3⟩ := hw
  have hlim := ble_iff.1 hlim
  have h0 := blt_true.1 h0
  simp only [Bool.and_eq_true] at hbb
  have hb1 := ble_iff.1 hbb.1
  obtain ⟨a, c, rfl⟩ : ∃ a c, v = .slice a l.length c := by
    rcases hO with ⟨_, h1, h2⟩ | ⟨b, vs, m, c, h1, h2, h3, _⟩
    · subst h2; exact ⟨_, _, h1⟩
    · exact ⟨_, _, h3⟩
  have hwl := hw2.len
  by_cases hl2 : l2.length = 0
  · have hl2' : l2 = [] := List.length_eq_zero_iff.1 hl2
    subst hl2'
    refine ⟨h, a, c, ob, blk, ?_, ?_, ?_⟩
    · unfold appendV
      simp only [ht, ofOpt, bindR_ok', hu]
      refine bindR_of hxt ?_
      simp only [hn, hw3, bindR_ok']
      rw [hw1]
      have hcap : must (Nat.ble l.length c) = .ok () := by
        rw [must_ok, ble_iff]
        rcases hO with ⟨_, h1, h2⟩ | ⟨b, vs, m, c', h1, h2, h3, h4, h5⟩
        · injection h1 with e1 e2 e3; omega
        · injection h3 with e1 e2 e3
          subst e3
          rcases h5 with ⟨_, _, h, _⟩ | ⟨_, h, _⟩
          · exact h
          · rw [h]; unfold unk; simp only [List.length_nil] at hlim; omega
      simp only [List.length_nil, Nat.beq_refl, hcap, Nat.add_zero, bindR_ok']
    · have : own.set j (ob, blk) = own := by
        obtain ⟨g1, g2⟩ := List.getElem?_eq_some_iff.1 hj
        rw [← g2, List.set_getElem_self]
      rw [this]; exact X
    · simpa using hO
  · have hbq : Nat.beq l2.length 0 = false := by
      cases hq : Nat.beq l2.length 0 with
      | false => rfl
      | true => exact absurd (Nat.eq_of_beq_eq_true hq) hl2
    have hws : 0 < ws.length := by rw [hwl]; exact Nat.mul_pos (by omega) h0
    have hfit : (Nat.beq z.cells.size E.es && Nat.ble ((2 * (l.length + l2.length) + 768) * bytes) 140737488355328 && Nat.blt 0 E.es && Nat.blt 0 bytes && ws.all isCell && Nat.beq ws.length (l2.length * E.es)) = true := by
      have h1 : (2 * (l.length + l2.length) + 768) * bytes ≤ 140737488355328 := by
        have : (2 * (l.length + l2.length) + 768) * bytes ≤ (2 * 1000000000 + 768) * 65536 := Nat.mul_le_mul (by omega) hb1
        omega
      rw [hzs, ble_iff.2 h1, blt_true.2 h0, hbb.2, hw2.cells, hwl, Nat.beq_refl]; rfl
    have hpre : appendV P h ts [.slice a l.length c, x] = (match a with
        | none => bindR (must (Nat.beq l.length 0 && Nat.beq c 0)) fun _ => bindR h.room fun _ => .ok (.slice (some ⟨h.n, 0, none⟩) l2.length unk, h.put (.cells ws te (.grown E.es)))
        | some a => appendAt h E.es l2.length te ws a l.length c) := by
      unfold appendV
      simp only [ht, ofOpt, bindR_ok', hu]
      refine bindR_of hxt ?_
      simp only [bindR_ok', hn, hw3, hw1, hbq, hb, hz, hfit, must]
      cases a <;> rfl
    rw [hpre]
    have new : ∀ (cs : List Value) (h1 : Heap), RowD E φ cs (l ++ l2) → h1.n = h.n → (∀ X' : OwnL, X' = own.set j (none, .dead) → St φ lo h1 X') →
        St φ lo (h1.put (.cells cs te (.grown E.es))) (own.set j (some h1.n, .cells cs te (.grown E.es))) ∧ OSl E φ te (some h1.n) (.cells cs te (.grown E.es)) (.slice (some ⟨h1.n, 0, none⟩) (l.length + l2.length) unk) (l ++ l2) := by
      intro cs h1 hcs hn1 hX
      have X1 := (hX _ rfl).put (.cells cs te (.grown E.es))
      have hjl := (List.getElem?_eq_some_iff.1 hj).1
      refine ⟨X1.sel ((List.range own.length).map fun i => if i = j then 0 else i + 1) ?_ fun k p hk => ?_, .inr ⟨h1.n, cs, _, unk, rfl, rfl, by rw [List.length_append], ?_, .inr ⟨rfl, rfl, hcs.len⟩⟩⟩
      · rw [List.nodup_iff_pairwise_ne, List.pairwise_map]
        refine List.Pairwise.imp_of_mem ?_ (List.nodup_iff_pairwise_ne.1 List.nodup_range)
        intro a b _ _ hab
        split <;> split <;> omega
      · have hk2 := (List.getElem?_eq_some_iff.1 hk).1
        rw [List.length_set] at hk2
        refine ⟨if k = j then 0 else k + 1, by simp [hk2], ?_⟩
        by_cases e : k = j
        · subst e
          rw [List.getElem?_set_self hjl] at hk
          cases hk
          rw [if_pos rfl]
          exact .inl rfl
        · rw [if_neg e, List.getElem?_cons_succ]
          rw [List.getElem?_set_ne (fun e' => e e'.symm)] at hk ⊢
          exact .inl hk
      · have := hcs.len
        rw [List.take_of_length_le (by omega)]
        exact hcs
    have gone : ∀ X' : OwnL, X' = own.set j (none, .dead) → St φ lo h X' := fun X' e => by
      subst e
      refine X.sel (List.range own.length) List.nodup_range fun k p hk => ?_
      have hjl := (List.getElem?_eq_some_iff.1 hj).1
      have hk2 := (List.getElem?_eq_some_iff.1 hk).1
      rw [List.length_set] at hk2
      refine ⟨k, by simp [hk2], ?_⟩
      by_cases e : j = k
      · subst e
        rw [List.getElem?_set_self hjl] at hk
        cases hk; exact .inr rfl
      · rw [List.getElem?_set_ne e] at hk; exact .inl hk
    rcases hO with ⟨g0, g1, g2⟩ | ⟨b, vs, m, c', g1, g2, g3, g4, g5⟩
    · injection g1 with e1 e2 e3
      subst e1; subst e3
      subst g2
      obtain ⟨k1, k2⟩ := new ws h (by simpa using hw2) rfl gone
      refine ⟨_, _, _, _, _, ?_, k1, k2⟩
      simp only [List.length_nil, Nat.zero_add]
      rfl
    · injection g3 with e1 e2 e3
      subst e1; subst e3
      subst g1; subst g2
      have hat := X.at hj
      have hlen := g4.len
      rw [List.length_take] at hlen
      have hold : cellsAt vs 0 (l.length * E.es) = .ok (vs.take (l.length * E.es)) := by
        unfold cellsAt
        rw [ble_iff.2 (by omega)]
        simp
      simp only
      unfold appendAt
      simp only [hat.2.2.1, Nat.beq_refl, must, bindR, Nat.zero_add]
      rcases g5 with ⟨rfl, q1, q2, q3⟩ | ⟨rfl, q1, q2⟩
      · have hu1 : Nat.ble unk c = false := by rw [ble_false]; omega
        simp only [hu1]
        by_cases hin : l.length + l2.length ≤ c
        · simp only [ble_iff.2 hin]
          have hmul : (l.length + l2.length) * E.es ≤ c * E.es := Nat.mul_le_mul_right _ hin
          rw [Nat.add_mul] at hmul
          have hs : storeCells h b (l.length * E.es) ws = .ok (h.write b (.cells (setAt vs (l.length * E.es) ws) te .exact) (idsL ws)) := by
            unfold storeCells
            rw [hat.2.2.1]
            have : (Nat.ble (l.length * E.es + ws.length) vs.length && ws.all isCell) = true := by rw [ble_iff.2 (by omega), hw2.cells]; rfl
            simp only [this, must, bindR]
          refine ⟨_, _, _, _, _, by simp only [hs]; rfl, X.write hj _ _, .inr ⟨b, _, _, c, rfl, rfl, by rw [List.length_append], ?_, .inl ⟨rfl, q1, by rw [List.length_append]; exact hin, by rw [setAt_length]; exact q3⟩⟩⟩
          have key : (setAt vs (l.length * E.es) ws).take ((l.length + l2.length) * E.es) = vs.take (l.length * E.es) ++ ws := by
            have e1 : vs = vs.take (l.length * E.es) ++ vs.drop (l.length * E.es) := (List.take_append_drop _ _).symm
            have e2 : (vs.take (l.length * E.es)).length = l.length * E.es := by rw [List.length_take]; omega
            have h3 := setAt_app (c := vs.take (l.length * E.es)) (vs := vs.drop (l.length * E.es)) (i := 0) (xs := ws)
            rw [← e1, e2, Nat.add_zero] at h3
            have h4 : setAt (vs.drop (l.length * E.es)) 0 ws = ws ++ (vs.drop (l.length * E.es)).drop ws.length := by
              have := setAt_hd (c := (vs.drop (l.length * E.es)).take ws.length) (vs := (vs.drop (l.length * E.es)).drop ws.length) (xs := ws) (by rw [List.length_take, List.length_drop]; omega)
              rw [List.take_append_drop] at this
              exact this
            rw [h3, h4, ← List.append_assoc]
            have e5 : ((l.length + l2.length) * E.es) = (vs.take (l.length * E.es) ++ ws).length := by
              rw [List.length_append, e2, hwl, Nat.add_mul]
            rw [e5, List.take_left]
          rw [List.length_append, key]
          exact g4.append hw2
        · simp only [ble_false.2 (Nat.lt_of_not_le hin), hold]
          obtain ⟨k1, k2⟩ := new (vs.take (l.length * E.es) ++ ws) h (g4.append hw2) rfl gone
          exact ⟨_, _, _, _, _, rfl, k1, k2⟩
      · have hu1 : Nat.ble unk c = true := by rw [ble_iff, q1]; exact Nat.le_refl _
        have hin : Nat.ble (l.length * E.es + ws.length) vs.length = false := by rw [ble_false]; omega
        simp only [hu1, hin, hold]
        have hX2 : ∀ X' : OwnL, X' = own.set j (none, .dead) → St φ lo (h.write b .dead 0) X' := fun X' e => by
          subst e
          have hY := X.write hj .dead 0
          refine hY.sel (List.range own.length) List.nodup_range fun k p hk => ?_
          have hjl := (List.getElem?_eq_some_iff.1 hj).1
          have hk2 := (List.getElem?_eq_some_iff.1 hk).1
          rw [List.length_set] at hk2
          refine ⟨k, by simp [hk2], ?_⟩
          by_cases e : j = k
          · subst e
            rw [List.getElem?_set_self hjl] at hk
            cases hk; exact .inr rfl
          · rw [List.getElem?_set_ne e] at hk ⊢
            exact .inl hk
        obtain ⟨k1, k2⟩ := new (vs.take (l.length * E.es) ++ ws) (h.write b .dead 0) (g4.append hw2) rfl hX2
        exact ⟨_, _, _, _, _, by rw [Nat.beq_refl]; rfl, k1, k2⟩

/-- A bound of a slice: none, or a number. -/
def BndOk (b : Option Value) (d n : Nat) : Prop := (b = none ∧ n = d) ∨ ∃ k x, b = some (.int k x) ∧ 0 ≤ x ∧ x.toNat = n
theorem bnd_none {d : Nat} : BndOk none d d := .inl ⟨rfl, rfl⟩
theorem bnd_int {k : IntKind} {x : Int} {d : Nat} (hx : 0 ≤ x) : BndOk (some (.int k x)) d x.toNat := .inr ⟨k, x, rfl, hx, rfl⟩
theorem sbound_ok {k : IntKind} {x : Int} {y : Nat} (h0 : 0 ≤ x) (h1 : x.toNat ≤ y) : sbound (.int k x) y = .ok x.toNat := by
  have : (decide (0 ≤ x) && decide (x ≤ (y : Int))) = true := by simp; omega
  simp only [sbound, intOf, bindR_ok', this, must]
theorem sbounds_ok {len cap lo' hi' : Nat} {lo hi : Option Value} (hl : BndOk lo 0 lo') (hh : BndOk hi len hi') (h1 : lo' ≤ hi') (h2 : hi' ≤ len) (h3 : len ≤ cap) : sbounds len cap lo hi none = .ok (lo', hi', cap) := by
  unfold sbounds
  rcases hh with ⟨rfl, rfl⟩ | ⟨k, x, rfl, hx, rfl⟩
  · rcases hl with ⟨rfl, rfl⟩ | ⟨k', y, rfl, hy, rfl⟩
    · rfl
    · simp only [bindR_ok', sbound_ok hy h1]
  · rcases hl with ⟨rfl, rfl⟩ | ⟨k', y, rfl, hy, rfl⟩
    · simp only [bindR_ok', sbound_ok hx (Nat.le_trans h2 h3)]
    · simp only [bindR_ok', sbound_ok hx (Nat.le_trans h2 h3), sbound_ok hy h1]
/-- A part of a row. -/
theorem RSl.slice {t te : TypeId} {l : List α} {n lo' hi' : Nat} {lo hi : Option Value} (hR : RSl E φ v l) (X : St φ lo0 h own) (hu : under P t = .ok (.slice te)) (hn : tsize P te = .ok n) (hes : n = E.es)
    (hl : BndOk lo 0 lo') (hh : BndOk hi l.length hi') (h1 : lo' ≤ hi') (h2 : hi' ≤ l.length) : ∃ a m c, sliceV P h t v lo hi none = .ok (.slice a m c) ∧ RSl E φ (.slice a m c) ((l.take hi').drop lo') := by
  subst hes
  rcases hR with ⟨g1, g2⟩ | ⟨b, off, c, vs, e, m, g1, g2, g3, g4, g5, g6⟩ | ⟨b, off, c, g1, g2, g3, g4⟩
  · subst g2
    subst g1
    have e1 : hi' = 0 := by simpa using h2
    subst e1
    have e2 : lo' = 0 := by omega
    subst e2
    refine ⟨none, 0, 0, ?_, .inl ⟨rfl, rfl⟩⟩
    have hs := sbounds_ok (cap := 0) hl hh h1 h2 (Nat.le_refl _)
    simp only [List.length_nil] at hs
    unfold sliceV
    simp only [hu, hn, bindR_ok']
    have : Nat.ble unk 0 = false := rfl
    simp only [this]
    have : must (Nat.ble 0 0) = .ok () := rfl
    simp only [this, bindR_ok', hs]
    rfl
  · subst g1
    have hlen : ((l.take hi').drop lo').length = hi' - lo' := by rw [List.length_drop, List.length_take]; omega
    have hmul : lo' * E.es + (hi' - lo') * E.es ≤ l.length * E.es := by rw [← Nat.add_mul]; exact Nat.mul_le_mul_right _ (by omega)
    have hrow : RowD E φ ((vs.drop (off + lo' * E.es)).take ((hi' - lo') * E.es)) ((l.take hi').drop lo') := by
      have := (g6.take hi').drop lo'
      have e1 : (((vs.drop off).take (l.length * E.es)).take (hi' * E.es)).drop (lo' * E.es) = (vs.drop (off + lo' * E.es)).take ((hi' - lo') * E.es) := by
        have : hi' * E.es ≤ l.length * E.es := Nat.mul_le_mul_right _ h2
        rw [List.take_take, Nat.min_eq_left this, List.drop_take, List.drop_drop, Nat.sub_mul]
      rw [← e1]; exact this
    unfold sliceV
    simp only [hu, hn, bindR_ok']
    cases hc : Nat.ble unk c with
    | true =>
      have hc' := ble_iff.1 hc
      have hes : rowEs h (some ⟨b, off, none⟩) = .ok E.es := by
        simp only [rowEs, (X.fz _ _ g2).2, g5 hc', ofOpt]
      have hm : must (Nat.beq E.es E.es) = .ok () := by rw [Nat.beq_refl]; rfl
      have hs := sbounds_ok (cap := l.length) hl hh h1 h2 (Nat.le_refl _)
      have hs' : sboundsU h (some ⟨b, off, none⟩) l.length E.es lo hi = .ok (lo', hi', l.length) := by
        simp only [sboundsU, hs]
      simp only [hes, hm, hs', bindR_ok', Option.map_some, addr_add]
      refine ⟨_, _, _, rfl, .inr (.inl ⟨b, off + lo' * E.es, c, vs, e, m, by rw [hlen]; rfl, g2, fun hlt => absurd hc' (by omega), fun hp => by rw [hlen] at hp ⊢; have := g4 (by omega); omega, fun h => g5 h, ?_⟩)⟩
      rw [hlen]; exact hrow
    | false =>
      have hc' := ble_false.1 hc
      have hlc := g3 hc'
      have hm : must (Nat.ble l.length c) = .ok () := by rw [ble_iff.2 hlc]; rfl
      have hs := sbounds_ok (cap := c) hl hh h1 h2 hlc
      simp only [hm, hs, bindR_ok', Option.map_some, addr_add]
      by_cases he : c = lo'
      · rw [if_pos he]
        refine ⟨_, _, _, rfl, .inr (.inl ⟨b, off, c - lo', vs, e, m, by rw [hlen], g2, fun _ => by rw [hlen]; omega, ?_, fun h => absurd h (by unfold unk at *; omega), ?_⟩)⟩
        · intro hp; rw [hlen] at hp; omega
        · have e0 : (l.take hi').drop lo' = [] := List.length_eq_zero_iff.1 (by rw [hlen]; omega)
          rw [e0]; simp [RowD]
      · rw [if_neg he]
        refine ⟨_, _, _, rfl, .inr (.inl ⟨b, off + lo' * E.es, c - lo', vs, e, m, by rw [hlen]; rfl, g2, fun _ => by rw [hlen]; omega, fun hp => by rw [hlen] at hp ⊢; have := g4 (by omega); omega, fun h => absurd h (by unfold unk at *; omega), ?_⟩)⟩
        rw [hlen]; exact hrow
  · subst g2
    subst g1
    have e1 : hi' = 0 := by simpa using h2
    subst e1
    have e2 : lo' = 0 := by omega
    subst e2
    have hs := sbounds_ok (cap := c) hl hh h1 h2 (Nat.zero_le _)
    simp only [List.length_nil] at hs
    refine ⟨some ⟨b, off, none⟩, 0, c, ?_, .inr (.inr ⟨b, off, c, rfl, rfl, g3, g4⟩)⟩
    unfold sliceV
    simp only [hu, hn, bindR_ok']
    have hc : Nat.ble unk c = false := by rw [ble_false]; exact g4
    have hm : must (Nat.ble 0 c) = .ok () := by rw [ble_iff.2 (Nat.zero_le c)]; rfl
    simp only [hc, hm, bindR_ok', hs, Option.map_some, addr_add, Nat.zero_mul]
    by_cases h0 : c = 0
    · rw [if_pos h0]; rfl
    · rw [if_neg h0]; rfl
end
end Go.AM
namespace Go.AM
open Go
section
variable {P : Program} {φ : Fz} {lo : Nat} {h : Heap} {own : OwnL} {v : Value} {α : Type} {E : Enc α}
def bitAnd (k : IntKind) (x y : Int) : Int := k.wrap (BitVec.ofInt k.bits x &&& BitVec.ofInt k.bits y).toNat
def bitOr (k : IntKind) (x y : Int) : Int := k.wrap (BitVec.ofInt k.bits x ||| BitVec.ofInt k.bits y).toNat
def bitXor (k : IntKind) (x y : Int) : Int := k.wrap (BitVec.ofInt k.bits x ^^^ BitVec.ofInt k.bits y).toNat
def shl (k : IntKind) (x y : Int) : Int := k.wrap (x * 2 ^ (min y.toNat k.bits))
def shr (k : IntKind) (x y : Int) : Int := x.fdiv (2 ^ (min y.toNat k.bits))
section
variable {ty : TypeId} {xo yo : Operand} {k k' : IntKind} {a b : Int}
theorem bin_xor : binV P .xor ty xo yo (.int k a) (.int k b) = .ok (.int k (bitXor k a b)) := bin_int rfl (by simp [binOp, Op.intBits]; rfl)
theorem bin_B {op : BinOp} {x y : Bool} {v : Value} (hv : plainV 20 v = true) (h : (binOp op ty (.bool x) (.bool y)).run P default = .ok v default) : binV P op ty xo yo (.bool x) (.bool y) = .ok v := by
  have : (eqGuard op ty xo yo (.bool x) (.bool y) : Sem Unit).run P default = .ok () default := by
    unfold eqGuard
    split <;> simp
  have hp : ∀ a, plainV 20 (.bool a) = true := fun _ => rfl
  simp only [binV, hp, Bool.and_self, isPtr, Bool.or_self, Bool.not_false, Bool.or_true, plainOut, pureRun, Sem.run_bind, this, Result.andThen_ok, h, bindR, hv, must]
theorem equalIn_bool {d : Nat} {x y : Bool} {w : World} (hu : under P ty = .ok .bool) : (Op.equalIn (d + 1) ty (.bool x) (.bool y)).run P w = .ok (x == y) w := by
  have h1 : (underlying ty).run P w = .ok .bool w := run_under hu
  simp [Op.equalIn, h1]
theorem bin_eqB {x y : Bool} (hu : under P ty = .ok .bool) : binV P .eql ty xo yo (.bool x) (.bool y) = .ok (.bool (x == y)) := bin_B rfl (by
  have h1 := equalIn_bool (d := 9999) (x := x) (y := y) (w := default) hu
  have h2 : binOp .eql ty (.bool x) (.bool y) = (do pure (.bool (← Op.equalIn (9999 + 1) ty (.bool x) (.bool y)))) := rfl
  rw [h2]
  simp only [Sem.run_bind, h1, Result.andThen_ok, Sem.run_pure])
end

def argOk (P : Program) (ts : Array TypeId) : R Unit := match ts[1]? with | some xt => bindR (under P xt) fun d => must (match d with | .int _ => false | _ => true) | none => .ok ()
theorem argOk_of {ts : Array TypeId} (h : argOk P ts = .ok ()) : (match ts[1]? with | some xt => bindR (under P xt) fun d => must (match d with | .int _ => false | _ => true) | none => (.ok () : R Unit)) = .ok () := h
/-- A row that is laid out. -/
theorem OSl.lay {t te : TypeId} {z : Value} {zs cs : List Value} {l : List α} {n len : Nat} {parts : List (Nat × Value)} (hu : under P t = .ok (.slice te)) (hn : tsize P te = .ok n) (hes : n = E.es) (h0 : Nat.blt 0 n = true) (hlim : (Nat.ble (len * n) 16777216 && Nat.blt len unk) = true)
    (hz : tzero P te = .ok z) (hzs : z.cells.toList = zs) (hf : fillL (fun i => some (i * n, n)) (List.replicate len zs).flatten parts = some cs) (hR : RowD E φ cs l) (hl : l.length = len) (hzn : zs.length = n) (X : St φ lo h own) :
    ∃ h' b, buildSliceV P h t len parts = .ok (.slice (some ⟨b, 0, none⟩) len len, h') ∧ St φ lo h' ((some b, .cells cs te .exact) :: own) ∧ OSl E φ te (some b) (.cells cs te .exact) (.slice (some ⟨b, 0, none⟩) len len) l := by
  subst hes
  subst hl
  have h0 := blt_true.1 h0
  have hsz : z.cells.size = E.es := by rw [← hzn, ← hzs]; simp
  obtain ⟨zz, h1, h2⟩ : ∃ zz, zeroFor P te (l.length * E.es) = .ok zz ∧ (zeros zz (l.length * E.es)).toList = (List.replicate l.length zs).flatten := by
    unfold zeroFor
    by_cases hc0 : l.length = 0
    · exact ⟨#[], by rw [hc0, Nat.zero_mul], by rw [hc0, Nat.zero_mul]; simp [zeros]⟩
    · have : Nat.beq (l.length * E.es) 0 = false := by
        cases hbq : Nat.beq (l.length * E.es) 0 with
        | false => rfl
        | true =>
          have := Nat.eq_of_beq_eq_true hbq
          have : 0 < l.length * E.es := Nat.mul_pos (by omega) h0
          omega
      refine ⟨z.cells, by simp only [this, hz, bindR], ?_⟩
      rw [← hsz, zeros_list (by omega), hzs]
  have hfill : Instr.fill (fun i => some (i * E.es, E.es)) (zeros zz (l.length * E.es)) parts = some cs.toArray := fill_of (by rw [h2]; exact hf)
  refine ⟨_, h.n, ?_, X.put _, .inr ⟨h.n, cs, .exact, l.length, rfl, rfl, rfl, ?_, .inl ⟨rfl, ?_, Nat.le_refl _, hR.len⟩⟩⟩
  · unfold buildSliceV
    simp only [hu, bindR_ok', hn, hlim, must, h1, hfill, ofOpt, Heap.room, List.toList_toArray, hR.cells]
  · rw [List.take_of_length_le (by rw [hR.len]; exact Nat.le_refl _)]; exact hR
  · simp only [Bool.and_eq_true] at hlim
    exact blt_true.1 hlim.2
end
section
variable {δ β : Type} {P : Program} {r : Rec} {L N n : Nat} {rd : Option Nat} {t : Tmps} {h : Heap} {k : Kont β} {Q : δ → β → Prop} {M : R δ}
/-- A loop that is written out. -/
theorem dunroll {b : Code} (n : Nat) (hL : L = n + 1) (hk : Sim (den P r L N rd b t h (kLoop P r L N rd b n k)) M Q) : Sim (den P r L N rd (.loop b) t h k) M Q := by
  rw [den_loop]
  have : loopD P r L N rd b L t h k = loopD P r L N rd b (n + 1) t h k := by rw [← hL]
  rw [this, loopD_succ]; exact hk
theorem nunroll {b : Code} {m : Nat} (n : Nat) (hL : m = n + 1) (hk : Sim (den P r L N rd b t h (kLoop P r L N rd b n k)) M Q) : Sim (kLoop P r L N rd b m k .normal t h) M Q := by
  subst hL
  show Sim (loopD P r L N rd b (n + 1) t h k) M Q
  rw [loopD_succ]; exact hk
end
end Go.AM
namespace Go.AM
open Go
section
variable {δ ε β : Type} {P : Program} {r : Rec} {L N n : Nat} {rd : Option Nat} {env : Env} {t0 : Tmps} {h h' : Heap} {k : Kont β} {Q : δ → β → Prop} {M : R δ} {φ : Fz} {lo : Nat} {own : OwnL}
variable {ops : Array Oper} {os : List Oper} {i : Nat} {d : Tmp} {ty : TypeId} {pos : String} {af : Array Edge} {g : Option (Nat × Bool)} {v : Value} {chg chs prd : Nat} {KK : Tmps → Heap → R β}
/-- A function value that is a function of the program. -/
theorem lcallv {c : Call} {gf : Operand} {f : FuncId} {args : Array Value} {M1 : R ε} {Q1 : ε → Value × Heap → Prop} {F : ε → R δ} (hw : wanted ops ⟨some d, .call c, ty, pos, af, g⟩ (TT env t0) = true) (hc : c.callee = .value gf) (hok : okO gf = true) (hgv : oev (TT env t0) gf = .func (.func f) #[] #[]) (hcal : callable P f = .ok ())
    (ha : okL c.args.toList = true) (hv : (oevL (TT env t0) c.args.toList).toArray = args) (hs : Sim (r.call f args h) M1 Q1) (hd : Nat.blt d N = true)
    (hk : ∀ e v h', Q1 e (v, h') → Sim (opersL P r N ops os k (TT ((d, v) :: env) t0) h') (F e) Q) :
    Sim (opersL P r N ops (⟨some d, .call c, ty, pos, af, g⟩ :: os) k (TT env t0) h) (bindR M1 F) Q := by
  rw [opersL_want hw]
  have h1 : stepW P r (.call c) (TT env t0) h = r.call f args h := by rw [← hv]; simp only [stepW, step, callStep, evs_ok ha, bindR, hc, ev_ok hok, hgv, invokeV, hcal]; simp
  simp only [h1, put_TT hd]
  exact Sim.bind hs fun e p hq => hk e p.1 p.2 hq
/-- A part of a row, in a region that draws. -/
theorem sslice {α : Type} {E : Enc α} {l : List α} {t te : TypeId} {m lo' hi' : Nat} {a : Operand} {lo0 hi0 : Option Operand} {lv hv : Option Value} {l' : List α} (hR : RSl E φ v l) (X : St φ lo h own) (hw : wanted ops ⟨some d, .slice t a lo0 hi0 none, ty, pos, af, g⟩ (TT env t0) = true) (hp : bit prd i = false)
    (ha : okO a = true) (h1 : evo (TT env t0) lo0 = .ok (lo0.map (oev (TT env t0)))) (h2 : evo (TT env t0) hi0 = .ok (hi0.map (oev (TT env t0)))) (hv0 : oev (TT env t0) a = v) (hlv : lo0.map (oev (TT env t0)) = lv) (hhv : hi0.map (oev (TT env t0)) = hv)
    (hu : under P t = .ok (.slice te)) (hn : tsize P te = .ok m) (hes : m = E.es) (hl : BndOk lv 0 lo') (hh : BndOk hv l.length hi') (h3 : lo' ≤ hi') (h4 : hi' ≤ l.length) (hl' : (l.take hi').drop lo' = l') (hlow : lowL (TT env t0) h.n (Op.slice t a lo0 hi0 none).operands.toList = true) (hd : Nat.blt d N = true)
    (hk : ∀ a' n' c', RSl E φ (.slice a' n' c') l' → Sim (sil P r N ops chg chs prd os (i + 1) (TT ((d, .slice a' n' c') :: env) t0) h KK) M Q) :
    Sim (sil P r N ops chg chs prd (⟨some d, .slice t a lo0 hi0 none, ty, pos, af, g⟩ :: os) i (TT env t0) h KK) M Q := by
  obtain ⟨a', n', c', g1, g2⟩ := hR.slice X hu hn hes hl hh h3 h4
  rw [hl'] at g2
  have hstep : ∀ h : Heap, step P (.slice t a lo0 hi0 none) (TT env t0) h = val h (sliceV P h t v lv hv none) := fun h => by
    simp only [step, ev_ok ha, bindR_ok', h1, h2, hv0, hlv, hhv]
    rfl
  have hs : step P (.slice t a lo0 hi0 none) (TT env t0) h = .ok (.value (.slice a' n' c') h) := by rw [hstep, g1]; rfl
  have hsame : sameV 20 (Value.slice a' n' c') (.slice a' n' c') = true := same_self 20 rfl
  have hput : put N (TT env t0) (some d) (.slice a' n' c') = TT ((d, .slice a' n' c') :: env) t0 := put_TT hd
  cases hst : stillOf P ⟨some d, .slice t a lo0 hi0 none, ty, pos, af, g⟩ (TT env t0) h.n with
  | error e =>
    rw [sil_read hw hst rfl hs hsame hp, hput]
    exact hk _ _ _ g2
  | ok p =>
    obtain ⟨u, b⟩ := p
    unfold stillOf at hst
    simp only [hlow, mustM, bindR_ok', hstep] at hst
    obtain ⟨td, k1, k2⟩ := bindR_ok.1 hst
    obtain ⟨w, k3, k4⟩ := bindR_ok.1 k1
    cases k4
    simp only at k2
    rw [freshOf_blank] at k2
    simp only [bindR_ok', Except.ok.injEq, Prod.mk.injEq] at k2
    obtain ⟨rfl, rfl⟩ := k2
    have hw2 : w = .slice a' n' c' := by
      obtain ⟨sa, sn, sc, rfl⟩ := hR.shape
      unfold sliceV at g1 k3
      simp only [hu, hn, bindR_ok'] at g1 k3
      cases hcap : Nat.ble unk sc with
      | false =>
        simp only [hcap] at g1 k3
        rw [g1] at k3; cases k3; rfl
      | true =>
        simp only [hcap] at k3
        have : ∃ e, rowEs (blankN h.n) sa = .error e := by
          unfold rowEs
          cases sa with
          | none => exact ⟨_, rfl⟩
          | some ad => simp only [blank_get]; exact ⟨_, rfl⟩
        obtain ⟨e, he⟩ := this
        rw [he] at k3; cases k3
    subst hw2
    have hst2 : stillOf P ⟨some d, .slice t a lo0 hi0 none, ty, pos, af, g⟩ (TT env t0) h.n = .ok (.slice a' n' c', none) := by
      unfold stillOf
      simp only [hlow, mustM, bindR_ok', hstep, k3, val, freshOf_blank]
    rw [sil_pure hw hst2, hput]
    exact hk _ _ _ g2
end
end Go.AM
