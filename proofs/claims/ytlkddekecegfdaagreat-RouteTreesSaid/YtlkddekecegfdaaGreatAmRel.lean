/- Of the abstract machine, for all programs: definitions and lemmas, no claim of its own; no condition. -/
import Derived.Test.YtlkddekecegfdaaGreatAmDefs
import Derived.RangeFuncLeaves
import Derived.OrdersIn
import Derived.Laws.AppendOwn
import Derived.Laws.Entries
import Derived.Laws.MakeOwn
set_option linter.unusedVariables false
set_option linter.unusedSimpArgs false
namespace Go.AM

/-- Where a block of the abstract heap lies: its block in the world, the place of its first cell, how many cells that block has, how many an element takes. -/
structure Loc where
  blk : Nat
  base : Nat
  size : Nat
  es : Nat

abbrev Ren := Nat → Option Loc

def gl (l : List Value) (i : Nat) : Value := l.getD i undef

inductive VR (ρ : Ren) : Value → Value → Prop where
  | bool (b : Bool) : VR ρ (.bool b) (.bool b)
  | int (k : IntKind) (n : Int) : VR ρ (.int k n) (.int k n)
  | string (s : ByteArray) : VR ρ (.string s) (.string s)
  | nilPtr : VR ρ (.pointer none) (.pointer none)
  | ptr {b o : Nat} {l : Loc} (h : ρ b = some l) : VR ρ (.pointer (some ⟨b, o, none⟩)) (.pointer (some ⟨l.blk, l.base + o, none⟩))
  | nilSlice : VR ρ (.slice none 0 0) (.slice none 0 0)
  | slice {b o n c : Nat} {l : Loc} (h : ρ b = some l) (hc : c < unk) : VR ρ (.slice (some ⟨b, o, none⟩) n c) (.slice (some ⟨l.blk, l.base + o, none⟩) n c)
  | sliceU {b o n c o' c' : Nat} {l : Loc} (h : ρ b = some l) (hc : unk ≤ c) (hn : n ≤ c')
      (ho : (o' = l.base + o ∧ o' + c' * l.es = l.size) ∨ (n = 0 ∧ c' = 0 ∧ l.size ≤ l.base + o)) :
      VR ρ (.slice (some ⟨b, o, none⟩) n c) (.slice (some ⟨l.blk, o', none⟩) n c')
  | empty0 {b : Nat} {a : Addr} {l : Loc} (h : ρ b = some l) : VR ρ (.slice (some ⟨b, 0, none⟩) 0 0) (.slice (some a) 0 0)
  | nilMap : VR ρ (.map none) (.map none)
  | map {r : Nat} {l : Loc} (h : ρ r = some l) : VR ρ (.map (some r)) (.map (some l.blk))
  | func (f : FuncId) {as bs cs ds : Array Value} (h₁ : as.size = bs.size) (h₂ : ∀ i, i < as.size → VR ρ (gl as.toList i) (gl bs.toList i))
      (h₃ : cs.size = ds.size) (h₄ : ∀ i, i < cs.size → VR ρ (gl cs.toList i) (gl ds.toList i)) : VR ρ (.func (.func f) as cs) (.func (.func f) bs ds)
  | yield {l : Nat} {p : Loc} (h : ρ l = some p) : VR ρ (.func (.yield l) #[] #[]) (.func (.yield p.blk) #[] #[])
  | nilFunc : VR ρ .nilFunc .nilFunc
  | nilIface : VR ρ .nilIface .nilIface
  | iface (t : TypeId) {x y : Value} (h : VR ρ x y) : VR ρ (.iface t x) (.iface t y)
  | agg {as bs : Array Value} (h₁ : as.size = bs.size) (h₂ : ∀ i, i < as.size → VR ρ (gl as.toList i) (gl bs.toList i)) : VR ρ (.agg as) (.agg bs)
  | tuple {as bs : Array Value} (h₁ : as.size = bs.size) (h₂ : ∀ i, i < as.size → VR ρ (gl as.toList i) (gl bs.toList i)) : VR ρ (.tuple as) (.tuple bs)

/-- Lists of values, place by place. -/
def VL (ρ : Ren) (as bs : List Value) : Prop := as.length = bs.length ∧ ∀ i, i < as.length → VR ρ (gl as i) (gl bs i)

def Sub (ρ ρ' : Ren) : Prop := ∀ b l, ρ b = some l → ρ' b = some l

theorem Sub.refl (ρ : Ren) : Sub ρ ρ := fun _ _ h => h
theorem Sub.trans {ρ ρ' ρ'' : Ren} (h : Sub ρ ρ') (h' : Sub ρ' ρ'') : Sub ρ ρ'' := fun b l e => h' b l (h b l e)

theorem VR.mono {ρ ρ' : Ren} (hs : Sub ρ ρ') {v c : Value} (h : VR ρ v c) : VR ρ' v c := by
  induction h with
  | bool b => exact .bool b
  | int k n => exact .int k n
  | string s => exact .string s
  | nilPtr => exact .nilPtr
  | ptr h => exact .ptr (hs _ _ h)
  | nilSlice => exact .nilSlice
  | slice h hc => exact .slice (hs _ _ h) hc
  | sliceU h hc hn ho => exact .sliceU (hs _ _ h) hc hn ho
  | empty0 h => exact .empty0 (hs _ _ h)
  | nilMap => exact .nilMap
  | map h => exact .map (hs _ _ h)
  | func f h₁ _ h₃ _ ih₂ ih₄ => exact .func f h₁ ih₂ h₃ ih₄
  | yield h => exact .yield (hs _ _ h)
  | nilFunc => exact .nilFunc
  | nilIface => exact .nilIface
  | iface t _ ih => exact .iface t ih
  | agg h₁ _ ih => exact .agg h₁ ih
  | tuple h₁ _ ih => exact .tuple h₁ ih

theorem VL.mono {ρ ρ' : Ren} (hs : Sub ρ ρ') {as bs : List Value} (h : VL ρ as bs) : VL ρ' as bs := ⟨h.1, fun i hi => (h.2 i hi).mono hs⟩
theorem VL.nil {ρ : Ren} : VL ρ [] [] := ⟨rfl, fun i hi => by simp at hi⟩
theorem VL.cons {ρ : Ren} {a b : Value} {as bs : List Value} (h : VR ρ a b) (hs : VL ρ as bs) : VL ρ (a :: as) (b :: bs) := by
  refine ⟨by simp [hs.1], fun i hi => ?_⟩
  cases i with
  | zero => simpa [gl] using h
  | succ i => simpa [gl] using hs.2 i (by simpa using hi)
theorem VL.head {ρ : Ren} {a b : Value} {as bs : List Value} (h : VL ρ (a :: as) (b :: bs)) : VR ρ a b := by simpa [gl] using h.2 0 (by simp)
theorem VL.tail {ρ : Ren} {a b : Value} {as bs : List Value} (h : VL ρ (a :: as) (b :: bs)) : VL ρ as bs :=
  ⟨by simpa using h.1, fun i hi => by simpa [gl] using h.2 (i + 1) (by simpa using hi)⟩
theorem VL.cases_nil {ρ : Ren} {bs : List Value} (h : VL ρ [] bs) : bs = [] := by
  have := h.1; cases bs with | nil => rfl | cons _ _ => simp at this
theorem VL.cases_cons {ρ : Ren} {a : Value} {as bs : List Value} (h : VL ρ (a :: as) bs) : ∃ b bs', bs = b :: bs' ∧ VR ρ a b ∧ VL ρ as bs' := by
  cases bs with
  | nil => have := h.1; simp at this
  | cons b bs => exact ⟨b, bs, rfl, h.head, h.tail⟩
theorem VL.append {ρ : Ren} {as bs cs ds : List Value} (h : VL ρ as bs) (h' : VL ρ cs ds) : VL ρ (as ++ cs) (bs ++ ds) := by
  induction as generalizing bs with
  | nil => obtain rfl := h.cases_nil; simpa using h'
  | cons a as ih =>
    obtain ⟨b, bs, rfl, h1, h2⟩ := h.cases_cons
    exact .cons h1 (ih h2)
theorem VL.drop {ρ : Ren} {as bs : List Value} (h : VL ρ as bs) (n : Nat) : VL ρ (as.drop n) (bs.drop n) := by
  refine ⟨by simp [h.1], fun i hi => ?_⟩
  have := h.2 (n + i) (by simp at hi; omega)
  simpa [gl, List.getD, List.getElem?_drop] using this
theorem VL.take {ρ : Ren} {as bs : List Value} (h : VL ρ as bs) (n : Nat) : VL ρ (as.take n) (bs.take n) := by
  refine ⟨by simp [h.1], fun i hi => ?_⟩
  have hi' : i < n ∧ i < as.length := by simp only [List.length_take] at hi; omega
  have := h.2 i hi'.2
  simpa [gl, List.getD, List.getElem?_take, hi'.1] using this
theorem VL.get {ρ : Ren} {as bs : List Value} (h : VL ρ as bs) {i : Nat} {v : Value} (hv : as[i]? = some v) : ∃ c, bs[i]? = some c ∧ VR ρ v c := by
  obtain ⟨hi, hv'⟩ := List.getElem?_eq_some_iff.1 hv
  have := h.2 i hi
  have hb : i < bs.length := h.1 ▸ hi
  refine ⟨bs[i], List.getElem?_eq_getElem hb, ?_⟩
  simpa [gl, List.getD, hv, List.getElem?_eq_getElem hb] using this
theorem VL.of_get {ρ : Ren} {as bs : List Value} (hl : as.length = bs.length) (h : ∀ (i : Nat) (v : Value), as[i]? = some v → ∃ c, bs[i]? = some c ∧ VR ρ v c) : VL ρ as bs := by
  refine ⟨hl, fun i hi => ?_⟩
  obtain ⟨c, hc, hv⟩ := h i as[i] (List.getElem?_eq_getElem hi)
  simpa [gl, List.getD, hc, List.getElem?_eq_getElem hi] using hv
theorem VR.agg' {ρ : Ren} {as bs : Array Value} (h : VL ρ as.toList bs.toList) : VR ρ (.agg as) (.agg bs) :=
  .agg (by simpa using h.1) (fun i hi => h.2 i (by simpa using hi))
theorem VR.tuple' {ρ : Ren} {as bs : Array Value} (h : VL ρ as.toList bs.toList) : VR ρ (.tuple as) (.tuple bs) :=
  .tuple (by simpa using h.1) (fun i hi => h.2 i (by simpa using hi))
theorem VR.func' {ρ : Ren} (f : FuncId) {as bs cs ds : Array Value} (h : VL ρ as.toList bs.toList) (h' : VL ρ cs.toList ds.toList) : VR ρ (.func (.func f) as cs) (.func (.func f) bs ds) :=
  .func f (by simpa using h.1) (fun i hi => h.2 i (by simpa using hi)) (by simpa using h'.1) (fun i hi => h'.2 i (by simpa using hi))

theorem VR.undef (ρ : Ren) : VR ρ undef undef := .tuple' (by exact .nil)

/-! Plain values read alike everywhere. -/
theorem plain_eq {ρ : Ren} : ∀ (f : Nat) (v : Value), plainV f v = true → ∀ c, VR ρ v c → c = v := by
  intro f
  induction f with
  | zero => intro v h; simp [plainV] at h
  | succ f ih =>
    intro v h c hc
    cases hc with
    | bool b => rfl
    | int k n => rfl
    | string s => rfl
    | nilPtr => rfl
    | ptr _ => simp [plainV] at h
    | nilSlice => rfl
    | slice _ _ => simp [plainV] at h
    | sliceU _ _ _ _ => simp [plainV] at h
    | empty0 _ => simp [plainV] at h
    | nilMap => rfl
    | map _ => simp [plainV] at h
    | func _ _ _ _ _ => simp [plainV] at h
    | yield _ => simp [plainV] at h
    | nilFunc => rfl
    | nilIface => rfl
    | iface t hx => rw [ih _ (by simpa [plainV] using h) _ hx]
    | tuple _ _ => simp [plainV] at h
    | @agg as bs h₁ h₂ =>
      have h' : ∀ x ∈ as.toList, plainV f x = true := by simp only [plainV, List.all_eq_true] at h; exact h
      congr 1
      apply Array.ext'
      apply List.ext_getElem
      · simpa using h₁.symm
      · intro i hi hi'
        have hi'' : i < as.size := by simpa using hi'
        have := ih (gl as.toList i) (h' _ (by simp [gl, List.getD, List.getElem?_eq_getElem hi'])) _ (h₂ i hi'')
        simpa [gl, List.getD, List.getElem?_eq_getElem hi, List.getElem?_eq_getElem hi'] using this

theorem plain_refl {ρ : Ren} : ∀ (f : Nat) (v : Value), plainV f v = true → VR ρ v v := by
  intro f
  induction f with
  | zero => intro v h; simp [plainV] at h
  | succ f ih =>
    intro v h
    cases v with
    | bool b => exact .bool b
    | int k n => exact .int k n
    | string s => exact .string s
    | pointer a => cases a with | none => exact .nilPtr | some _ => simp [plainV] at h
    | slice a n c =>
      cases a with
      | some _ => simp [plainV] at h
      | none =>
        cases n with
        | zero => cases c with | zero => exact .nilSlice | succ _ => simp [plainV] at h
        | succ _ => simp [plainV] at h
    | map r => cases r with | none => exact .nilMap | some _ => simp [plainV] at h
    | nilFunc => exact .nilFunc
    | nilIface => exact .nilIface
    | iface t x => exact .iface t (ih _ (by simpa [plainV] using h))
    | agg as =>
      have h' : ∀ x ∈ as.toList, plainV f x = true := by simp only [plainV, List.all_eq_true] at h; exact h
      refine .agg rfl fun i hi => ih _ (h' _ ?_)
      simp only [gl, List.getD]
      rw [List.getElem?_eq_getElem (by simpa using hi)]
      simp
    | _ => simp [plainV] at h

/-! The blocks that a value names. -/
theorem foldr_max_le {f : Nat} {l : List Value} {n : Nat} (h : l.foldr (fun c m => Nat.max (maxId f c) m) 0 ≤ n) : ∀ x ∈ l, maxId f x ≤ n := by
  induction l with
  | nil => intro x hx; cases hx
  | cons a l ih =>
    simp only [List.foldr_cons] at h
    have h1 : Nat.max (maxId f a) (l.foldr (fun c m => Nat.max (maxId f c) m) 0) ≤ n := h
    intro x hx
    rcases List.mem_cons.1 hx with rfl | hx
    · exact Nat.le_trans (Nat.le_max_left _ _) h1
    · exact ih (Nat.le_trans (Nat.le_max_right _ _) h1) x hx

theorem gl_mem {l : List Value} {i : Nat} (h : i < l.length) : gl l i ∈ l := by
  simp [gl, List.getD, List.getElem?_eq_getElem h]

theorem VR.lower {ρ ρ' : Ren} {n : Nat} (hn : n < big) (hs : ∀ b, b < n → ∀ l, ρ b = some l → ρ' b = some l) : ∀ (f : Nat) (v c : Value), maxId f v ≤ n → VR ρ v c → VR ρ' v c := by
  intro f
  induction f with
  | zero => intro v c h; simp only [maxId] at h; omega
  | succ f ih =>
    intro v c h hc
    cases hc with
    | bool b => exact .bool b
    | int k n => exact .int k n
    | string s => exact .string s
    | nilPtr => exact .nilPtr
    | ptr e => exact .ptr (hs _ (by simp only [maxId] at h; omega) _ e)
    | nilSlice => exact .nilSlice
    | slice e hc => exact .slice (hs _ (by simp only [maxId] at h; omega) _ e) hc
    | sliceU e hc a b => exact .sliceU (hs _ (by simp only [maxId] at h; omega) _ e) hc a b
    | empty0 e => exact .empty0 (hs _ (by simp only [maxId] at h; omega) _ e)
    | nilMap => exact .nilMap
    | map e => exact .map (hs _ (by simp only [maxId] at h; omega) _ e)
    | func g h₁ h₂ h₃ h₄ =>
      simp only [maxId] at h
      have ha := Nat.le_trans (Nat.le_trans (Nat.le_max_left _ _) (Nat.le_max_right _ _)) h
      have hb := Nat.le_trans (Nat.le_trans (Nat.le_max_right _ _) (Nat.le_max_right _ _)) h
      exact .func g h₁ (fun i hi => ih _ _ (foldr_max_le ha _ (gl_mem (by simpa using hi))) (h₂ i hi)) h₃
        (fun i hi => ih _ _ (foldr_max_le hb _ (gl_mem (by simpa using hi))) (h₄ i hi))
    | yield e =>
      simp only [maxId] at h
      exact .yield (hs _ (Nat.lt_of_lt_of_le (Nat.lt_succ_self _) (Nat.le_trans (Nat.le_max_left _ _) h)) _ e)
    | nilFunc => exact .nilFunc
    | nilIface => exact .nilIface
    | iface t hx => exact .iface t (ih _ _ (by simpa [maxId] using h) hx)
    | agg h₁ h₂ =>
      simp only [maxId] at h
      exact .agg h₁ (fun i hi => ih _ _ (foldr_max_le h _ (gl_mem (by simpa using hi))) (h₂ i hi))
    | tuple h₁ h₂ =>
      simp only [maxId] at h
      exact .tuple h₁ (fun i hi => ih _ _ (foldr_max_le h _ (gl_mem (by simpa using hi))) (h₂ i hi))


theorem all_gl {f : Value → Bool} {l : List Value} (h : l.all f = true) {i : Nat} (hi : i < l.length) : f (gl l i) = true := by
  rw [List.all_eq_true] at h; exact h _ (gl_mem hi)
theorem VR.lowV {ρ ρ' : Ren} {n : Nat} (hs : ∀ b, b < n → ∀ l, ρ b = some l → ρ' b = some l) : ∀ (f : Nat) (v c : Value), AM.lowV f n v = true → VR ρ v c → VR ρ' v c := by
  intro f
  induction f with
  | zero => intro v c h; simp only [AM.lowV] at h; cases h
  | succ f ih =>
    intro v c h hc
    have bt : ∀ {a b : Nat}, Nat.blt a b = true → a < b := by intro a b hh; unfold Nat.blt at hh; rw [Nat.ble_eq] at hh; exact hh
    cases hc with
    | bool b => exact .bool b
    | int k n => exact .int k n
    | string s => exact .string s
    | nilPtr => exact .nilPtr
    | ptr e => exact .ptr (hs _ (bt h) _ e)
    | nilSlice => exact .nilSlice
    | slice e hc => exact .slice (hs _ (bt h) _ e) hc
    | sliceU e hc a b => exact .sliceU (hs _ (bt h) _ e) hc a b
    | empty0 e => exact .empty0 (hs _ (bt h) _ e)
    | nilMap => exact .nilMap
    | map e => exact .map (hs _ (bt h) _ e)
    | func g h₁ h₂ h₃ h₄ =>
      simp only [AM.lowV, Bool.and_eq_true] at h
      exact .func g h₁ (fun i hi => ih _ _ (all_gl h.2.1 (by simpa using hi)) (h₂ i hi)) h₃
        (fun i hi => ih _ _ (all_gl h.2.2 (by simpa using hi)) (h₄ i hi))
    | yield e =>
      simp only [AM.lowV, Bool.and_eq_true] at h
      exact .yield (hs _ (bt h.1) _ e)
    | nilFunc => exact .nilFunc
    | nilIface => exact .nilIface
    | iface t hx => exact .iface t (ih _ _ (by simpa only [AM.lowV] using h) hx)
    | agg h₁ h₂ =>
      simp only [AM.lowV] at h
      exact .agg h₁ (fun i hi => ih _ _ (all_gl h (by simpa using hi)) (h₂ i hi))
    | tuple h₁ h₂ =>
      simp only [AM.lowV] at h
      exact .tuple h₁ (fun i hi => ih _ _ (all_gl h (by simpa using hi)) (h₂ i hi))

/-! Values that name blocks below m alone. -/
def Ren.below (ρ : Ren) (m : Nat) : Ren := fun b => if b < m then ρ b else none
theorem Ren.below_some {ρ : Ren} {m b : Nat} {l : Loc} : ρ.below m b = some l ↔ b < m ∧ ρ b = some l := by
  unfold Ren.below; split
  · simp_all
  · simp; omega
def Low (m : Nat) (v : Value) : Prop := ∃ ρ : Ren, ∃ c, (∀ b l, ρ b = some l → b < m) ∧ VR ρ v c

theorem Low.of_dom {ρ : Ren} {m : Nat} {v c : Value} (h : VR ρ v c) (hd : ∀ b l, ρ b = some l → b < m) : Low m v := ⟨ρ, c, hd, h⟩
theorem Low.mono {m m' : Nat} {v : Value} (h : Low m v) (hm : m ≤ m') : Low m' v := by
  obtain ⟨ρ, c, hd, hv⟩ := h
  exact ⟨ρ, c, fun b l e => Nat.lt_of_lt_of_le (hd b l e) hm, hv⟩
theorem Low.of_ids {ρ : Ren} {m : Nat} {v c : Value} (h : VR ρ v c) (hm : m < big) (hi : ids v ≤ m) : Low m v := by
  refine ⟨ρ.below m, c, fun b l e => (Ren.below_some.1 e).1, ?_⟩
  exact VR.lower hm (fun b hb l e => Ren.below_some.2 ⟨hb, e⟩) 20 v c hi h

theorem VR.both {ρ₀ ρ : Ren} {m : Nat} (hd : ∀ b l, ρ₀ b = some l → b < m) {v c : Value} (h : VR ρ v c) : ∀ c₀, VR ρ₀ v c₀ → VR (ρ.below m) v c := by
  induction h with
  | bool b => intro _ _; exact .bool b
  | int k n => intro _ _; exact .int k n
  | string s => intro _ _; exact .string s
  | nilPtr => intro _ _; exact .nilPtr
  | ptr h => intro c₀ h₀; cases h₀; rename_i h'; exact .ptr (Ren.below_some.2 ⟨hd _ _ h', h⟩)
  | nilSlice => intro _ _; exact .nilSlice
  | slice h hc =>
    intro c₀ h₀
    cases h₀ with
    | slice h' _ => exact .slice (Ren.below_some.2 ⟨hd _ _ h', h⟩) hc
    | sliceU h' _ _ _ => exact .slice (Ren.below_some.2 ⟨hd _ _ h', h⟩) hc
    | empty0 h' => exact .slice (Ren.below_some.2 ⟨hd _ _ h', h⟩) hc
  | sliceU h hc hn ho =>
    intro c₀ h₀
    cases h₀ with
    | slice h' _ => exact .sliceU (Ren.below_some.2 ⟨hd _ _ h', h⟩) hc hn ho
    | sliceU h' _ _ _ => exact .sliceU (Ren.below_some.2 ⟨hd _ _ h', h⟩) hc hn ho
    | empty0 h' => exact .sliceU (Ren.below_some.2 ⟨hd _ _ h', h⟩) hc hn ho
  | empty0 h =>
    intro c₀ h₀
    cases h₀ with
    | slice h' _ => exact .empty0 (Ren.below_some.2 ⟨hd _ _ h', h⟩)
    | sliceU h' _ _ _ => exact .empty0 (Ren.below_some.2 ⟨hd _ _ h', h⟩)
    | empty0 h' => exact .empty0 (Ren.below_some.2 ⟨hd _ _ h', h⟩)
  | nilMap => intro _ _; exact .nilMap
  | map h => intro c₀ h₀; cases h₀; rename_i h'; exact .map (Ren.below_some.2 ⟨hd _ _ h', h⟩)
  | func f h₁ _ h₃ _ ih₂ ih₄ =>
    intro c₀ h₀
    cases h₀
    rename_i g₁ g₂ g₃ g₄
    exact .func f h₁ (fun i hi => ih₂ i hi _ (g₂ i hi)) h₃ (fun i hi => ih₄ i hi _ (g₄ i hi))
  | yield h => intro c₀ h₀; cases h₀; rename_i h'; exact .yield (Ren.below_some.2 ⟨hd _ _ h', h⟩)
  | nilFunc => intro _ _; exact .nilFunc
  | nilIface => intro _ _; exact .nilIface
  | iface t _ ih => intro c₀ h₀; cases h₀; rename_i h'; exact .iface t (ih _ h')
  | agg h₁ _ ih => intro c₀ h₀; cases h₀; rename_i g₁ g₂; exact .agg h₁ (fun i hi => ih i hi _ (g₂ i hi))
  | tuple h₁ _ ih => intro c₀ h₀; cases h₀; rename_i g₁ g₂; exact .tuple h₁ (fun i hi => ih i hi _ (g₂ i hi))

theorem Low.below {ρ : Ren} {m : Nat} {v c : Value} (h : Low m v) (hv : VR ρ v c) : VR (ρ.below m) v c := by
  obtain ⟨ρ₀, c₀, hd, h₀⟩ := h
  exact hv.both hd c₀ h₀
theorem Low.plain {m : Nat} {f : Nat} {v : Value} (h : plainV f v = true) : Low m v := ⟨fun _ => none, v, (fun _ _ e => by cases e), plain_refl f v h⟩

end Go.AM
namespace Go.AM

def live : Blk → Bool
  | .dead => false
  | _ => true
theorem live_of_owned {b : Blk} (h : owned b = true) : live b = true := by cases b <;> simp_all [owned, live]

def ER (ρ : Ren) (e e' : MapEntry) : Prop := VR ρ e.key e'.key ∧ VR ρ e.val e'.val ∧ e'.born = e.born
def EL (ρ : Ren) (es : List MapEntry) (es' : List MapEntry) : Prop :=
  es.length = es'.length ∧ ∀ (i : Nat) (e : MapEntry), es[i]? = some e → ∃ e', es'[i]? = some e' ∧ ER ρ e e'
def TR (ρ : Ren) (t : Tmps) (tmps : Array Value) : Prop := ∀ i, VR ρ (t i) (tmps.getD i undef)

theorem TR.mono {ρ ρ' : Ren} (hs : Sub ρ ρ') {t : Tmps} {a : Array Value} (h : TR ρ t a) : TR ρ' t a := fun i => (h i).mono hs
theorem EL.mono {ρ ρ' : Ren} (hs : Sub ρ ρ') {es es' : List MapEntry} (h : EL ρ es es') : EL ρ' es es' :=
  ⟨h.1, fun i e he => let ⟨e', h1, h2, h3, h4⟩ := h.2 i e he; ⟨e', h1, h2.mono hs, h3.mono hs, h4⟩⟩

theorem TR.cut {ρ : Ren} {N : Nat} {t : Tmps} {tmps : Array Value} (ht : TR ρ t tmps) (hn : tmps.size = N) : TR ρ (cutT N t) tmps := fun i => by
  unfold cutT
  split
  · exact ht i
  · rename_i hb
    have : ¬ i < N := fun hlt => by rw [show Nat.blt i N = true from Nat.ble_eq_true_of_le hlt] at hb; cases hb
    have e : tmps.getD i undef = undef := by
      unfold Array.getD
      rw [dif_neg (by omega)]
    rw [e]; exact .undef ρ

/-- A row of cells in the world. -/
def Row (ρ : Ren) (vs : List Value) (e : TypeId) (m : Mode) (l : Loc) (w : World) : Prop :=
  ∃ cs fr, w.heap[l.blk]? = some (.cells cs e fr) ∧ ((∀ es, m ≠ .ro es) → fr = (0, 0)) ∧ ((∀ es, m = .grown es → cs.size = l.size) ∧ ∀ es, m.es = some es → l.es = es) ∧ VL ρ vs ((cs.toList.drop l.base).take vs.length) ∧ l.base + vs.length ≤ cs.size

def BR (ρ : Ren) (b : Blk) (l : Loc) (w : World) : Prop :=
  match b with
  | .cells vs e m => Row ρ vs e m l w
  | .map es clock => ∃ es', w.heap[l.blk]? = some (.map es' clock) ∧ EL ρ es es'.toList
  | .siter s pos => w.heap[l.blk]? = some (.stringIter s pos) ∧ l.base = 0
  | .loop r => ∃ q ld, w.heap[l.blk]? = some (.loop q) ∧ q.state = r.state ∧ q.pending = r.pending ∧ q.params = r.params ∧ q.assign = r.assign ∧ q.body = r.body ∧
      (TR ρ r.tmps q.tmps ∧ q.tmps.size = r.ntmps) ∧ ρ r.defers = some ld ∧ q.defers = ld.blk
  | .defs => ∃ ds, w.heap[l.blk]? = some (.deferred ds)
  | .dead => True

theorem BR.mono {ρ ρ' : Ren} (hs : Sub ρ ρ') {b : Blk} {l : Loc} {w : World} (h : BR ρ b l w) : BR ρ' b l w := by
  cases b with
  | cells vs e m => obtain ⟨cs, fr, h1, h2, h3, h4, h5⟩ := h; exact ⟨cs, fr, h1, h2, h3, h4.mono hs, h5⟩
  | map es clock => obtain ⟨es', h1, h2⟩ := h; exact ⟨es', h1, h2.mono hs⟩
  | siter s pos => exact h
  | loop r => obtain ⟨q, ld, h1, h2, h3, h4, h5, h6, h7, h8, h9⟩ := h; exact ⟨q, ld, h1, h2, h3, h4, h5, h6, ⟨h7.1.mono hs, h7.2⟩, hs _ _ h8, h9⟩
  | defs => exact h
  | dead => trivial

theorem BR.congr {ρ : Ren} {b : Blk} {l : Loc} {w w' : World} (hw : w'.heap[l.blk]? = w.heap[l.blk]?) (h : BR ρ b l w) : BR ρ b l w' := by
  cases b with
  | cells vs e m => obtain ⟨cs, fr, h1, h2⟩ := h; exact ⟨cs, fr, hw.trans h1, h2⟩
  | map es clock => obtain ⟨es', h1, h2⟩ := h; exact ⟨es', hw.trans h1, h2⟩
  | siter s pos => exact ⟨hw.trans h.1, h.2⟩
  | loop r => obtain ⟨q, ld, h1, h2⟩ := h; exact ⟨q, ld, hw.trans h1, h2⟩
  | defs => obtain ⟨ds, h1⟩ := h; exact ⟨ds, hw.trans h1⟩
  | dead => trivial

structure HR (ρ : Ren) (h : Heap) (w : World) : Prop where
  n_le : True
  dom : ∀ i l, ρ i = some l → i < h.n ∧ (live (h.get i) = true → l.blk < w.heap.size) ∧ BR ρ (h.get i) l w
  inj : ∀ i j li lj, i ≠ j → ρ i = some li → ρ j = some lj → owned (h.get i) = true → live (h.get j) = true → li.blk ≠ lj.blk

structure Fr (ρ : Ren) (h : Heap) (w : World) (ρ' : Ren) (h' : Heap) (w' : World) : Prop where
  size : w.heap.size ≤ w'.heap.size
  same : ∀ c, c < w.heap.size → (∀ i l, ρ i = some l → owned (h.get i) = true → l.blk ≠ c) → w'.heap[c]? = w.heap[c]?
  new : ∀ i l, ρ' i = some l → owned (h'.get i) = true → w.heap.size ≤ l.blk ∨ ∃ j lj, ρ j = some lj ∧ owned (h.get j) = true ∧ lj.blk = l.blk
  os : w'.os = w.os
  output : w'.output = w.output
  tape : w'.tape = w.tape

/-- All that a block holds names blocks below m alone. -/
def LowB (m : Nat) : Blk → Prop
  | .cells vs _ _ => ∀ v ∈ vs, Low m v
  | .map es _ => ∀ e ∈ es, Low m e.key ∧ Low m e.val
  | .siter _ _ => True
  | .loop r => (∀ i, Low m (r.tmps i)) ∧ r.defers < m
  | .defs => True
  | .dead => True

/-- What the heap's own marks say of what was written. -/
structure Trk (h h' : Heap) : Prop where
  base : h'.base = h.base
  wr : h'.wr ≤ h.wr
  hi : h.hi ≤ h'.hi
  same : ∀ i, i < h.n → i < h'.wr → h'.get i = h.get i
  low : ∀ i m, i < h.base → i < h.n → h'.hi ≤ m → m < big → LowB m (h.get i) → LowB m (h'.get i)
  defs : ∀ i, i < h.n → h.get i = .defs → h'.get i = .defs

theorem Trk.refl (h : Heap) : Trk h h := ⟨rfl, Nat.le_refl _, Nat.le_refl _, fun _ _ _ => rfl, fun _ _ _ _ _ _ hb => hb, fun _ _ hd => hd⟩
theorem Trk.trans {h h₁ h₂ : Heap} (hn : h.n ≤ h₁.n) (p : Trk h h₁) (q : Trk h₁ h₂) : Trk h h₂ :=
  ⟨q.base.trans p.base, Nat.le_trans q.wr p.wr, Nat.le_trans p.hi q.hi,
   fun i hi hw => (q.same i (Nat.lt_of_lt_of_le hi hn) hw).trans (p.same i hi (Nat.lt_of_lt_of_le hw q.wr)),
   fun i m hb hi hm hbig hl => q.low i m (by rw [p.base]; exact hb) (Nat.lt_of_lt_of_le hi hn) hm hbig (p.low i m hb hi (Nat.le_trans q.hi hm) hbig hl),
   fun i hi hd => q.defs i (Nat.lt_of_lt_of_le hi hn) (p.defs i hi hd)⟩

structure Post (ρ : Ren) (h : Heap) (w : World) (ρ' : Ren) (h' : Heap) (w' : World) : Prop where
  n_le : h.n ≤ h'.n
  ext : ∀ i, i < h.n → ρ' i = ρ i
  hr : HR ρ' h' w'
  fr : Fr ρ h w ρ' h' w'
  trk : Trk h h'
  far : ∀ i, i < h.n → ρ i = none → h'.get i = h.get i

section
variable {ρ ρ' ρ₁ ρ₂ : Ren} {h h' h₁ h₂ : Heap} {w w' w₁ w₂ : World}

theorem Post.sub (hr : HR ρ h w) (p : Post ρ h w ρ' h' w') : Sub ρ ρ' := fun b l e => by rw [p.ext b (hr.dom b l e).1]; exact e

theorem Post.refl (hr : HR ρ h w) : Post ρ h w ρ h w :=
  ⟨Nat.le_refl _, fun _ _ => rfl, hr, ⟨Nat.le_refl _, fun _ _ _ => rfl, fun i l e o => .inr ⟨i, l, e, o, rfl⟩, rfl, rfl, rfl⟩, .refl h, fun _ _ _ => rfl⟩

theorem Post.trans (p : Post ρ h w ρ₁ h₁ w₁) (q : Post ρ₁ h₁ w₁ ρ₂ h₂ w₂) : Post ρ h w ρ₂ h₂ w₂ := by
  refine ⟨Nat.le_trans p.n_le q.n_le, fun i hi => (q.ext i (Nat.lt_of_lt_of_le hi p.n_le)).trans (p.ext i hi), q.hr, ?_, p.trk.trans p.n_le q.trk,
    fun i hi e => (q.far i (Nat.lt_of_lt_of_le hi p.n_le) ((p.ext i hi).trans e)).trans (p.far i hi e)⟩
  refine ⟨Nat.le_trans p.fr.size q.fr.size, fun c hc hno => ?_, fun i l e o => ?_, q.fr.os.trans p.fr.os, q.fr.output.trans p.fr.output, q.fr.tape.trans p.fr.tape⟩
  · rw [q.fr.same c (Nat.lt_of_lt_of_le hc p.fr.size) (fun i l e o hl => ?_)]
    · exact p.fr.same c hc hno
    · rcases p.fr.new i l e o with h1 | ⟨j, lj, e1, o1, e2⟩
      · omega
      · exact hno j lj e1 o1 (e2.trans hl)
  · rcases q.fr.new i l e o with h1 | ⟨j, lj, e1, o1, e2⟩
    · exact .inl (Nat.le_trans p.fr.size h1)
    · rcases p.fr.new j lj e1 o1 with h1 | ⟨k, lk, e3, o3, e4⟩
      · exact .inl (e2 ▸ h1)
      · exact .inr ⟨k, lk, e3, o3, e4.trans e2⟩

theorem blt_true {a b : Nat} : Nat.blt a b = true ↔ a < b := by
  unfold Nat.blt; rw [Nat.ble_eq]; exact Iff.rfl
theorem blt_false {a b : Nat} : Nat.blt a b = false ↔ b ≤ a := by
  rw [Bool.eq_false_iff, ne_eq, blt_true]; omega
theorem ble_false {a b : Nat} : Nat.ble a b = false ↔ b < a := by
  rw [Bool.eq_false_iff, ne_eq, Nat.ble_eq]; omega
theorem get_of_lt {i : Nat} (hi : i < h.n) : h.get i = HT.get i h.t := by
  simp [Heap.get, blt_true.2 hi]
theorem get_of_ge {i : Nat} (hi : h.n ≤ i) : h.get i = .dead := by
  simp [Heap.get, blt_false.2 hi]

theorem get_put {i : Nat} {b : Blk} (hn : True) : (h.put b).get i = if i = h.n then b else h.get i := by
  by_cases hi : i < h.n
  · have h1 : i < (h.put b).n := by simp [Heap.put]; omega
    rw [get_of_lt h1, get_of_lt hi, if_neg (by omega)]
    simp only [Heap.put]
    rw [HT.get_set, if_neg (by omega)]
  · by_cases he : i = h.n
    · subst he
      have h1 : h.n < (h.put b).n := by simp [Heap.put]
      rw [get_of_lt h1]
      simp only [Heap.put]
      rw [HT.get_set]; simp
    · rw [get_of_ge (h := h.put b) (by simp [Heap.put]; omega), if_neg he, get_of_ge (by omega)]

theorem get_write {i j : Nat} {b : Blk} {m : Nat} (hn : True) (hi : i < h.n) : (h.write i b m).get j = if j = i then b else h.get j := by
  by_cases hj : j < h.n
  · have h1 : j < (h.write i b m).n := hj
    rw [get_of_lt h1, get_of_lt hj]
    simp only [Heap.write]
    rw [HT.get_set]
    by_cases e : i = j
    · subst e; simp
    · rw [if_neg e, if_neg (fun e' => e e'.symm)]
  · rw [get_of_ge (h := h.write i b m) (by show h.n ≤ j; omega), if_neg (by omega), get_of_ge (by omega)]

/-- One block more. -/
def Ren.add (ρ : Ren) (n : Nat) (l : Loc) : Ren := fun i => if i = n then some l else ρ i

theorem Ren.add_same {n : Nat} {l : Loc} : ρ.add n l n = some l := by simp [Ren.add]
theorem Ren.add_other {n i : Nat} {l : Loc} (hi : i ≠ n) : ρ.add n l i = ρ i := by simp [Ren.add, hi]
theorem HR.none (hr : HR ρ h w) : ρ h.n = none := by
  cases e : ρ h.n with
  | none => rfl
  | some l => have := (hr.dom _ _ e).1; omega
theorem HR.sub_add (hr : HR ρ h w) (l : Loc) : Sub ρ (ρ.add h.n l) := fun b lb e => by
  rw [Ren.add_other]; exact e
  intro hb; subst hb; rw [hr.none] at e; cases e

/-- The world has one block more. -/
structure New1 (o : Obj) (w w' : World) : Prop where
  heap : w'.heap = w.heap.push o
  os : w'.os = w.os
  output : w'.output = w.output
  tape : w'.tape = w.tape

theorem Trk.put {b : Blk} (hn : True) : Trk h (h.put b) := by
  have hg : ∀ i, i < h.n → (h.put b).get i = h.get i := fun i hi => by rw [get_put hn, if_neg (by omega)]
  exact ⟨rfl, Nat.le_refl _, Nat.le_refl _, fun i hi _ => hg i hi, fun i m _ hi _ _ hl => by rw [hg i hi]; exact hl, fun i hi hd => by rw [hg i hi]; exact hd⟩

theorem Trk.write {i m : Nat} {b : Blk} (hn : True) (hi : i < h.n) (ho : owned (h.get i) = true) (hb : ∀ m', m ≤ m' → m' < big → LowB m' (h.get i) → LowB m' b) : Trk h (h.write i b m) := by
  refine ⟨rfl, Nat.min_le_left _ _, ?_, fun j hj hw => ?_, fun j m' hjb hj hm hbig hl => ?_, fun j hj hd => ?_⟩
  · simp only [Heap.write]; split
    · exact Nat.le_max_left _ _
    · exact Nat.le_refl _
  · rw [get_write hn hi, if_neg]
    intro e; subst e
    have : j < Nat.min h.wr j := hw
    have := Nat.lt_of_lt_of_le this (Nat.min_le_right _ _)
    omega
  · rw [get_write hn hi]
    by_cases he : j = i
    · rw [if_pos he]
      subst he
      refine hb m' ?_ hbig hl
      have hbt : Nat.blt j h.base = true := blt_true.2 hjb
      simp only [Heap.write, hbt] at hm
      exact Nat.le_trans (Nat.le_max_right _ _) hm
    · rw [if_neg he]; exact hl
  · rw [get_write hn hi, if_neg]
    · exact hd
    · intro e; subst e; rw [hd] at ho; cases ho

theorem BR.keep {ρ : Ren} {b : Blk} {l : Loc} {w w' : World} (h : BR ρ b l w) (hw : live b = true → w'.heap[l.blk]? = w.heap[l.blk]?) : BR ρ b l w' := by
  cases hb : live b with
  | true => exact h.congr (hw hb)
  | false =>
    have : b = .dead := by cases b <;> simp_all [live]
    rw [this]; trivial
theorem Post.alloc (hr : HR ρ h w) (hn : True) {b : Blk} {l : Loc} {o : Obj} (hl : l.blk = w.heap.size)
    (hw : New1 o w w') (hb : BR (ρ.add h.n l) b l w') : Post ρ h w (ρ.add h.n l) (h.put b) w' := by
  have hsz : w'.heap.size = w.heap.size + 1 := by rw [hw.heap]; simp
  have hold : ∀ c, c < w.heap.size → w'.heap[c]? = w.heap[c]? := fun c hc => by
    rw [hw.heap]; simp [Array.getElem?_push]; omega
  refine ⟨by simp [Heap.put], fun i hi => Ren.add_other (by omega), ⟨trivial, fun i li e => ?_, fun i j li lj hij ei ej oi vj => ?_⟩, ?_, .put hn, fun i hi _ => by rw [get_put hn, if_neg (by omega)]⟩
  · by_cases hi : i = h.n
    · subst hi
      rw [Ren.add_same] at e
      cases e
      refine ⟨by simp [Heap.put], fun _ => by omega, ?_⟩
      rw [get_put hn, if_pos rfl]; exact hb
    · rw [Ren.add_other hi] at e
      obtain ⟨h1, h2, h3⟩ := hr.dom i li e
      refine ⟨by simp [Heap.put]; omega, fun hv => by rw [get_put hn, if_neg hi] at hv; have := h2 hv; omega, ?_⟩
      rw [get_put hn, if_neg hi]
      exact (h3.mono (hr.sub_add l)).keep fun hv => hold _ (h2 hv)
  · by_cases hi : i = h.n
    · have hj : j ≠ h.n := fun e => hij (hi.trans e.symm)
      subst hi
      rw [Ren.add_same] at ei; cases ei
      rw [Ren.add_other hj] at ej
      have := (hr.dom j lj ej).2.1 (by rw [get_put hn, if_neg hj] at vj; exact vj)
      omega
    · rw [Ren.add_other hi] at ei
      rw [get_put hn, if_neg hi] at oi
      have h1 := (hr.dom i li ei).2.1 (live_of_owned oi)
      by_cases hj : j = h.n
      · subst hj; rw [Ren.add_same] at ej; cases ej; omega
      · rw [Ren.add_other hj] at ej
        rw [get_put hn, if_neg hj] at vj
        exact hr.inj i j li lj hij ei ej oi vj
  · refine ⟨by omega, fun c hc _ => hold c hc, fun i li e o => ?_, hw.os, hw.output, hw.tape⟩
    by_cases hi : i = h.n
    · subst hi; rw [Ren.add_same] at e; cases e; exact .inl (by omega)
    · rw [Ren.add_other hi] at e
      rw [get_put hn, if_neg hi] at o
      exact .inr ⟨i, li, e, o, rfl⟩

/-- The world differs at one block alone. -/
structure At1 (c : Nat) (w w' : World) : Prop where
  size : w'.heap.size = w.heap.size
  other : ∀ d, d ≠ c → w'.heap[d]? = w.heap[d]?
  os : w'.os = w.os
  output : w'.output = w.output
  tape : w'.tape = w.tape

theorem At1.refl (c : Nat) : At1 c w w := ⟨rfl, fun _ _ => rfl, rfl, rfl, rfl⟩

theorem Post.write (hr : HR ρ h w) {i : Nat} {l : Loc} {b : Blk} {m : Nat} (hi : ρ i = some l) (ho : owned (h.get i) = true) (ha : At1 l.blk w w')
    (hb : BR ρ b l w') (hlow : ∀ m', m ≤ m' → m' < big → LowB m' (h.get i) → LowB m' b) : Post ρ h w ρ (h.write i b m) w' := by
  have hin := (hr.dom i l hi).1
  refine ⟨Nat.le_refl _, fun _ _ => rfl, ⟨hr.n_le, fun j lj e => ?_, fun j k lj lk hjk ej ek oj vk => ?_⟩, ?_, .write hr.n_le hin ho hlow, fun j _ e => by rw [get_write hr.n_le hin, if_neg (fun e' => by subst e'; rw [hi] at e; cases e)]⟩
  · obtain ⟨h1, h2, h3⟩ := hr.dom j lj e
    refine ⟨h1, fun hv => ?_, ?_⟩
    · rw [ha.size]
      rw [get_write hr.n_le hin] at hv
      by_cases hj : j = i
      · subst hj; rw [hi] at e; cases e; exact h2 (live_of_owned ho)
      · rw [if_neg hj] at hv; exact h2 hv
    rw [get_write hr.n_le hin]
    by_cases hj : j = i
    · subst hj; rw [hi] at e; cases e; rw [if_pos rfl]; exact hb
    · rw [if_neg hj]
      by_cases hd : live (h.get j) = true
      · exact h3.congr (ha.other _ (fun e' => hr.inj i j l lj (fun e => hj e.symm) hi e ho hd e'.symm))
      · have : h.get j = .dead := by cases hg : h.get j <;> simp_all [live]
        rw [this]; trivial
  · rw [get_write hr.n_le hin] at oj vk
    by_cases hj : j = i
    · subst hj
      rw [hi] at ej; cases ej
      rw [if_neg (fun e => hjk e.symm)] at vk
      exact hr.inj j k _ lk hjk hi ek ho vk
    · rw [if_neg hj] at oj
      by_cases hk : k = i
      · subst hk
        rw [hi] at ek; cases ek
        exact fun e => hr.inj k j _ lj (fun e => hjk e.symm) hi ej ho (live_of_owned oj) e.symm
      · rw [if_neg hk] at vk
        exact hr.inj j k lj lk hjk ej ek oj vk
  · refine ⟨by rw [ha.size]; exact Nat.le_refl _, fun c hc hno => ha.other c (fun e => hno i l hi ho e.symm), fun j lj e o => ?_, ha.os, ha.output, ha.tape⟩
    by_cases hj : j = i
    · subst hj; rw [hi] at e; cases e; exact .inr ⟨j, _, hi, ho, rfl⟩
    · rw [get_write hr.n_le hin, if_neg hj] at o
      exact .inr ⟨j, lj, e, o, rfl⟩

/-- A block is given up, and a new one takes its row over (in place, with what lies behind it) or lies in new memory. -/
theorem Post.take (hr : HR ρ h w) (hn : True) {i : Nat} {l l' : Loc} {b : Blk} {m : Nat} (hi : ρ i = some l) (ho : owned (h.get i) = true) (ha : At1 l.blk w w')
    (hl : l'.blk = l.blk) (hb : BR (ρ.add h.n l') b l' w') : Post ρ h w (ρ.add h.n l') ((h.write i .dead m).put b) w' := by
  have hin := (hr.dom i l hi).1
  have hn' : True := hn
  have hget : ∀ j, ((h.write i .dead m).put b).get j = if j = h.n then b else if j = i then .dead else h.get j := fun j => by
    rw [get_put hn', get_write hr.n_le hin]; rfl
  refine ⟨by simp [Heap.put, Heap.write], fun j hj => Ren.add_other (by omega), ⟨trivial, fun j lj e => ?_, fun j k lj lk hjk ej ek oj vk => ?_⟩, ?_, Trk.trans (h₁ := h.write i .dead m) (Nat.le_refl _) (Trk.write hr.n_le hin ho fun _ _ _ _ => trivial) (Trk.put hn'),
    fun j hj e => by rw [hget, if_neg (by omega), if_neg (fun e' => by subst e'; rw [hi] at e; cases e)]⟩
  · rw [hget]
    by_cases hj : j = h.n
    · subst hj
      rw [Ren.add_same] at e; cases e
      have := (hr.dom i l hi).2.1 (live_of_owned ho)
      refine ⟨by simp [Heap.put, Heap.write], fun _ => by rw [ha.size, hl]; exact this, ?_⟩
      rw [if_pos rfl]; exact hb
    · rw [Ren.add_other hj] at e
      obtain ⟨h1, h2, h3⟩ := hr.dom j lj e
      refine ⟨by simp [Heap.put, Heap.write]; omega, fun hv => ?_, ?_⟩
      · rw [ha.size]
        rw [if_neg hj] at hv
        by_cases hji : j = i
        · rw [if_pos hji] at hv; cases hv
        · rw [if_neg hji] at hv; exact h2 hv
      rw [if_neg hj]
      by_cases hji : j = i
      · rw [if_pos hji]; trivial
      · rw [if_neg hji]
        by_cases hd : live (h.get j) = true
        · exact (h3.mono (hr.sub_add l')).congr (ha.other _ (fun e' => hr.inj i j l lj (fun e => hji e.symm) hi e ho hd e'.symm))
        · have : h.get j = .dead := by cases hg : h.get j <;> simp_all [live]
          rw [this]; trivial
  · rw [hget] at oj vk
    by_cases hj : j = h.n
    · subst hj
      have hk : k ≠ h.n := fun e => hjk e.symm
      rw [Ren.add_same] at ej; cases ej
      rw [Ren.add_other hk] at ek
      rw [if_neg hk] at vk
      by_cases hki : k = i
      · rw [if_pos hki] at vk; cases vk
      · rw [if_neg hki] at vk
        rw [hl]
        exact hr.inj i k l lk (fun e => hki e.symm) hi ek ho vk
    · rw [if_neg hj] at oj
      rw [Ren.add_other hj] at ej
      by_cases hji : j = i
      · rw [if_pos hji] at oj; cases oj
      · rw [if_neg hji] at oj
        by_cases hk : k = h.n
        · subst hk
          rw [Ren.add_same] at ek; cases ek
          rw [hl]
          exact fun e => hr.inj i j l lj (fun e => hji e.symm) hi ej ho (live_of_owned oj) e.symm
        · rw [Ren.add_other hk] at ek
          rw [if_neg hk] at vk
          by_cases hki : k = i
          · rw [if_pos hki] at vk; cases vk
          · rw [if_neg hki] at vk
            exact hr.inj j k lj lk hjk ej ek oj vk
  · refine ⟨by rw [ha.size]; exact Nat.le_refl _, fun c hc hno => ha.other c (fun e => hno i l hi ho e.symm), fun j lj e o => ?_, ha.os, ha.output, ha.tape⟩
    rw [hget] at o
    by_cases hj : j = h.n
    · subst hj; rw [Ren.add_same] at e; cases e; exact .inr ⟨i, l, hi, ho, hl.symm⟩
    · rw [if_neg hj] at o
      rw [Ren.add_other hj] at e
      by_cases hji : j = i
      · rw [if_pos hji] at o; cases o
      · rw [if_neg hji] at o; exact .inr ⟨j, lj, e, o, rfl⟩
end
end Go.AM
namespace Go.AM
open Go

section
variable {P : Program} {ρ : Ren} {h h' : Heap} {w : World}

theorem under_ok {t : TypeId} {d : TypeDesc} : under P t = .ok d ↔ P.underlying t = some d := ofOpt_ok
theorem tsize_ok {t : TypeId} {n : Nat} : tsize P t = .ok n ↔ ∃ i, P.info? t = some i ∧ i.size = n := by
  simp [tsize, bindR_ok, ofOpt_ok]
theorem tbytes_ok {t : TypeId} {n : Nat} : tbytes P t = .ok n ↔ ∃ i, P.info? t = some i ∧ i.bytes = n := by
  simp [tbytes, bindR_ok, ofOpt_ok]
theorem tzero_ok {t : TypeId} {v : Value} (hh : tzero P t = .ok v) : plainV 20 v = true ∧ ∃ i, P.info? t = some i ∧ i.zero = some v := by
  simp only [tzero, bindR_ok, ofOpt_ok, must_ok] at hh
  obtain ⟨i, hi, z, hz, _, hp, he⟩ := hh
  cases he
  exact ⟨hp, i, hi, hz⟩

theorem run_typeInfo {t : TypeId} {i : TypeInfo} (hi : P.info? t = some i) : (typeInfo t).run P w = .ok i w := by simp [typeInfo, hi]
theorem run_sizeOf {t : TypeId} {n : Nat} (hn : tsize P t = .ok n) : (sizeOf t).run P w = .ok n w := by
  obtain ⟨i, hi, rfl⟩ := tsize_ok.1 hn; simp [sizeOf, typeInfo, hi]
theorem run_zeroValue {t : TypeId} {v : Value} (hv : tzero P t = .ok v) : (zeroValue t).run P w = .ok v w := by
  obtain ⟨_, i, hi, hz⟩ := tzero_ok hv; simp [zeroValue, typeInfo, hi, hz]
theorem run_under {t : TypeId} {d : TypeDesc} (hd : under P t = .ok d) : (underlying t).run P w = .ok d w := run_underlying (under_ok.1 hd) w
theorem run_isAgg {t : TypeId} {d : TypeDesc} (hd : under P t = .ok d) : (isAgg t).run P w = .ok (isAggD d) w := by
  simp only [isAgg, Sem.run_bind, run_under hd, Result.andThen_ok]
  cases d <;> rfl

theorem add_none (b o n : Nat) : (⟨b, o, none⟩ : Addr).add n = ⟨b, o + n, none⟩ := by
  unfold Addr.add; split
  · rename_i h; subst h; rfl
  · rfl

/-! ### Rows -/
theorem row_cell {l : Loc} {vs : List Value} {e : TypeId} {m : Mode} (hr : Row ρ vs e m l w) {i : Nat} {v : Value} (hv : vs[i]? = some v) :
    ∃ c, w.cell? ⟨l.blk, l.base + i, none⟩ = some c ∧ VR ρ v c := by
  obtain ⟨cs, fr, h1, h2, h3, h4, h5⟩ := hr
  obtain ⟨c, hc, hvc⟩ := h4.get hv
  refine ⟨c, ?_, hvc⟩
  obtain ⟨hi, _⟩ := List.getElem?_eq_some_iff.1 hv
  simp only [World.cell?, h1, Option.isSome_none, Bool.false_eq_true, if_false]
  rw [List.getElem?_take, if_pos hi, List.getElem?_drop] at hc
  simpa using hc

theorem cellsAt_ok {vs r : List Value} {i n : Nat} (hh : cellsAt vs i n = .ok r) : i + n ≤ vs.length ∧ r = (vs.drop i).take n := by
  unfold cellsAt at hh
  split at hh
  · rename_i hb; cases hh; exact ⟨by simpa [Nat.ble_eq] using hb, rfl⟩
  · cases hh

theorem cellsAt_len {vs r : List Value} {i n : Nat} (hh : cellsAt vs i n = .ok r) : r.length = n := by
  obtain ⟨h1, rfl⟩ := cellsAt_ok hh
  simp; omega

/-- Some cells of a row, as they lie in the world. -/
theorem row_cells {l : Loc} {vs r : List Value} {e : TypeId} {m : Mode} (hr : Row ρ vs e m l w) {i n : Nat} (hh : cellsAt vs i n = .ok r) :
    ∃ cs : List Value, VL ρ r cs ∧ ∀ j c, cs[j]? = some c → w.cell? ⟨l.blk, l.base + i + j, none⟩ = some c := by
  obtain ⟨h1, rfl⟩ := cellsAt_ok hh
  obtain ⟨cs, fr, g1, g2, g3, g4, g5⟩ := hr
  refine ⟨((cs.toList.drop l.base).take vs.length |>.drop i).take n, (g4.drop i).take n, fun j c hc => ?_⟩
  simp only [World.cell?, g1, Option.isSome_none, Bool.false_eq_true, if_false]
  have hj : j < n := by
    have := (List.getElem?_eq_some_iff.1 hc).1
    simp only [List.length_take] at this; omega
  rw [List.getElem?_take, if_pos hj, List.getElem?_drop, List.getElem?_take, if_pos (by omega), List.getElem?_drop] at hc
  rw [Nat.add_assoc]
  simpa using hc

theorem readW_sound {vs : List Value} {off : Nat} {wd : Option Nat} {v : Value} (hh : readW vs off wd = .ok v) {cs : List Value} (hl : VL ρ vs cs) :
    ∃ c, readW cs off wd = .ok c ∧ VR ρ v c := by
  cases wd with
  | none =>
    simp only [readW, cell] at hh ⊢
    split at hh
    · rename_i x hx; cases hh
      obtain ⟨c, hc, hv⟩ := hl.get hx
      exact ⟨c, by rw [hc], hv⟩
    · cases hh
  | some n =>
    simp only [readW, bindR_ok] at hh
    obtain ⟨r, hr, hv⟩ := hh
    cases hv
    obtain ⟨h1, rfl⟩ := cellsAt_ok hr
    refine ⟨.agg ((cs.drop off).take n).toArray, ?_, .agg' ((hl.drop off).take n)⟩
    simp only [readW, cellsAt]
    rw [← hl.1, Nat.ble_eq.mpr h1]
    rfl

theorem wide_ok {t : TypeId} {wd : Option Nat} (hh : wide P t = .ok wd) :
    ∃ d n, under P t = .ok d ∧ tsize P t = .ok n ∧ wd = match isAggD d with | true => some n | false => none := by
  simp only [wide, bindR_ok] at hh
  obtain ⟨d, hd, n, hn, h1⟩ := hh
  cases h1
  exact ⟨d, n, hd, hn, rfl⟩

theorem run_part {t : TypeId} {cs : Array Value} {off : Nat} {v : Value} (hh : partV P t cs off = .ok v) : (part t cs off).run P w = .ok v w := by
  simp only [partV, bindR_ok] at hh
  obtain ⟨wd, hw, hv⟩ := hh
  obtain ⟨d, n, hd, hn, rfl⟩ := wide_ok hw
  simp only [part, Sem.run_bind, run_isAgg hd, Result.andThen_ok]
  cases hag : isAggD d with
  | true =>
    simp only [hag, readW, bindR_ok] at hv
    obtain ⟨r, hr, hv⟩ := hv
    cases hv
    obtain ⟨h1, rfl⟩ := cellsAt_ok hr
    simp only [if_true, Sem.run_bind, run_sizeOf hn, Result.andThen_ok, Sem.run_pure]
    congr 2
    apply Array.ext'
    simp [List.take_drop]
  | false =>
    simp only [hag, readW, cell] at hv
    split at hv
    · rename_i x hx; cases hv
      have : cs[off]? = some v := by simpa using hx
      simp [this]
    · cases hv

theorem partV_sound {t : TypeId} {cs ds : Array Value} {off : Nat} {v : Value} (hh : partV P t cs off = .ok v) (hl : VL ρ cs.toList ds.toList) :
    ∃ c, partV P t ds off = .ok c ∧ VR ρ v c := by
  simp only [partV, bindR_ok] at hh
  obtain ⟨wd, hw, hv⟩ := hh
  obtain ⟨c, hc, hr⟩ := readW_sound hv hl
  exact ⟨c, by simp only [partV, hw, bindR, hc], hr⟩

theorem loadA_sound (hr : HR ρ h w) {t : TypeId} {a : Addr} {v : Value} {l : Loc} (hl : ρ a.block = some l) (hh : loadA P h t a = .ok v) :
    a.spot = none ∧ ∃ c, (loadVar t ⟨l.blk, l.base + a.off, none⟩).run P w = .ok c w ∧ VR ρ v c := by
  unfold loadA at hh
  split at hh
  case h_2 => cases hh
  rename_i vs e m hg hs
  refine ⟨hs, ?_⟩
  have hb := (hr.dom _ _ hl).2.2
  rw [hg] at hb
  simp only [bindR_ok] at hh
  obtain ⟨wd, hw, hv⟩ := hh
  obtain ⟨d, n, hd, hn, rfl⟩ := wide_ok hw
  simp only [loadVar, Sem.run_bind, run_isAgg hd, Result.andThen_ok]
  cases hag : isAggD d with
  | true =>
    simp only [hag, readW, bindR_ok] at hv
    obtain ⟨r, hr', hv⟩ := hv
    cases hv
    obtain ⟨cs, hvl, hcs⟩ := row_cells hb hr'
    have hlen : cs.length = n := by rw [← hvl.1]; exact cellsAt_len hr'
    have hrun := run_loadCells_list (P := P) w ⟨l.blk, l.base + a.off, none⟩ cs (fun j v hv => by rw [add_none]; exact hcs j v hv)
    rw [hlen] at hrun
    refine ⟨.agg cs.toArray, by simp [run_sizeOf hn, hrun], .agg' hvl⟩
  | false =>
    simp only [hag, readW, cell] at hv
    split at hv
    · rename_i x hx; cases hv
      obtain ⟨c, hc, hvc⟩ := row_cell hb hx
      exact ⟨c, by simp [hc], hvc⟩
    · cases hv

theorem loadV_sound (hr : HR ρ h w) {t : TypeId} {a ca v : Value} (ha : VR ρ a ca) (hh : loadV P h t a = .ok v) :
    ∃ c, (Instr.loadAt t ca).run P w = .ok c w ∧ VR ρ v c := by
  cases ha <;> simp only [loadV, reduceCtorEq] at hh
  rename_i b o l hl
  obtain ⟨_, c, h1, h2⟩ := loadA_sound hr (a := ⟨b, o, none⟩) hl hh
  exact ⟨c, by simpa [Instr.loadAt, Instr.sureAddr] using h1, h2⟩

/-! ### Stores -/
theorem setAt_length : ∀ (vs : List Value) (i : Nat) (xs : List Value), (setAt vs i xs).length = vs.length
  | vs, _, [] => by simp [setAt]
  | [], _, _ :: _ => by simp [setAt]
  | v :: vs, 0, x :: xs => by simp [setAt, setAt_length vs 0 xs]
  | v :: vs, i + 1, x :: xs => by simp [setAt, setAt_length vs i (x :: xs)]

theorem setAt_eq : ∀ (vs : List Value) (i : Nat) (xs : List Value), i + xs.length ≤ vs.length → setAt vs i xs = vs.take i ++ xs ++ vs.drop (i + xs.length)
  | vs, i, [], _ => by simp [setAt]
  | [], i, _ :: _, h => by simp at h
  | v :: vs, 0, x :: xs, h => by
    have := setAt_eq vs 0 xs (by simpa using h)
    simp only [setAt, this]; simp
  | v :: vs, i + 1, x :: xs, h => by
    have := setAt_eq vs i (x :: xs) (by simp at h ⊢; omega)
    simp only [setAt, this]
    rw [show i + 1 + (x :: xs).length = (i + (x :: xs).length) + 1 by omega]
    simp

theorem setAt_mem : ∀ (vs : List Value) (i : Nat) (xs : List Value) (v : Value), v ∈ setAt vs i xs → v ∈ vs ∨ v ∈ xs
  | vs, _, [], v, h => by simp only [setAt] at h; exact .inl h
  | [], _, _ :: _, v, h => by simp [setAt] at h
  | a :: vs, 0, x :: xs, v, h => by
    simp only [setAt, List.mem_cons] at h
    rcases h with rfl | h
    · exact .inr (List.mem_cons_self ..)
    · rcases setAt_mem vs 0 xs v h with h | h
      · exact .inl (List.mem_cons_of_mem _ h)
      · exact .inr (List.mem_cons_of_mem _ h)
  | a :: vs, i + 1, x :: xs, v, h => by
    simp only [setAt, List.mem_cons] at h
    rcases h with rfl | h
    · exact .inl (List.mem_cons_self ..)
    · rcases setAt_mem vs i (x :: xs) v h with h | h
      · exact .inl (List.mem_cons_of_mem _ h)
      · exact .inr h
theorem idsL_le : ∀ (xs : List Value) (v : Value), v ∈ xs → ids v ≤ idsL xs
  | x :: xs, v, h => by
    have e : idsL (x :: xs) = Nat.max (ids x) (idsL xs) := rfl
    rw [e]
    rcases List.mem_cons.1 h with rfl | h
    · exact Nat.le_max_left _ _
    · exact Nat.le_trans (idsL_le xs v h) (Nat.le_max_right _ _)

theorem isCell_rel {v c : Value} (h : VR ρ v c) : isCell c = isCell v := by cases h <;> rfl
theorem oneCell_isCell (c : Value) : c.oneCell' = isCell c := by cases c <;> rfl
theorem VL.all_cell {as bs : List Value} (hl : VL ρ as bs) (ha : as.all isCell = true) : ∀ v ∈ bs, v.oneCell' = true := by
  intro v hv
  obtain ⟨i, hi⟩ := List.mem_iff_getElem?.1 hv
  have hi' : i < as.length := by rw [hl.1]; exact (List.getElem?_eq_some_iff.1 hi).1
  have h1 := hl.2 i hi'
  have h2 : gl bs i = v := by simp [gl, List.getD, hi]
  rw [h2] at h1
  rw [oneCell_isCell, isCell_rel h1]
  exact List.all_eq_true.1 ha _ (gl_mem hi')

theorem At1.setRow (g : Nat) (cs : Array Value) : At1 g w (w.setRow g cs) :=
  ⟨by simp, fun d hd => setRow_other w g d cs hd, rfl, rfl, rfl⟩

/-- Cells of an owned row that are written. -/
theorem storeCells_sound (hr : HR ρ h w) {b off : Nat} {l : Loc} (hl : ρ b = some l) {xs cs : List Value} (hx : VL ρ xs cs) (hh : storeCells h b off xs = .ok h') :
    ∃ w', (Go.storeCells ⟨l.blk, l.base + off, none⟩ cs).run P w = .ok () w' ∧ Post ρ h w ρ h' w' := by
  unfold storeCells at hh
  split at hh
  case h_2 => cases hh
  rename_i vs e m hg
  split at hh
  case h_1 => cases hh
  rename_i hm
  simp only [bindR_ok, must_ok, Bool.and_eq_true, Nat.ble_eq] at hh
  obtain ⟨_, ⟨h1, h2⟩, h3⟩ := hh
  cases h3
  have hb := (hr.dom _ _ hl).2.2
  rw [hg] at hb
  obtain ⟨row, fr, g1, g2, g3, g4, g5⟩ := hb
  have hfr : fr = (0, 0) := g2 (fun es e => hm es e)
  subst hfr
  have hrun := run_storeCells_at P l.blk (l.base + off) e cs 0 row w g1 (by rw [← hx.1]; omega) (hx.all_cell h2)
  refine ⟨_, hrun, ?_⟩
  have ho : owned (h.get b) = true := by rw [hg]; cases m <;> simp_all [owned]
  refine Post.write hr hl ho (At1.setRow _ _) ?_ ?_
  rotate_left
  · intro m' hm' hbig hlow
    rw [hg] at hlow
    intro v hv
    rcases setAt_mem _ _ _ _ hv with hv | hv
    · exact hlow v hv
    · obtain ⟨i, hi⟩ := List.mem_iff_getElem?.1 hv
      obtain ⟨c, _, hvc⟩ := hx.get hi
      exact Low.of_ids hvc hbig (Nat.le_trans (idsL_le _ v hv) hm')
  refine ⟨_, (0, 0), setRow_heap w l.blk row _ e (0, 0) g1, fun _ => rfl, ⟨fun es e' => ?_, g3.2⟩, ?_, ?_⟩
  · have := g3.1 es e'
    simp only [Nat.add_zero, List.size_toArray, List.length_append, List.length_take, List.length_drop, Array.length_toList]
    have hc := hx.1
    omega
  · rw [setAt_length, setAt_eq _ _ _ h1]
    have hc := hx.1
    have hsplit : (((row.toList.take (l.base + off + 0) ++ cs ++ row.toList.drop (l.base + off + 0 + cs.length)).toArray.toList.drop l.base).take vs.length) =
        ((row.toList.drop l.base).take vs.length).take off ++ cs ++ ((row.toList.drop l.base).take vs.length).drop (off + xs.length) := by
      simp only [Nat.add_zero]
      apply List.ext_getElem?
      intro j
      have hrl : row.toList.length = row.size := by simp
      simp only [List.getElem?_take, List.getElem?_drop, List.getElem?_append, List.length_take, List.length_append, List.length_drop]
      by_cases hj1 : j < off
      · have e1 : l.base + j < min (l.base + off) row.toList.length + cs.length := by omega
        have e2 : l.base + j < min (l.base + off) row.toList.length := by omega
        have e3 : l.base + j < l.base + off := by omega
        have e4 : j < vs.length := by omega
        have e5 : j < min off (min vs.length (row.toList.length - l.base)) := by omega
        have e6 : j < min off (min vs.length (row.toList.length - l.base)) + cs.length := by omega
        simp only [e1, e2, e3, e4, e5, e6, hj1, if_true]
      · by_cases hj2 : j < off + cs.length
        · have e1 : l.base + j < min (l.base + off) row.toList.length + cs.length := by omega
          have e2 : ¬ l.base + j < min (l.base + off) row.toList.length := by omega
          have e4 : j < vs.length := by omega
          have e5 : ¬ j < min off (min vs.length (row.toList.length - l.base)) := by omega
          have e6 : j < min off (min vs.length (row.toList.length - l.base)) + cs.length := by omega
          have e7 : l.base + j - min (l.base + off) row.toList.length = j - min off (min vs.length (row.toList.length - l.base)) := by omega
          simp only [e1, e2, e4, e5, e6, e7, if_true, if_false]
        · have e1 : ¬ l.base + j < min (l.base + off) row.toList.length + cs.length := by omega
          have e5 : ¬ j < min off (min vs.length (row.toList.length - l.base)) + cs.length := by omega
          simp only [e1, e5, if_false]
          by_cases e4 : j < vs.length
          · have e8 : off + xs.length + (j - (min off (min vs.length (row.toList.length - l.base)) + cs.length)) = j := by omega
            have e9 : l.base + off + cs.length + (l.base + j - (min (l.base + off) row.toList.length + cs.length)) = l.base + j := by omega
            simp only [e4, e8, e9, if_true]
          · have e8 : ¬ off + xs.length + (j - (min off (min vs.length (row.toList.length - l.base)) + cs.length)) < vs.length := by omega
            simp only [e4, e8, if_false]
    rw [hsplit]
    exact (VL.append (VL.append (g4.take off) hx) (g4.drop _))
  · rw [setAt_length]
    simp only [Nat.add_zero, List.size_toArray, List.length_append, List.length_take, List.length_drop, Array.length_toList]
    have hc := hx.1
    omega

theorem cells_rel {v c : Value} (hv : VR ρ v c) : VL ρ v.cells.toList c.cells.toList := by
  cases hv with
  | agg h₁ h₂ => exact ⟨by simpa [Value.cells] using h₁, fun i hi => h₂ i (by simpa [Value.cells] using hi)⟩
  | bool b => exact .cons (.bool b) .nil
  | int k n => exact .cons (.int k n) .nil
  | string s => exact .cons (.string s) .nil
  | nilPtr => exact .cons .nilPtr .nil
  | ptr e => exact .cons (.ptr e) .nil
  | nilSlice => exact .cons .nilSlice .nil
  | slice e hc => exact .cons (.slice e hc) .nil
  | sliceU e a b c => exact .cons (.sliceU e a b c) .nil
  | empty0 e => exact .cons (.empty0 e) .nil
  | nilMap => exact .cons .nilMap .nil
  | map e => exact .cons (.map e) .nil
  | func f a b c d => exact .cons (.func f a b c d) .nil
  | yield e => exact .cons (.yield e) .nil
  | nilFunc => exact .cons .nilFunc .nil
  | nilIface => exact .cons .nilIface .nil
  | iface t e => exact .cons (.iface t e) .nil
  | tuple a b => exact .cons (.tuple a b) .nil

theorem storeV_sound (hr : HR ρ h w) {t : TypeId} {a ca x cx : Value} (ha : VR ρ a ca) (hx : VR ρ x cx) (hh : storeV P h t a x = .ok h') :
    ∃ w', (Instr.storeAt t ca cx).run P w = .ok () w' ∧ Post ρ h w ρ h' w' := by
  cases ha <;> simp only [storeV, reduceCtorEq] at hh
  rename_i b o l hl
  simp only [bindR_ok, must_ok] at hh
  obtain ⟨n, hn, _, h1, h2⟩ := hh
  have hlen : x.cells.toList.length = n := by simpa using Nat.eq_of_beq_eq_true h1
  have hc := cells_rel hx
  obtain ⟨w', h3, h4⟩ := storeCells_sound (P := P) hr hl hc h2
  refine ⟨w', ?_, h4⟩
  have hsz : cx.cells.size = n := by rw [← hlen, hc.1]; simp
  simp [Instr.storeAt, Instr.sureAddr, storeVar, run_sizeOf hn, hsz, h3]
end
end Go.AM
namespace Go.AM
open Go

section
variable {P : Program} {ρ : Ren} {h h' : Heap} {w : World}

/-- A value and a heap out of an operation that the world follows. -/
def Out (P : Program) (ρ : Ren) (h : Heap) (w : World) (s : Sem Value) (v : Value) (h' : Heap) : Prop :=
  ∃ c w' ρ', s.run P w = .ok c w' ∧ VR ρ' v c ∧ Post ρ h w ρ' h' w'
/-- A value alone; the world stays. -/
def Same (P : Program) (ρ : Ren) (w : World) (s : Sem Value) (v : Value) : Prop := ∃ c, s.run P w = .ok c w ∧ VR ρ v c

theorem Same.out (hr : HR ρ h w) {s : Sem Value} {v : Value} (hs : Same P ρ w s v) : Out P ρ h w s v h :=
  let ⟨c, h1, h2⟩ := hs; ⟨c, w, ρ, h1, h2, .refl hr⟩

theorem room_ok {u : Unit} : h.room = .ok u ↔ True := by simp [Heap.room]

theorem row_new {ρ : Ren} {vs cs : List Value} {e : TypeId} {m : Mode} {l : Loc} {w' : World} (hv : VL ρ vs cs) (hl : l.base = 0) (hs : l.size = cs.length) (hes : ∀ es, m.es = some es → l.es = es)
    (hw : w'.heap[l.blk]? = some (.cells cs.toArray e (0, 0))) : Row ρ vs e m l w' := by
  refine ⟨cs.toArray, (0, 0), hw, fun _ => rfl, ⟨fun _ _ => by simp [hs], hes⟩, ?_, by have := hv.1; simp [hl]; omega⟩
  rw [hl, hv.1]
  simpa using hv

theorem new1_row (e : TypeId) (cs : Array Value) : New1 (.cells cs e) w { w with heap := w.heap.push (.cells cs e) } := ⟨rfl, rfl, rfl, rfl⟩

theorem rowV_sound (hr : HR ρ h w) {e : TypeId} {vs cs : List Value} {v : Value} (hv : VL ρ vs cs) (hh : rowV h e vs = .ok (v, h')) :
    ∃ c w' ρ', (newRow e cs.toArray).run P w = .ok c w' ∧ VR ρ' v (.pointer (some c)) ∧ Post ρ h w ρ' h' w' := by
  simp only [rowV, bindR_ok, room_ok] at hh
  obtain ⟨_, hn, _, h1, h2⟩ := hh
  simp only [Except.ok.injEq, Prod.mk.injEq] at h2
  obtain ⟨rfl, rfl⟩ := h2
  refine ⟨⟨w.heap.size, 0, none⟩, { w with heap := w.heap.push (.cells cs.toArray e) }, ρ.add h.n ⟨w.heap.size, 0, cs.length, 0⟩, by simp [newRow], ?_, ?_⟩
  · exact .ptr (l := ⟨w.heap.size, 0, cs.length, 0⟩) (o := 0) Ren.add_same
  · exact Post.alloc hr hn (l := ⟨w.heap.size, 0, cs.length, 0⟩) rfl (new1_row e cs.toArray) (row_new (hv.mono (hr.sub_add _)) rfl rfl (fun es e => by cases e) (by simp))

/-! ### Addresses and slices -/
theorem intOf_ok {v : Value} {n : Int} (hh : intOf v = .ok n) : ∃ k, v = .int k n := by
  cases v <;> simp [intOf] at hh
  rename_i k m; exact ⟨k, by rw [hh]⟩
theorem int_rel {k : IntKind} {n : Int} {c : Value} (hv : VR ρ (.int k n) c) : c = .int k n := by cases hv; rfl
theorem intOf_sound {v c : Value} {n : Int} (hv : VR ρ v c) (hh : intOf v = .ok n) : ∃ k, v = .int k n ∧ c = .int k n := by
  obtain ⟨k, rfl⟩ := intOf_ok hh; exact ⟨k, rfl, int_rel hv⟩

theorem fieldAddrV_sound {s : TypeId} {x cx v : Value} {f : Nat} (hx : VR ρ x cx) (hh : fieldAddrV P s x f = .ok v) : Same P ρ w (Instr.fieldAt s cx f) v := by
  simp only [fieldAddrV, bindR_ok] at hh
  obtain ⟨d, hd, hh⟩ := hh
  split at hh
  case h_2 => cases hh
  rename_i fields a
  simp only [bindR_ok, must_ok, ofOpt_ok, blt_true] at hh
  obtain ⟨fd, hfd, n, hn, _, h1, h2⟩ := hh
  cases h2
  cases hx
  rename_i b o l hl
  refine ⟨.pointer (some ⟨l.blk, l.base + (o + fd.offset), none⟩), ?_, by rw [add_none]; exact .ptr hl⟩
  have hz : ¬ n = 0 := by omega
  simp [Instr.fieldAt, run_under hd, hfd, Instr.sureAddr, fieldPlace, run_sizeOf hn, hz, add_none, Nat.add_assoc]

theorem inRange_ok {i : Int} {len n : Nat} (hh : inRange i len = .ok n) : 0 ≤ i ∧ i < (len : Int) ∧ n = i.toNat := by
  simp only [inRange, bindR_ok, must_ok, Bool.and_eq_true, decide_eq_true_eq] at hh
  obtain ⟨_, ⟨h1, h2⟩, h3⟩ := hh
  cases h3
  exact ⟨h1, h2, rfl⟩

theorem indexAddrV_sound {t : TypeId} {x cx i ci v : Value} (hx : VR ρ x cx) (hi : VR ρ i ci) (hh : indexAddrV P t x i = .ok v) : Same P ρ w (Instr.indexAt t cx ci) v := by
  simp only [indexAddrV, bindR_ok] at hh
  obtain ⟨k, hk, d, hd, hh⟩ := hh
  obtain ⟨ik, rfl, rfl⟩ := intOf_sound hi hk
  split at hh
  · rename_i len e a
    simp only [bindR_ok] at hh
    obtain ⟨j, hj, n, hn, h2⟩ := hh
    cases h2
    obtain ⟨h0, h1, rfl⟩ := inRange_ok hj
    cases hx
    rename_i b o l hl
    refine ⟨.pointer (some ⟨l.blk, l.base + (o + k.toNat * n), none⟩), ?_, by rw [add_none]; exact .ptr hl⟩
    have hc : 0 ≤ k ∧ k < (len : Int) := ⟨h0, h1⟩
    simp [Instr.indexAt, asIntOf, run_under hd, Instr.sureAddr, hc, run_sizeOf hn, add_none, Nat.add_assoc]
  · rename_i e a len cap
    simp only [bindR_ok] at hh
    obtain ⟨j, hj, n, hn, h2⟩ := hh
    cases h2
    obtain ⟨h0, h1, rfl⟩ := inRange_ok hj
    have hc : 0 ≤ k ∧ k < (len : Int) := ⟨h0, h1⟩
    cases hx with
    | slice hl hcap =>
      rename_i b o l
      refine ⟨.pointer (some ⟨l.blk, l.base + (o + k.toNat * n), none⟩), ?_, by rw [add_none]; exact .ptr hl⟩
      simp [Instr.indexAt, asIntOf, run_under hd, hc, run_sizeOf hn, add_none, Nat.add_assoc]
    | empty0 _ => omega
    | sliceU hl hcap hn' ho =>
      rename_i b o o' c' l
      have ho' : o' = l.base + o := by
        rcases ho with ⟨ho, _⟩ | ⟨ho, _⟩
        · exact ho
        · omega
      subst ho'
      refine ⟨.pointer (some ⟨l.blk, l.base + (o + k.toNat * n), none⟩), ?_, by rw [add_none]; exact .ptr hl⟩
      simp [Instr.indexAt, asIntOf, run_under hd, hc, run_sizeOf hn, add_none, Nat.add_assoc]
  · cases hh

theorem fieldV_sound {t : TypeId} {x cx v : Value} {f : Nat} (hx : VR ρ x cx) (hh : fieldV P t x f = .ok v) : Same P ρ w (Instr.field t cx f) v := by
  simp only [fieldV, bindR_ok] at hh
  obtain ⟨d, hd, hh⟩ := hh
  split at hh
  case h_2 => cases hh
  rename_i fields cs
  simp only [bindR_ok, ofOpt_ok] at hh
  obtain ⟨fd, hfd, hh⟩ := hh
  have hl := cells_rel hx
  cases hx
  rename_i ds h1 h2
  have hl : VL ρ cs.toList ds.toList := hl
  obtain ⟨c, hc, hr⟩ := partV_sound hh hl
  refine ⟨c, ?_, hr⟩
  simp [Instr.field, run_under hd, hfd, asAgg, run_part hc]

theorem indexV_sound {t : TypeId} {x cx i ci v : Value} (hx : VR ρ x cx) (hi : VR ρ i ci) (hh : indexV P t x i = .ok v) : Same P ρ w (Instr.index t cx ci) v := by
  simp only [indexV, bindR_ok] at hh
  obtain ⟨k, hk, d, hd, hh⟩ := hh
  obtain ⟨ik, rfl, rfl⟩ := intOf_sound hi hk
  split at hh
  · rename_i len e cs
    simp only [bindR_ok] at hh
    obtain ⟨j, hj, n, hn, hh⟩ := hh
    obtain ⟨h0, h1, rfl⟩ := inRange_ok hj
    have hl := cells_rel hx
    cases hx
    rename_i ds g1 g2
    have hl : VL ρ cs.toList ds.toList := hl
    obtain ⟨c, hc, hr⟩ := partV_sound hh hl
    refine ⟨c, ?_, hr⟩
    have hc' : 0 ≤ k ∧ k < (len : Int) := ⟨h0, h1⟩
    simp [Instr.index, asIntOf, run_under hd, hc', run_sizeOf hn, run_part hc]
  · rename_i s
    simp only [bindR_ok, ofOpt_ok] at hh
    obtain ⟨j, hj, b, hb, h2⟩ := hh
    cases h2
    obtain ⟨h0, h1, rfl⟩ := inRange_ok hj
    cases hx
    refine ⟨.int .u8 b.toNat, ?_, .int _ _⟩
    simp [Instr.index, asIntOf, run_under hd, h0, hb]
  · cases hh

/-! Bounds of a slice expression. -/
theorem sbound_sound {v c : Value} {y n : Nat} (hv : VR ρ v c) (hh : sbound v y = .ok n) (code : BoundsCode) {y' : Nat} (hy : y ≤ y') :
    (Instr.sliceBound c y' code).run P w = .ok n w ∧ n ≤ y := by
  simp only [sbound, bindR_ok, must_ok, Bool.and_eq_true, decide_eq_true_eq] at hh
  obtain ⟨i, hi, _, ⟨h0, h1⟩, h2⟩ := hh
  cases h2
  obtain ⟨k, rfl, rfl⟩ := intOf_sound hv hi
  refine ⟨?_, by omega⟩
  have h1' : i ≤ (y' : Int) := by omega
  simp [Instr.sliceBound, asIntOf, h0, h1']

def VO (ρ : Ren) : Option Value → Option Value → Prop
  | none, none => True
  | some a, some b => VR ρ a b
  | _, _ => False

theorem sbounds_sound {lo hi mx clo chi cmx : Option Value} (hlo : VO ρ lo clo) (hhi : VO ρ hi chi) (hmx : VO ρ mx cmx) (isSlice : Bool) {len cap cap' l hh' m : Nat} (hcap : cap ≤ cap')
    (hh : sbounds len cap lo hi mx = .ok (l, hh', m)) :
    (Instr.sliceBounds isSlice len cap' clo chi cmx).run P w = .ok (l, hh', if mx.isNone then cap' else m) w ∧ l ≤ hh' ∧ (hi.isSome → hh' ≤ m) ∧ m ≤ cap ∧ (hi = none → hh' = len) ∧ (mx = none → m = cap) ∧ (hi = none → mx = none) := by
  simp only [sbounds, bindR_ok] at hh
  obtain ⟨m1, hm, h1, hhi', l1, hl1, he⟩ := hh
  simp only [Except.ok.injEq, Prod.mk.injEq] at he
  obtain ⟨rfl, rfl, rfl⟩ := he
  have hM : ∃ cm, (match cmx with | some v => Instr.sliceBound v cap' (if isSlice then .slice3Acap else .slice3Alen) | none => pure cap' : Sem Nat).run P w = .ok cm w ∧ cm = (if mx.isNone then cap' else m1) ∧ m1 ≤ cm ∧ m1 ≤ cap ∧ (mx = none → m1 = cap) := by
    cases mx with
    | none => cases cmx with
      | none => simp at hm; subst hm; exact ⟨cap', rfl, rfl, hcap, Nat.le_refl _, fun _ => rfl⟩
      | some _ => exact hmx.elim
    | some v => cases cmx with
      | none => exact hmx.elim
      | some c => obtain ⟨g1, g2⟩ := sbound_sound (P := P) (w := w) hmx hm (if isSlice then .slice3Acap else .slice3Alen) hcap; exact ⟨m1, g1, rfl, Nat.le_refl _, g2, (fun e => by cases e)⟩
  obtain ⟨cm, hcm, hcm', hle1, hmc, hmn⟩ := hM
  have hL : l1 ≤ h1 ∧ (clo = none → l1 = 0) ∧ ∀ c, clo = some c → ∀ code, (Instr.sliceBound c h1 code).run P w = .ok l1 w := by
    cases lo with
    | none => cases clo with
      | none => simp at hl1; subst hl1; exact ⟨Nat.zero_le _, fun _ => rfl, (fun c e => by cases e)⟩
      | some _ => exact hlo.elim
    | some v => cases clo with
      | none => exact hlo.elim
      | some c =>
        refine ⟨(sbound_sound (P := P) (w := w) hlo hl1 .sliceB (Nat.le_refl h1)).2, (fun e => by cases e), fun c' e code => ?_⟩
        cases e
        exact (sbound_sound (P := P) (w := w) hlo hl1 code (Nat.le_refl h1)).1
  obtain ⟨hle, hL0, hL1⟩ := hL
  rw [← hcm']
  cases hi with
  | none =>
    cases chi with
    | some _ => exact hhi.elim
    | none =>
      cases mx with
      | some _ => simp at hhi'
      | none =>
        cases cmx with
        | some _ => exact hmx.elim
        | none =>
          simp at hhi'
          subst hhi'
          refine ⟨?_, hle, (fun e => by cases e), hmc, fun _ => rfl, hmn, fun _ => rfl⟩
          simp only [Sem.run_pure] at hcm
          cases hcm
          cases clo with
          | none => simp [Instr.sliceBounds, hL0 rfl]
          | some c => simp [Instr.sliceBounds, hL1 c rfl]
  | some v =>
    cases chi with
    | none => exact hhi.elim
    | some c =>
      have hH : ∀ code, (Instr.sliceBound c cm code).run P w = .ok h1 w ∧ h1 ≤ m1 := fun code => sbound_sound hhi (by simpa using hhi') code hle1
      refine ⟨?_, hle, fun _ => (hH .slice3B).2, hmc, (fun e => by cases e), hmn, (fun e => by cases e)⟩
      cases cmx with
      | none =>
        simp only [Sem.run_pure] at hcm
        cases hcm
        cases clo with
        | none => simp [Instr.sliceBounds, hL0 rfl, (hH _).1]
        | some c => simp [Instr.sliceBounds, hL1 c rfl, (hH _).1]
      | some _ =>
        simp only [] at hcm
        cases clo with
        | none => simp [Instr.sliceBounds, hL0 rfl, hcm, (hH _).1]
        | some c => simp [Instr.sliceBounds, hL1 c rfl, hcm, (hH _).1]

theorem map_add (b o n : Nat) : (some (⟨b, o, none⟩ : Addr)).map (·.add n) = some ⟨b, o + n, none⟩ := by simp [add_none]

theorem rowEs_sound (hr : HR ρ h w) {b o es : Nat} {l : Loc} (hl : ρ b = some l) (hh : rowEs h (some ⟨b, o, none⟩) = .ok es) : l.es = es := by
  simp only [rowEs] at hh
  split at hh
  · rename_i vs e m hg
    have hb := (hr.dom _ _ hl).2.2
    rw [hg] at hb
    obtain ⟨cs, fr, g1, g2, g3, g4, g5⟩ := hb
    exact g3.2 es (ofOpt_ok.1 hh)
  · cases hh

theorem rowB_le (hr : HR ρ h w) {b o len es o' c' : Nat} {l : Loc} (hl : ρ b = some l) (hes : l.es = es) (hn : len ≤ c') (ho : (o' = l.base + o ∧ o' + c' * l.es = l.size) ∨ (len = 0 ∧ c' = 0 ∧ l.size ≤ l.base + o)) :
    rowB h (some ⟨b, o, none⟩) len es ≤ c' := by
  simp only [rowB]
  split
  · rename_i vs e m hg
    have hb := (hr.dom _ _ hl).2.2
    rw [hg] at hb
    obtain ⟨cs, fr, g1, g2, g3, g4, g5⟩ := hb
    have hsz := g3.1 _ rfl
    refine Nat.max_le.2 ⟨hn, ?_⟩
    show (vs.length - o) / es ≤ c'
    rcases ho with ⟨h1, h2⟩ | ⟨h1, h2, h3⟩
    · rcases Nat.eq_zero_or_pos es with h0 | h0
      · rw [h0, Nat.div_zero]; omega
      · rw [hes] at h2
        have : vs.length - o ≤ c' * es := by omega
        exact Nat.div_le_of_le_mul (by rw [Nat.mul_comm]; exact this)
    · rw [show vs.length - o = 0 by omega, Nat.zero_div]; omega
  · exact hn
theorem sboundsU_ok {a : Option Addr} {len es : Nat} {lo hi : Option Value} {r : Nat × Nat × Nat} (hh : sboundsU h a len es lo hi = .ok r) : ∃ B, (B = len ∨ B = rowB h a len es) ∧ sbounds len B lo hi none = .ok r := by
  unfold sboundsU at hh
  split at hh
  · rename_i r' hb; cases hh; exact ⟨len, .inl rfl, hb⟩
  · exact ⟨_, .inr rfl, hh⟩

theorem sliceV_sound (hr : HR ρ h w) {t : TypeId} {x cx v : Value} {lo hi mx clo chi cmx : Option Value} (hx : VR ρ x cx) (hlo : VO ρ lo clo) (hhi : VO ρ hi chi) (hmx : VO ρ mx cmx)
    (hh : sliceV P h t x lo hi mx = .ok v) : Same P ρ w (Instr.sliceAt t cx clo chi cmx) v := by
  simp only [sliceV, bindR_ok] at hh
  obtain ⟨d, hd, hh⟩ := hh
  split at hh
  · rename_i s
    cases hx
    split at hh
    · cases hh
    · cases cmx with
      | some _ => exact hmx.elim
      | none =>
        simp only [bindR_ok] at hh
        obtain ⟨⟨l, h1, m⟩, hb, h2⟩ := hh
        simp only [Except.ok.injEq] at h2; subst h2
        obtain ⟨g1, _⟩ := sbounds_sound (P := P) (w := w) hlo hhi hmx false (Nat.le_refl _) hb
        refine ⟨.string (s.extract l h1), ?_, .string _⟩
        simp [Instr.sliceAt, run_under hd, Instr.slice, g1]
  · rename_i e a len cap
    simp only [bindR_ok] at hh
    obtain ⟨size, hsz, hh⟩ := hh
    split at hh
    · -- the capacity isn't known
      rename_i hu
      have hu' : unk ≤ cap := by simpa [Nat.ble_eq] using hu
      simp only [bindR_ok, must_ok] at hh
      obtain ⟨es, hes, _, hes', ⟨l, h1, m⟩, hb, h2⟩ := hh
      have hes' := Nat.eq_of_beq_eq_true hes'
      subst hes'
      simp only [Except.ok.injEq] at h2; subst h2
      cases cmx with
      | some _ => exact hmx.elim
      | none =>
      cases hx with
      | nilSlice => simp [rowEs] at hes
      | empty0 _ => exact absurd hu' (by unfold unk; omega)
      | slice hl hc => omega
      | sliceU hl hc hn ho =>
        rename_i b o o' c' lc
        have hes' := rowEs_sound hr hl hes
        obtain ⟨B, hB, hb⟩ := sboundsU_ok hb
        have hBc : B ≤ c' := by
          rcases hB with rfl | rfl
          · exact hn
          · exact rowB_le hr hl hes' hn ho
        obtain ⟨g1, g2, g3, g4, g5, g6, _⟩ := sbounds_sound (P := P) (w := w) hlo hhi hmx true hBc hb
        have hm := g6 rfl
        have hhl : h1 ≤ c' := by
          cases hi with
          | none => rw [g5 rfl]; exact hn
          | some _ => have := g3 rfl; omega
        simp only [Option.isNone_none, if_true] at g1
        rw [map_add]
        by_cases hc' : c' = l
        · have e1 : h1 - l = 0 := by omega
          subst hc'
          refine ⟨.slice (some ⟨lc.blk, o', none⟩) (h1 - c') (c' - c'), ?_, ?_⟩
          · simp [Instr.sliceAt, run_under hd, Instr.slice, g1, run_sizeOf hsz]
          · refine .sliceU hl hc (by omega) (.inr ⟨e1, by omega, ?_⟩)
            rcases ho with ⟨ho, hs⟩ | ⟨h0, h0', hs⟩
            · rw [hes'] at hs; omega
            · omega
        · refine ⟨.slice (some ⟨lc.blk, o' + l * es, none⟩) (h1 - l) (c' - l), ?_, ?_⟩
          · simp [Instr.sliceAt, run_under hd, Instr.slice, g1, run_sizeOf hsz, hc', add_none]
          · refine .sliceU hl hc (by omega) ?_
            rcases ho with ⟨ho, hs⟩ | ⟨h0, h0', hs⟩
            · refine .inl ⟨by rw [ho]; omega, ?_⟩
              rw [hes'] at hs ⊢
              have h4 : l * es + (c' - l) * es = c' * es := by rw [← Nat.add_mul]; congr 1; omega
              omega
            · exact .inr ⟨by omega, by omega, by omega⟩
    · rename_i hu
      have hu' : unk ≤ cap := by simpa [Nat.ble_eq] using hu
      simp only [bindR_ok, must_ok, Bool.and_eq_true, blt_true] at hh
      obtain ⟨_, ⟨hlen, hlu⟩, ⟨l, h1, m⟩, hb, h2⟩ := hh
      simp only [Except.ok.injEq] at h2; subst h2
      cases hx with
      | nilSlice => omega
      | empty0 _ => exact absurd hu' (by unfold unk; omega)
      | slice hl hc => omega
      | sliceU hl hc hn ho =>
        rename_i b o o' c' lc
        obtain ⟨g1, g2, g3, g4, g5, g6, g7⟩ := sbounds_sound (P := P) (w := w) hlo hhi hmx true hn hb
        simp only [Option.isNone_some, Bool.false_eq_true, if_false] at g1
        have hsome : hi.isSome := by cases hi with | none => have := g7 rfl; cases this | some _ => rfl
        have hhm := g3 hsome
        have ho' : o' = lc.base + o := by
          rcases ho with ⟨ho, _⟩ | ⟨h0, _⟩
          · exact ho
          · omega
        by_cases hml : m = l
        · rw [if_pos hml]
          refine ⟨.slice (some ⟨lc.blk, lc.base + o, none⟩) (h1 - l) (m - l), ?_, .slice hl (by omega)⟩
          simp [Instr.sliceAt, run_under hd, Instr.slice, g1, run_sizeOf hsz, hml, ho']
        · rw [if_neg hml, map_add]
          refine ⟨.slice (some ⟨lc.blk, lc.base + (o + l * size), none⟩) (h1 - l) (m - l), ?_, .slice hl (by omega)⟩
          simp [Instr.sliceAt, run_under hd, Instr.slice, g1, run_sizeOf hsz, hml, add_none, ho', Nat.add_assoc]
    · rename_i mx _ _ hu
      have hu' : cap < unk := ble_false.1 hu
      simp only [bindR_ok, must_ok, Nat.ble_eq] at hh
      obtain ⟨_, hlc, ⟨l, h1, m⟩, hb, h2⟩ := hh
      simp only [Except.ok.injEq] at h2; subst h2
      obtain ⟨g1, g2, g3, g4, g5, g6, g7⟩ := sbounds_sound (P := P) (w := w) hlo hhi hmx true (Nat.le_refl _) hb
      have g1' : (Instr.sliceBounds true len cap clo chi cmx).run P w = .ok (l, h1, m) w := by
        rw [g1]
        congr 3
        by_cases hmn : mx.isNone = true
        · rw [if_pos hmn, g6 (by simpa using hmn)]
        · rw [if_neg hmn]
      cases hx with
      | empty0 hl =>
        have hm0 : m = 0 := by omega
        have hl0 : l = 0 := by
          cases hi with
          | none => have := g5 rfl; omega
          | some _ => have := g3 rfl; omega
        have hh0 : h1 = 0 := by
          cases hi with
          | none => exact g5 rfl
          | some _ => have := g3 rfl; omega
        subst hm0 hl0 hh0
        rename_i b a lc
        refine ⟨.slice (some a) 0 0, ?_, by simpa using VR.empty0 (a := a) hl⟩
        simp [Instr.sliceAt, run_under hd, Instr.slice, g1', run_sizeOf hsz]
      | nilSlice =>
        have hm0 : m = 0 := by omega
        have hl0 : l = 0 := by
          cases hi with
          | none => have := g5 rfl; omega
          | some _ => have := g3 rfl; omega
        have hh0 : h1 = 0 := by
          cases hi with
          | none => exact g5 rfl
          | some _ => have := g3 rfl; omega
        subst hm0 hl0 hh0
        refine ⟨.slice none 0 0, ?_, by simpa using VR.nilSlice⟩
        simp [Instr.sliceAt, run_under hd, Instr.slice, g1', run_sizeOf hsz]
      | slice hl hc =>
        rename_i b o lc
        by_cases hml : m = l
        · rw [if_pos hml]
          refine ⟨.slice (some ⟨lc.blk, lc.base + o, none⟩) (h1 - l) (m - l), ?_, .slice hl (by omega)⟩
          simp [Instr.sliceAt, run_under hd, Instr.slice, g1', run_sizeOf hsz, hml]
        · rw [if_neg hml, map_add]
          refine ⟨.slice (some ⟨lc.blk, lc.base + (o + l * size), none⟩) (h1 - l) (m - l), ?_, .slice hl (by omega)⟩
          simp [Instr.sliceAt, run_under hd, Instr.slice, g1', run_sizeOf hsz, hml, add_none, Nat.add_assoc]
      | sliceU hl hc hn ho => omega
  · rename_i n e a
    simp only [bindR_ok, must_ok, blt_true] at hh
    obtain ⟨_, hnu, size, hsz, ⟨l, h1, m⟩, hb, h2⟩ := hh
    simp only [Except.ok.injEq] at h2; subst h2
    obtain ⟨g1, g2, g3, g4, g5, g6, g7⟩ := sbounds_sound (P := P) (w := w) hlo hhi hmx false (Nat.le_refl _) hb
    have g1' : (Instr.sliceBounds false n n clo chi cmx).run P w = .ok (l, h1, m) w := by
      rw [g1]
      congr 3
      by_cases hmn : mx.isNone = true
      · rw [if_pos hmn, g6 (by simpa using hmn)]
      · rw [if_neg hmn]
    cases hx
    rename_i b o lc hl
    by_cases hml : m = l
    · rw [if_pos hml]
      refine ⟨.slice (some ⟨lc.blk, lc.base + o, none⟩) (h1 - l) (m - l), ?_, .slice hl (by omega)⟩
      simp [Instr.sliceAt, run_under hd, Instr.sureAddr, g1', run_sizeOf hsz, hml]
    · rw [if_neg hml, add_none]
      refine ⟨.slice (some ⟨lc.blk, lc.base + (o + l * size), none⟩) (h1 - l) (m - l), ?_, .slice hl (by omega)⟩
      simp [Instr.sliceAt, run_under hd, Instr.sureAddr, g1', run_sizeOf hsz, hml, add_none, Nat.add_assoc]
  · cases hh
end
end Go.AM
