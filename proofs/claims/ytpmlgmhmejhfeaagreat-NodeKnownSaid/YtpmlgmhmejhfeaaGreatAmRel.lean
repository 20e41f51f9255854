/- A part of the abstract machine: definitions and lemmas for all programs, no claim of its own; no condition. -/
import Derived.Test.YtpmlgmhmejhfeaaGreatAmDefs
import Derived.RangeFuncLeaves
import Derived.OrdersIn
set_option linter.unusedVariables false
set_option linter.unusedSimpArgs false
namespace Go.AM

/-- Where a block of the abstract heap lies: its block in the world, the place of its first cell, how many cells that block has, how many an element takes. -/
structure Loc where
  blk : Nat
  base : Nat
  size : Nat
  es : Nat

abbrev Ren := Nat → Option Loc

def gl (l : List Value) (i : Nat) : Value := l.getD i undef

inductive VR (ρ : Ren) : Value → Value → Prop where
  | bool (b : Bool) : VR ρ (.bool b) (.bool b)
  | int (k : IntKind) (n : Int) : VR ρ (.int k n) (.int k n)
  | string (s : ByteArray) : VR ρ (.string s) (.string s)
  | nilPtr : VR ρ (.pointer none) (.pointer none)
  | ptr {b o : Nat} {l : Loc} (h : ρ b = some l) : VR ρ (.pointer (some ⟨b, o, none⟩)) (.pointer (some ⟨l.blk, l.base + o, none⟩))
  | nilSlice : VR ρ (.slice none 0 0) (.slice none 0 0)
  | slice {b o n c : Nat} {l : Loc} (h : ρ b = some l) (hc : c < unk) : VR ρ (.slice (some ⟨b, o, none⟩) n c) (.slice (some ⟨l.blk, l.base + o, none⟩) n c)
  | sliceU {b o n c o' c' : Nat} {l : Loc} (h : ρ b = some l) (hc : unk ≤ c) (hn : n ≤ c')
      (ho : (o' = l.base + o ∧ o' + c' * l.es = l.size) ∨ (n = 0 ∧ c' = 0 ∧ l.size ≤ l.base + o)) :
      VR ρ (.slice (some ⟨b, o, none⟩) n c) (.slice (some ⟨l.blk, o', none⟩) n c')
  | nilMap : VR ρ (.map none) (.map none)
  | map {r : Nat} {l : Loc} (h : ρ r = some l) : VR ρ (.map (some r)) (.map (some l.blk))
  | func (f : FuncId) {as bs cs ds : Array Value} (h₁ : as.size = bs.size) (h₂ : ∀ i, i < as.size → VR ρ (gl as.toList i) (gl bs.toList i))
      (h₃ : cs.size = ds.size) (h₄ : ∀ i, i < cs.size → VR ρ (gl cs.toList i) (gl ds.toList i)) : VR ρ (.func (.func f) as cs) (.func (.func f) bs ds)
  | yield {l : Nat} {p : Loc} (h : ρ l = some p) : VR ρ (.func (.yield l) #[] #[]) (.func (.yield p.blk) #[] #[])
  | nilFunc : VR ρ .nilFunc .nilFunc
  | nilIface : VR ρ .nilIface .nilIface
  | iface (t : TypeId) {x y : Value} (h : VR ρ x y) : VR ρ (.iface t x) (.iface t y)
  | agg {as bs : Array Value} (h₁ : as.size = bs.size) (h₂ : ∀ i, i < as.size → VR ρ (gl as.toList i) (gl bs.toList i)) : VR ρ (.agg as) (.agg bs)
  | tuple {as bs : Array Value} (h₁ : as.size = bs.size) (h₂ : ∀ i, i < as.size → VR ρ (gl as.toList i) (gl bs.toList i)) : VR ρ (.tuple as) (.tuple bs)

/-- Lists of values, place by place. -/
def VL (ρ : Ren) (as bs : List Value) : Prop := as.length = bs.length ∧ ∀ i, i < as.length → VR ρ (gl as i) (gl bs i)

def Sub (ρ ρ' : Ren) : Prop := ∀ b l, ρ b = some l → ρ' b = some l

theorem Sub.refl (ρ : Ren) : Sub ρ ρ := fun _ _ h => h
theorem Sub.trans {ρ ρ' ρ'' : Ren} (h : Sub ρ ρ') (h' : Sub ρ' ρ'') : Sub ρ ρ'' := fun b l e => h' b l (h b l e)

theorem VR.mono {ρ ρ' : Ren} (hs : Sub ρ ρ') {v c : Value} (h : VR ρ v c) : VR ρ' v c := by
  induction h with
  | bool b => exact .bool b
  | int k n => exact .int k n
  | string s => exact .string s
  | nilPtr => exact .nilPtr
  | ptr h => exact .ptr (hs _ _ h)
  | nilSlice => exact .nilSlice
  | slice h hc => exact .slice (hs _ _ h) hc
  | sliceU h hc hn ho => exact .sliceU (hs _ _ h) hc hn ho
  | nilMap => exact .nilMap
  | map h => exact .map (hs _ _ h)
  | func f h₁ _ h₃ _ ih₂ ih₄ => exact .func f h₁ ih₂ h₃ ih₄
  | yield h => exact .yield (hs _ _ h)
  | nilFunc => exact .nilFunc
  | nilIface => exact .nilIface
  | iface t _ ih => exact .iface t ih
  | agg h₁ _ ih => exact .agg h₁ ih
  | tuple h₁ _ ih => exact .tuple h₁ ih

theorem VL.mono {ρ ρ' : Ren} (hs : Sub ρ ρ') {as bs : List Value} (h : VL ρ as bs) : VL ρ' as bs := ⟨h.1, fun i hi => (h.2 i hi).mono hs⟩
theorem VL.nil {ρ : Ren} : VL ρ [] [] := ⟨rfl, fun i hi => by simp at hi⟩
theorem VL.cons {ρ : Ren} {a b : Value} {as bs : List Value} (h : VR ρ a b) (hs : VL ρ as bs) : VL ρ (a :: as) (b :: bs) := by
  refine ⟨by simp [hs.1], fun i hi => ?_⟩
  cases i with
  | zero => simpa [gl] using h
  | succ i => simpa [gl] using hs.2 i (by simpa using hi)
theorem VL.head {ρ : Ren} {a b : Value} {as bs : List Value} (h : VL ρ (a :: as) (b :: bs)) : VR ρ a b := by simpa [gl] using h.2 0 (by simp)
theorem VL.tail {ρ : Ren} {a b : Value} {as bs : List Value} (h : VL ρ (a :: as) (b :: bs)) : VL ρ as bs :=
  ⟨by simpa using h.1, fun i hi => by simpa [gl] using h.2 (i + 1) (by simpa using hi)⟩
theorem VL.cases_nil {ρ : Ren} {bs : List Value} (h : VL ρ [] bs) : bs = [] := by
  have := h.1; cases bs with | nil => rfl | cons _ _ => simp at this
theorem VL.cases_cons {ρ : Ren} {a : Value} {as bs : List Value} (h : VL ρ (a :: as) bs) : ∃ b bs', bs = b :: bs' ∧ VR ρ a b ∧ VL ρ as bs' := by
  cases bs with
  | nil => have := h.1; simp at this
  | cons b bs => exact ⟨b, bs, rfl, h.head, h.tail⟩
theorem VL.append {ρ : Ren} {as bs cs ds : List Value} (h : VL ρ as bs) (h' : VL ρ cs ds) : VL ρ (as ++ cs) (bs ++ ds) := by
  induction as generalizing bs with
  | nil => obtain rfl := h.cases_nil; simpa using h'
  | cons a as ih =>
    obtain ⟨b, bs, rfl, h1, h2⟩ := h.cases_cons
    exact .cons h1 (ih h2)
theorem VL.drop {ρ : Ren} {as bs : List Value} (h : VL ρ as bs) (n : Nat) : VL ρ (as.drop n) (bs.drop n) := by
  refine ⟨by simp [h.1], fun i hi => ?_⟩
  have := h.2 (n + i) (by simp at hi; omega)
  simpa [gl, List.getD, List.getElem?_drop] using this
theorem VL.take {ρ : Ren} {as bs : List Value} (h : VL ρ as bs) (n : Nat) : VL ρ (as.take n) (bs.take n) := by
  refine ⟨by simp [h.1], fun i hi => ?_⟩
  have hi' : i < n ∧ i < as.length := by simp only [List.length_take] at hi; omega
  have := h.2 i hi'.2
  simpa [gl, List.getD, List.getElem?_take, hi'.1] using this
theorem VL.get {ρ : Ren} {as bs : List Value} (h : VL ρ as bs) {i : Nat} {v : Value} (hv : as[i]? = some v) : ∃ c, bs[i]? = some c ∧ VR ρ v c := by
  obtain ⟨hi, hv'⟩ := List.getElem?_eq_some_iff.1 hv
  have := h.2 i hi
  have hb : i < bs.length := h.1 ▸ hi
  refine ⟨bs[i], List.getElem?_eq_getElem hb, ?_⟩
  simpa [gl, List.getD, hv, List.getElem?_eq_getElem hb] using this
theorem VL.of_get {ρ : Ren} {as bs : List Value} (hl : as.length = bs.length) (h : ∀ (i : Nat) (v : Value), as[i]? = some v → ∃ c, bs[i]? = some c ∧ VR ρ v c) : VL ρ as bs := by
  refine ⟨hl, fun i hi => ?_⟩
  obtain ⟨c, hc, hv⟩ := h i as[i] (List.getElem?_eq_getElem hi)
  simpa [gl, List.getD, hc, List.getElem?_eq_getElem hi] using hv
theorem VR.agg' {ρ : Ren} {as bs : Array Value} (h : VL ρ as.toList bs.toList) : VR ρ (.agg as) (.agg bs) :=
  .agg (by simpa using h.1) (fun i hi => h.2 i (by simpa using hi))
theorem VR.tuple' {ρ : Ren} {as bs : Array Value} (h : VL ρ as.toList bs.toList) : VR ρ (.tuple as) (.tuple bs) :=
  .tuple (by simpa using h.1) (fun i hi => h.2 i (by simpa using hi))
theorem VR.func' {ρ : Ren} (f : FuncId) {as bs cs ds : Array Value} (h : VL ρ as.toList bs.toList) (h' : VL ρ cs.toList ds.toList) : VR ρ (.func (.func f) as cs) (.func (.func f) bs ds) :=
  .func f (by simpa using h.1) (fun i hi => h.2 i (by simpa using hi)) (by simpa using h'.1) (fun i hi => h'.2 i (by simpa using hi))

theorem VR.undef (ρ : Ren) : VR ρ undef undef := .tuple' (by exact .nil)

/-! Plain values read alike everywhere. -/
theorem plain_eq {ρ : Ren} : ∀ (f : Nat) (v : Value), plainV f v = true → ∀ c, VR ρ v c → c = v := by
  intro f
  induction f with
  | zero => intro v h; simp [plainV] at h
  | succ f ih =>
    intro v h c hc
    cases hc with
    | bool b => rfl
    | int k n => rfl
    | string s => rfl
    | nilPtr => rfl
    | ptr _ => simp [plainV] at h
    | nilSlice => rfl
    | slice _ _ => simp [plainV] at h
    | sliceU _ _ _ _ => simp [plainV] at h
    | nilMap => rfl
    | map _ => simp [plainV] at h
    | func _ _ _ _ _ => simp [plainV] at h
    | yield _ => simp [plainV] at h
    | nilFunc => rfl
    | nilIface => rfl
    | iface t hx => rw [ih _ (by simpa [plainV] using h) _ hx]
    | tuple _ _ => simp [plainV] at h
    | @agg as bs h₁ h₂ =>
      have h' : ∀ x ∈ as.toList, plainV f x = true := by simp only [plainV, List.all_eq_true] at h; exact h
      congr 1
      apply Array.ext'
      apply List.ext_getElem
      · simpa using h₁.symm
      · intro i hi hi'
        have hi'' : i < as.size := by simpa using hi'
        have := ih (gl as.toList i) (h' _ (by simp [gl, List.getD, List.getElem?_eq_getElem hi'])) _ (h₂ i hi'')
        simpa [gl, List.getD, List.getElem?_eq_getElem hi, List.getElem?_eq_getElem hi'] using this

theorem plain_refl {ρ : Ren} : ∀ (f : Nat) (v : Value), plainV f v = true → VR ρ v v := by
  intro f
  induction f with
  | zero => intro v h; simp [plainV] at h
  | succ f ih =>
    intro v h
    cases v with
    | bool b => exact .bool b
    | int k n => exact .int k n
    | string s => exact .string s
    | pointer a => cases a with | none => exact .nilPtr | some _ => simp [plainV] at h
    | slice a n c =>
      cases a with
      | some _ => simp [plainV] at h
      | none =>
        cases n with
        | zero => cases c with | zero => exact .nilSlice | succ _ => simp [plainV] at h
        | succ _ => simp [plainV] at h
    | map r => cases r with | none => exact .nilMap | some _ => simp [plainV] at h
    | nilFunc => exact .nilFunc
    | nilIface => exact .nilIface
    | iface t x => exact .iface t (ih _ (by simpa [plainV] using h))
    | agg as =>
      have h' : ∀ x ∈ as.toList, plainV f x = true := by simp only [plainV, List.all_eq_true] at h; exact h
      refine .agg rfl fun i hi => ih _ (h' _ ?_)
      simp only [gl, List.getD]
      rw [List.getElem?_eq_getElem (by simpa using hi)]
      simp
    | _ => simp [plainV] at h

/-! The blocks that a value names. -/
theorem foldr_max_le {f : Nat} {l : List Value} {n : Nat} (h : l.foldr (fun c m => Nat.max (maxId f c) m) 0 ≤ n) : ∀ x ∈ l, maxId f x ≤ n := by
  induction l with
  | nil => intro x hx; cases hx
  | cons a l ih =>
    simp only [List.foldr_cons] at h
    have h1 : Nat.max (maxId f a) (l.foldr (fun c m => Nat.max (maxId f c) m) 0) ≤ n := h
    intro x hx
    rcases List.mem_cons.1 hx with rfl | hx
    · exact Nat.le_trans (Nat.le_max_left _ _) h1
    · exact ih (Nat.le_trans (Nat.le_max_right _ _) h1) x hx

theorem gl_mem {l : List Value} {i : Nat} (h : i < l.length) : gl l i ∈ l := by
  simp [gl, List.getD, List.getElem?_eq_getElem h]

theorem VR.lower {ρ ρ' : Ren} {n : Nat} (hn : n < big) (hs : ∀ b, b < n → ∀ l, ρ b = some l → ρ' b = some l) : ∀ (f : Nat) (v c : Value), maxId f v ≤ n → VR ρ v c → VR ρ' v c := by
  intro f
  induction f with
  | zero => intro v c h; simp only [maxId] at h; omega
  | succ f ih =>
    intro v c h hc
    cases hc with
    | bool b => exact .bool b
    | int k n => exact .int k n
    | string s => exact .string s
    | nilPtr => exact .nilPtr
    | ptr e => exact .ptr (hs _ (by simp only [maxId] at h; omega) _ e)
    | nilSlice => exact .nilSlice
    | slice e hc => exact .slice (hs _ (by simp only [maxId] at h; omega) _ e) hc
    | sliceU e hc a b => exact .sliceU (hs _ (by simp only [maxId] at h; omega) _ e) hc a b
    | nilMap => exact .nilMap
    | map e => exact .map (hs _ (by simp only [maxId] at h; omega) _ e)
    | func g h₁ h₂ h₃ h₄ =>
      simp only [maxId] at h
      have ha := Nat.le_trans (Nat.le_trans (Nat.le_max_left _ _) (Nat.le_max_right _ _)) h
      have hb := Nat.le_trans (Nat.le_trans (Nat.le_max_right _ _) (Nat.le_max_right _ _)) h
      exact .func g h₁ (fun i hi => ih _ _ (foldr_max_le ha _ (gl_mem (by simpa using hi))) (h₂ i hi)) h₃
        (fun i hi => ih _ _ (foldr_max_le hb _ (gl_mem (by simpa using hi))) (h₄ i hi))
    | yield e =>
      simp only [maxId] at h
      exact .yield (hs _ (Nat.lt_of_lt_of_le (Nat.lt_succ_self _) (Nat.le_trans (Nat.le_max_left _ _) h)) _ e)
    | nilFunc => exact .nilFunc
    | nilIface => exact .nilIface
    | iface t hx => exact .iface t (ih _ _ (by simpa [maxId] using h) hx)
    | agg h₁ h₂ =>
      simp only [maxId] at h
      exact .agg h₁ (fun i hi => ih _ _ (foldr_max_le h _ (gl_mem (by simpa using hi))) (h₂ i hi))
    | tuple h₁ h₂ =>
      simp only [maxId] at h
      exact .tuple h₁ (fun i hi => ih _ _ (foldr_max_le h _ (gl_mem (by simpa using hi))) (h₂ i hi))


/-! Values that name blocks below m alone. -/
def Ren.below (ρ : Ren) (m : Nat) : Ren := fun b => if b < m then ρ b else none
theorem Ren.below_some {ρ : Ren} {m b : Nat} {l : Loc} : ρ.below m b = some l ↔ b < m ∧ ρ b = some l := by
  unfold Ren.below; split
  · simp_all
  · simp; omega
def Low (m : Nat) (v : Value) : Prop := ∃ ρ : Ren, ∃ c, (∀ b l, ρ b = some l → b < m) ∧ VR ρ v c

theorem Low.of_dom {ρ : Ren} {m : Nat} {v c : Value} (h : VR ρ v c) (hd : ∀ b l, ρ b = some l → b < m) : Low m v := ⟨ρ, c, hd, h⟩
theorem Low.mono {m m' : Nat} {v : Value} (h : Low m v) (hm : m ≤ m') : Low m' v := by
  obtain ⟨ρ, c, hd, hv⟩ := h
  exact ⟨ρ, c, fun b l e => Nat.lt_of_lt_of_le (hd b l e) hm, hv⟩
theorem Low.of_ids {ρ : Ren} {m : Nat} {v c : Value} (h : VR ρ v c) (hm : m < big) (hi : ids v ≤ m) : Low m v := by
  refine ⟨ρ.below m, c, fun b l e => (Ren.below_some.1 e).1, ?_⟩
  exact VR.lower hm (fun b hb l e => Ren.below_some.2 ⟨hb, e⟩) 20 v c hi h

theorem VR.both {ρ₀ ρ : Ren} {m : Nat} (hd : ∀ b l, ρ₀ b = some l → b < m) {v c : Value} (h : VR ρ v c) : ∀ c₀, VR ρ₀ v c₀ → VR (ρ.below m) v c := by
  induction h with
  | bool b => intro _ _; exact .bool b
  | int k n => intro _ _; exact .int k n
  | string s => intro _ _; exact .string s
  | nilPtr => intro _ _; exact .nilPtr
  | ptr h => intro c₀ h₀; cases h₀; rename_i h'; exact .ptr (Ren.below_some.2 ⟨hd _ _ h', h⟩)
  | nilSlice => intro _ _; exact .nilSlice
  | slice h hc =>
    intro c₀ h₀
    cases h₀ with
    | slice h' _ => exact .slice (Ren.below_some.2 ⟨hd _ _ h', h⟩) hc
    | sliceU h' _ _ _ => exact .slice (Ren.below_some.2 ⟨hd _ _ h', h⟩) hc
  | sliceU h hc hn ho =>
    intro c₀ h₀
    cases h₀ with
    | slice h' _ => exact .sliceU (Ren.below_some.2 ⟨hd _ _ h', h⟩) hc hn ho
    | sliceU h' _ _ _ => exact .sliceU (Ren.below_some.2 ⟨hd _ _ h', h⟩) hc hn ho
  | nilMap => intro _ _; exact .nilMap
  | map h => intro c₀ h₀; cases h₀; rename_i h'; exact .map (Ren.below_some.2 ⟨hd _ _ h', h⟩)
  | func f h₁ _ h₃ _ ih₂ ih₄ =>
    intro c₀ h₀
    cases h₀
    rename_i g₁ g₂ g₃ g₄
    exact .func f h₁ (fun i hi => ih₂ i hi _ (g₂ i hi)) h₃ (fun i hi => ih₄ i hi _ (g₄ i hi))
  | yield h => intro c₀ h₀; cases h₀; rename_i h'; exact .yield (Ren.below_some.2 ⟨hd _ _ h', h⟩)
  | nilFunc => intro _ _; exact .nilFunc
  | nilIface => intro _ _; exact .nilIface
  | iface t _ ih => intro c₀ h₀; cases h₀; rename_i h'; exact .iface t (ih _ h')
  | agg h₁ _ ih => intro c₀ h₀; cases h₀; rename_i g₁ g₂; exact .agg h₁ (fun i hi => ih i hi _ (g₂ i hi))
  | tuple h₁ _ ih => intro c₀ h₀; cases h₀; rename_i g₁ g₂; exact .tuple h₁ (fun i hi => ih i hi _ (g₂ i hi))

theorem Low.below {ρ : Ren} {m : Nat} {v c : Value} (h : Low m v) (hv : VR ρ v c) : VR (ρ.below m) v c := by
  obtain ⟨ρ₀, c₀, hd, h₀⟩ := h
  exact hv.both hd c₀ h₀
theorem Low.plain {m : Nat} {f : Nat} {v : Value} (h : plainV f v = true) : Low m v := ⟨fun _ => none, v, (fun _ _ e => by cases e), plain_refl f v h⟩

end Go.AM
