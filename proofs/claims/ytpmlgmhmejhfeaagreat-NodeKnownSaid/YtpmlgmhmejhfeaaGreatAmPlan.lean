/- A part of the abstract machine: definitions and lemmas for all programs, no claim of its own; no condition. -/
import Derived.Test.YtpmlgmhmejhfeaaGreatAmDraw
set_option linter.unusedVariables false
set_option linter.unusedSimpArgs false
namespace Go.AM
open Go

/-! ### Bits -/
theorem bit_or {a b i : Nat} : bit (Nat.lor a b) i = (bit a i || bit b i) := Nat.testBit_or ..
theorem bit_pow {i j : Nat} : bit (Nat.pow 2 i) j = true ↔ i = j := by
  show Nat.testBit (2 ^ i) j = true ↔ i = j
  rw [Nat.testBit_two_pow]; simp
theorem bit_zero {i : Nat} : bit 0 i = false := Nat.zero_testBit i
theorem bit_add {a i j : Nat} : bit (Nat.lor (Nat.pow 2 i) a) j = true ↔ i = j ∨ bit a j = true := by
  rw [bit_or, Bool.or_eq_true, bit_pow]
theorem sub_of_true {a b : Nat} (h : sub a b = true) {i : Nat} (hi : bit a i = true) : bit b i = true := by
  have e : Nat.lor a b = b := Nat.eq_of_beq_eq_true h
  rw [← e, bit_or, hi, Bool.true_or]
theorem sub_of {a b : Nat} (h : ∀ i, bit a i = true → bit b i = true) : sub a b = true := by
  have e : Nat.lor a b = b := by
    refine Nat.eq_of_testBit_eq fun i => ?_
    show bit (Nat.lor a b) i = bit b i
    rw [bit_or]
    cases ha : bit a i with
    | true => rw [h i ha]; rfl
    | false => rfl
  simp only [sub]; rw [e]; exact Nat.beq_refl b

/-! ### The plan -/
abbrev bnd (e : Edge) : Prop := Region.binds .any e = true
def Closed (ops : Array Oper) (S : Nat → Prop) : Prop := ∀ (j : Nat) (o : Oper), ops[j]? = some o → S j → ∀ e ∈ o.after.toList, bnd e → S e.on
def SpotOk (ops : Array Oper) (x : Spot) : Prop := ops[x.1]? = some x.2.2 ∧
  ∀ S : Nat → Prop, Closed ops S → (∀ e ∈ x.2.2.after.toList, bnd e → S e.on) → ∀ y, bit x.2.1 y = true → S y

theorem lk_ok {acc : List Spot} {j : Nat} : lk acc j = 0 ∨ ∃ o, (j, lk acc j, o) ∈ acc := by
  induction acc with
  | nil => exact .inl rfl
  | cons x acc ih =>
    obtain ⟨i, b, o⟩ := x
    simp only [lk]
    cases h : Nat.beq i j with
    | true =>
      obtain rfl := Nat.eq_of_beq_eq_true h
      exact .inr ⟨o, List.mem_cons_self ..⟩
    | false =>
      rcases ih with h | ⟨o', h⟩
      · exact .inl h
      · exact .inr ⟨o', List.mem_cons_of_mem _ h⟩

theorem maskE_ok {ops : Array Oper} {acc : List Spot} (ha : ∀ x ∈ acc, SpotOk ops x) {S : Nat → Prop} (hS : Closed ops S) : ∀ (es : List Edge), (∀ e ∈ es, bnd e → S e.on) → ∀ y, bit (maskE acc es) y = true → S y
  | [], _, y, h => by simp only [maskE, bit_zero] at h; cases h
  | e :: es, he, y, h => by
    have hrec := maskE_ok ha hS es (fun e' hm => he e' (List.mem_cons_of_mem _ hm)) y
    simp only [maskE] at h
    split at h
    · rename_i hb
      have hon := he e (List.mem_cons_self ..) hb
      rw [bit_or, bit_or, Bool.or_eq_true, Bool.or_eq_true] at h
      rcases h with (h | h) | h
      · rw [bit_pow] at h; subst h; exact hon
      · rcases lk_ok (acc := acc) (j := e.on) with h0 | ⟨o, h0⟩
        · rw [h0, bit_zero] at h; cases h
        · obtain ⟨h1, h2⟩ := ha _ h0
          exact h2 S hS (fun e' hm hb' => hS _ _ h1 hon e' hm hb') y h
      · exact hrec h
    · exact hrec h

theorem planL_ok {ops : Array Oper} : ∀ (os : List Oper) (i : Nat) (acc : List Spot), (∀ x ∈ acc, SpotOk ops x) → (∀ k, os[k]? = ops[i + k]?) →
    (∀ x ∈ planL os i acc, SpotOk ops x ∧ i ≤ x.1) ∧ (∀ (j : Nat) (o : Oper), i ≤ j → ops[j]? = some o → ∃ b, (j, b, o) ∈ planL os i acc) ∧
    (∀ x ∈ planL os i acc, ∀ y ∈ planL os i acc, x.1 = y.1 → x = y)
  | [], i, acc, _, hk => by
    refine ⟨fun x h => by simp [planL] at h, fun j o hj ho => ?_, fun x h => by simp [planL] at h⟩
    have := hk (j - i)
    rw [show i + (j - i) = j by omega, ho] at this
    simp at this
  | o :: os, i, acc, ha, hk => by
    have h0 : ops[i]? = some o := by have := hk 0; simpa using this.symm
    have hx : SpotOk ops (i, maskE acc o.after.toList, o) := ⟨h0, fun S hS hp y hy => maskE_ok ha hS _ hp y hy⟩
    obtain ⟨h1, h2, h3⟩ := planL_ok os (i + 1) ((i, maskE acc o.after.toList, o) :: acc) (fun x hm => by
      rcases List.mem_cons.1 hm with rfl | hm
      · exact hx
      · exact ha x hm) (fun k => by have := hk (k + 1); rw [show i + 1 + k = i + (k + 1) by omega]; simpa using this)
    simp only [planL]
    refine ⟨fun x hm => ?_, fun j o' hj ho => ?_, fun x hm y hm' e => ?_⟩
    · rcases List.mem_cons.1 hm with rfl | hm
      · exact ⟨hx, Nat.le_refl _⟩
      · exact ⟨(h1 x hm).1, Nat.le_of_succ_le (h1 x hm).2⟩
    · by_cases hji : j = i
      · subst hji; rw [h0] at ho; cases ho; exact ⟨_, List.mem_cons_self ..⟩
      · obtain ⟨b, hb⟩ := h2 j o' (by omega) ho
        exact ⟨b, List.mem_cons_of_mem _ hb⟩
    · rcases List.mem_cons.1 hm with rfl | hm <;> rcases List.mem_cons.1 hm' with rfl | hm'
      · rfl
      · have := (h1 y hm').2; simp only [] at e; omega
      · have := (h1 x hm).2; simp only [] at e; omega
      · exact h3 x hm y hm' e

structure PlanOk (ops : Array Oper) (N : Nat) (pl : List Spot) : Prop where
  ok : ∀ x ∈ pl, SpotOk ops x
  all : ∀ (j : Nat) (o : Oper), ops[j]? = some o → ∃ b, (j, b, o) ∈ pl
  uniq : ∀ x ∈ pl, ∀ y ∈ pl, x.1 = y.1 → x = y
  back : ∀ x ∈ pl, ∀ e ∈ x.2.2.after.toList, bnd e → e.on < x.1
  dstN : ∀ x ∈ pl, ∀ d, x.2.2.dst = some d → d < N
  dist : ∀ x ∈ pl, ∀ y ∈ pl, ∀ d, x.2.2.dst = some d → y.2.2.dst = some d → y.1 = x.1
  look : ∀ x ∈ pl, ∀ y ∈ pl, ∀ d, d ∈ x.2.2.looksAt ops → y.2.2.dst = some d → bit x.2.1 y.1 = true ∨ bit y.2.1 x.1 = true

theorem planOk {ops : Array Oper} {N : Nat} (h : static ops N (planL ops.toList 0 []) = true) : PlanOk ops N (planL ops.toList 0 []) := by
  obtain ⟨h1, h2, h3⟩ := planL_ok (ops := ops) ops.toList 0 [] (fun x hm => by cases hm) (fun k => by simp)
  have hs : ∀ x ∈ planL ops.toList 0 [], apart1 ops N (planL ops.toList 0 []) x = true := by simpa [static] using h
  refine ⟨fun x hm => (h1 x hm).1, fun j o ho => h2 j o (Nat.zero_le _) ho, h3, fun x hm e he hb => ?_, fun x hm d hd => ?_, fun x hm y hm' d hd hd' => ?_, fun x hm y hm' d hd hd' => ?_⟩
  · have := hs x hm
    simp only [apart1, Bool.and_eq_true, List.all_eq_true] at this
    have := this.1.1 e he
    rw [hb] at this
    simpa [blt_true] using this
  · have := hs x hm
    simp only [apart1, Bool.and_eq_true, List.all_eq_true] at this
    have := this.1.2
    rw [hd] at this
    exact blt_true.1 this
  · have := hs x hm
    simp only [apart1, Bool.and_eq_true, List.all_eq_true] at this
    have := this.2 y hm'
    rw [hd'] at this
    simp only [Bool.and_eq_true, Bool.or_eq_true] at this
    rcases this.1 with h | h
    · exact Nat.eq_of_beq_eq_true h
    · rw [hd] at h; simp at h
  · have := hs x hm
    simp only [apart1, Bool.and_eq_true, List.all_eq_true] at this
    have := this.2 y hm'
    rw [hd'] at this
    simp only [Bool.and_eq_true, Bool.or_eq_true] at this
    rcases this.2 with (h | h) | h
    · exact .inl h
    · exact .inr h
    · simp [hd] at h

/-! ### Same values -/
theorem sameL_eq {f : Value → Value → Bool} (hf : ∀ x y, f x y = true → x = y) : ∀ (xs ys : List Value), sameL f xs ys = true → xs = ys
  | [], [], _ => rfl
  | [], _ :: _, h => by simp [sameL] at h
  | _ :: _, [], h => by simp [sameL] at h
  | x :: xs, y :: ys, h => by
    simp only [sameL] at h
    split at h
    · rename_i hx; rw [hf x y hx, sameL_eq hf xs ys h]
    · cases h
theorem sameV_eq : ∀ (f : Nat) (x y : Value), sameV f x y = true → x = y
  | 0, _, _, h => by simp [sameV] at h
  | f + 1, x, y, h => by
    unfold sameV at h
    split at h
    · rw [eq_of_beq h]
    · rw [Bool.and_eq_true] at h; rw [eq_of_beq h.1, eq_of_beq h.2]
    · rename_i a b
      have e := eq_of_beq h
      obtain ⟨a⟩ := a
      obtain ⟨b⟩ := b
      have e' : a = b := Array.ext' e
      rw [e']
    · rw [eq_of_beq h]
    · rw [Bool.and_eq_true, Bool.and_eq_true] at h; rw [eq_of_beq h.1, Nat.eq_of_beq_eq_true h.2.1, Nat.eq_of_beq_eq_true h.2.2]
    · rw [eq_of_beq h]
    · rw [Bool.and_eq_true, Bool.and_eq_true] at h
      rw [Nat.eq_of_beq_eq_true h.1, Array.ext' (sameL_eq (sameV_eq f) _ _ h.2.1), Array.ext' (sameL_eq (sameV_eq f) _ _ h.2.2)]
    · rfl
    · rfl
    · rw [Bool.and_eq_true] at h; rw [eq_of_beq h.1, sameV_eq f _ _ h.2]
    · rw [Array.ext' (sameL_eq (sameV_eq f) _ _ h)]
    · rw [Array.ext' (sameL_eq (sameV_eq f) _ _ h)]
    · cases h

/-! ### Reads -/
theorem val_heap {h : Heap} {x : R Value} {td : Todo} (hh : val h x = .ok td) : ∃ v, td = .value v h := by
  simp only [val, bindR_ok] at hh
  obtain ⟨v, _, he⟩ := hh
  cases he
  exact ⟨v, rfl⟩
theorem isRead_heap {P : Program} {op : Op} {t : Tmps} {h : Heap} {td : Todo} (hr : isRead op = true) (hh : step P op t h = .ok td) : ∃ v, td = .value v h := by
  cases op <;> simp only [isRead, Bool.false_eq_true] at hr
  case load ty a => simp only [step, bindR_ok] at hh; obtain ⟨_, _, hh⟩ := hh; exact val_heap hh
  case slice ty x lo hi mx => simp only [step, bindR_ok] at hh; obtain ⟨_, _, _, _, _, _, _, _, hh⟩ := hh; exact val_heap hh
  case lookup ty x i ok => simp only [step, bindR_ok] at hh; obtain ⟨_, _, _, _, hh⟩ := hh; exact val_heap hh
  case call c =>
    simp only [step, callStep, bindR_ok] at hh
    obtain ⟨args, _, hh⟩ := hh
    split at hr
    · rename_i hc
      rw [hc] at hh
      simp only [builtinV, valh, bindR_ok, Except.ok.injEq] at hh
      obtain ⟨⟨v, h'⟩, ⟨v', hv, e⟩, e'⟩ := hh
      cases e
      exact ⟨_, e'.symm⟩
    · cases hr
end Go.AM
