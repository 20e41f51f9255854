/- A part of the abstract machine: definitions and lemmas for all programs, no claim of its own; no condition. -/
import Derived.Test.YtpmlgmhmejhfeaaGreatAmOps2
set_option linter.unusedVariables false
set_option linter.unusedSimpArgs false
namespace Go.AM
open Go

/-- An operation that doesn't look at the world: it hands back one value in whatever world, or it never ends well. -/
def Quiet {α : Type} (P : Program) (s : Sem α) : Prop :=
  (∃ a, ∀ w, s.run P w = .ok a w) ∨ (∀ w, ∃ x w', s.run P w = .halt x w')

section
variable {P : Program} {α β : Type}
theorem Quiet.pure (a : α) : Quiet P (Pure.pure a : Sem α) := .inl ⟨a, fun _ => rfl⟩
theorem Quiet.dies {s : Sem α} (h : ∀ w, ∃ x w', s.run P w = .halt x w') : Quiet P s := .inr h
theorem Quiet.halt (x : Halt) : Quiet P (Sem.halt x : Sem α) := .inr fun w => ⟨x, w, rfl⟩
theorem Quiet.stuck (x : String) : Quiet P (Go.stuck x : Sem α) := .inr fun w => ⟨_, w, rfl⟩
theorem Quiet.unsupported (x : Unsupported) : Quiet P (Go.unsupported x : Sem α) := .inr fun w => ⟨_, w, rfl⟩
theorem Quiet.bind {s : Sem α} {f : α → Sem β} (h : Quiet P s) (hf : ∀ a, (∀ w, s.run P w = .ok a w) → Quiet P (f a)) : Quiet P (s >>= f) := by
  rcases h with ⟨a, ha⟩ | h
  · rcases hf a ha with ⟨b, hb⟩ | hb
    · exact .inl ⟨b, fun w => by simp [ha, hb]⟩
    · exact .inr fun w => by obtain ⟨x, w', e⟩ := hb w; exact ⟨x, w', by simp [ha, e]⟩
  · exact .inr fun w => by obtain ⟨x, w', e⟩ := h w; exact ⟨x, w', by simp [e]⟩
theorem Quiet.ite {c : Prop} [Decidable c] {x y : Sem α} (hx : Quiet P x) (hy : Quiet P y) : Quiet P (if c then x else y) := by
  split <;> assumption
theorem Quiet.ite' {c : Prop} [Decidable c] {x y : Sem α} (hx : c → Quiet P x) (hy : ¬ c → Quiet P y) : Quiet P (if c then x else y) := by
  split
  · exact hx ‹_›
  · exact hy ‹_›
theorem Quiet.runtimePanic (e : RuntimeError) : Quiet P (Go.runtimePanic e : Sem α) := by
  refine .inr fun w => ?_
  cases e <;> simp only [Go.runtimePanic, Sem.run_bind, run_program, Result.andThen_ok, run_goPanic]
  case typeAssertion i c a m =>
    cases hh : (elemOf P.rt.typeAssertionError).run P w with
    | ok e w1 => exact ⟨_, _, by simp [newVar, newRow]; exact ⟨rfl, rfl⟩⟩
    | halt x w1 => exact ⟨x, w1, rfl⟩
  case panicNil =>
    cases hh : (elemOf P.rt.panicNilError).run P w with
    | ok e w1 => exact ⟨_, _, by simp [newVar, newRow]; exact ⟨rfl, rfl⟩⟩
    | halt x w1 => exact ⟨x, w1, rfl⟩
  all_goals exact ⟨_, _, rfl⟩
theorem Quiet.program : Quiet P Go.program := .inl ⟨P, fun _ => rfl⟩
theorem Quiet.typeInfo (t : TypeId) : Quiet P (Go.typeInfo t) := by
  unfold Go.typeInfo
  refine .bind .program fun p _ => ?_
  split
  · exact .pure _
  · exact .stuck _
theorem Quiet.underlying (t : TypeId) : Quiet P (Go.underlying t) := by
  unfold Go.underlying
  refine .bind .program fun p _ => ?_
  split
  · exact .pure _
  · exact .stuck _
theorem Quiet.sizeOf (t : TypeId) : Quiet P (Go.sizeOf t) := .bind (.typeInfo t) fun _ _ => .pure _
theorem Quiet.typeStr (t : TypeId) : Quiet P (Go.typeStr t) := by
  unfold Go.typeStr
  refine .bind (.typeInfo t) fun i _ => ?_
  exact .ite (.unsupported _) (.pure _)
theorem Quiet.isAgg (t : TypeId) : Quiet P (Go.isAgg t) := by
  unfold Go.isAgg
  refine .bind (.underlying t) fun d _ => ?_
  split <;> exact .pure _
theorem Quiet.part (t : TypeId) (cs : Array Value) (off : Nat) : Quiet P (Go.part t cs off) := by
  unfold Go.part
  refine .bind (.isAgg t) fun b _ => ?_
  refine .ite (.bind (.sizeOf t) fun _ _ => .pure _) ?_
  split
  · exact .pure _
  · exact .stuck _
theorem Quiet.asBool (v : Value) : Quiet P (Go.asBool v) := by
  cases v <;> first | exact .pure _ | exact .stuck _
theorem Quiet.run {s : Sem α} (h : Quiet P s) {a : α} (hh : pureRun P s = .ok a) (w : World) : s.run P w = .ok a w := by
  rcases h with ⟨b, hb⟩ | h
  · simp [pureRun, hb] at hh; rw [hb, hh]
  · obtain ⟨x, w', e⟩ := h default; simp [pureRun, e] at hh

/-- Plain, at whatever depth. -/
def Pl (v : Value) : Prop := ∃ f, plainV f v = true
theorem Pl.refl {ρ : Ren} {v : Value} (h : Pl v) : VR ρ v v := let ⟨f, hf⟩ := h; plain_refl f v hf
theorem Pl.eq {ρ : Ren} {v c : Value} (h : Pl v) (hc : VR ρ v c) : c = v := let ⟨f, hf⟩ := h; plain_eq f v hf c hc
theorem Pl.iface {t : TypeId} {v : Value} (h : Pl (.iface t v)) : Pl v := by
  obtain ⟨f, hf⟩ := h
  cases f with
  | zero => simp [plainV] at hf
  | succ f => exact ⟨f, by simpa [plainV] using hf⟩
theorem Pl.agg {cs : Array Value} (h : Pl (.agg cs)) : ∀ v ∈ cs.toList, Pl v := by
  obtain ⟨f, hf⟩ := h
  cases f with
  | zero => simp [plainV] at hf
  | succ f =>
    simp only [plainV, List.all_eq_true] at hf
    exact fun v hv => ⟨f, hf v hv⟩
theorem plainV_mono : ∀ (f g : Nat) (v : Value), f ≤ g → plainV f v = true → plainV g v = true := by
  intro f
  induction f with
  | zero => intro g v _ h; simp [plainV] at h
  | succ f ih =>
    intro g v hg h
    cases g with
    | zero => omega
    | succ g =>
      have hfg : f ≤ g := by omega
      cases v with
      | iface t x => simp only [plainV] at h ⊢; exact ih g x hfg h
      | agg cs => simp only [plainV, List.all_eq_true] at h ⊢; exact fun x hx => ih g x hfg (h x hx)
      | bool b => rfl
      | int k n => rfl
      | string s => rfl
      | pointer a => cases a <;> simp_all [plainV]
      | slice a n c => cases a <;> cases n <;> cases c <;> simp_all [plainV]
      | map r => cases r <;> simp_all [plainV]
      | nilFunc => rfl
      | nilIface => rfl
      | _ => simp [plainV] at h
theorem Pl.of_list : ∀ (l : List Value), (∀ v ∈ l, Pl v) → ∃ f, ∀ v ∈ l, plainV f v = true
  | [], _ => ⟨0, fun v hv => by cases hv⟩
  | x :: l, h => by
    obtain ⟨f, hf⟩ := h x (List.mem_cons_self ..)
    obtain ⟨g, hg⟩ := Pl.of_list l fun v hv => h v (List.mem_cons_of_mem _ hv)
    refine ⟨Nat.max f g, fun v hv => ?_⟩
    rcases List.mem_cons.1 hv with rfl | hv
    · exact plainV_mono f _ _ (Nat.le_max_left _ _) hf
    · exact plainV_mono g _ _ (Nat.le_max_right _ _) (hg v hv)
theorem Pl.mk_agg {cs : Array Value} (h : ∀ v ∈ cs.toList, Pl v) : Pl (.agg cs) := by
  obtain ⟨f, hf⟩ := Pl.of_list _ h
  exact ⟨f + 1, by simp only [plainV, List.all_eq_true]; exact hf⟩
theorem Pl.part {t : TypeId} {cs : Array Value} {off : Nat} {v : Value} (h : ∀ v ∈ cs.toList, Pl v) (hv : ∀ w, (Go.part t cs off).run P w = .ok v w) : Pl v := by
  have := hv default
  simp only [Go.part, Sem.run_bind] at this
  cases ha : (Go.isAgg t).run P default with
  | halt x w => simp [ha] at this
  | ok b w =>
    simp only [ha, Result.andThen_ok] at this
    cases b with
    | true =>
      simp only [if_true, Sem.run_bind] at this
      cases hs : (Go.sizeOf t).run P w with
      | halt x w => simp [hs] at this
      | ok n w' =>
        simp only [hs, Result.andThen_ok, Sem.run_pure, Result.ok.injEq] at this
        rw [← this.1]
        refine Pl.mk_agg fun x hx => h x ?_
        simp only [Array.toList_extract, List.extract] at hx
        exact List.mem_of_mem_drop (List.mem_of_mem_take hx)
    | false =>
      simp only [Bool.false_eq_true, if_false] at this
      split at this
      · rename_i x hx
        simp only [Sem.run_pure, Result.ok.injEq] at this
        rw [← this.1]
        exact h _ (by have := Array.mem_of_getElem? hx; simpa using this)
      · simp at this

end
end Go.AM
