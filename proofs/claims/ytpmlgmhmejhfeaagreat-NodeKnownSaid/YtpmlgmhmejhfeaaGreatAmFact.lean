/- A part of the abstract machine: definitions and lemmas for all programs, no claim of its own; no condition. -/
import Derived.Test.YtpmlgmhmejhfeaaGreatAmFast
set_option linter.unusedVariables false
set_option linter.unusedSimpArgs false
namespace Go.AM
open Go

/-! ### Calls whose answer is known -/
def Kept (w w' : World) : Prop := w.heap.size ≤ w'.heap.size ∧ (∀ c, c < w.heap.size → w'.heap[c]? = w.heap[c]?) ∧ w'.os = w.os ∧ w'.output = w.output ∧ w'.tape = w.tape
def FactOk (P : Program) (p : FuncId × Value) : Prop := plainV 20 p.2 = true ∧ ∀ w, Calls P p.1 #[] w fun e w' => e = .returned p.2 ∧ Kept w w'

theorem Post.kept {ρ : Ren} {h : Heap} {w w' : World} (hr : HR ρ h w) (hk : Kept w w') : Post ρ h w ρ h w' := by
  obtain ⟨h1, h2, h3, h4, h5⟩ := hk
  refine ⟨Nat.le_refl _, fun _ _ => rfl, ⟨hr.n_le, fun i l e => ?_, hr.inj⟩, ⟨h1, fun c hc _ => h2 c hc, fun i l e o => .inr ⟨i, l, e, o, rfl⟩, h3, h4, h5⟩, .refl h, fun _ _ _ => rfl⟩
  obtain ⟨g1, g2, g3⟩ := hr.dom i l e
  exact ⟨g1, Nat.lt_of_lt_of_le g2 h1, g3.congr (h2 _ g2)⟩

def factOf : List (FuncId × Value) → FuncId → Option Value
  | [], _ => none
  | (g, v) :: l, f => match Nat.beq g f with | true => some v | false => factOf l f
theorem factOf_mem {f : FuncId} {v : Value} : ∀ {l : List (FuncId × Value)}, factOf l f = some v → (f, v) ∈ l
  | [], h => by simp [factOf] at h
  | (g, u) :: l, h => by
    simp only [factOf] at h
    split at h
    · rename_i hb; cases h; obtain rfl := Nat.eq_of_beq_eq_true hb; exact List.mem_cons_self ..
    · exact List.mem_cons_of_mem _ (factOf_mem h)

noncomputable def callG (P : Program) (facts : List (FuncId × Value)) (r : Rec) (L : Nat) (f : FuncId) (args : Array Value) (h : Heap) : R (Value × Heap) :=
  match factOf facts f with
  | none => callF P r L f args h
  | some v => match args.toList with
    | [] => .ok (v, h)
    | _ => .error "fact"

noncomputable def recG (P : Program) (L : Nat) (facts : List (FuncId × Value)) (n : Nat) : Rec :=
  @Nat.rec (fun _ => Rec) { call := fun _ _ _ => .error "fuel", round := fun _ _ _ => .error "fuel", again := fun _ _ _ _ _ _ => .error "fuel" }
    (fun _ r => { call := callG P facts r L, round := roundF P r L, again := fun N => againF P r L N }) n

theorem recG_sound {P : Program} {L : Nat} {facts : List (FuncId × Value)} (hf : ∀ p ∈ facts, FactOk P p) : ∀ n, RecSound P (recG P L facts n)
  | 0 => ⟨fun hh => by simp [recG] at hh, fun hh => by simp [recG] at hh, fun hh => by simp [recG] at hh⟩
  | n + 1 => by
    have ih := recG_sound (L := L) hf n
    refine ⟨fun {f args h v h'} hh ρ w cargs hr ha k => ?_, fun hh _ _ _ _ hr hl ha k => roundK_sound (L := L) ih (by rw [← roundF_eq]; exact hh) hr hl ha k,
      fun hh _ _ _ _ _ _ _ hF hn ht hr hd hk => againK_sound (L := L) ih (by rw [← againF_eq]; exact hh) hF hn ht hr hd hk⟩
    have hh' : callG P facts (recG P L facts n) L f args h = .ok (v, h') := hh
    unfold callG at hh'
    split at hh'
    · rw [callF_eq] at hh'; exact callK_sound ih hh' hr ha k
    · rename_i u hu
      split at hh'
      · rename_i hargs
        simp only [Except.ok.injEq, Prod.mk.injEq] at hh'
        obtain ⟨rfl, rfl⟩ := hh'
        obtain ⟨hp, hc⟩ := hf _ (factOf_mem hu)
        have hnil : cargs = #[] := by
          have : cargs.toList = [] := (hargs ▸ ha).cases_nil
          exact Array.ext' this
        subst hnil
        refine (callsIn_wide.2 (hc w)).mono fun e w' ⟨he, hk⟩ => ?_
        exact ⟨u, ρ, he, plain_refl 20 u hp, .kept hr hk⟩
      · cases hh'

theorem fact_of_run {P : Program} {L n : Nat} {facts : List (FuncId × Value)} (hf : ∀ p ∈ facts, FactOk P p) {f : FuncId} (h : isTrue ((recG P L facts n).call f #[] none0) = true) : FactOk P (f, .bool true) := by
  refine ⟨rfl, fun w => ?_⟩
  unfold isTrue at h
  split at h
  · rename_i h' hh
    have := (recG_sound (L := L) hf n).call hh (hr_none0 w) (cargs := #[]) VL.nil 0
    refine (callsIn_wide.1 this).mono fun e w' ⟨c, ρ', he, hv, hp⟩ => ?_
    subst he
    cases hv
    exact ⟨rfl, hp.fr.size, (fun c hc => hp.fr.same c hc fun i l e => by cases e), hp.fr.os, hp.fr.output, hp.fr.tape⟩
  · cases h
theorem facts_nil {P : Program} : ∀ p ∈ ([] : List (FuncId × Value)), FactOk P p := fun _ h => by cases h
theorem facts_cons {P : Program} {p : FuncId × Value} {l : List (FuncId × Value)} (h : FactOk P p) (hl : ∀ p ∈ l, FactOk P p) : ∀ q ∈ p :: l, FactOk P q := fun q hq => by
  rcases List.mem_cons.1 hq with rfl | hq
  · exact h
  · exact hl q hq
end Go.AM
