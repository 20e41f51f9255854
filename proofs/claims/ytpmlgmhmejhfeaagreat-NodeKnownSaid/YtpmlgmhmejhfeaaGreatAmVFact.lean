/- A part of the abstract machine: definitions and lemmas for all programs, no claim of its own; no condition. -/
import Derived.Test.YtpmlgmhmejhfeaaGreatAmVCall
import Derived.Test.YtpmlgmhmejhfeaaGreatAmPost
set_option linter.unusedVariables false
set_option linter.unusedSimpArgs false
namespace Go.AM
open Go

theorem factV_of_run {P : Program} {L n : Nat} {facts : List (FuncId × List Memo)} (hf : FactsOk P facts) {f : FuncId} (h : isTrue ((recV P L facts n).call f #[] none0) = true) : FactOk P (f, .bool true) := by
  refine ⟨rfl, fun w => ?_⟩
  unfold isTrue at h
  split at h
  · rename_i h' hh
    have := (recV_sound (L := L) hf n).call hh (hr_none0 w) (cargs := #[]) VL.nil 0
    refine (callsIn_wide.1 this).mono fun e w' ⟨c, ρ', he, hv, hp⟩ => ?_
    subst he
    cases hv
    exact ⟨rfl, hp.fr.size, (fun c hc => hp.fr.same c hc fun i l e => by cases e), hp.fr.os, hp.fr.output, hp.fr.tape⟩
  · cases h
/-- Facts of one function. -/
def QOk (P : Program) (g : FuncId) (qs : List Memo) : Prop := ∀ q ∈ qs, q.f = g ∧ q.rows.length ≤ 32768 ∧ MemoOk P q
theorem qok_nil {P : Program} {g : FuncId} : QOk P g [] := fun q hq => by cases hq
theorem qok_cons {P : Program} {g : FuncId} {q : Memo} {qs : List Memo} (h1 : q.f = g) (h2 : Nat.ble q.rows.length 32768 = true) (h3 : MemoOk P q) (h : QOk P g qs) : QOk P g (q :: qs) := fun q' hq => by
  rcases List.mem_cons.1 hq with rfl | hq
  · exact ⟨h1, Nat.le_of_ble_eq_true h2, h3⟩
  · exact h q' hq
theorem factsOk_cons {P : Program} {g : FuncId} {qs : List Memo} {l : List (FuncId × List Memo)} (h : QOk P g qs) (hl : FactsOk P l) : FactsOk P ((g, qs) :: l) := fun g' hg => by
  rcases List.mem_cons.1 hg with rfl | hg
  · exact h
  · exact hl g' hg
end Go.AM
