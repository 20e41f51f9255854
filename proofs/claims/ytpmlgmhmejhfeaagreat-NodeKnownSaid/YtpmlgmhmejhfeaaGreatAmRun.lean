/- A part of the abstract machine: definitions and lemmas for all programs, no claim of its own; no condition. -/
import Derived.Test.YtpmlgmhmejhfeaaGreatAmCall
set_option linter.unusedVariables false
set_option linter.unusedSimpArgs false
namespace Go.AM
open Go

def none0 : Heap := { n := 0, t := HT.none, base := 0, wr := big, hi := 0 }
def isTrue : R (Value × Heap) → Bool
  | .ok (.bool true, _) => true
  | _ => false

theorem hr_none0 (w : World) : HR (fun _ => Option.none) none0 w :=
  ⟨by simp [AM.none0], (fun i l e => by cases e), (fun i j li lj _ e => by cases e)⟩

theorem calls_of_run {P : Program} {L n : Nat} {f : FuncId} (h : isTrue ((recN P L n).call f #[] none0) = true) (w : World) :
    Calls P f #[] w fun e w' => e = .returned (.bool true) ∧ w.heap.size ≤ w'.heap.size ∧ (∀ c, c < w.heap.size → w'.heap[c]? = w.heap[c]?) ∧ w'.os = w.os ∧ w'.output = w.output ∧ w'.tape = w.tape := by
  unfold isTrue at h
  split at h
  · rename_i h' hh
    have := (recN_sound (P := P) (L := L) n).call hh (hr_none0 w) (cargs := #[]) VL.nil 0
    refine (callsIn_wide.1 this).mono fun e w' ⟨c, ρ', he, hv, hp⟩ => ?_
    subst he
    cases hv
    exact ⟨rfl, hp.fr.size, (fun c hc => hp.fr.same c hc fun i l e => by cases e), hp.fr.os, hp.fr.output, hp.fr.tape⟩
  · cases h
end Go.AM
