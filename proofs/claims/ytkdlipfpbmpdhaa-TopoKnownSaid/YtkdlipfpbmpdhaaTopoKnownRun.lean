/- The closed law TopoKnown (function 7 of the translation) returns true in every world and leaves what was there as it was; no condition. -/
import Derived.Test.YtkdlipfpbmpdhaaWakesRun
namespace Go.Proofs.Ytkdlipfpbmpdhaa
open Go.AM

theorem known_run : isTrue ((recG Try.prog 1000000 [(10, .bool true)] 1000).call 7 #[] none0) = true := by kernel_rfl
theorem known_fact : FactOk Try.prog (7, .bool true) := fact_of_run (facts_cons wakes_fact facts_nil) known_run
end Go.Proofs.Ytkdlipfpbmpdhaa
