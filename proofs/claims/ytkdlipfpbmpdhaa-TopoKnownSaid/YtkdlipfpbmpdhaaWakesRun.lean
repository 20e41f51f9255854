/- The law's own self-check of the reference (function 10 of the translation, 'wakes') returns true in every world and leaves what was there as it was; no condition. -/
import Derived.Test.YtkdlipfpbmpdhaaAmPost
import Derived.KernelRfl
import Derived.Test.YtkdlipfpbmpdhaaProg
namespace Go.Proofs.Ytkdlipfpbmpdhaa
open Go.AM

theorem wakes_run : isTrue ((recG Try.prog 1000000 [] 1000).call 10 #[] none0) = true := by kernel_rfl
theorem wakes_fact : FactOk Try.prog (10, .bool true) := fact_of_run facts_nil wakes_run
end Go.Proofs.Ytkdlipfpbmpdhaa
