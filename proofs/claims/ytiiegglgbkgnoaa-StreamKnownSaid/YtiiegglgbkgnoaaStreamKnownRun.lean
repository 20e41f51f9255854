/- The closed law isochronlaw22.StreamKnown returns true in every world and leaves what was there as it was; no condition. -/
import Derived.Test.YtiiegglgbkgnoaaStreamKnownFacts
set_option maxRecDepth 100000
namespace Go.Proofs.Ytiiegglgbkgnoaa
open Go.AM

theorem streamKnown_run : isTrue ((recV Try.prog 1000000 [(25, [q0, q13]), (98, [q3]), (99, [q4]), (26, [q9, q12, q28, q31])] 1000).call 5 #[] none0) = true := by kernel_rfl
theorem streamKnown_fact : FactOk Try.prog (5, .bool true) := factV_of_run (facts := [(25, [q0, q13]), (98, [q3]), (99, [q4]), (26, [q9, q12, q28, q31])]) (factsOk_cons (qok_cons rfl rfl q0_ok (qok_cons rfl rfl q13_ok qok_nil)) (factsOk_cons (qok_cons rfl rfl q3_ok qok_nil) (factsOk_cons (qok_cons rfl rfl q4_ok qok_nil) (factsOk_cons (qok_cons rfl rfl q9_ok (qok_cons rfl rfl q12_ok (qok_cons rfl rfl q28_ok (qok_cons rfl rfl q31_ok qok_nil)))) factsOk_nil)))) streamKnown_run
end Go.Proofs.Ytiiegglgbkgnoaa
