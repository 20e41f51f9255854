/- The closed law isochronlaw21.RouteKnown returns true in every world and leaves what was there as it was; no condition. -/
import Derived.Test.YtcaanikafmbeaaaRouteKnownFacts
set_option maxRecDepth 100000
namespace Go.Proofs.Ytcaanikafmbeaaa
open Go.AM

theorem routeKnown_run : isTrue ((recV Try.prog 1000000 [(16, [q0, q23]), (29, [q1, q4, q6, q19, q21, q24]), (28, [q2, q3, q5, q20, q22, q25]), (17, [q7, q13, q18]), (6, [q8, q10, q12, q15, q16, q17])] 1000).call 3 #[] none0) = true := by kernel_rfl
theorem routeKnown_fact : FactOk Try.prog (3, .bool true) := factV_of_run (facts := [(16, [q0, q23]), (29, [q1, q4, q6, q19, q21, q24]), (28, [q2, q3, q5, q20, q22, q25]), (17, [q7, q13, q18]), (6, [q8, q10, q12, q15, q16, q17])]) (factsOk_cons (qok_cons rfl rfl q0_ok (qok_cons rfl rfl q23_ok qok_nil)) (factsOk_cons (qok_cons rfl rfl q1_ok (qok_cons rfl rfl q4_ok (qok_cons rfl rfl q6_ok (qok_cons rfl rfl q19_ok (qok_cons rfl rfl q21_ok (qok_cons rfl rfl q24_ok qok_nil)))))) (factsOk_cons (qok_cons rfl rfl q2_ok (qok_cons rfl rfl q3_ok (qok_cons rfl rfl q5_ok (qok_cons rfl rfl q20_ok (qok_cons rfl rfl q22_ok (qok_cons rfl rfl q25_ok qok_nil)))))) (factsOk_cons (qok_cons rfl rfl q7_ok (qok_cons rfl rfl q13_ok (qok_cons rfl rfl q18_ok qok_nil))) (factsOk_cons (qok_cons rfl rfl q8_ok (qok_cons rfl rfl q10_ok (qok_cons rfl rfl q12_ok (qok_cons rfl rfl q15_ok (qok_cons rfl rfl q16_ok (qok_cons rfl rfl q17_ok qok_nil)))))) factsOk_nil))))) routeKnown_run
end Go.Proofs.Ytcaanikafmbeaaa
