/- The closed law isochronlaw28.SynthKnown returns true in every world and leaves what was there as it was; no condition. -/
import Derived.Test.YtjcnbcacfammjaaGreatSynthKnownFacts
set_option maxRecDepth 100000
namespace Go.Proofs.YtjcnbcacfammjaaGreat
open Go.AM

theorem synthKnown_run : isTrue ((recV Tryz.prog 1000000 [(25, [q0]), (27, [q1, q14, q21, q25, q32]), (46, [q10, q13, q20, q24, q31]), (30, [q15]), (32, [q16, q26, q33]), (34, [q17, q34]), (17, [q27, q28]), (10, [q35]), (11, [q36])] 1000).call 3 #[] none0) = true := by kernel_rfl
theorem synthKnown_fact : FactOk Tryz.prog (3, .bool true) := factV_of_run (facts := [(25, [q0]), (27, [q1, q14, q21, q25, q32]), (46, [q10, q13, q20, q24, q31]), (30, [q15]), (32, [q16, q26, q33]), (34, [q17, q34]), (17, [q27, q28]), (10, [q35]), (11, [q36])]) (factsOk_cons (qok_cons rfl rfl q0_ok qok_nil) (factsOk_cons (qok_cons rfl rfl q1_ok (qok_cons rfl rfl q14_ok (qok_cons rfl rfl q21_ok (qok_cons rfl rfl q25_ok (qok_cons rfl rfl q32_ok qok_nil))))) (factsOk_cons (qok_cons rfl rfl q10_ok (qok_cons rfl rfl q13_ok (qok_cons rfl rfl q20_ok (qok_cons rfl rfl q24_ok (qok_cons rfl rfl q31_ok qok_nil))))) (factsOk_cons (qok_cons rfl rfl q15_ok qok_nil) (factsOk_cons (qok_cons rfl rfl q16_ok (qok_cons rfl rfl q26_ok (qok_cons rfl rfl q33_ok qok_nil))) (factsOk_cons (qok_cons rfl rfl q17_ok (qok_cons rfl rfl q34_ok qok_nil)) (factsOk_cons (qok_cons rfl rfl q27_ok (qok_cons rfl rfl q28_ok qok_nil)) (factsOk_cons (qok_cons rfl rfl q35_ok qok_nil) (factsOk_cons (qok_cons rfl rfl q36_ok qok_nil) factsOk_nil))))))))) synthKnown_run
end Go.Proofs.YtjcnbcacfammjaaGreat
