/- The closed law isochronlaw42.NodeKnown returns true in every world and leaves what was there as it was; no condition. -/
import Derived.Test.YtpmlgmhmejhfeaaGreatNodeKnownFacts
set_option maxRecDepth 100000
namespace Go.Proofs.YtpmlgmhmejhfeaaGreat
open Go.AM

theorem nodeKnown_run : isTrue ((recV Tryz.prog 1000000 [(46, [q0]), (105, [q9]), (90, [q10]), (99, [q11]), (101, [q12]), (8, [q14, q17, q18, q19, q23, q24, q25, q26, q27, q28, q36, q48, q50, q51]), (12, [q52, q53]), (11, [q54])] 1000).call 3 #[] none0) = true := by kernel_rfl
theorem nodeKnown_fact : FactOk Tryz.prog (3, .bool true) := factV_of_run (facts := [(46, [q0]), (105, [q9]), (90, [q10]), (99, [q11]), (101, [q12]), (8, [q14, q17, q18, q19, q23, q24, q25, q26, q27, q28, q36, q48, q50, q51]), (12, [q52, q53]), (11, [q54])]) (factsOk_cons (qok_cons rfl rfl q0_ok qok_nil) (factsOk_cons (qok_cons rfl rfl q9_ok qok_nil) (factsOk_cons (qok_cons rfl rfl q10_ok qok_nil) (factsOk_cons (qok_cons rfl rfl q11_ok qok_nil) (factsOk_cons (qok_cons rfl rfl q12_ok qok_nil) (factsOk_cons (qok_cons rfl rfl q14_ok (qok_cons rfl rfl q17_ok (qok_cons rfl rfl q18_ok (qok_cons rfl rfl q19_ok (qok_cons rfl rfl q23_ok (qok_cons rfl rfl q24_ok (qok_cons rfl rfl q25_ok (qok_cons rfl rfl q26_ok (qok_cons rfl rfl q27_ok (qok_cons rfl rfl q28_ok (qok_cons rfl rfl q36_ok (qok_cons rfl rfl q48_ok (qok_cons rfl rfl q50_ok (qok_cons rfl rfl q51_ok qok_nil)))))))))))))) (factsOk_cons (qok_cons rfl rfl q52_ok (qok_cons rfl rfl q53_ok qok_nil)) (factsOk_cons (qok_cons rfl rfl q54_ok qok_nil) factsOk_nil)))))))) nodeKnown_run
end Go.Proofs.YtpmlgmhmejhfeaaGreat
