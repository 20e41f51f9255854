/- The closed law isochronlaw24.PlanKnown returns true in every world and leaves what was there as it was; no condition. -/
import Derived.Test.YtfecfcfpeiheeaaPlanKnownFacts
set_option maxRecDepth 100000
namespace Go.Proofs.Ytfecfcfpeiheeaa
open Go.AM

theorem planKnown_run : isTrue ((recV Try.prog 1000000 [(9, [q1, q42, q43]), (21, [q2]), (37, [q11, q14, q17, q20, q23, q26, q29, q32, q35, q38, q41])] 1000).call 3 #[] none0) = true := by kernel_rfl
theorem planKnown_fact : FactOk Try.prog (3, .bool true) := factV_of_run (facts := [(9, [q1, q42, q43]), (21, [q2]), (37, [q11, q14, q17, q20, q23, q26, q29, q32, q35, q38, q41])]) (factsOk_cons (qok_cons rfl rfl q1_ok (qok_cons rfl rfl q42_ok (qok_cons rfl rfl q43_ok qok_nil))) (factsOk_cons (qok_cons rfl rfl q2_ok qok_nil) (factsOk_cons (qok_cons rfl rfl q11_ok (qok_cons rfl rfl q14_ok (qok_cons rfl rfl q17_ok (qok_cons rfl rfl q20_ok (qok_cons rfl rfl q23_ok (qok_cons rfl rfl q26_ok (qok_cons rfl rfl q29_ok (qok_cons rfl rfl q32_ok (qok_cons rfl rfl q35_ok (qok_cons rfl rfl q38_ok (qok_cons rfl rfl q41_ok qok_nil))))))))))) factsOk_nil))) planKnown_run
end Go.Proofs.Ytfecfcfpeiheeaa
