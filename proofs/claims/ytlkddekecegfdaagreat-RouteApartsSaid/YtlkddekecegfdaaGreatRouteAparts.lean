/- Proved: the open law RouteAparts returns true for every input, and changes nothing that was there; no condition. -/
import Derived.Test.YtlkddekecegfdaaGreatRows
import Derived.Test.YtlkddekecegfdaaGreatGaLaw
import Derived.Test.YtlkddekecegfdaaGreatGaPlain
import Derived.Test.YtlkddekecegfdaaGreatGaLay
import Derived.WalkKit
import Derived.ProofKit
import Derived.OpenShut
import Derived.Below
import Derived.WideKeyArgs
namespace Go.Proofs.YtlkddekecegfdaaGreat.routeAparts
open Go.ChangeShapes Go.WideShapes Go.ChangeAt Go.RowKit
set_option linter.unusedVariables false      -- a walk need not use every 'w<i>' (that an integer argument fits its kind)

theorem own : ownKnob Tryz.prog.godebug = none := by kernel_rfl
theorem laidOut : laidOutB Tryz.prog = true := by kernel_rfl

theorem rec25 : Tryz.prog.readableRec 25 = true := by kernel_rfl
theorem size25 : 25 < Tryz.prog.types.size := of_decide_eq_true (by kernel_rfl)
theorem rec27 : Tryz.prog.readableRec 27 = true := by kernel_rfl
theorem size27 : 27 < Tryz.prog.types.size := of_decide_eq_true (by kernel_rfl)

/-! ### THE ROW's STEP -/
set_option maxRecDepth 100000 in
theorem lifted (os : Os) (started : os.Started) (H : Type) (enc : TypeId × Value → H) :
    ReturnsInHanded {} Tryz.checked os 4 .any (Rows.routeApartsSpec.pre6 enc Tryz.prog Tryz.f4 Rows.routeApartsRow.domain false) (Rows.routeApartsSpec.post enc Tryz.prog Tryz.f4 false true false false) := by
  refine returnsInHanded_of_change (C := Tryz.checked) own started (by kernel_rfl) Tryz.func4
    (ChangeSpec.witness6 (enc := enc) (C := Tryz.checked) false ⟨#[], #[.agg #[.int .i64 0, .slice none 0 0, .slice none 0 0], .slice none 0 0, .slice none 0 0], []⟩ 8 (by kernel_rfl) (by kernel_rfl) (by kernel_rfl) (by kernel_rfl)) ?_
  intro W base args ds gs before hval0 hW hcnd _
  have hval : ∀ (j : Nat) t v, Tryz.f4.params[j]? = some t → args[j]? = some v → Value.okWide Tryz.prog W .any base t v := hval0
  have hW' := hW
  obtain ⟨p, q, hA0, hV, rfl, hfz, hnd⟩ := hW
  have hA : DataW.TrodAll enc Tryz.prog W 0 (fun _ => true) true Tryz.f4.params.toList args.toList ds p := hA0
  rw [Tryz.params4] at hA hval
  obtain ⟨v0, vs0, d0, ds0, p0, q0, hargs, rfl, rfl, h0, r0⟩ := trodAll_cons hA
  obtain ⟨v1, vs1, d1, ds1, p1, q1, rfl, rfl, rfl, h1, r1⟩ := trodAll_cons r0
  obtain ⟨v2, vs2, d2, ds2, p2, q2, rfl, rfl, rfl, h2, r2⟩ := trodAll_cons r1
  obtain ⟨rfl, rfl, rfl⟩ := trodAll_nil r2
  obtain rfl : args = #[v0, v1, v2] := by cases args; simp_all
  obtain ⟨rfl, rfl⟩ := trodVars_none hV
  clear hA0 hval0
  have o0 := hval 0 25 v0 rfl rfl
  have o1 := hval 1 27 v1 rfl rfl
  have o2 := hval 2 27 v2 rfl rfl
  refine (Go.AM.RouteAparts_walk Go.AM.steps (fun x0 x1 x2 _ _ _ => Go.AM.P16.RouteAparts_pure x0 x1 x2) o0 h0 o1 h1 o2 h2).mono fun e W' ⟨he, hg⟩ => ?_
  subst he
  have hb : Below W.heap.size W W' := ⟨hg.2.2.1, hg.2.2.2.2, hg.2.2.2.1, hg.1, hg.2.1⟩
  have lt : ∀ x ∈ p0 ++ (p1 ++ (p2 ++ [])), x.block < W.heap.size := fun x hx => by simpa using hW'.lt x (by simpa using hx)
  exact ⟨_, rfl, AM.post_of_kept (pa := p0 ++ (p1 ++ (p2 ++ []))) (pv := []) hW' (fun _ _ _ => (trodAll_cons_mk (shut_bool Tryz.underlying4 _) trodAll_mk0)) (fun sp hs => (trodAll_cons_mk (Go.WideElems.Trod_stays laidOut rec25 size25 h0 (fun x hx => hb.same (lt x (by simp [hx]))) (fun x hx => hs x (by simp [hx]))) (trodAll_cons_mk (Go.WideElems.Trod_stays laidOut rec27 size27 h1 (fun x hx => hb.same (lt x (by simp [hx]))) (fun x hx => hs x (by simp [hx]))) (trodAll_cons_mk (Go.WideElems.Trod_stays laidOut rec27 size27 h2 (fun x hx => hb.same (lt x (by simp [hx]))) (fun x hx => hs x (by simp [hx]))) trodAll_mk0)))) (fun _ _ => rfl) rfl
    hg (ok_one (by kernel_rfl) rfl (okWide_bool_mk Tryz.underlying4 _))⟩

theorem over : Rows.routeApartsRow.holds Tryz.pinned (OpenSpec.ofChange Rows.routeApartsSpec) :=
  OpenClaim.holds_of_wide 4 Tryz.f4 rfl rfl rfl rfl rfl rfl rfl ⟨rfl, rfl, rfl, rfl, rfl⟩ rfl rfl rfl rfl rfl (by kernel_rfl) Tryz.func4 (by kernel_rfl)
    (of_decide_eq_true (by kernel_rfl)) (by unfold Func.isWrapper; first | (rw [if_pos (by decide +kernel)]; kernel_rfl) | (rw [if_neg (by decide +kernel)]; exact ⟨rfl, rfl⟩))
    (fun os started H enc _ => lifted os started H enc)

/-- ████ THE STATEMENT ████ -/
theorem proved : Rows.RouteApartsSaid :=
  over
#print axioms proved
end Go.Proofs.YtlkddekecegfdaaGreat.routeAparts
