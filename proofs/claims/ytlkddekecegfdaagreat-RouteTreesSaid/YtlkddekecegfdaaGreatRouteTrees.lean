/- Proved: the open law RouteTrees returns true for every input, and changes nothing that was there; no condition. -/
import Derived.Test.YtlkddekecegfdaaGreatRows
import Derived.Test.YtlkddekecegfdaaGreatGtLaw
import Derived.Test.YtlkddekecegfdaaGreatGtPlain
import Derived.Test.YtlkddekecegfdaaGreatGtLay
import Derived.WalkKit
import Derived.ProofKit
import Derived.OpenShut
import Derived.Below
import Derived.WideKeyArgs
namespace Go.Proofs.YtlkddekecegfdaaGreat.routeTrees
open Go.ChangeShapes Go.WideShapes Go.ChangeAt Go.RowKit
set_option linter.unusedVariables false      -- a walk need not use every 'w<i>' (that an integer argument fits its kind)

theorem own : ownKnob Tryz.prog.godebug = none := by kernel_rfl
theorem laidOut : laidOutB Tryz.prog = true := by kernel_rfl

theorem rec25 : Tryz.prog.readableRec 25 = true := by kernel_rfl
theorem size25 : 25 < Tryz.prog.types.size := of_decide_eq_true (by kernel_rfl)
theorem rec52 : Tryz.prog.readableRec 52 = true := by kernel_rfl
theorem size52 : 52 < Tryz.prog.types.size := of_decide_eq_true (by kernel_rfl)

/-! ### THE ROW's STEP -/
set_option maxRecDepth 100000 in
theorem lifted (os : Os) (started : os.Started) (H : Type) (enc : TypeId × Value → H) :
    ReturnsInHanded {} Tryz.checked os 5 .any (Rows.routeTreesSpec.pre6 enc Tryz.prog Tryz.f5 Rows.routeTreesRow.domain false) (Rows.routeTreesSpec.post enc Tryz.prog Tryz.f5 false true false false) := by
  refine returnsInHanded_of_change (C := Tryz.checked) own started (by kernel_rfl) Tryz.func5
    (ChangeSpec.witness6 (enc := enc) (C := Tryz.checked) false ⟨#[], #[.agg #[.int .i64 0, .slice none 0 0, .slice none 0 0], .slice none 0 0], []⟩ 8 (by kernel_rfl) (by kernel_rfl) (by kernel_rfl) (by kernel_rfl)) ?_
  intro W base args ds gs before hval0 hW hcnd _
  have hval : ∀ (j : Nat) t v, Tryz.f5.params[j]? = some t → args[j]? = some v → Value.okWide Tryz.prog W .any base t v := hval0
  have hW' := hW
  obtain ⟨p, q, hA0, hV, rfl, hfz, hnd⟩ := hW
  have hA : DataW.TrodAll enc Tryz.prog W 0 (fun _ => true) true Tryz.f5.params.toList args.toList ds p := hA0
  rw [Tryz.params5] at hA hval
  obtain ⟨v0, vs0, d0, ds0, p0, q0, hargs, rfl, rfl, h0, r0⟩ := trodAll_cons hA
  obtain ⟨v1, vs1, d1, ds1, p1, q1, rfl, rfl, rfl, h1, r1⟩ := trodAll_cons r0
  obtain ⟨rfl, rfl, rfl⟩ := trodAll_nil r1
  obtain rfl : args = #[v0, v1] := by cases args; simp_all
  obtain ⟨rfl, rfl⟩ := trodVars_none hV
  clear hA0 hval0
  have o0 := hval 0 25 v0 rfl rfl
  have o1 := hval 1 52 v1 rfl rfl
  refine (Go.AM.RouteTrees_walk Go.AM.steps (fun x0 x1 _ _ => Go.AM.P16.RouteTrees_pure x0 x1) o0 h0 o1 h1).mono fun e W' ⟨he, hg⟩ => ?_
  subst he
  have hb : Below W.heap.size W W' := ⟨hg.2.2.1, hg.2.2.2.2, hg.2.2.2.1, hg.1, hg.2.1⟩
  have lt : ∀ x ∈ p0 ++ (p1 ++ []), x.block < W.heap.size := fun x hx => by simpa using hW'.lt x (by simpa using hx)
  exact ⟨_, rfl, AM.post_of_kept (pa := p0 ++ (p1 ++ [])) (pv := []) hW' (fun _ _ _ => (trodAll_cons_mk (shut_bool Tryz.underlying4 _) trodAll_mk0)) (fun sp hs => (trodAll_cons_mk (Go.WideElems.Trod_stays laidOut rec25 size25 h0 (fun x hx => hb.same (lt x (by simp [hx]))) (fun x hx => hs x (by simp [hx]))) (trodAll_cons_mk (Go.WideElems.Trod_stays laidOut rec52 size52 h1 (fun x hx => hb.same (lt x (by simp [hx]))) (fun x hx => hs x (by simp [hx]))) trodAll_mk0))) (fun _ _ => rfl) rfl
    hg (ok_one (by kernel_rfl) rfl (okWide_bool_mk Tryz.underlying4 _))⟩

theorem over : Rows.routeTreesRow.holds Tryz.pinned (OpenSpec.ofChange Rows.routeTreesSpec) :=
  OpenClaim.holds_of_wide 5 Tryz.f5 rfl rfl rfl rfl rfl rfl rfl ⟨rfl, rfl, rfl, rfl, rfl⟩ rfl rfl rfl rfl rfl (by kernel_rfl) Tryz.func5 (by kernel_rfl)
    (of_decide_eq_true (by kernel_rfl)) (by unfold Func.isWrapper; first | (rw [if_pos (by decide +kernel)]; kernel_rfl) | (rw [if_neg (by decide +kernel)]; exact ⟨rfl, rfl⟩))
    (fun os started H enc _ => lifted os started H enc)

/-- ████ THE STATEMENT ████ -/
theorem proved : Rows.RouteTreesSaid :=
  over
#print axioms proved
end Go.Proofs.YtlkddekecegfdaaGreat.routeTrees
