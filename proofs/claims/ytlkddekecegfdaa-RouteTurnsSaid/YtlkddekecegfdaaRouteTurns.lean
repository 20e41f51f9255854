/- Proved: the open law RouteTurns returns true for every input, and changes nothing that was there; no condition. -/
import Derived.Test.YtlkddekecegfdaaRows
import Derived.Test.YtlkddekecegfdaaGuLaw
import Derived.Test.YtlkddekecegfdaaGuPlain
import Derived.Test.YtlkddekecegfdaaGuLay
import Derived.WalkKit
import Derived.ProofKit
import Derived.OpenShut
import Derived.Below
import Derived.WideKeyArgs
namespace Go.Proofs.Ytlkddekecegfdaa.routeTurns
open Go.ChangeShapes Go.WideShapes Go.ChangeAt Go.RowKit
set_option linter.unusedVariables false      -- a walk need not use every 'w<i>' (that an integer argument fits its kind)

theorem own : ownKnob Try.prog.godebug = none := by kernel_rfl
theorem laidOut : laidOutB Try.prog = true := by kernel_rfl

theorem rec5 : Try.prog.readableRec 5 = true := by kernel_rfl
theorem size5 : 5 < Try.prog.types.size := of_decide_eq_true (by kernel_rfl)
theorem rec24 : Try.prog.readableRec 24 = true := by kernel_rfl
theorem size24 : 24 < Try.prog.types.size := of_decide_eq_true (by kernel_rfl)

/-! ### THE ROW's STEP -/
set_option maxRecDepth 100000 in
theorem lifted (os : Os) (started : os.Started) (H : Type) (enc : TypeId × Value → H) :
    ReturnsInHanded {} Try.checked os 6 .any (Rows.routeTurnsSpec.pre6 enc Try.prog Try.f6 Rows.routeTurnsRow.domain false) (Rows.routeTurnsSpec.post enc Try.prog Try.f6 false true false false) := by
  refine returnsInHanded_of_change (C := Try.checked) own started (by kernel_rfl) Try.func6
    (ChangeSpec.witness6 (enc := enc) (C := Try.checked) false ⟨#[], #[.agg #[.int .u8 0, .int .u8 0, .slice none 0 0, .slice none 0 0, .slice none 0 0, .slice none 0 0], .int .u8 0, .int .u8 0], []⟩ 8 (by kernel_rfl) (by kernel_rfl) (by kernel_rfl) (by kernel_rfl)) ?_
  intro W base args ds gs before hval0 hW hcnd _
  have hval : ∀ (j : Nat) t v, Try.f6.params[j]? = some t → args[j]? = some v → Value.okWide Try.prog W .any base t v := hval0
  have hW' := hW
  obtain ⟨p, q, hA0, hV, rfl, hfz, hnd⟩ := hW
  have hA : DataW.TrodAll enc Try.prog W 0 (fun _ => true) true Try.f6.params.toList args.toList ds p := hA0
  rw [Try.params6] at hA hval
  obtain ⟨v0, vs0, d0, ds0, p0, q0, hargs, rfl, rfl, h0, r0⟩ := trodAll_cons hA
  obtain ⟨v1, vs1, d1, ds1, p1, q1, rfl, rfl, rfl, h1, r1⟩ := trodAll_cons r0
  obtain ⟨v2, vs2, d2, ds2, p2, q2, rfl, rfl, rfl, h2, r2⟩ := trodAll_cons r1
  obtain ⟨rfl, rfl, rfl⟩ := trodAll_nil r2
  obtain rfl : args = #[v0, v1, v2] := by cases args; simp_all
  obtain ⟨rfl, rfl⟩ := trodVars_none hV
  clear hA0 hval0
  have o0 := hval 0 24 v0 rfl rfl
  have o1 := hval 1 5 v1 rfl rfl
  have o2 := hval 2 5 v2 rfl rfl
  refine (Go.AM.RouteTurns_walk Go.AM.steps (fun x0 x1 x2 w0 w1 w2 => Go.AM.P16.RouteTurns_pure x0 x1 x2 ⟨w0.1, w0.2.1, w0.2.2.1, w0.2.2.2.1, w0.2.2.2.2.1, w0.2.2.2.2.2⟩ w1 w2) o0 h0 o1 h1 o2 h2).mono fun e W' ⟨he, hg⟩ => ?_
  subst he
  have hb : Below W.heap.size W W' := ⟨hg.2.2.1, hg.2.2.2.2, hg.2.2.2.1, hg.1, hg.2.1⟩
  have lt : ∀ x ∈ p0 ++ (p1 ++ (p2 ++ [])), x.block < W.heap.size := fun x hx => by simpa using hW'.lt x (by simpa using hx)
  exact ⟨_, rfl, AM.post_of_kept (pa := p0 ++ (p1 ++ (p2 ++ []))) (pv := []) hW' (fun _ _ _ => (trodAll_cons_mk (shut_bool Try.underlying4 _) trodAll_mk0)) (fun sp hs => (trodAll_cons_mk (Go.WideElems.Trod_stays laidOut rec24 size24 h0 (fun x hx => hb.same (lt x (by simp [hx]))) (fun x hx => hs x (by simp [hx]))) (trodAll_cons_mk (Go.WideElems.Trod_stays laidOut rec5 size5 h1 (fun x hx => hb.same (lt x (by simp [hx]))) (fun x hx => hs x (by simp [hx]))) (trodAll_cons_mk (Go.WideElems.Trod_stays laidOut rec5 size5 h2 (fun x hx => hb.same (lt x (by simp [hx]))) (fun x hx => hs x (by simp [hx]))) trodAll_mk0)))) (fun _ _ => rfl) rfl
    hg (ok_one (by kernel_rfl) rfl (okWide_bool_mk Try.underlying4 _))⟩

theorem over : Rows.routeTurnsRow.holds Try.pinned (OpenSpec.ofChange Rows.routeTurnsSpec) :=
  OpenClaim.holds_of_wide 6 Try.f6 rfl rfl rfl rfl rfl rfl rfl ⟨rfl, rfl, rfl, rfl, rfl⟩ rfl rfl rfl rfl rfl (by kernel_rfl) Try.func6 (by kernel_rfl)
    (of_decide_eq_true (by kernel_rfl)) (by unfold Func.isWrapper; first | (rw [if_pos (by decide +kernel)]; kernel_rfl) | (rw [if_neg (by decide +kernel)]; exact ⟨rfl, rfl⟩))
    (fun os started H enc _ => lifted os started H enc)

/-- ████ THE STATEMENT ████ -/
theorem proved : Rows.RouteTurnsSaid :=
  over
#print axioms proved
end Go.Proofs.Ytlkddekecegfdaa.routeTurns
