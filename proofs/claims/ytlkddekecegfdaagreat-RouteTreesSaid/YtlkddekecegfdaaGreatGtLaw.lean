/- Printed: functions of the given program as functions over plain data, and that the machine does what they say; no claim of its own; no condition. -/
import Derived.Test.YtlkddekecegfdaaGreatGtOk3
set_option maxRecDepth 100000
set_option maxHeartbeats 4000000
set_option linter.unusedVariables false
set_option linter.unusedSimpArgs false
namespace Go.AM
open Go Go.Proofs

theorem len3 {cs : List Value} (h : cs.length = 3) : ∃ c0 c1 c2, cs = [c0, c1, c2] := by
  obtain _ | ⟨c0, cs⟩ := cs
  · simp at h
  obtain _ | ⟨c1, cs⟩ := cs
  · simp at h
  obtain _ | ⟨c2, cs⟩ := cs
  · simp at h
  obtain _ | ⟨d, cs⟩ := cs
  · exact ⟨c0, c1, c2, rfl⟩
  · simp at h
theorem len4 {cs : List Value} (h : cs.length = 4) : ∃ c0 c1 c2 c3, cs = [c0, c1, c2, c3] := by
  obtain _ | ⟨c0, cs⟩ := cs
  · simp at h
  obtain _ | ⟨c1, cs⟩ := cs
  · simp at h
  obtain _ | ⟨c2, cs⟩ := cs
  · simp at h
  obtain _ | ⟨c3, cs⟩ := cs
  · simp at h
  obtain _ | ⟨d, cs⟩ := cs
  · exact ⟨c0, c1, c2, c3, rfl⟩
  · simp at h
theorem ce_65 : Tryz.prog.cellsOf 65 = 4 := by kernel_rfl
theorem ce_3 : Tryz.prog.cellsOf 3 = 1 := by kernel_rfl
theorem ce_25 : Tryz.prog.cellsOf 25 = 3 := by kernel_rfl
theorem ce_22 : Tryz.prog.cellsOf 22 = 1 := by kernel_rfl
theorem ce_4 : Tryz.prog.cellsOf 4 = 1 := by kernel_rfl
theorem ce_23 : Tryz.prog.cellsOf 23 = 1 := by kernel_rfl
theorem ce_27 : Tryz.prog.cellsOf 27 = 1 := by kernel_rfl
def WFApiLink (x : ApiLink) : Prop := (inR .i64 x.A) ∧ (inR .i64 x.B) ∧ (inR .i64 x.Per) ∧ (inR .i64 x.Delay)
theorem impApiLink {H : Type} {enc : TypeId × Value → H} {w : World} {base : Nat} {held : Bool} {fuel : Nat} {cs : List Value} {y : DataW H × List MemPlace} (h : DataW.trod enc Tryz.prog w base (fun _ => true) held fuel 65 cs = some y) : ∃ x : ApiLink, Imp eApiLink w cs x ∧ WFApiLink x := by
  obtain ⟨hlen, fuel2, hf⟩ := trod_struct Tryz.underlying65 h
  rw [ce_65] at hlen
  obtain ⟨c0, c1, c2, c3, rfl⟩ := len4 hlen
  obtain ⟨y0, h0⟩ := hf 0 _ rfl
  have h0 : DataW.trod enc Tryz.prog w base (fun _ => true) held fuel2 3 (([c0, c1, c2, c3].drop 0).take (Tryz.prog.cellsOf 3)) = some y0 := h0
  rw [ce_3] at h0
  have h0 : DataW.trod enc Tryz.prog w base (fun _ => true) held fuel2 3 [c0] = some y0 := h0
  obtain ⟨n0, e0, r0, s0⟩ := trod_int Tryz.underlying3 h0
  cases e0
  obtain ⟨y1, h1⟩ := hf 1 _ rfl
  have h1 : DataW.trod enc Tryz.prog w base (fun _ => true) held fuel2 3 (([(.int .i64 n0), c1, c2, c3].drop 1).take (Tryz.prog.cellsOf 3)) = some y1 := h1
  rw [ce_3] at h1
  have h1 : DataW.trod enc Tryz.prog w base (fun _ => true) held fuel2 3 [c1] = some y1 := h1
  obtain ⟨n1, e1, r1, s1⟩ := trod_int Tryz.underlying3 h1
  cases e1
  obtain ⟨y2, h2⟩ := hf 2 _ rfl
  have h2 : DataW.trod enc Tryz.prog w base (fun _ => true) held fuel2 3 (([(.int .i64 n0), (.int .i64 n1), c2, c3].drop 2).take (Tryz.prog.cellsOf 3)) = some y2 := h2
  rw [ce_3] at h2
  have h2 : DataW.trod enc Tryz.prog w base (fun _ => true) held fuel2 3 [c2] = some y2 := h2
  obtain ⟨n2, e2, r2, s2⟩ := trod_int Tryz.underlying3 h2
  cases e2
  obtain ⟨y3, h3⟩ := hf 3 _ rfl
  have h3 : DataW.trod enc Tryz.prog w base (fun _ => true) held fuel2 3 (([(.int .i64 n0), (.int .i64 n1), (.int .i64 n2), c3].drop 3).take (Tryz.prog.cellsOf 3)) = some y3 := h3
  rw [ce_3] at h3
  have h3 : DataW.trod enc Tryz.prog w base (fun _ => true) held fuel2 3 [c3] = some y3 := h3
  obtain ⟨n3, e3, r3, s3⟩ := trod_int Tryz.underlying3 h3
  cases e3
  exact ⟨⟨n0, n1, n2, n3⟩, show Imp eApiLink w ([(.int .i64 n0)] ++ ([(.int .i64 n1)] ++ ([(.int .i64 n2)] ++ ([(.int .i64 n3)] ++ [])))) _ from imp_map (imp_pair imp_int (imp_pair imp_int (imp_pair imp_int (imp_pair imp_int imp_unit)))), ⟨r0, s0⟩, ⟨r1, s1⟩, ⟨r2, s2⟩, ⟨r3, s3⟩⟩
def WFApiTopo (x : ApiTopo) : Prop := (inR .i64 x.Nodes) ∧ (∀ v ∈ x.Station, True) ∧ (∀ v ∈ x.Links, WFApiLink v)
theorem impApiTopo {H : Type} {enc : TypeId × Value → H} {w : World} {base : Nat} {held : Bool} {fuel : Nat} {cs : List Value} {y : DataW H × List MemPlace} (h : DataW.trod enc Tryz.prog w base (fun _ => true) held fuel 25 cs = some y) : ∃ x : ApiTopo, Imp eApiTopo w cs x ∧ WFApiTopo x := by
  obtain ⟨hlen, fuel2, hf⟩ := trod_struct Tryz.underlying25 h
  rw [ce_25] at hlen
  obtain ⟨c0, c1, c2, rfl⟩ := len3 hlen
  obtain ⟨y0, h0⟩ := hf 0 _ rfl
  have h0 : DataW.trod enc Tryz.prog w base (fun _ => true) held fuel2 3 (([c0, c1, c2].drop 0).take (Tryz.prog.cellsOf 3)) = some y0 := h0
  rw [ce_3] at h0
  have h0 : DataW.trod enc Tryz.prog w base (fun _ => true) held fuel2 3 [c0] = some y0 := h0
  obtain ⟨n0, e0, r0, s0⟩ := trod_int Tryz.underlying3 h0
  cases e0
  obtain ⟨y1, h1⟩ := hf 1 _ rfl
  have h1 : DataW.trod enc Tryz.prog w base (fun _ => true) held fuel2 22 (([(.int .i64 n0), c1, c2].drop 1).take (Tryz.prog.cellsOf 22)) = some y1 := h1
  rw [ce_22] at h1
  have h1 : DataW.trod enc Tryz.prog w base (fun _ => true) held fuel2 22 [c1] = some y1 := h1
  obtain ⟨n1, I1, r1⟩ := imp_of_sliceS (E := eBool) (fun _ => rfl) Tryz.underlying22 ce_4 (by decide) (fun v => True) (fun _ _ _ h => by obtain ⟨b, rfl⟩ := trod_bool Tryz.underlying4 h; exact ⟨b, imp_bool, trivial⟩) h1
  obtain ⟨y2, h2⟩ := hf 2 _ rfl
  have h2 : DataW.trod enc Tryz.prog w base (fun _ => true) held fuel2 23 (([(.int .i64 n0), c1, c2].drop 2).take (Tryz.prog.cellsOf 23)) = some y2 := h2
  rw [ce_23] at h2
  have h2 : DataW.trod enc Tryz.prog w base (fun _ => true) held fuel2 23 [c2] = some y2 := h2
  obtain ⟨n2, I2, r2⟩ := imp_of_sliceS (E := eApiLink) (fun _ => rfl) Tryz.underlying23 ce_65 (by decide) (fun v => WFApiLink v) (fun _ _ _ h => impApiLink h) h2
  exact ⟨⟨n0, n1, n2⟩, show Imp eApiTopo w ([(.int .i64 n0)] ++ ([c1] ++ ([c2] ++ []))) _ from imp_map (imp_pair imp_int (imp_pair I1 (imp_pair I2 imp_unit))), ⟨r0, s0⟩, r1, r2⟩
theorem RouteTrees_walk (steps : StepsAt Tryz.prog cutF) {H : Type} {enc : TypeId × Value → H} (pure : ∀ (x0 : ApiTopo) (x1 : (List (List Int))), (WFApiTopo x0) → (∀ v ∈ x1, ∀ v1 ∈ v, inR .i64 v1) → m_isochronlaw21_RouteTrees x0 x1 = .ok true) {W : World} {base : Nat} {v0 : Value} {d0 : DataW H} {q0 : List MemPlace} (hv0 : Value.okWide Tryz.prog W .any base 25 v0) (ht0 : DataW.Trod enc Tryz.prog W 0 (fun _ => true) true 25 v0 d0 q0) {v1 : Value} {d1 : DataW H} {q1 : List MemPlace} (hv1 : Value.okWide Tryz.prog W .any base 52 v1) (ht1 : DataW.Trod enc Tryz.prog W 0 (fun _ => true) true 52 v1 d1 q1) : Calls Tryz.prog 5 #[v0, v1] W fun e w' => e = .returned (.bool true) ∧ Kept W w' := by
  obtain ⟨cs0, rfl, hh0⟩ := val_struct Tryz.underlying25 hv0
  obtain ⟨fuel0, ht0⟩ := ht0
  obtain ⟨x0, I0, w0⟩ := impApiTopo ht0
  obtain ⟨hc1, hh1⟩ := val_slice Tryz.underlying52 hv1
  obtain ⟨fuel1, ht1⟩ := ht1
  rw [hc1] at ht1
  obtain ⟨x1, I1, w1⟩ := imp_of_sliceS (E := (eSl (eInt .i64))) (fun _ => rfl) Tryz.underlying52 ce_27 (by decide) (fun v => ∀ v1 ∈ v, inR .i64 v1) (fun _ _ _ h => imp_of_sliceS (E := (eInt .i64)) (fun _ => rfl) Tryz.underlying27 ce_3 (by decide) (fun v => inR .i64 v) (fun _ _ _ h => by obtain ⟨n, rfl, r1, r2⟩ := trod_int Tryz.underlying3 h; exact ⟨n, imp_int, r1, r2⟩) h) ht1
  have s0 := imp_start W
  obtain ⟨ρ0, h0, φ0, a0, s1, l0, V0, R0, C0⟩ := I0 _ _ _ s0
  obtain ⟨ρ1, h1, φ1, a1, s2, l1, V1, R1, C1⟩ := I1 _ _ _ s1
  have V0 := V0.mono l1.sub
  have R0 := Enc.mono _ l1.le R0
  obtain ⟨b0_0, m0_0, c0_0, b0_1, m0_1, c0_1, rfl, H0_0, H0_1⟩ := eApiTopo_el R0
  obtain ⟨b1, m1, c1, rfl, H1⟩ := R1
  obtain ⟨p, hp, hq⟩ := f5_ok (n := 0) s2.st x0 x1 H0_0 H0_1 H1 (C0 b0_0 m0_0 c0_0 (by simp)) (C0 b0_1 m0_1 c0_1 (by simp)) true (pure x0 x1 w0 w1)
  subst hq
  have hV := law_calls steps s2 (cv := #[(.agg cs0), _]) hp (.cons V0.agg (.cons V1.head .nil))
  exact hV
end Go.AM
