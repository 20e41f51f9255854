/- Printed: functions of the given program as functions over plain data, and that the machine does what they say; no claim of its own; no condition. -/
import Derived.Test.YtlkddekecegfdaaGuOk3
set_option maxRecDepth 100000
set_option maxHeartbeats 4000000
set_option linter.unusedVariables false
set_option linter.unusedSimpArgs false
namespace Go.AM
open Go Go.Proofs

theorem len6 {cs : List Value} (h : cs.length = 6) : ∃ c0 c1 c2 c3 c4 c5, cs = [c0, c1, c2, c3, c4, c5] := by
  obtain _ | ⟨c0, cs⟩ := cs
  · simp at h
  obtain _ | ⟨c1, cs⟩ := cs
  · simp at h
  obtain _ | ⟨c2, cs⟩ := cs
  · simp at h
  obtain _ | ⟨c3, cs⟩ := cs
  · simp at h
  obtain _ | ⟨c4, cs⟩ := cs
  · simp at h
  obtain _ | ⟨c5, cs⟩ := cs
  · simp at h
  obtain _ | ⟨d, cs⟩ := cs
  · exact ⟨c0, c1, c2, c3, c4, c5, rfl⟩
  · simp at h
theorem ce_24 : Try.prog.cellsOf 24 = 6 := by kernel_rfl
theorem ce_5 : Try.prog.cellsOf 5 = 1 := by kernel_rfl
theorem ce_22 : Try.prog.cellsOf 22 = 1 := by kernel_rfl
def WFIsochronref16Draft (x : Isochronref16Draft) : Prop := (inR .u8 x.Bridges) ∧ (inR .u8 x.Stations) ∧ (∀ v ∈ x.Chords, inR .u8 v) ∧ (∀ v ∈ x.Homes, inR .u8 v) ∧ (∀ v ∈ x.Pers, inR .u8 v) ∧ (∀ v ∈ x.Delays, inR .u8 v)
theorem impIsochronref16Draft {H : Type} {enc : TypeId × Value → H} {w : World} {base : Nat} {sp : Nat → Bool} {held : Bool} {fuel : Nat} {cs : List Value} {y : DataW H × List MemPlace} (h : DataW.trod enc Try.prog w base sp held fuel 24 cs = some y) (hh : HasL w cs) : ∃ x : Isochronref16Draft, Imp eIsochronref16Draft w cs x ∧ WFIsochronref16Draft x := by
  obtain ⟨hlen, fuel2, hf⟩ := trod_struct Try.underlying24 h
  rw [ce_24] at hlen
  obtain ⟨c0, c1, c2, c3, c4, c5, rfl⟩ := len6 hlen
  obtain ⟨y0, h0⟩ := hf 0 _ rfl
  have h0 : DataW.trod enc Try.prog w base sp held fuel2 5 (([c0, c1, c2, c3, c4, c5].drop 0).take (Try.prog.cellsOf 5)) = some y0 := h0
  rw [ce_5] at h0
  have h0 : DataW.trod enc Try.prog w base sp held fuel2 5 [c0] = some y0 := h0
  obtain ⟨n0, e0, r0, s0⟩ := trod_int Try.underlying5 h0
  cases e0
  obtain ⟨y1, h1⟩ := hf 1 _ rfl
  have h1 : DataW.trod enc Try.prog w base sp held fuel2 5 (([(.int .u8 n0), c1, c2, c3, c4, c5].drop 1).take (Try.prog.cellsOf 5)) = some y1 := h1
  rw [ce_5] at h1
  have h1 : DataW.trod enc Try.prog w base sp held fuel2 5 [c1] = some y1 := h1
  obtain ⟨n1, e1, r1, s1⟩ := trod_int Try.underlying5 h1
  cases e1
  obtain ⟨y2, h2⟩ := hf 2 _ rfl
  have h2 : DataW.trod enc Try.prog w base sp held fuel2 22 (([(.int .u8 n0), (.int .u8 n1), c2, c3, c4, c5].drop 2).take (Try.prog.cellsOf 22)) = some y2 := h2
  rw [ce_22] at h2
  have h2 : DataW.trod enc Try.prog w base sp held fuel2 22 [c2] = some y2 := h2
  obtain ⟨n2, I2, r2⟩ := imp_of_slice (E := (eInt .u8)) Try.underlying22 ce_5 (by decide) (fun v => inR .u8 v) (fun _ _ _ h => by obtain ⟨n, rfl, r1, r2⟩ := trod_int Try.underlying5 h; exact ⟨n, imp_int, r1, r2⟩) h2 (fun a len cap e => hh a len cap (by have e : c2 = _ := (List.cons.inj e).1; rw [e]; simp))
  obtain ⟨y3, h3⟩ := hf 3 _ rfl
  have h3 : DataW.trod enc Try.prog w base sp held fuel2 22 (([(.int .u8 n0), (.int .u8 n1), c2, c3, c4, c5].drop 3).take (Try.prog.cellsOf 22)) = some y3 := h3
  rw [ce_22] at h3
  have h3 : DataW.trod enc Try.prog w base sp held fuel2 22 [c3] = some y3 := h3
  obtain ⟨n3, I3, r3⟩ := imp_of_slice (E := (eInt .u8)) Try.underlying22 ce_5 (by decide) (fun v => inR .u8 v) (fun _ _ _ h => by obtain ⟨n, rfl, r1, r2⟩ := trod_int Try.underlying5 h; exact ⟨n, imp_int, r1, r2⟩) h3 (fun a len cap e => hh a len cap (by have e : c3 = _ := (List.cons.inj e).1; rw [e]; simp))
  obtain ⟨y4, h4⟩ := hf 4 _ rfl
  have h4 : DataW.trod enc Try.prog w base sp held fuel2 22 (([(.int .u8 n0), (.int .u8 n1), c2, c3, c4, c5].drop 4).take (Try.prog.cellsOf 22)) = some y4 := h4
  rw [ce_22] at h4
  have h4 : DataW.trod enc Try.prog w base sp held fuel2 22 [c4] = some y4 := h4
  obtain ⟨n4, I4, r4⟩ := imp_of_slice (E := (eInt .u8)) Try.underlying22 ce_5 (by decide) (fun v => inR .u8 v) (fun _ _ _ h => by obtain ⟨n, rfl, r1, r2⟩ := trod_int Try.underlying5 h; exact ⟨n, imp_int, r1, r2⟩) h4 (fun a len cap e => hh a len cap (by have e : c4 = _ := (List.cons.inj e).1; rw [e]; simp))
  obtain ⟨y5, h5⟩ := hf 5 _ rfl
  have h5 : DataW.trod enc Try.prog w base sp held fuel2 22 (([(.int .u8 n0), (.int .u8 n1), c2, c3, c4, c5].drop 5).take (Try.prog.cellsOf 22)) = some y5 := h5
  rw [ce_22] at h5
  have h5 : DataW.trod enc Try.prog w base sp held fuel2 22 [c5] = some y5 := h5
  obtain ⟨n5, I5, r5⟩ := imp_of_slice (E := (eInt .u8)) Try.underlying22 ce_5 (by decide) (fun v => inR .u8 v) (fun _ _ _ h => by obtain ⟨n, rfl, r1, r2⟩ := trod_int Try.underlying5 h; exact ⟨n, imp_int, r1, r2⟩) h5 (fun a len cap e => hh a len cap (by have e : c5 = _ := (List.cons.inj e).1; rw [e]; simp))
  exact ⟨⟨n0, n1, n2, n3, n4, n5⟩, show Imp eIsochronref16Draft w ([(.int .u8 n0)] ++ ([(.int .u8 n1)] ++ ([c2] ++ ([c3] ++ ([c4] ++ ([c5] ++ [])))))) _ from imp_map (imp_pair imp_int (imp_pair imp_int (imp_pair I2 (imp_pair I3 (imp_pair I4 (imp_pair I5 imp_unit)))))), ⟨r0, s0⟩, ⟨r1, s1⟩, r2, r3, r4, r5⟩
theorem RouteTurns_walk (steps : StepsAt Try.prog cutF) {H : Type} {enc : TypeId × Value → H} (pure : ∀ (x0 : Isochronref16Draft) (x1 : Int) (x2 : Int), (WFIsochronref16Draft x0) → (inR .u8 x1) → (inR .u8 x2) → m_isochronlaw21_RouteTurns x0 x1 x2 = .ok true) {W : World} {base : Nat} {sp : Nat → Bool} {v0 : Value} {d0 : DataW H} {q0 : List MemPlace} (hv0 : Value.okWide Try.prog W .any base 24 v0) (ht0 : DataW.Trod enc Try.prog W 0 sp true 24 v0 d0 q0) {v1 : Value} {d1 : DataW H} {q1 : List MemPlace} (hv1 : Value.okWide Try.prog W .any base 5 v1) (ht1 : DataW.Trod enc Try.prog W 0 sp true 5 v1 d1 q1) {v2 : Value} {d2 : DataW H} {q2 : List MemPlace} (hv2 : Value.okWide Try.prog W .any base 5 v2) (ht2 : DataW.Trod enc Try.prog W 0 sp true 5 v2 d2 q2) : Calls Try.prog 6 #[v0, v1, v2] W fun e w' => e = .returned (.bool true) ∧ Kept W w' := by
  obtain ⟨cs0, rfl, hh0⟩ := val_struct Try.underlying24 hv0
  obtain ⟨fuel0, ht0⟩ := ht0
  obtain ⟨x0, I0, w0⟩ := impIsochronref16Draft ht0 hh0
  obtain ⟨x1, rfl, w1⟩ := val_int Try.underlying5 hv1
  have I1 : Imp (eInt .u8) W [.int .u8 x1] x1 := imp_int
  obtain ⟨x2, rfl, w2⟩ := val_int Try.underlying5 hv2
  have I2 : Imp (eInt .u8) W [.int .u8 x2] x2 := imp_int
  have s0 := imp_start W
  obtain ⟨ρ0, h0, φ0, a0, s1, l0, V0, R0, C0⟩ := I0 _ _ _ s0
  obtain ⟨ρ1, h1, φ1, a1, s2, l1, V1, R1, C1⟩ := I1 _ _ _ s1
  obtain ⟨ρ2, h2, φ2, a2, s3, l2, V2, R2, C2⟩ := I2 _ _ _ s2
  have V0 := V0.mono l1.sub
  have R0 := Enc.mono _ l1.le R0
  have V0 := V0.mono l2.sub
  have R0 := Enc.mono _ l2.le R0
  have V1 := V1.mono l2.sub
  have R1 := Enc.mono _ l2.le R1
  obtain ⟨b0_0, m0_0, c0_0, b0_1, m0_1, c0_1, b0_2, m0_2, c0_2, b0_3, m0_3, c0_3, rfl, H0_0, H0_1, H0_2, H0_3⟩ := eIsochronref16Draft_el R0
  have R1 : a1 = [(.int .u8 x1 : Value)] := R1
  subst R1
  have R2 : a2 = [(.int .u8 x2 : Value)] := R2
  subst R2
  obtain ⟨p, hp, hq⟩ := f6_ok (n := 0) s3.st x0 x1 x2 H0_0 H0_1 H0_2 H0_3 true (pure x0 x1 x2 w0 w1 w2)
  subst hq
  have hV := law_calls steps s3 (cv := #[(.agg cs0), _, _]) hp (.cons V0.agg (.cons V1.head (.cons V2.head .nil)))
  exact hV
end Go.AM
