/- Printed: functions of the given program as functions over plain data, and that the machine does what they say; no claim of its own; no condition. -/
import Derived.Test.YtlkddekecegfdaaGreatGtFacts
set_option maxRecDepth 100000
set_option maxHeartbeats 4000000
set_option linter.unusedVariables false
set_option linter.unusedSimpArgs false
namespace Go.AM
open Go Go.Proofs

/-! isochron/isochronlaw21.line -/
theorem f27_ok {n : Nat} {φ : Fz} {lo : Nat} {h : Heap} {own : OwnL}  (X : St φ lo h (own)) : Sim ((recN Tryz.prog LL cutF (n + 1)).call 27 #[] h) (m_isochronlaw21_line) (fun (d : ApiTopo) p => ∃ φ2 : Fz, ∃ a30 : Option Addr, ∃ n30 : Nat, ∃ c30 : Nat, ∃ ob30 : Option Nat, ∃ blk30 : Blk, ∃ a32 : Option Addr, ∃ n32 : Nat, ∃ c32 : Nat, ∃ ob32 : Option Nat, ∃ blk32 : Blk, Fz.le φ φ2 ∧ St φ2 lo p.2 ((ob30, blk30) :: (ob32, blk32) :: own) ∧ p.1 = .agg #[.int .i64 d.Nodes, .slice a30 n30 c30, .slice a32 n32 c32] ∧ OSl eBool φ2 4 ob30 blk30 (.slice a30 n30 c30) d.Station ∧ OSl eApiLink φ2 65 ob32 blk32 (.slice a32 n32 c32) d.Links) := by
  refine fopen Tryz.func27 rfl rfl rfl rfl ?_
  refine dseq (dreg ?_)
  refine lalloc rfl tz_25 rfl rfl rfl X (fun b20 h22 X23 => ?_)
  refine lend (nseq (dseq (dreg ?_)))
  obtain ⟨h24, b24, hv24, X24, O24⟩ := OSl.lay (E := eBool) (φ := φ) (cs := [.bool true, .bool false, .bool false, .bool true]) (l := [true, false, false, true]) (len := 4) (parts := [(0, .bool true), (1, .bool false), (2, .bool false), (3, .bool true)]) un_22 ts_4 rfl rfl rfl tz_4 rfl rfl (show RowD eBool φ [.bool true, .bool false, .bool false, .bool true] [true, false, false, true] from ⟨[.bool true], _, rfl, rfl, ⟨[.bool false], _, rfl, rfl, ⟨[.bool false], _, rfl, rfl, ⟨[.bool true], _, rfl, rfl, rfl⟩⟩⟩⟩) rfl rfl X23
  refine lheap rfl (h_buildSlice rfl) hv24 rfl ?_
  refine lpure (v := .agg #[.int .i64 0, .int .i64 1, .int .i64 8, .int .i64 50]) rfl (p_build rfl) (build_st' tz_65 pl_65 rfl) rfl ?_
  refine lpure (v := .agg #[.int .i64 1, .int .i64 2, .int .i64 8, .int .i64 0]) rfl (p_build rfl) (build_st' tz_65 pl_65 rfl) rfl ?_
  refine lpure (v := .agg #[.int .i64 2, .int .i64 3, .int .i64 80, .int .i64 7]) rfl (p_build rfl) (build_st' tz_65 pl_65 rfl) rfl ?_
  obtain ⟨h26, b26, hv26, X26, O26⟩ := OSl.lay (E := eApiLink) (φ := φ) (cs := [.int .i64 0, .int .i64 1, .int .i64 8, .int .i64 50, .int .i64 1, .int .i64 2, .int .i64 8, .int .i64 0, .int .i64 2, .int .i64 3, .int .i64 80, .int .i64 7]) (l := [(ApiLink.mk 0 1 8 50), (ApiLink.mk 1 2 8 0), (ApiLink.mk 2 3 80 7)]) (len := 3) (parts := [(0, .agg #[.int .i64 0, .int .i64 1, .int .i64 8, .int .i64 50]), (1, .agg #[.int .i64 1, .int .i64 2, .int .i64 8, .int .i64 0]), (2, .agg #[.int .i64 2, .int .i64 3, .int .i64 80, .int .i64 7])]) un_23 ts_65 rfl rfl rfl tz_65 rfl rfl (show RowD eApiLink φ [.int .i64 0, .int .i64 1, .int .i64 8, .int .i64 50, .int .i64 1, .int .i64 2, .int .i64 8, .int .i64 0, .int .i64 2, .int .i64 3, .int .i64 80, .int .i64 7] [(ApiLink.mk 0 1 8 50), (ApiLink.mk 1 2 8 0), (ApiLink.mk 2 3 80 7)] from ⟨[.int .i64 0, .int .i64 1, .int .i64 8, .int .i64 50], _, rfl, ⟨_, _, rfl, rfl, ⟨_, _, rfl, rfl, ⟨_, _, rfl, rfl, ⟨_, _, rfl, rfl, rfl⟩⟩⟩⟩, ⟨[.int .i64 1, .int .i64 2, .int .i64 8, .int .i64 0], _, rfl, ⟨_, _, rfl, rfl, ⟨_, _, rfl, rfl, ⟨_, _, rfl, rfl, ⟨_, _, rfl, rfl, rfl⟩⟩⟩⟩, ⟨[.int .i64 2, .int .i64 3, .int .i64 80, .int .i64 7], _, rfl, ⟨_, _, rfl, rfl, ⟨_, _, rfl, rfl, ⟨_, _, rfl, rfl, ⟨_, _, rfl, rfl, rfl⟩⟩⟩⟩, rfl⟩⟩⟩) rfl rfl X24
  refine lheap rfl (h_buildSlice rfl) hv26 rfl ?_
  refine lpure (v := .agg #[.int .i64 4, .slice (some ⟨b24, 0, none⟩) 4 4, .slice (some ⟨b26, 0, none⟩) 3 3]) rfl (p_build rfl) (build_st' tz_25 pl_25 rfl) rfl ?_
  refine lstore rfl ts_25 rfl rfl (j := 2) rfl rfl rfl rfl rfl rfl X26 (fun h28 X29 => ?_)
  refine lend (nseq (dret ?_))
  exact kopen_r (res_1 (resC wd_25 (St.ld X29 (j := 2) rfl rfl))) ⟨φ, ((some ⟨b24, 0, none⟩)), 4, 4, (some b24), ((.cells [.bool true, .bool false, .bool false, .bool true] 4 .exact)), ((some ⟨b26, 0, none⟩)), 3, 3, (some b26), ((.cells [.int .i64 0, .int .i64 1, .int .i64 8, .int .i64 50, .int .i64 1, .int .i64 2, .int .i64 8, .int .i64 0, .int .i64 2, .int .i64 3, .int .i64 80, .int .i64 7] 65 .exact)), (Fz.le_refl _), St.pick (St.front X29 (j := 1) rfl) (.keep _ (.keep _ (.skip _ (.refl _)))), rfl, O24, O26⟩
/-! isochron/topo.isNode -/
theorem f85_ok {n : Nat} {φ : Fz} {lo : Nat} {h : Heap} {own : OwnL}  {a131 : Option Addr} {n131 c131 : Nat} {a132 : Option Addr} {n132 c132 : Nat} (X : St φ lo h (own)) (p130 : ApiTopo) (p133 : Int) (H131 : RSl eBool φ (.slice a131 n131 c131) p130.Station) (H132 : RSl eApiLink φ (.slice a132 n132 c132) p130.Links) : Sim ((recN Tryz.prog LL cutF (n + 1)).call 85 #[(.agg #[.int .i64 p130.Nodes, .slice a131 n131 c131, .slice a132 n132 c132]), (.int .i64 p133)] h) (m_topo_isNode p130 p133) (fun (d : Bool) p => p = (.bool d, h)) := by
  refine fcut Tryz.func85 rfl rfl rfl rfl X ?_
  intro h0 X0
  refine dseq (dreg ?_)
  refine lbox rfl rfl rfl rfl rfl X0 (fun b134 h136 X137 => ?_)
  refine lpure (v := .bool false) rfl (p_assign rfl) rfl rfl ?_
  refine lend (nseq (dseq (dreg ?_)))
  refine lpure (v := .int .i64 p133) rfl (p_move rfl) rfl rfl ?_
  refine lpure (v := .bool (decide (0 ≤ p133))) rfl (p_ge rfl) rfl rfl ?_
  refine lpure (v := .bool (decide (0 ≤ p133))) rfl (p_move rfl) rfl rfl ?_
  refine lsh (τ := Bool) (σ := Unit) (fun s139 (_ : Unit) => [(12, .bool s139)]) (fun s139 (_ : Unit) hh => St φ h.n hh ([(some b134, .cells [.int .i64 p130.Nodes, .slice a131 n131 c131, .slice a132 n132 c132] 25 .exact)])) 5 ?_ ?_
  · rintro s139 _ t0 h141 X140
    refine lpure (v := .bool s139) rfl (p_assign rfl) rfl rfl ?_
    refine lend (nseq (dret ?_))
    exact kcut_r (res_1 resT) X140 rfl rfl
  intro j142 J143
  refine lcase (i := 7) (show _ = Value.bool (decide (0 ≤ p133)) from rfl) (fun k144 => ?_) (fun k144 => ?_)
  · refine lpure (v := .int .i64 p133) rfl (p_move rfl) rfl rfl ?_
    refine lpure (v := .pointer (some ⟨b134, 0, none⟩)) rfl (p_fa fo_25_0 rfl) rfl rfl ?_
    refine lread (v := .int .i64 p130.Nodes) rfl (q_load wd_3 rfl) (St.ld X137 (j := 0) rfl rfl) rfl ?_
    refine lpure (v := .bool (decide (p133 < p130.Nodes))) rfl (p_lt rfl) rfl rfl ?_
    refine lpure (v := .bool (decide (p133 < p130.Nodes))) rfl (p_pick rfl) rfl rfl ?_
    refine Sim.of_eq (congrArg j142 (show ((decide (0 ≤ p133)) && (decide (p133 < p130.Nodes))) = (decide (p133 < p130.Nodes)) from by rw [k144] <;> rfl)) ?_
    exact ljmpM J143 (decide (p133 < p130.Nodes)) () (sub_cons rfl sub_nil) X137
  refine lskip rfl rfl ?_
  refine lskip rfl rfl ?_
  refine lskip rfl rfl ?_
  refine lskip rfl rfl ?_
  refine lpure (v := .bool false) rfl (p_pick rfl) rfl rfl ?_
  refine Sim.of_eq (congrArg j142 (show ((decide (0 ≤ p133)) && (decide (p133 < p130.Nodes))) = false from by rw [k144] <;> rfl)) ?_
  exact ljmpM J143 false () (sub_cons rfl sub_nil) X137
/-! isochron/topo.validLink -/
theorem f68_ok {n : Nat} {φ : Fz} {lo : Nat} {h : Heap} {own : OwnL}  {a104 : Option Addr} {n104 c104 : Nat} {a105 : Option Addr} {n105 c105 : Nat} (X : St φ lo h (own)) (p103 : ApiTopo) (p106 : Int) (H104 : RSl eBool φ (.slice a104 n104 c104) p103.Station) (H105 : RSl eApiLink φ (.slice a105 n105 c105) p103.Links) : Sim ((recN Tryz.prog LL cutF (n + 5)).call 68 #[(.agg #[.int .i64 p103.Nodes, .slice a104 n104 c104, .slice a105 n105 c105]), (.int .i64 p106)] h) (m_topo_validLink p103 p106) (fun (d : Bool) p => p = (.bool d, h)) := by
  refine fcut Tryz.func68 rfl rfl rfl rfl X ?_
  intro h0 X0
  refine dseq (dreg ?_)
  refine lbox rfl rfl rfl rfl rfl X0 (fun b107 h109 X110 => ?_)
  refine lbox rfl rfl rfl rfl rfl X110 (fun b111 h113 X114 => ?_)
  refine lpure (v := .bool false) rfl (p_assign rfl) rfl rfl ?_
  refine lend (nseq (dseq (dreg ?_)))
  refine lpure (v := .pointer (some ⟨b107, 2, none⟩)) rfl (p_fa fo_25_2 rfl) rfl rfl ?_
  refine lread (v := .slice a105 n105 c105) rfl (q_load wd_23 rfl) (St.ld X114 (j := 1) rfl rfl) rfl ?_
  refine lread (v := .int .i64 p106) rfl (q_load wd_3 rfl) (St.ld X114 (j := 0) rfl rfl) rfl ?_
  refine Sim.bindM fun e115 he116 => ?_
  obtain ⟨p117, cs117, hp117, hF117, hR117⟩ := RSl.ia H105 he116 (kd := .i64) (n := 4) rfl
  obtain rfl := eApiLink_el hR117
  refine lpure (v := p117) rfl (p_ia rs_23 rfl) hp117 rfl ?_
  refine lread (v := .agg #[.int .i64 e115.A, .int .i64 e115.B, .int .i64 e115.Per, .int .i64 e115.Delay]) rfl (q_load wd_65 rfl) (FP.ldw X114 hF117 rfl rfl) rfl ?_
  refine lalloc rfl tz_65 rfl rfl rfl X114 (fun b118 h120 X121 => ?_)
  refine lstore rfl ts_65 rfl rfl (j := 0) rfl rfl rfl rfl rfl rfl X121 (fun h122 X123 => ?_)
  refine lend (nseq (dseq (dreg ?_)))
  refine lpure (v := .func (.func 84) #[] #[.pointer (some ⟨b107, 0, none⟩), .pointer (some ⟨b118, 0, none⟩)]) rfl (p_makeFunc rfl) rfl rfl ?_
  refine lpure (v := .func (.func 86) #[] #[.pointer (some ⟨b107, 0, none⟩), .pointer (some ⟨b118, 0, none⟩)]) rfl (p_makeFunc rfl) rfl rfl ?_
  refine lpure (v := .func (.func 87) #[] #[.pointer (some ⟨b118, 0, none⟩)]) rfl (p_makeFunc rfl) rfl rfl ?_
  refine lpure (v := .func (.func 88) #[] #[.pointer (some ⟨b107, 0, none⟩), .pointer (some ⟨b111, 0, none⟩), .pointer (some ⟨b118, 0, none⟩)]) rfl (p_makeFunc rfl) rfl rfl ?_
  refine lpure (v := .agg #[.func (.func 84) #[] #[.pointer (some ⟨b107, 0, none⟩), .pointer (some ⟨b118, 0, none⟩)], .func (.func 86) #[] #[.pointer (some ⟨b107, 0, none⟩), .pointer (some ⟨b118, 0, none⟩)], .func (.func 87) #[] #[.pointer (some ⟨b118, 0, none⟩)], .func (.func 88) #[] #[.pointer (some ⟨b107, 0, none⟩), .pointer (some ⟨b111, 0, none⟩), .pointer (some ⟨b118, 0, none⟩)]]) rfl (p_build rfl) (build_ar' tz_106 ae_106 rfl) rfl ?_
  refine lalloc rfl tz_106 rfl rfl rfl X123 (fun b124 h126 X127 => ?_)
  refine lstore rfl ts_106 rfl rfl (j := 0) rfl rfl rfl rfl rfl rfl X127 (fun h128 X129 => ?_)
  refine lend (nseq (dseq (dseq (dreg ?_))))
  refine lread (v := .agg #[.func (.func 84) #[] #[.pointer (some ⟨b107, 0, none⟩), .pointer (some ⟨b118, 0, none⟩)], .func (.func 86) #[] #[.pointer (some ⟨b107, 0, none⟩), .pointer (some ⟨b118, 0, none⟩)], .func (.func 87) #[] #[.pointer (some ⟨b118, 0, none⟩)], .func (.func 88) #[] #[.pointer (some ⟨b107, 0, none⟩), .pointer (some ⟨b111, 0, none⟩), .pointer (some ⟨b118, 0, none⟩)]]) rfl (q_load wd_106 rfl) (St.ld X129 (j := 0) rfl rfl) rfl ?_
  refine lpure (v := .int .i64 0) rfl (p_move rfl) rfl rfl ?_
  refine lend (nseq (dblock ?_))
  refine dunroll 999999 rfl ?_
  refine dseq (dreg ?_)
  refine lpure (v := .bool true) rfl (p_lt rfl) rfl rfl ?_
  refine lend (nseq (dseq (dcondT rfl rfl (dskip (nseq (dseq (dblock (dseq (dreg ?_)))))))))
  refine lpure (v := .func (.func 84) #[] #[.pointer (some ⟨b107, 0, none⟩), .pointer (some ⟨b118, 0, none⟩)]) rfl (p_index as_106 rfl) rfl rfl ?_
  refine lpure (v := .func (.func 84) #[] #[.pointer (some ⟨b107, 0, none⟩), .pointer (some ⟨b118, 0, none⟩)]) rfl (p_assign rfl) rfl rfl ?_
  refine lend (nseq (dseq (dreg ?_)))
  refine lpure (v := .func (.func 84) #[] #[.pointer (some ⟨b107, 0, none⟩), .pointer (some ⟨b118, 0, none⟩)]) rfl (p_move rfl) rfl rfl ?_
  refine linl rfl rfl rfl rfl ca_84 rfl Tryz.func84 rfl rfl rfl rfl rfl ?_
  refine dseq (dreg ?_)
  refine lpure (v := .bool false) rfl (p_assign rfl) rfl rfl ?_
  refine lend (nseq (dseq (dreg ?_)))
  refine lread (v := .agg #[.int .i64 p103.Nodes, .slice a104 n104 c104, .slice a105 n105 c105]) rfl (q_load wd_25 rfl) (St.ld X129 (j := 3) rfl rfl) rfl ?_
  refine lpure (v := .pointer (some ⟨b118, 0, none⟩)) rfl (p_fa fo_65_0 rfl) rfl rfl ?_
  refine lread (v := .int .i64 e115.A) rfl (q_load wd_3 rfl) (St.ld X129 (j := 1) rfl rfl) rfl ?_
  refine lcall rfl rfl ca_85 rfl rfl (f85_ok X129 p103 (e115.A) H104 H105) rfl (fun e145 v146 h147 hq148 => ?_)
  cases hq148
  refine lpure (v := .bool e145) rfl (p_move rfl) rfl rfl ?_
  refine ljoinM (τ := Bool) (σ := Unit) (fun s155 (_ : Unit) => [(1, .pointer (some ⟨b118, 0, none⟩)), (12, .bool s155)]) (fun s155 (_ : Unit) hh => St φ h.n hh ([(some b124, .cells [.func (.func 84) #[] #[.pointer (some ⟨b107, 0, none⟩), .pointer (some ⟨b118, 0, none⟩)], .func (.func 86) #[] #[.pointer (some ⟨b107, 0, none⟩), .pointer (some ⟨b118, 0, none⟩)], .func (.func 87) #[] #[.pointer (some ⟨b118, 0, none⟩)], .func (.func 88) #[] #[.pointer (some ⟨b107, 0, none⟩), .pointer (some ⟨b111, 0, none⟩), .pointer (some ⟨b118, 0, none⟩)]] 106 .exact), (some b118, .cells [.int .i64 e115.A, .int .i64 e115.B, .int .i64 e115.Per, .int .i64 e115.Delay] 65 .exact), (some b111, .cells [.int .i64 p106] 3 .exact), (some b107, .cells [.int .i64 p103.Nodes, .slice a104 n104 c104, .slice a105 n105 c105] 25 .exact)])) 5 ?_ ?_
  · rintro s155 _ t0 h157 X156
    refine lpure (v := .bool s155) rfl (p_move rfl) rfl rfl ?_
    refine lsh (τ := Bool) (σ := Unit) (fun s159 (_ : Unit) => [(19, .bool s159)]) (fun s159 (_ : Unit) hh => St φ h.n hh ([(some b124, .cells [.func (.func 84) #[] #[.pointer (some ⟨b107, 0, none⟩), .pointer (some ⟨b118, 0, none⟩)], .func (.func 86) #[] #[.pointer (some ⟨b107, 0, none⟩), .pointer (some ⟨b118, 0, none⟩)], .func (.func 87) #[] #[.pointer (some ⟨b118, 0, none⟩)], .func (.func 88) #[] #[.pointer (some ⟨b107, 0, none⟩), .pointer (some ⟨b111, 0, none⟩), .pointer (some ⟨b118, 0, none⟩)]] 106 .exact), (some b118, .cells [.int .i64 e115.A, .int .i64 e115.B, .int .i64 e115.Per, .int .i64 e115.Delay] 65 .exact), (some b111, .cells [.int .i64 p106] 3 .exact), (some b107, .cells [.int .i64 p103.Nodes, .slice a104 n104 c104, .slice a105 n105 c105] 25 .exact)])) 6 ?_ ?_
    · rintro s159 _ t0 h161 X160
      refine lpure (v := .bool s159) rfl (p_assign rfl) rfl rfl ?_
      refine lend (nseq (dret ?_))
      refine kin_r (res_1 resT) ?_
      refine lpure (v := .bool (!s159)) rfl (p_not rfl) rfl rfl ?_
      refine lend (nseq ?_)
      refine dcond rfl rfl (fun k162 => ?_) (fun k162 => ?_)
      · refine dseq (dreg ?_)
        refine lpure (v := .bool false) rfl (p_assign rfl) rfl rfl ?_
        refine lend (nseq (dret (rblock (rseq (rloop (rblock (rseq ?_)))))))
        exact kcut_r (res_1 resT) X160 rfl rfl
      refine dskip (nblock (nseq (dreg ?_)))
      refine lpure (v := .int .i64 1) rfl (p_add rfl) rfl rfl ?_
      refine lpure (v := .int .i64 1) rfl (p_move rfl) rfl rfl ?_
      refine lend ?_
      refine nunroll 999998 rfl ?_
      refine dseq (dreg ?_)
      refine lpure (v := .bool true) rfl (p_lt rfl) rfl rfl ?_
      refine lend (nseq (dseq (dcondT rfl rfl (dskip (nseq (dseq (dblock (dseq (dreg ?_)))))))))
      refine lpure (v := .func (.func 86) #[] #[.pointer (some ⟨b107, 0, none⟩), .pointer (some ⟨b118, 0, none⟩)]) rfl (p_index as_106 rfl) rfl rfl ?_
      refine lpure (v := .func (.func 86) #[] #[.pointer (some ⟨b107, 0, none⟩), .pointer (some ⟨b118, 0, none⟩)]) rfl (p_assign rfl) rfl rfl ?_
      refine lend (nseq (dseq (dreg ?_)))
      refine lpure (v := .func (.func 86) #[] #[.pointer (some ⟨b107, 0, none⟩), .pointer (some ⟨b118, 0, none⟩)]) rfl (p_move rfl) rfl rfl ?_
      refine linl rfl rfl rfl rfl ca_86 rfl Tryz.func86 rfl rfl rfl rfl rfl ?_
      refine dseq (dreg ?_)
      refine lpure (v := .bool false) rfl (p_assign rfl) rfl rfl ?_
      refine lend (nseq (dseq (dreg ?_)))
      refine lpure (v := .pointer (some ⟨b107, 1, none⟩)) rfl (p_fa fo_25_1 rfl) rfl rfl ?_
      refine lread (v := .slice a104 n104 c104) rfl (q_load wd_22 rfl) (St.ld X160 (j := 3) rfl rfl) rfl ?_
      refine lpure (v := .pointer (some ⟨b118, 0, none⟩)) rfl (p_fa fo_65_0 rfl) rfl rfl ?_
      refine lread (v := .int .i64 e115.A) rfl (q_load wd_3 rfl) (St.ld X160 (j := 1) rfl rfl) rfl ?_
      refine Sim.bindM fun e163 he164 => ?_
      obtain ⟨p165, cs165, hp165, hF165, hR165⟩ := RSl.ia H104 he164 (kd := .i64) (n := 1) rfl
      have hR165 : _ = [(.bool e163 : Value)] := hR165
      subst hR165
      refine lpure (v := p165) rfl (p_ia rs_22 rfl) hp165 rfl ?_
      refine lread (v := .bool e163) rfl (q_load wd_4 rfl) (FP.ld X160 hF165) rfl ?_
      refine lpure (v := .bool (!e163)) rfl (p_not rfl) rfl rfl ?_
      refine lpure (v := .bool (!e163)) rfl (p_move rfl) rfl rfl ?_
      refine ljoinM (τ := Bool) (σ := Unit) (fun s171 (_ : Unit) => [(18, .bool s171)]) (fun s171 (_ : Unit) hh => St φ h.n hh ([(some b124, .cells [.func (.func 84) #[] #[.pointer (some ⟨b107, 0, none⟩), .pointer (some ⟨b118, 0, none⟩)], .func (.func 86) #[] #[.pointer (some ⟨b107, 0, none⟩), .pointer (some ⟨b118, 0, none⟩)], .func (.func 87) #[] #[.pointer (some ⟨b118, 0, none⟩)], .func (.func 88) #[] #[.pointer (some ⟨b107, 0, none⟩), .pointer (some ⟨b111, 0, none⟩), .pointer (some ⟨b118, 0, none⟩)]] 106 .exact), (some b118, .cells [.int .i64 e115.A, .int .i64 e115.B, .int .i64 e115.Per, .int .i64 e115.Delay] 65 .exact), (some b111, .cells [.int .i64 p106] 3 .exact), (some b107, .cells [.int .i64 p103.Nodes, .slice a104 n104 c104, .slice a105 n105 c105] 25 .exact)])) 8 ?_ ?_
      · rintro s171 _ t0 h173 X172
        refine lpure (v := .bool s171) rfl (p_assign rfl) rfl rfl ?_
        refine lend (nseq (dret ?_))
        refine kin_r (res_1 resT) ?_
        refine lpure (v := .bool (!s171)) rfl (p_not rfl) rfl rfl ?_
        refine lend (nseq ?_)
        refine dcond rfl rfl (fun k174 => ?_) (fun k174 => ?_)
        · refine dseq (dreg ?_)
          refine lpure (v := .bool false) rfl (p_assign rfl) rfl rfl ?_
          refine lend (nseq (dret (rblock (rseq (rloop (rblock (rseq ?_)))))))
          exact kcut_r (res_1 resT) X172 rfl rfl
        refine dskip (nblock (nseq (dreg ?_)))
        refine lpure (v := .int .i64 2) rfl (p_add rfl) rfl rfl ?_
        refine lpure (v := .int .i64 2) rfl (p_move rfl) rfl rfl ?_
        refine lend ?_
        refine nunroll 999997 rfl ?_
        refine dseq (dreg ?_)
        refine lpure (v := .bool true) rfl (p_lt rfl) rfl rfl ?_
        refine lend (nseq (dseq (dcondT rfl rfl (dskip (nseq (dseq (dblock (dseq (dreg ?_)))))))))
        refine lpure (v := .func (.func 87) #[] #[.pointer (some ⟨b118, 0, none⟩)]) rfl (p_index as_106 rfl) rfl rfl ?_
        refine lpure (v := .func (.func 87) #[] #[.pointer (some ⟨b118, 0, none⟩)]) rfl (p_assign rfl) rfl rfl ?_
        refine lend (nseq (dseq (dreg ?_)))
        refine lpure (v := .func (.func 87) #[] #[.pointer (some ⟨b118, 0, none⟩)]) rfl (p_move rfl) rfl rfl ?_
        refine linl rfl rfl rfl rfl ca_87 rfl Tryz.func87 rfl rfl rfl rfl rfl ?_
        refine dseq (dreg ?_)
        refine lpure (v := .bool false) rfl (p_assign rfl) rfl rfl ?_
        refine lend (nseq (dseq (dreg ?_)))
        refine lpure (v := .pointer (some ⟨b118, 2, none⟩)) rfl (p_fa fo_65_2 rfl) rfl rfl ?_
        refine lread (v := .int .i64 e115.Per) rfl (q_load wd_3 rfl) (St.ld X172 (j := 1) rfl rfl) rfl ?_
        refine lpure (v := .bool (decide (1 ≤ e115.Per))) rfl (p_ge rfl) rfl rfl ?_
        refine lpure (v := .bool (decide (1 ≤ e115.Per))) rfl (p_move rfl) rfl rfl ?_
        refine lsh (τ := Bool) (σ := Unit) (fun s176 (_ : Unit) => [(0, .pointer (some ⟨b118, 0, none⟩)), (9, .bool s176)]) (fun s176 (_ : Unit) hh => St φ h.n hh ([(some b124, .cells [.func (.func 84) #[] #[.pointer (some ⟨b107, 0, none⟩), .pointer (some ⟨b118, 0, none⟩)], .func (.func 86) #[] #[.pointer (some ⟨b107, 0, none⟩), .pointer (some ⟨b118, 0, none⟩)], .func (.func 87) #[] #[.pointer (some ⟨b118, 0, none⟩)], .func (.func 88) #[] #[.pointer (some ⟨b107, 0, none⟩), .pointer (some ⟨b111, 0, none⟩), .pointer (some ⟨b118, 0, none⟩)]] 106 .exact), (some b118, .cells [.int .i64 e115.A, .int .i64 e115.B, .int .i64 e115.Per, .int .i64 e115.Delay] 65 .exact), (some b111, .cells [.int .i64 p106] 3 .exact), (some b107, .cells [.int .i64 p103.Nodes, .slice a104 n104 c104, .slice a105 n105 c105] 25 .exact)])) 4 ?_ ?_
        · rintro s176 _ t0 h178 X177
          refine lpure (v := .bool s176) rfl (p_move rfl) rfl rfl ?_
          refine lsh (τ := Bool) (σ := Unit) (fun s180 (_ : Unit) => [(0, .pointer (some ⟨b118, 0, none⟩)), (14, .bool s180)]) (fun s180 (_ : Unit) hh => St φ h.n hh ([(some b124, .cells [.func (.func 84) #[] #[.pointer (some ⟨b107, 0, none⟩), .pointer (some ⟨b118, 0, none⟩)], .func (.func 86) #[] #[.pointer (some ⟨b107, 0, none⟩), .pointer (some ⟨b118, 0, none⟩)], .func (.func 87) #[] #[.pointer (some ⟨b118, 0, none⟩)], .func (.func 88) #[] #[.pointer (some ⟨b107, 0, none⟩), .pointer (some ⟨b111, 0, none⟩), .pointer (some ⟨b118, 0, none⟩)]] 106 .exact), (some b118, .cells [.int .i64 e115.A, .int .i64 e115.B, .int .i64 e115.Per, .int .i64 e115.Delay] 65 .exact), (some b111, .cells [.int .i64 p106] 3 .exact), (some b107, .cells [.int .i64 p103.Nodes, .slice a104 n104 c104, .slice a105 n105 c105] 25 .exact)])) 4 ?_ ?_
          · rintro s180 _ t0 h182 X181
            refine lpure (v := .bool s180) rfl (p_move rfl) rfl rfl ?_
            refine lsh (τ := Bool) (σ := Unit) (fun s184 (_ : Unit) => [(19, .bool s184)]) (fun s184 (_ : Unit) hh => St φ h.n hh ([(some b124, .cells [.func (.func 84) #[] #[.pointer (some ⟨b107, 0, none⟩), .pointer (some ⟨b118, 0, none⟩)], .func (.func 86) #[] #[.pointer (some ⟨b107, 0, none⟩), .pointer (some ⟨b118, 0, none⟩)], .func (.func 87) #[] #[.pointer (some ⟨b118, 0, none⟩)], .func (.func 88) #[] #[.pointer (some ⟨b107, 0, none⟩), .pointer (some ⟨b111, 0, none⟩), .pointer (some ⟨b118, 0, none⟩)]] 106 .exact), (some b118, .cells [.int .i64 e115.A, .int .i64 e115.B, .int .i64 e115.Per, .int .i64 e115.Delay] 65 .exact), (some b111, .cells [.int .i64 p106] 3 .exact), (some b107, .cells [.int .i64 p103.Nodes, .slice a104 n104 c104, .slice a105 n105 c105] 25 .exact)])) 4 ?_ ?_
            · rintro s184 _ t0 h186 X185
              refine lpure (v := .bool s184) rfl (p_assign rfl) rfl rfl ?_
              refine lend (nseq (dret ?_))
              refine kin_r (res_1 resT) ?_
              refine lpure (v := .bool (!s184)) rfl (p_not rfl) rfl rfl ?_
              refine lend (nseq ?_)
              refine dcond rfl rfl (fun k187 => ?_) (fun k187 => ?_)
              · refine dseq (dreg ?_)
                refine lpure (v := .bool false) rfl (p_assign rfl) rfl rfl ?_
                refine lend (nseq (dret (rblock (rseq (rloop (rblock (rseq ?_)))))))
                exact kcut_r (res_1 resT) X185 rfl rfl
              refine dskip (nblock (nseq (dreg ?_)))
              refine lpure (v := .int .i64 3) rfl (p_add rfl) rfl rfl ?_
              refine lpure (v := .int .i64 3) rfl (p_move rfl) rfl rfl ?_
              refine lend ?_
              refine nunroll 999996 rfl ?_
              refine dseq (dreg ?_)
              refine lpure (v := .bool true) rfl (p_lt rfl) rfl rfl ?_
              refine lend (nseq (dseq (dcondT rfl rfl (dskip (nseq (dseq (dblock (dseq (dreg ?_)))))))))
              refine lpure (v := .func (.func 88) #[] #[.pointer (some ⟨b107, 0, none⟩), .pointer (some ⟨b111, 0, none⟩), .pointer (some ⟨b118, 0, none⟩)]) rfl (p_index as_106 rfl) rfl rfl ?_
              refine lpure (v := .func (.func 88) #[] #[.pointer (some ⟨b107, 0, none⟩), .pointer (some ⟨b111, 0, none⟩), .pointer (some ⟨b118, 0, none⟩)]) rfl (p_assign rfl) rfl rfl ?_
              refine lend (nseq (dseq (dreg ?_)))
              refine lpure (v := .func (.func 88) #[] #[.pointer (some ⟨b107, 0, none⟩), .pointer (some ⟨b111, 0, none⟩), .pointer (some ⟨b118, 0, none⟩)]) rfl (p_move rfl) rfl rfl ?_
              refine linl rfl rfl rfl rfl ca_88 rfl Tryz.func88 rfl rfl rfl rfl rfl ?_
              refine dseq (dreg ?_)
              refine lpure (v := .bool false) rfl (p_assign rfl) rfl rfl ?_
              refine lend (nseq (dseq (dreg ?_)))
              refine lpure (v := .pointer (some ⟨b107, 2, none⟩)) rfl (p_fa fo_25_2 rfl) rfl rfl ?_
              refine lread (v := .slice a105 n105 c105) rfl (q_load wd_23 rfl) (St.ld X185 (j := 3) rfl rfl) rfl ?_
              refine lread (v := .int .i64 p106) rfl (q_load wd_3 rfl) (St.ld X185 (j := 2) rfl rfl) rfl ?_
              refine Sim.mustM fun k188 => ?_
              have k188 := of_decide_eq_true k188
              obtain ⟨a188, n188, c188, hv188, H188⟩ := RSl.slice H105 X185 un_23 ts_65 rfl bnd_none (bnd_int (show (0 : Int) ≤ p106 from by omega)) (by omega) (by omega)
              refine lread rfl (q_slice rfl (evo_ok rfl) (evo_ok rfl) (evo_ok rfl)) hv188 rfl ?_
              refine lpure (v := .func (.func 90) #[] #[.pointer (some ⟨b118, 0, none⟩)]) rfl (p_makeFunc rfl) rfl rfl ?_
              refine linl rfl rfl rfl rfl ca_89 rfl Tryz.func89 rfl rfl rfl rfl rfl ?_
              refine dseq (dreg ?_)
              refine lpure (v := .bool false) rfl (p_assign rfl) rfl rfl ?_
              refine lend (nseq (dseq (dreg ?_)))
              refine lpure (v := .slice a188 n188 c188) rfl (p_move rfl) rfl rfl ?_
              refine lpure (v := .func (.func 90) #[] #[.pointer (some ⟨b118, 0, none⟩)]) rfl (p_move rfl) rfl rfl ?_
              refine linl rfl rfl rfl rfl ca_108 rfl Tryz.func108 rfl rfl rfl rfl rfl ?_
              refine dseq (dreg ?_)
              refine lpure (v := .int .i64 0) rfl (p_assign rfl) rfl rfl ?_
              refine lend (nseq (dseq (dseq (dreg ?_))))
              refine lpure (v := .slice a188 n188 c188) rfl (p_move rfl) rfl rfl ?_
              refine lpure (v := .int .i64 ((p103.Links.take (p106).toNat).length : Int)) rfl (p_len rfl rfl rfl un_23 rfl) (RSl.lenC H188) rfl ?_
              refine lpure (v := .int .i64 0) rfl (p_move rfl) rfl rfl ?_
              refine lend (nseq (dblock ?_))
              refine dloopM (τ := Int) (σ := Unit) (fun s244 (_ : Unit) => [(0, .slice a188 n188 c188), (1, .func (.func 90) #[] #[.pointer (some ⟨b118, 0, none⟩)]), (7, .int .i64 ((p103.Links.take (p106).toNat).length : Int)), (8, .int .i64 s244)]) (fun s244 (_ : Unit) hh => St φ h.n hh ([(some b124, .cells [.func (.func 84) #[] #[.pointer (some ⟨b107, 0, none⟩), .pointer (some ⟨b118, 0, none⟩)], .func (.func 86) #[] #[.pointer (some ⟨b107, 0, none⟩), .pointer (some ⟨b118, 0, none⟩)], .func (.func 87) #[] #[.pointer (some ⟨b118, 0, none⟩)], .func (.func 88) #[] #[.pointer (some ⟨b107, 0, none⟩), .pointer (some ⟨b111, 0, none⟩), .pointer (some ⟨b118, 0, none⟩)]] 106 .exact), (some b118, .cells [.int .i64 e115.A, .int .i64 e115.B, .int .i64 e115.Per, .int .i64 e115.Delay] 65 .exact), (some b111, .cells [.int .i64 p106] 3 .exact), (some b107, .cells [.int .i64 p103.Nodes, .slice a104 n104 c104, .slice a105 n105 c105] 25 .exact)])) 0 () (sub_cons rfl (sub_cons rfl (sub_cons rfl (sub_cons rfl sub_nil)))) X185 ?_
              rintro n274 ih273 s244 _ t0 h276 X275
              refine dseq (dreg ?_)
              refine lpure (v := .bool (decide (s244 < ((p103.Links.take (p106).toNat).length : Int)))) rfl (p_lt rfl) rfl rfl ?_
              refine lend (nseq (dseq ?_))
              refine dcond rfl rfl (fun k277 => ?_) (fun k277 => ?_)
              · refine dskip (nseq (dseq (dblock (dseq (dreg ?_)))))
                refine lpure (v := .int .i64 s244) rfl (p_move rfl) rfl rfl ?_
                refine lpure (v := .int .i64 s244) rfl (p_assign rfl) rfl rfl ?_
                refine lend (nseq (dseq (dreg ?_)))
                refine lpure (v := .func (.func 90) #[] #[.pointer (some ⟨b118, 0, none⟩)]) rfl (p_move rfl) rfl rfl ?_
                refine lpure (v := .slice a188 n188 c188) rfl (p_move rfl) rfl rfl ?_
                refine lpure (v := .int .i64 s244) rfl (p_move rfl) rfl rfl ?_
                refine Sim.bindM fun e278 he279 => ?_
                obtain ⟨p280, cs280, hp280, hF280, hR280⟩ := RSl.ia H188 he279 (kd := .i64) (n := 4) rfl
                obtain rfl := eApiLink_el hR280
                refine lpure (v := p280) rfl (p_ia rs_23 rfl) hp280 rfl ?_
                refine lread (v := .agg #[.int .i64 e278.A, .int .i64 e278.B, .int .i64 e278.Per, .int .i64 e278.Delay]) rfl (q_load wd_65 rfl) (FP.ldw X275 hF280 rfl rfl) rfl ?_
                refine linl rfl rfl rfl rfl ca_90 rfl Tryz.func90 rfl rfl rfl rfl rfl ?_
                refine dseq (dreg ?_)
                refine lbox rfl rfl rfl rfl rfl X275 (fun b281 h283 X284 => ?_)
                refine lpure (v := .bool false) rfl (p_assign rfl) rfl rfl ?_
                refine lend (nseq (dseq (dreg ?_)))
                refine lpure (v := .pointer (some ⟨b281, 0, none⟩)) rfl (p_fa fo_65_0 rfl) rfl rfl ?_
                refine lread (v := .int .i64 e278.A) rfl (q_load wd_3 rfl) (St.ld X284 (j := 0) rfl rfl) rfl ?_
                refine lpure (v := .pointer (some ⟨b118, 0, none⟩)) rfl (p_fa fo_65_0 rfl) rfl rfl ?_
                refine lread (v := .int .i64 e115.A) rfl (q_load wd_3 rfl) (St.ld X284 (j := 2) rfl rfl) rfl ?_
                refine lpure (v := .bool (decide (e278.A = e115.A))) rfl (p_eq rfl) rfl rfl ?_
                refine lpure (v := .bool (decide (e278.A = e115.A))) rfl (p_move rfl) rfl rfl ?_
                refine lsh (τ := Bool) (σ := Unit) (fun s286 (_ : Unit) => [(1, .pointer (some ⟨b118, 0, none⟩)), (2, .pointer (some ⟨b281, 0, none⟩)), (15, .bool s286)]) (fun s286 (_ : Unit) hh => St φ h.n hh ([(some b281, .cells [.int .i64 e278.A, .int .i64 e278.B, .int .i64 e278.Per, .int .i64 e278.Delay] 65 .exact), (some b124, .cells [.func (.func 84) #[] #[.pointer (some ⟨b107, 0, none⟩), .pointer (some ⟨b118, 0, none⟩)], .func (.func 86) #[] #[.pointer (some ⟨b107, 0, none⟩), .pointer (some ⟨b118, 0, none⟩)], .func (.func 87) #[] #[.pointer (some ⟨b118, 0, none⟩)], .func (.func 88) #[] #[.pointer (some ⟨b107, 0, none⟩), .pointer (some ⟨b111, 0, none⟩), .pointer (some ⟨b118, 0, none⟩)]] 106 .exact), (some b118, .cells [.int .i64 e115.A, .int .i64 e115.B, .int .i64 e115.Per, .int .i64 e115.Delay] 65 .exact), (some b111, .cells [.int .i64 p106] 3 .exact), (some b107, .cells [.int .i64 p103.Nodes, .slice a104 n104 c104, .slice a105 n105 c105] 25 .exact)])) 6 ?_ ?_
                · rintro s286 _ t0 h288 X287
                  refine lpure (v := .bool s286) rfl (p_move rfl) rfl rfl ?_
                  refine lsh (τ := Bool) (σ := Unit) (fun s290 (_ : Unit) => [(29, .bool s290)]) (fun s290 (_ : Unit) hh => St φ h.n hh ([(some b281, .cells [.int .i64 e278.A, .int .i64 e278.B, .int .i64 e278.Per, .int .i64 e278.Delay] 65 .exact), (some b124, .cells [.func (.func 84) #[] #[.pointer (some ⟨b107, 0, none⟩), .pointer (some ⟨b118, 0, none⟩)], .func (.func 86) #[] #[.pointer (some ⟨b107, 0, none⟩), .pointer (some ⟨b118, 0, none⟩)], .func (.func 87) #[] #[.pointer (some ⟨b118, 0, none⟩)], .func (.func 88) #[] #[.pointer (some ⟨b107, 0, none⟩), .pointer (some ⟨b111, 0, none⟩), .pointer (some ⟨b118, 0, none⟩)]] 106 .exact), (some b118, .cells [.int .i64 e115.A, .int .i64 e115.B, .int .i64 e115.Per, .int .i64 e115.Delay] 65 .exact), (some b111, .cells [.int .i64 p106] 3 .exact), (some b107, .cells [.int .i64 p103.Nodes, .slice a104 n104 c104, .slice a105 n105 c105] 25 .exact)])) 13 ?_ ?_
                  · rintro s290 _ t0 h292 X291
                    refine lpure (v := .bool s290) rfl (p_assign rfl) rfl rfl ?_
                    refine lend (nseq (dret ?_))
                    refine kin_r (res_1 resT) ?_
                    refine lend (nseq ?_)
                    refine dcond rfl rfl (fun k293 => ?_) (fun k293 => ?_)
                    · refine dseq (dreg ?_)
                      refine lpure (v := .int .i64 s244) rfl (p_move rfl) rfl rfl ?_
                      refine lpure (v := .int .i64 s244) rfl (p_assign rfl) rfl rfl ?_
                      refine lend (nseq (dret (rblock (rseq (rloop (rblock (rseq ?_)))))))
                      refine kin_r (res_1 resT) ?_
                      refine lpure (v := .bool (decide (0 ≤ s244))) rfl (p_ge rfl) rfl rfl ?_
                      refine lpure (v := .bool (decide (0 ≤ s244))) rfl (p_assign rfl) rfl rfl ?_
                      refine lend (nseq (dret ?_))
                      refine kin_r (res_1 resT) ?_
                      refine lpure (v := .bool (!(decide (0 ≤ s244)))) rfl (p_not rfl) rfl rfl ?_
                      refine lpure (v := .bool (!(decide (0 ≤ s244)))) rfl (p_assign rfl) rfl rfl ?_
                      refine lend (nseq (dret ?_))
                      refine kin_r (res_1 resT) ?_
                      refine lpure (v := .bool (!(!(decide (0 ≤ s244))))) rfl (p_not rfl) rfl rfl ?_
                      refine lend (nseq ?_)
                      refine dcond rfl rfl (fun k294 => ?_) (fun k294 => ?_)
                      · refine dseq (dreg ?_)
                        refine lpure (v := .bool false) rfl (p_assign rfl) rfl rfl ?_
                        refine lend (nseq (dret (rblock (rseq (rloop (rblock (rseq ?_)))))))
                        exact kcut_r (res_1 resT) X291 rfl rfl
                      refine dskip (nblock (nseq (dreg ?_)))
                      refine lpure (v := .int .i64 4) rfl (p_add rfl) rfl rfl ?_
                      refine lpure (v := .int .i64 4) rfl (p_move rfl) rfl rfl ?_
                      refine lend ?_
                      refine nunroll 999995 rfl ?_
                      refine dseq (dreg ?_)
                      refine lpure (v := .bool false) rfl (p_lt rfl) rfl rfl ?_
                      refine lend (nseq (dseq (dcondF rfl rfl (dexit (eseq (eloop (xblock (nseq (dseq (dreg ?_))))))))))
                      refine lpure (v := .bool true) rfl (p_assign rfl) rfl rfl ?_
                      refine lend (nseq (dret ?_))
                      exact kcut_r (res_1 resT) X291 rfl rfl
                    refine dskip (nblock (nseq (dreg ?_)))
                    refine lpure (v := .int .i64 (w64 (s244 + 1))) rfl (p_add rfl) rfl rfl ?_
                    refine lpure (v := .int .i64 (w64 (s244 + 1))) rfl (p_move rfl) rfl rfl ?_
                    refine lend ?_
                    exact kbackM ih273 (w64 (s244 + 1)) () (sub_cons rfl (sub_cons rfl (sub_cons rfl (sub_cons rfl sub_nil)))) (St.pick X291 (.skip _ (.keep _ (.keep _ (.keep _ (.keep _ (.nil _)))))))
                  intro j295 J296
                  refine lcase (i := 16) (show _ = Value.bool s286 from rfl) (fun k297 => ?_) (fun k297 => ?_)
                  · refine lskip rfl rfl ?_
                    refine lskip rfl rfl ?_
                    refine lskip rfl rfl ?_
                    refine lskip rfl rfl ?_
                    refine lskip rfl rfl ?_
                    refine lskip rfl rfl ?_
                    refine lskip rfl rfl ?_
                    refine lskip rfl rfl ?_
                    refine lskip rfl rfl ?_
                    refine lskip rfl rfl ?_
                    refine lskip rfl rfl ?_
                    refine lskip rfl rfl ?_
                    refine lpure (v := .bool true) rfl (p_pick rfl) rfl rfl ?_
                    refine Sim.of_eq (congrArg j295 (show (s286 || ((decide (e278.A = e115.B)) && (decide (e278.B = e115.A)))) = true from by rw [k297] <;> rfl)) ?_
                    exact ljmpM J296 true () (sub_cons rfl sub_nil) X287
                  refine lpure (v := .pointer (some ⟨b281, 0, none⟩)) rfl (p_fa fo_65_0 rfl) rfl rfl ?_
                  refine lread (v := .int .i64 e278.A) rfl (q_load wd_3 rfl) (St.ld X287 (j := 0) rfl rfl) rfl ?_
                  refine lpure (v := .pointer (some ⟨b118, 1, none⟩)) rfl (p_fa fo_65_1 rfl) rfl rfl ?_
                  refine lread (v := .int .i64 e115.B) rfl (q_load wd_3 rfl) (St.ld X287 (j := 2) rfl rfl) rfl ?_
                  refine lpure (v := .bool (decide (e278.A = e115.B))) rfl (p_eq rfl) rfl rfl ?_
                  refine lpure (v := .bool (decide (e278.A = e115.B))) rfl (p_move rfl) rfl rfl ?_
                  refine lcase (i := 22) (show _ = Value.bool (decide (e278.A = e115.B)) from rfl) (fun k298 => ?_) (fun k298 => ?_)
                  · refine lpure (v := .pointer (some ⟨b281, 1, none⟩)) rfl (p_fa fo_65_1 rfl) rfl rfl ?_
                    refine lread (v := .int .i64 e278.B) rfl (q_load wd_3 rfl) (St.ld X287 (j := 0) rfl rfl) rfl ?_
                    refine lpure (v := .pointer (some ⟨b118, 0, none⟩)) rfl (p_fa fo_65_0 rfl) rfl rfl ?_
                    refine lread (v := .int .i64 e115.A) rfl (q_load wd_3 rfl) (St.ld X287 (j := 2) rfl rfl) rfl ?_
                    refine lpure (v := .bool (decide (e278.B = e115.A))) rfl (p_eq rfl) rfl rfl ?_
                    refine lpure (v := .bool (decide (e278.B = e115.A))) rfl (p_pick rfl) rfl rfl ?_
                    refine lpure (v := .bool (decide (e278.B = e115.A))) rfl (p_pick rfl) rfl rfl ?_
                    refine Sim.of_eq (congrArg j295 (show (s286 || ((decide (e278.A = e115.B)) && (decide (e278.B = e115.A)))) = (decide (e278.B = e115.A)) from by rw [k297, k298] <;> rfl)) ?_
                    exact ljmpM J296 (decide (e278.B = e115.A)) () (sub_cons rfl sub_nil) X287
                  refine lskip rfl rfl ?_
                  refine lskip rfl rfl ?_
                  refine lskip rfl rfl ?_
                  refine lskip rfl rfl ?_
                  refine lskip rfl rfl ?_
                  refine lpure (v := .bool false) rfl (p_pick rfl) rfl rfl ?_
                  refine lpure (v := .bool false) rfl (p_pick rfl) rfl rfl ?_
                  refine Sim.of_eq (congrArg j295 (show (s286 || ((decide (e278.A = e115.B)) && (decide (e278.B = e115.A)))) = false from by rw [k297, k298] <;> rfl)) ?_
                  exact ljmpM J296 false () (sub_cons rfl sub_nil) X287
                intro j299 J300
                refine lcase (i := 9) (show _ = Value.bool (decide (e278.A = e115.A)) from rfl) (fun k301 => ?_) (fun k301 => ?_)
                · refine lpure (v := .pointer (some ⟨b281, 1, none⟩)) rfl (p_fa fo_65_1 rfl) rfl rfl ?_
                  refine lread (v := .int .i64 e278.B) rfl (q_load wd_3 rfl) (St.ld X284 (j := 0) rfl rfl) rfl ?_
                  refine lpure (v := .pointer (some ⟨b118, 1, none⟩)) rfl (p_fa fo_65_1 rfl) rfl rfl ?_
                  refine lread (v := .int .i64 e115.B) rfl (q_load wd_3 rfl) (St.ld X284 (j := 2) rfl rfl) rfl ?_
                  refine lpure (v := .bool (decide (e278.B = e115.B))) rfl (p_eq rfl) rfl rfl ?_
                  refine lpure (v := .bool (decide (e278.B = e115.B))) rfl (p_pick rfl) rfl rfl ?_
                  refine Sim.of_eq (congrArg j299 (show ((decide (e278.A = e115.A)) && (decide (e278.B = e115.B))) = (decide (e278.B = e115.B)) from by rw [k301] <;> rfl)) ?_
                  exact ljmpM J300 (decide (e278.B = e115.B)) () (sub_cons rfl (sub_cons rfl (sub_cons rfl sub_nil))) X284
                refine lskip rfl rfl ?_
                refine lskip rfl rfl ?_
                refine lskip rfl rfl ?_
                refine lskip rfl rfl ?_
                refine lskip rfl rfl ?_
                refine lpure (v := .bool false) rfl (p_pick rfl) rfl rfl ?_
                refine Sim.of_eq (congrArg j299 (show ((decide (e278.A = e115.A)) && (decide (e278.B = e115.B))) = false from by rw [k301] <;> rfl)) ?_
                exact ljmpM J300 false () (sub_cons rfl (sub_cons rfl (sub_cons rfl sub_nil))) X284
              refine dexit (eseq (eloop (xblock (nseq (dseq (dreg ?_))))))
              refine lpure (v := .int .i64 (-1)) rfl (p_assign rfl) rfl rfl ?_
              refine lend (nseq (dret ?_))
              refine kin_r (res_1 resT) ?_
              refine lpure (v := .bool false) rfl (p_ge rfl) rfl rfl ?_
              refine lpure (v := .bool false) rfl (p_assign rfl) rfl rfl ?_
              refine lend (nseq (dret ?_))
              refine kin_r (res_1 resT) ?_
              refine lpure (v := .bool true) rfl (p_not rfl) rfl rfl ?_
              refine lpure (v := .bool true) rfl (p_assign rfl) rfl rfl ?_
              refine lend (nseq (dret ?_))
              refine kin_r (res_1 resT) ?_
              refine lpure (v := .bool false) rfl (p_not rfl) rfl rfl ?_
              refine lend (nseq (dcondF rfl rfl (dskip (nblock (nseq (dreg ?_))))))
              refine lpure (v := .int .i64 4) rfl (p_add rfl) rfl rfl ?_
              refine lpure (v := .int .i64 4) rfl (p_move rfl) rfl rfl ?_
              refine lend ?_
              refine nunroll 999995 rfl ?_
              refine dseq (dreg ?_)
              refine lpure (v := .bool false) rfl (p_lt rfl) rfl rfl ?_
              refine lend (nseq (dseq (dcondF rfl rfl (dexit (eseq (eloop (xblock (nseq (dseq (dreg ?_))))))))))
              refine lpure (v := .bool true) rfl (p_assign rfl) rfl rfl ?_
              refine lend (nseq (dret ?_))
              exact kcut_r (res_1 resT) X275 rfl rfl
            intro j302 J303
            refine lcase (i := 15) (show _ = Value.bool s180 from rfl) (fun k304 => ?_) (fun k304 => ?_)
            · refine lpure (v := .pointer (some ⟨b118, 3, none⟩)) rfl (p_fa fo_65_3 rfl) rfl rfl ?_
              refine lread (v := .int .i64 e115.Delay) rfl (q_load wd_3 rfl) (St.ld X181 (j := 1) rfl rfl) rfl ?_
              refine lpure (v := .bool (decide (e115.Delay ≤ 10000))) rfl (p_le rfl) rfl rfl ?_
              refine lpure (v := .bool (decide (e115.Delay ≤ 10000))) rfl (p_pick rfl) rfl rfl ?_
              refine Sim.of_eq (congrArg j302 (show (s180 && (decide (e115.Delay ≤ 10000))) = (decide (e115.Delay ≤ 10000)) from by rw [k304] <;> rfl)) ?_
              exact ljmpM J303 (decide (e115.Delay ≤ 10000)) () (sub_cons rfl sub_nil) X181
            refine lskip rfl rfl ?_
            refine lskip rfl rfl ?_
            refine lskip rfl rfl ?_
            refine lpure (v := .bool false) rfl (p_pick rfl) rfl rfl ?_
            refine Sim.of_eq (congrArg j302 (show (s180 && (decide (e115.Delay ≤ 10000))) = false from by rw [k304] <;> rfl)) ?_
            exact ljmpM J303 false () (sub_cons rfl sub_nil) X181
          intro j305 J306
          refine lcase (i := 10) (show _ = Value.bool s176 from rfl) (fun k307 => ?_) (fun k307 => ?_)
          · refine lpure (v := .pointer (some ⟨b118, 3, none⟩)) rfl (p_fa fo_65_3 rfl) rfl rfl ?_
            refine lread (v := .int .i64 e115.Delay) rfl (q_load wd_3 rfl) (St.ld X177 (j := 1) rfl rfl) rfl ?_
            refine lpure (v := .bool (decide (0 ≤ e115.Delay))) rfl (p_ge rfl) rfl rfl ?_
            refine lpure (v := .bool (decide (0 ≤ e115.Delay))) rfl (p_pick rfl) rfl rfl ?_
            refine Sim.of_eq (congrArg j305 (show (s176 && (decide (0 ≤ e115.Delay))) = (decide (0 ≤ e115.Delay)) from by rw [k307] <;> rfl)) ?_
            exact ljmpM J306 (decide (0 ≤ e115.Delay)) () (sub_cons rfl (sub_cons rfl sub_nil)) X177
          refine lskip rfl rfl ?_
          refine lskip rfl rfl ?_
          refine lskip rfl rfl ?_
          refine lpure (v := .bool false) rfl (p_pick rfl) rfl rfl ?_
          refine Sim.of_eq (congrArg j305 (show (s176 && (decide (0 ≤ e115.Delay))) = false from by rw [k307] <;> rfl)) ?_
          exact ljmpM J306 false () (sub_cons rfl (sub_cons rfl sub_nil)) X177
        intro j308 J309
        refine lcase (i := 5) (show _ = Value.bool (decide (1 ≤ e115.Per)) from rfl) (fun k310 => ?_) (fun k310 => ?_)
        · refine lpure (v := .pointer (some ⟨b118, 2, none⟩)) rfl (p_fa fo_65_2 rfl) rfl rfl ?_
          refine lread (v := .int .i64 e115.Per) rfl (q_load wd_3 rfl) (St.ld X172 (j := 1) rfl rfl) rfl ?_
          refine lpure (v := .bool (decide (e115.Per ≤ 1000))) rfl (p_le rfl) rfl rfl ?_
          refine lpure (v := .bool (decide (e115.Per ≤ 1000))) rfl (p_pick rfl) rfl rfl ?_
          refine Sim.of_eq (congrArg j308 (show ((decide (1 ≤ e115.Per)) && (decide (e115.Per ≤ 1000))) = (decide (e115.Per ≤ 1000)) from by rw [k310] <;> rfl)) ?_
          exact ljmpM J309 (decide (e115.Per ≤ 1000)) () (sub_cons rfl (sub_cons rfl sub_nil)) X172
        refine lskip rfl rfl ?_
        refine lskip rfl rfl ?_
        refine lskip rfl rfl ?_
        refine lpure (v := .bool false) rfl (p_pick rfl) rfl rfl ?_
        refine Sim.of_eq (congrArg j308 (show ((decide (1 ≤ e115.Per)) && (decide (e115.Per ≤ 1000))) = false from by rw [k310] <;> rfl)) ?_
        exact ljmpM J309 false () (sub_cons rfl (sub_cons rfl sub_nil)) X172
      intro j311 J312
      refine lif (i := 10) (show _ = Value.bool (!e163) from rfl) (fun k313 => ?_) (fun k313 => ?_)
      · refine lskip rfl rfl ?_
        refine lskip rfl rfl ?_
        refine lskip rfl rfl ?_
        refine lskip rfl rfl ?_
        refine lskip rfl rfl ?_
        refine lskip rfl rfl ?_
        refine lskip rfl rfl ?_
        refine lpure (v := .bool true) rfl (p_pick rfl) rfl rfl ?_
        exact ljmpM J312 true () (sub_cons rfl sub_nil) X160
      refine lpure (v := .pointer (some ⟨b107, 1, none⟩)) rfl (p_fa fo_25_1 rfl) rfl rfl ?_
      refine lread (v := .slice a104 n104 c104) rfl (q_load wd_22 rfl) (St.ld X160 (j := 3) rfl rfl) rfl ?_
      refine lpure (v := .pointer (some ⟨b118, 1, none⟩)) rfl (p_fa fo_65_1 rfl) rfl rfl ?_
      refine lread (v := .int .i64 e115.B) rfl (q_load wd_3 rfl) (St.ld X160 (j := 1) rfl rfl) rfl ?_
      refine Sim.bindM fun e314 he315 => ?_
      obtain ⟨p316, cs316, hp316, hF316, hR316⟩ := RSl.ia H104 he315 (kd := .i64) (n := 1) rfl
      have hR316 : _ = [(.bool e314 : Value)] := hR316
      subst hR316
      refine lpure (v := p316) rfl (p_ia rs_22 rfl) hp316 rfl ?_
      refine lread (v := .bool e314) rfl (q_load wd_4 rfl) (FP.ld X160 hF316) rfl ?_
      refine lpure (v := .bool (!e314)) rfl (p_not rfl) rfl rfl ?_
      refine lpure (v := .bool (!e314)) rfl (p_pick rfl) rfl rfl ?_
      exact ljmpM J312 (!e314) () (sub_cons rfl sub_nil) X160
    intro j317 J318
    refine lcase (i := 13) (show _ = Value.bool s155 from rfl) (fun k319 => ?_) (fun k319 => ?_)
    · refine lpure (v := .pointer (some ⟨b118, 0, none⟩)) rfl (p_fa fo_65_0 rfl) rfl rfl ?_
      refine lread (v := .int .i64 e115.A) rfl (q_load wd_3 rfl) (St.ld X156 (j := 1) rfl rfl) rfl ?_
      refine lpure (v := .pointer (some ⟨b118, 1, none⟩)) rfl (p_fa fo_65_1 rfl) rfl rfl ?_
      refine lread (v := .int .i64 e115.B) rfl (q_load wd_3 rfl) (St.ld X156 (j := 1) rfl rfl) rfl ?_
      refine lpure (v := .bool (decide (e115.A ≠ e115.B))) rfl (p_ne rfl) rfl rfl ?_
      refine lpure (v := .bool (decide (e115.A ≠ e115.B))) rfl (p_pick rfl) rfl rfl ?_
      refine Sim.of_eq (congrArg j317 (show (s155 && (decide (e115.A ≠ e115.B))) = (decide (e115.A ≠ e115.B)) from by rw [k319] <;> rfl)) ?_
      exact ljmpM J318 (decide (e115.A ≠ e115.B)) () (sub_cons rfl sub_nil) X156
    refine lskip rfl rfl ?_
    refine lskip rfl rfl ?_
    refine lskip rfl rfl ?_
    refine lskip rfl rfl ?_
    refine lskip rfl rfl ?_
    refine lpure (v := .bool false) rfl (p_pick rfl) rfl rfl ?_
    refine Sim.of_eq (congrArg j317 (show (s155 && (decide (e115.A ≠ e115.B))) = false from by rw [k319] <;> rfl)) ?_
    exact ljmpM J318 false () (sub_cons rfl sub_nil) X156
  intro j320 J321
  refine lif (i := 7) (show _ = Value.bool e145 from rfl) (fun k322 => ?_) (fun k322 => ?_)
  · refine lread (v := .agg #[.int .i64 p103.Nodes, .slice a104 n104 c104, .slice a105 n105 c105]) rfl (q_load wd_25 rfl) (St.ld X129 (j := 3) rfl rfl) rfl ?_
    refine lpure (v := .pointer (some ⟨b118, 1, none⟩)) rfl (p_fa fo_65_1 rfl) rfl rfl ?_
    refine lread (v := .int .i64 e115.B) rfl (q_load wd_3 rfl) (St.ld X129 (j := 1) rfl rfl) rfl ?_
    refine lcall rfl rfl ca_85 rfl rfl (f85_ok X129 p103 (e115.B) H104 H105) rfl (fun e323 v324 h325 hq326 => ?_)
    cases hq326
    refine lpure (v := .bool e323) rfl (p_pick rfl) rfl rfl ?_
    exact ljmpM J321 e323 () (sub_cons rfl (sub_cons rfl sub_nil)) X129
  refine lskip rfl rfl ?_
  refine lskip rfl rfl ?_
  refine lskip rfl rfl ?_
  refine lskip rfl rfl ?_
  refine lpure (v := .bool false) rfl (p_pick rfl) rfl rfl ?_
  exact ljmpM J321 false () (sub_cons rfl (sub_cons rfl sub_nil)) X129
/-! (isochron/topo.end).from -/
theorem f92_ok {n : Nat} {φ : Fz} {lo : Nat} {h : Heap} {own : OwnL}  (X : St φ lo h (own)) (p393 : TopoEnd) : Sim ((recN Tryz.prog LL cutF (n + 1)).call 92 #[(.agg #[.int .i64 p393.Link.A, .int .i64 p393.Link.B, .int .i64 p393.Link.Per, .int .i64 p393.Link.Delay, .int .i64 p393.port])] h) (m_topo_end_from p393) (fun (d : Int) p => p = (.int .i64 d, h)) := by
  refine fcut Tryz.func92 rfl rfl rfl rfl X ?_
  intro h0 X0
  refine dseq (dreg ?_)
  refine lbox rfl rfl rfl rfl rfl X0 (fun b394 h396 X397 => ?_)
  refine lpure (v := .int .i64 0) rfl (p_assign rfl) rfl rfl ?_
  refine lend (nseq (dseq (dseq (dreg ?_))))
  refine lpure (v := .pointer (some ⟨b394, 4, none⟩)) rfl (p_fa fo_111_1 rfl) rfl rfl ?_
  refine lread (v := .int .i64 p393.port) rfl (q_load wd_3 rfl) (St.ld X397 (j := 0) rfl rfl) rfl ?_
  refine lpure (v := .int .i64 (Int.tmod p393.port 2)) rfl (p_rem rfl) rfl rfl ?_
  refine lpure (v := .bool (decide ((Int.tmod p393.port 2) = 0))) rfl (p_eq rfl) rfl rfl ?_
  refine lend (nseq ?_)
  refine dcond rfl rfl (fun k398 => ?_) (fun k398 => ?_)
  · refine dseq (dreg ?_)
    refine lpure (v := .pointer (some ⟨b394, 0, none⟩)) rfl (p_fa fo_111_0 rfl) rfl rfl ?_
    refine lpure (v := .pointer (some ⟨b394, 0, none⟩)) rfl (p_fa fo_65_0 rfl) rfl rfl ?_
    refine lread (v := .int .i64 p393.Link.A) rfl (q_load wd_3 rfl) (St.ld X397 (j := 0) rfl rfl) rfl ?_
    refine lpure (v := .int .i64 p393.Link.A) rfl (p_assign rfl) rfl rfl ?_
    refine lend (nseq (dret (rseq ?_)))
    exact kcut_r (res_1 resT) X397 rfl rfl
  refine dskip (nseq (dseq (dreg ?_)))
  refine lpure (v := .pointer (some ⟨b394, 0, none⟩)) rfl (p_fa fo_111_0 rfl) rfl rfl ?_
  refine lpure (v := .pointer (some ⟨b394, 1, none⟩)) rfl (p_fa fo_65_1 rfl) rfl rfl ?_
  refine lread (v := .int .i64 p393.Link.B) rfl (q_load wd_3 rfl) (St.ld X397 (j := 0) rfl rfl) rfl ?_
  refine lpure (v := .int .i64 p393.Link.B) rfl (p_assign rfl) rfl rfl ?_
  refine lend (nseq (dret ?_))
  exact kcut_r (res_1 resT) X397 rfl rfl
/-! isochron/topo.degree -/
theorem f69_ok {n : Nat} {φ : Fz} {lo : Nat} {h : Heap} {own : OwnL}  {a342 : Option Addr} {n342 c342 : Nat} {a343 : Option Addr} {n343 c343 : Nat} (X : St φ lo h (own)) (p341 : ApiTopo) (p344 : Int) (H342 : RSl eBool φ (.slice a342 n342 c342) p341.Station) (H343 : RSl eApiLink φ (.slice a343 n343 c343) p341.Links) : Sim ((recN Tryz.prog LL cutF (n + 4)).call 69 #[(.agg #[.int .i64 p341.Nodes, .slice a342 n342 c342, .slice a343 n343 c343]), (.int .i64 p344)] h) (m_topo_degree p341 p344) (fun (d : Int) p => p = (.int .i64 d, h)) := by
  refine fcut Tryz.func69 rfl rfl rfl rfl X ?_
  intro h0 X0
  refine dseq (dreg ?_)
  refine lbox rfl rfl rfl rfl rfl X0 (fun b345 h347 X348 => ?_)
  refine lbox rfl rfl rfl rfl rfl X348 (fun b349 h351 X352 => ?_)
  refine lpure (v := .int .i64 0) rfl (p_assign rfl) rfl rfl ?_
  refine lend (nseq (dseq (dreg ?_)))
  refine lalloc rfl tz_3 rfl rfl rfl X352 (fun b353 h355 X356 => ?_)
  refine lstore rfl ts_3 rfl rfl (j := 0) rfl rfl rfl rfl rfl rfl X356 (fun h357 X358 => ?_)
  refine lend (nseq (dseq (dseq (dreg ?_))))
  refine lread (v := .agg #[.int .i64 p341.Nodes, .slice a342 n342 c342, .slice a343 n343 c343]) rfl (q_load wd_25 rfl) (St.ld X358 (j := 2) rfl rfl) rfl ?_
  refine linl rfl rfl rfl rfl ca_91 rfl Tryz.func91 rfl rfl rfl rfl rfl ?_
  refine dseq (dreg ?_)
  refine lbox rfl rfl rfl rfl rfl X358 (fun b359 h361 X362 => ?_)
  refine lpure (v := .nilFunc) rfl (p_assign rfl) rfl rfl ?_
  refine lend (nseq (dseq (dreg ?_)))
  refine lpure (v := .func (.func 109) #[] #[.pointer (some ⟨b359, 0, none⟩)]) rfl (p_makeFunc rfl) rfl rfl ?_
  refine lpure (v := .func (.func 109) #[] #[.pointer (some ⟨b359, 0, none⟩)]) rfl (p_assign rfl) rfl rfl ?_
  refine lend (nseq (dret ?_))
  refine kin_r (res_1 resT) ?_
  refine lend (nseq (dblock ?_))
  refine drange rfl rfl ca_109 Tryz.func109 rfl rfl X362 (fun _ => rfl) ?_
  intro l363 q364 df365 h367 Q366 X368
  refine dseq (dreg ?_)
  refine lpure (v := .pointer (some ⟨b359, 2, none⟩)) rfl (p_fa fo_25_2 rfl) rfl rfl ?_
  refine lread (v := .slice a343 n343 c343) rfl (q_load wd_23 rfl) (St.ld X368 (j := 2) rfl rfl) rfl ?_
  refine lpure (v := .int .i64 (p341.Links.length : Int)) rfl (p_len rfl rfl rfl un_23 rfl) (RSl.lenC H343) rfl ?_
  refine lpure (v := .int .i64 0) rfl (p_move rfl) rfl rfl ?_
  refine lend (nseq (dblock ?_))
  refine dloopM (τ := Int × Int) (σ := Unit) (fun s507 (_ : Unit) => [(0, .func (.yield l363) #[] #[]), (6, .slice a343 n343 c343), (7, .int .i64 (p341.Links.length : Int)), (8, .int .i64 s507.1)]) (fun s507 (_ : Unit) hh => St φ h.n hh ([(some l363, rdy q364), (none, .dead), (some b359, .cells [.int .i64 p341.Nodes, .slice a342 n342 c342, .slice a343 n343 c343] 25 .exact), (some b353, .cells [.int .i64 s507.2] 3 .exact), (some b349, .cells [.int .i64 p344] 3 .exact), (some b345, .cells [.int .i64 p341.Nodes, .slice a342 n342 c342, .slice a343 n343 c343] 25 .exact)])) (0, 0) () (sub_cons rfl (sub_cons rfl (sub_cons rfl (sub_cons rfl sub_nil)))) (St.pick X368 (.keep _ (.none _ (.skip _ (.keep _ (.keep _ (.keep _ (.keep _ (.nil _))))))))) ?_
  rintro n574 ih573 s507 _ t0 h576 X575
  refine dseq (dreg ?_)
  refine lpure (v := .bool (decide (s507.1 < (p341.Links.length : Int)))) rfl (p_lt rfl) rfl rfl ?_
  refine lend (nseq (dseq ?_))
  refine dcond rfl rfl (fun k577 => ?_) (fun k577 => ?_)
  · refine dskip (nseq (dseq (dblock (dseq (dreg ?_)))))
    refine lpure (v := .int .i64 s507.1) rfl (p_move rfl) rfl rfl ?_
    refine Sim.bindM fun e578 he579 => ?_
    obtain ⟨p580, cs580, hp580, hF580, hR580⟩ := RSl.ia H343 he579 (kd := .i64) (n := 4) rfl
    obtain rfl := eApiLink_el hR580
    refine lpure (v := p580) rfl (p_ia rs_23 rfl) hp580 rfl ?_
    refine lread (v := .agg #[.int .i64 e578.A, .int .i64 e578.B, .int .i64 e578.Per, .int .i64 e578.Delay]) rfl (q_load wd_65 rfl) (FP.ldw X575 hF580 rfl rfl) rfl ?_
    refine lalloc rfl tz_65 rfl rfl rfl X575 (fun b581 h583 X584 => ?_)
    refine lpure (v := .int .i64 s507.1) rfl (p_assign rfl) rfl rfl ?_
    refine lstore rfl ts_65 rfl rfl (j := 0) rfl rfl rfl rfl rfl rfl X584 (fun h585 X586 => ?_)
    refine lend (nseq (dseq (dreg ?_)))
    refine lpure (v := .func (.yield l363) #[] #[]) rfl (p_move rfl) rfl rfl ?_
    refine lread (v := .agg #[.int .i64 e578.A, .int .i64 e578.B, .int .i64 e578.Per, .int .i64 e578.Delay]) rfl (q_load wd_65 rfl) (St.ld X586 (j := 0) rfl rfl) rfl ?_
    refine lpure (v := .int .i64 s507.1) rfl (p_move rfl) rfl rfl ?_
    refine lpure (v := .int .i64 (w64 (2 * s507.1))) rfl (p_mul rfl) rfl rfl ?_
    refine lpure (v := .agg #[.int .i64 e578.A, .int .i64 e578.B, .int .i64 e578.Per, .int .i64 e578.Delay, .int .i64 (w64 (2 * s507.1))]) rfl (p_build rfl) (build_st' tz_111 pl_111 rfl) rfl ?_
    refine lround rfl rfl rfl rfl rfl rfl X586 (j := 1) rfl Q366 rfl rfl rfl rfl rfl (fun t587 => ?_)
    refine dreg ?_
    refine lalloc rfl tz_111 rfl rfl rfl X586 (fun b588 h590 X591 => ?_)
    refine lstore rfl ts_111 rfl rfl (j := 0) rfl rfl rfl rfl rfl rfl X591 (fun h592 X593 => ?_)
    refine lend ?_
    refine basg X593 (j := 2) rfl (fun h594 X595 => ?_)
    refine dblock (dseq ?_)
    refine ddraw 0 0 0 (by kernel_rfl) ?_
    refine sload (v := .agg #[.int .i64 e578.A, .int .i64 e578.B, .int .i64 e578.Per, .int .i64 e578.Delay, .int .i64 (w64 (2 * s507.1))]) rfl rfl (q_load wd_111 rfl) (St.ld X595 (j := 0) rfl rfl) (same_self 20 rfl) rfl ?_
    refine scall (en := fun d => (.int .i64 d)) rfl rfl ca_92 rfl rfl (f92_ok X595 ((TopoEnd.mk e578 (w64 (2 * s507.1))))) rfl (fun e596 => ?_)
    refine sload (v := .int .i64 p344) rfl rfl (q_load wd_3 rfl) (St.ld X595 (j := 6) rfl rfl) (same_self 20 rfl) rfl ?_
    refine spure (v := .bool (decide (e596 = p344))) rfl (p_eq rfl) (lo_t rfl (lo_t rfl rfl)) rfl rfl ?_
    refine send ?_
    refine nseq ?_
    refine djoinM (τ := Int) (σ := Unit) (fun s603 (_ : Unit) => []) (fun s603 (_ : Unit) hh => St φ h.n hh ([(some b588, .cells [.int .i64 e578.A, .int .i64 e578.B, .int .i64 e578.Per, .int .i64 e578.Delay, .int .i64 (w64 (2 * s507.1))] 111 .exact), (some b581, .cells [.int .i64 e578.A, .int .i64 e578.B, .int .i64 e578.Per, .int .i64 e578.Delay] 65 .exact), (some l363, bsy q364), (none, .dead), (some b359, .cells [.int .i64 p341.Nodes, .slice a342 n342 c342, .slice a343 n343 c343] 25 .exact), (some b353, .cells [.int .i64 s603] 3 .exact), (some b349, .cells [.int .i64 p344] 3 .exact), (some b345, .cells [.int .i64 p341.Nodes, .slice a342 n342 c342, .slice a343 n343 c343] 25 .exact)])) ?_ ?_
    · rintro s603 _ t0 h605 X604
      refine nblock ?_
      refine nrnd X604 (j := 2) rfl (fun h608 X609 => ?_)
      refine lpure (v := .bool false) rfl (p_not rfl) rfl rfl ?_
      refine lpure (v := .bool false) rfl (p_move rfl) rfl rfl ?_
      refine lpure (v := .func (.yield l363) #[] #[]) rfl (p_move rfl) rfl rfl ?_
      refine lread (v := .agg #[.int .i64 e578.A, .int .i64 e578.B, .int .i64 e578.Per, .int .i64 e578.Delay]) rfl (q_load wd_65 rfl) (St.ld X609 (j := 1) rfl rfl) rfl ?_
      refine lpure (v := .int .i64 s507.1) rfl (p_move rfl) rfl rfl ?_
      refine lpure (v := .int .i64 (w64 (2 * s507.1))) rfl (p_mul rfl) rfl rfl ?_
      refine lpure (v := .int .i64 (w64 ((w64 (2 * s507.1)) + 1))) rfl (p_add rfl) rfl rfl ?_
      refine lpure (v := .agg #[.int .i64 e578.A, .int .i64 e578.B, .int .i64 e578.Per, .int .i64 e578.Delay, .int .i64 (w64 ((w64 (2 * s507.1)) + 1))]) rfl (p_build rfl) (build_st' tz_111 pl_111 rfl) rfl ?_
      refine lround rfl rfl rfl rfl rfl rfl X609 (j := 2) rfl Q366 rfl rfl rfl rfl rfl (fun t610 => ?_)
      refine dreg ?_
      refine lalloc rfl tz_111 rfl rfl rfl X609 (fun b611 h613 X614 => ?_)
      refine lstore rfl ts_111 rfl rfl (j := 0) rfl rfl rfl rfl rfl rfl X614 (fun h615 X616 => ?_)
      refine lend ?_
      refine basg X616 (j := 3) rfl (fun h617 X618 => ?_)
      refine dblock (dseq ?_)
      refine ddraw 0 0 0 (by kernel_rfl) ?_
      refine sload (v := .agg #[.int .i64 e578.A, .int .i64 e578.B, .int .i64 e578.Per, .int .i64 e578.Delay, .int .i64 (w64 ((w64 (2 * s507.1)) + 1))]) rfl rfl (q_load wd_111 rfl) (St.ld X618 (j := 0) rfl rfl) (same_self 20 rfl) rfl ?_
      refine scall (en := fun d => (.int .i64 d)) rfl rfl ca_92 rfl rfl (f92_ok X618 ((TopoEnd.mk e578 (w64 ((w64 (2 * s507.1)) + 1))))) rfl (fun e619 => ?_)
      refine sload (v := .int .i64 p344) rfl rfl (q_load wd_3 rfl) (St.ld X618 (j := 7) rfl rfl) (same_self 20 rfl) rfl ?_
      refine spure (v := .bool (decide (e619 = p344))) rfl (p_eq rfl) (lo_t rfl (lo_t rfl rfl)) rfl rfl ?_
      refine send ?_
      refine nseq ?_
      refine djoinM (τ := Int) (σ := Unit) (fun s626 (_ : Unit) => []) (fun s626 (_ : Unit) hh => St φ h.n hh ([(some b611, .cells [.int .i64 e578.A, .int .i64 e578.B, .int .i64 e578.Per, .int .i64 e578.Delay, .int .i64 (w64 ((w64 (2 * s507.1)) + 1))] 111 .exact), (some b588, .cells [.int .i64 e578.A, .int .i64 e578.B, .int .i64 e578.Per, .int .i64 e578.Delay, .int .i64 (w64 (2 * s507.1))] 111 .exact), (some b581, .cells [.int .i64 e578.A, .int .i64 e578.B, .int .i64 e578.Per, .int .i64 e578.Delay] 65 .exact), (some l363, bsy q364), (none, .dead), (some b359, .cells [.int .i64 p341.Nodes, .slice a342 n342 c342, .slice a343 n343 c343] 25 .exact), (some b353, .cells [.int .i64 s626] 3 .exact), (some b349, .cells [.int .i64 p344] 3 .exact), (some b345, .cells [.int .i64 p341.Nodes, .slice a342 n342 c342, .slice a343 n343 c343] 25 .exact)])) ?_ ?_
      · rintro s626 _ t0 h628 X627
        refine nblock ?_
        refine nrnd X627 (j := 3) rfl (fun h631 X632 => ?_)
        refine lpure (v := .bool false) rfl (p_not rfl) rfl rfl ?_
        refine lpure (v := .bool false) rfl (p_pick rfl) rfl rfl ?_
        refine lend (nseq (dcondF rfl rfl (dskip (nblock (nseq (dreg ?_))))))
        refine lpure (v := .int .i64 (w64 (s507.1 + 1))) rfl (p_add rfl) rfl rfl ?_
        refine lpure (v := .int .i64 (w64 (s507.1 + 1))) rfl (p_move rfl) rfl rfl ?_
        refine lend ?_
        exact kbackM ih573 ((w64 (s507.1 + 1)), s626) () (sub_cons rfl (sub_cons rfl (sub_cons rfl (sub_cons rfl sub_nil)))) (St.pick X632 (.skip _ (.skip _ (.skip _ (.keep _ (.none _ (.skip _ (.keep _ (.keep _ (.keep _ (.keep _ (.nil _))))))))))))
      intro j629 J630
      refine dcond rfl rfl (fun k623 => ?_) (fun k623 => ?_)
      · refine dreg ?_
        refine lread (v := .int .i64 s603) rfl (q_load wd_3 rfl) (St.ld X618 (j := 6) rfl rfl) rfl ?_
        refine lpure (v := .int .i64 (w64 (s603 + 1))) rfl (p_add rfl) rfl rfl ?_
        refine lstore rfl ts_3 rfl rfl (j := 6) rfl rfl rfl rfl rfl rfl X618 (fun h633 X634 => ?_)
        refine lend ?_
        exact jmpM J630 (w64 (s603 + 1)) () sub_nil (St.pick X634 (.keep _ (.keep _ (.keep _ (.keep _ (.none _ (.skip _ (.keep _ (.keep _ (.keep _ (.keep _ (.nil _))))))))))))
      refine dskip ?_
      exact jmpM J630 s603 () sub_nil (St.pick X618 (.keep _ (.keep _ (.keep _ (.keep _ (.none _ (.skip _ (.keep _ (.keep _ (.keep _ (.keep _ (.nil _))))))))))))
    intro j606 J607
    refine dcond rfl rfl (fun k600 => ?_) (fun k600 => ?_)
    · refine dreg ?_
      refine lread (v := .int .i64 s507.2) rfl (q_load wd_3 rfl) (St.ld X595 (j := 5) rfl rfl) rfl ?_
      refine lpure (v := .int .i64 (w64 (s507.2 + 1))) rfl (p_add rfl) rfl rfl ?_
      refine lstore rfl ts_3 rfl rfl (j := 5) rfl rfl rfl rfl rfl rfl X595 (fun h635 X636 => ?_)
      refine lend ?_
      exact jmpM J607 (w64 (s507.2 + 1)) () sub_nil (St.pick X636 (.keep _ (.keep _ (.keep _ (.none _ (.skip _ (.keep _ (.keep _ (.keep _ (.keep _ (.nil _)))))))))))
    refine dskip ?_
    exact jmpM J607 s507.2 () sub_nil (St.pick X595 (.keep _ (.keep _ (.keep _ (.none _ (.skip _ (.keep _ (.keep _ (.keep _ (.keep _ (.nil _)))))))))))
  refine dexit (eseq (eloop (xblock ?_)))
  refine kin_n res_0 ?_
  refine rend_n X575 (j := 0) rfl (fun h637 X638 => ?_)
  refine nblock (nseq (dseq (dreg ?_)))
  refine lread (v := .int .i64 s507.2) rfl (q_load wd_3 rfl) (St.ld X638 (j := 3) rfl rfl) rfl ?_
  refine lpure (v := .int .i64 s507.2) rfl (p_assign rfl) rfl rfl ?_
  refine lend (nseq (dret ?_))
  exact kcut_r (res_1 resT) X638 rfl rfl
/-! (isochron/topo.end).to -/
theorem f94_ok {n : Nat} {φ : Fz} {lo : Nat} {h : Heap} {own : OwnL}  (X : St φ lo h (own)) (p729 : TopoEnd) : Sim ((recN Tryz.prog LL cutF (n + 2)).call 94 #[(.agg #[.int .i64 p729.Link.A, .int .i64 p729.Link.B, .int .i64 p729.Link.Per, .int .i64 p729.Link.Delay, .int .i64 p729.port])] h) (m_topo_end_to p729) (fun (d : Int) p => p = (.int .i64 d, h)) := by
  refine fcut Tryz.func94 rfl rfl rfl rfl X ?_
  intro h0 X0
  refine dseq (dreg ?_)
  refine lbox rfl rfl rfl rfl rfl X0 (fun b730 h732 X733 => ?_)
  refine lpure (v := .int .i64 0) rfl (p_assign rfl) rfl rfl ?_
  refine lend (nseq (dseq ?_))
  refine ddraw 0 0 0 (by kernel_rfl) ?_
  refine spure (v := .pointer (some ⟨b730, 0, none⟩)) rfl (p_fa fo_111_0 rfl) (lo_t (lo_own X733 (j := 0) (o := 0) (s := none) (f := 0) rfl) rfl) rfl rfl ?_
  refine spure (v := .pointer (some ⟨b730, 0, none⟩)) rfl (p_fa fo_65_0 rfl) (lo_t (lo_own X733 (j := 0) (o := 0) (s := none) (f := 0) rfl) rfl) rfl rfl ?_
  refine sload (v := .int .i64 p729.Link.A) rfl rfl (q_load wd_3 rfl) (St.ld X733 (j := 0) rfl rfl) (same_self 20 rfl) rfl ?_
  refine spure (v := .pointer (some ⟨b730, 0, none⟩)) rfl (p_fa fo_111_0 rfl) (lo_t (lo_own X733 (j := 0) (o := 0) (s := none) (f := 0) rfl) rfl) rfl rfl ?_
  refine spure (v := .pointer (some ⟨b730, 1, none⟩)) rfl (p_fa fo_65_1 rfl) (lo_t (lo_own X733 (j := 0) (o := 0) (s := none) (f := 0) rfl) rfl) rfl rfl ?_
  refine sload (v := .int .i64 p729.Link.B) rfl rfl (q_load wd_3 rfl) (St.ld X733 (j := 0) rfl rfl) (same_self 20 rfl) rfl ?_
  refine spure (v := .int .i64 (w64 (p729.Link.A + p729.Link.B))) rfl (p_add rfl) (lo_t rfl (lo_t rfl rfl)) rfl rfl ?_
  refine sload (v := .agg #[.int .i64 p729.Link.A, .int .i64 p729.Link.B, .int .i64 p729.Link.Per, .int .i64 p729.Link.Delay, .int .i64 p729.port]) rfl rfl (q_load wd_111 rfl) (St.ld X733 (j := 0) rfl rfl) (same_self 20 rfl) rfl ?_
  refine scall (en := fun d => (.int .i64 d)) rfl rfl ca_92 rfl rfl (f92_ok X733 p729) rfl (fun e734 => ?_)
  refine spure (v := .int .i64 (w64 ((w64 (p729.Link.A + p729.Link.B)) - e734))) rfl (p_sub rfl) (lo_t rfl (lo_t rfl rfl)) rfl rfl ?_
  refine spure (v := .int .i64 (w64 ((w64 (p729.Link.A + p729.Link.B)) - e734))) rfl (p_assign rfl) (lo_t rfl rfl) rfl rfl ?_
  refine send ?_
  refine nseq (dret ?_)
  exact kcut_r (res_1 resT) X733 rfl rfl
/-! slices.Index[[]int,int] -/
theorem f78_ok {n : Nat} {φ : Fz} {lo : Nat} {h : Heap} {own : OwnL}  {a742 : Option Addr} {n742 c742 : Nat} (X : St φ lo h (own)) (p741 : (List Int)) (p743 : Int) (H742 : RSl (eInt .i64) φ (.slice a742 n742 c742) p741) : Sim ((recN Tryz.prog LL cutF (n + 1)).call 78 #[(.slice a742 n742 c742), (.int .i64 p743)] h) (m_slices_Index_int_int p741 p743) (fun (d : Int) p => p = (.int .i64 d, h)) := by
  refine fcut Tryz.func78 rfl rfl rfl rfl X ?_
  intro h0 X0
  refine dseq (dreg ?_)
  refine lpure (v := .int .i64 0) rfl (p_assign rfl) rfl rfl ?_
  refine lend (nseq (dseq (dseq (dreg ?_))))
  refine lpure (v := .slice a742 n742 c742) rfl (p_move rfl) rfl rfl ?_
  refine lpure (v := .int .i64 (p741.length : Int)) rfl (p_len rfl rfl rfl un_26 rfl) (RSl.lenC H742) rfl ?_
  refine lpure (v := .int .i64 0) rfl (p_move rfl) rfl rfl ?_
  refine lend (nseq (dblock ?_))
  refine dloopM (τ := Int) (σ := Unit) (fun s760 (_ : Unit) => [(0, .slice a742 n742 c742), (1, .int .i64 p743), (7, .int .i64 (p741.length : Int)), (8, .int .i64 s760)]) (fun s760 (_ : Unit) hh => St φ h.n hh ([])) 0 () (sub_cons rfl (sub_cons rfl (sub_cons rfl (sub_cons rfl sub_nil)))) X0 ?_
  rintro n770 ih769 s760 _ t0 h772 X771
  refine dseq (dreg ?_)
  refine lpure (v := .bool (decide (s760 < (p741.length : Int)))) rfl (p_lt rfl) rfl rfl ?_
  refine lend (nseq (dseq ?_))
  refine dcond rfl rfl (fun k773 => ?_) (fun k773 => ?_)
  · refine dskip (nseq (dseq (dblock (dseq (dreg ?_)))))
    refine lpure (v := .int .i64 s760) rfl (p_move rfl) rfl rfl ?_
    refine lpure (v := .int .i64 s760) rfl (p_assign rfl) rfl rfl ?_
    refine lend (nseq (dseq (dreg ?_)))
    refine lpure (v := .int .i64 p743) rfl (p_move rfl) rfl rfl ?_
    refine lpure (v := .slice a742 n742 c742) rfl (p_move rfl) rfl rfl ?_
    refine lpure (v := .int .i64 s760) rfl (p_move rfl) rfl rfl ?_
    refine Sim.bindM fun e774 he775 => ?_
    obtain ⟨p776, cs776, hp776, hF776, hR776⟩ := RSl.ia H742 he775 (kd := .i64) (n := 1) rfl
    have hR776 : _ = [(.int .i64 e774 : Value)] := hR776
    subst hR776
    refine lpure (v := p776) rfl (p_ia rs_26 rfl) hp776 rfl ?_
    refine lread (v := .int .i64 e774) rfl (q_load wd_3 rfl) (FP.ld X771 hF776) rfl ?_
    refine lpure (v := .bool (decide (p743 = e774))) rfl (p_eq rfl) rfl rfl ?_
    refine lend (nseq ?_)
    refine dcond rfl rfl (fun k777 => ?_) (fun k777 => ?_)
    · refine dseq (dreg ?_)
      refine lpure (v := .int .i64 s760) rfl (p_move rfl) rfl rfl ?_
      refine lpure (v := .int .i64 s760) rfl (p_assign rfl) rfl rfl ?_
      refine lend (nseq (dret (rblock (rseq (rloop (rblock (rseq ?_)))))))
      exact kcut_r (res_1 resT) X771 rfl rfl
    refine dskip (nblock (nseq (dreg ?_)))
    refine lpure (v := .int .i64 (w64 (s760 + 1))) rfl (p_add rfl) rfl rfl ?_
    refine lpure (v := .int .i64 (w64 (s760 + 1))) rfl (p_move rfl) rfl rfl ?_
    refine lend ?_
    exact kbackM ih769 (w64 (s760 + 1)) () (sub_cons rfl (sub_cons rfl (sub_cons rfl (sub_cons rfl sub_nil)))) X771
  refine dexit (eseq (eloop (xblock (nseq (dseq (dreg ?_))))))
  refine lpure (v := .int .i64 (-1)) rfl (p_assign rfl) rfl rfl ?_
  refine lend (nseq (dret ?_))
  exact kcut_r (res_1 resT) X771 rfl rfl
/-! slices.Contains[[]int,int] -/
theorem f54_ok {n : Nat} {φ : Fz} {lo : Nat} {h : Heap} {own : OwnL}  {a739 : Option Addr} {n739 c739 : Nat} (X : St φ lo h (own)) (p738 : (List Int)) (p740 : Int) (H739 : RSl (eInt .i64) φ (.slice a739 n739 c739) p738) : Sim ((recN Tryz.prog LL cutF (n + 2)).call 54 #[(.slice a739 n739 c739), (.int .i64 p740)] h) (m_slices_Contains_int_int p738 p740) (fun (d : Bool) p => p = (.bool d, h)) := by
  refine fcut Tryz.func54 rfl rfl rfl rfl X ?_
  intro h0 X0
  refine dseq (dreg ?_)
  refine lpure (v := .bool false) rfl (p_assign rfl) rfl rfl ?_
  refine lend (nseq (dseq (dreg ?_)))
  refine lpure (v := .slice a739 n739 c739) rfl (p_move rfl) rfl rfl ?_
  refine lpure (v := .int .i64 p740) rfl (p_move rfl) rfl rfl ?_
  refine lcall rfl rfl ca_78 rfl rfl (f78_ok X0 p738 p740 H739) rfl (fun e778 v779 h780 hq781 => ?_)
  cases hq781
  refine lpure (v := .bool (decide (0 ≤ e778))) rfl (p_ge rfl) rfl rfl ?_
  refine lpure (v := .bool (decide (0 ≤ e778))) rfl (p_assign rfl) rfl rfl ?_
  refine lend (nseq (dret ?_))
  exact kcut_r (res_1 resT) X0 rfl rfl
/-! isochron/topo.reach -/
theorem f71_ok {n : Nat} {φ : Fz} {lo : Nat} {h : Heap} {own : OwnL}  {a3336 : Option Addr} {n3336 c3336 : Nat} {a3337 : Option Addr} {n3337 c3337 : Nat} {a3340 : Option Addr} {n3340 c3340 : Nat} (X : St φ lo h (own)) (p3335 : ApiTopo) (p3338 : Int) (p3339 : (List Int)) (H3336 : RSl eBool φ (.slice a3336 n3336 c3336) p3335.Station) (H3337 : RSl eApiLink φ (.slice a3337 n3337 c3337) p3335.Links) (H3340 : RSl (eInt .i64) φ (.slice a3340 n3340 c3340) p3339) : Sim ((recN Tryz.prog LL cutF (n + 5)).call 71 #[(.agg #[.int .i64 p3335.Nodes, .slice a3336 n3336 c3336, .slice a3337 n3337 c3337]), (.int .i64 p3338), (.slice a3340 n3340 c3340)] h) (m_topo_reach p3335 p3338 p3339) (fun (d : (List Bool)) p => ∃ φ2 : Fz, ∃ a5953 : Option Addr, ∃ n5953 : Nat, ∃ c5953 : Nat, ∃ ob5953 : Option Nat, ∃ blk5953 : Blk, Fz.le φ φ2 ∧ St φ2 lo p.2 ((ob5953, blk5953) :: own) ∧ p.1 = .slice a5953 n5953 c5953 ∧ OSl eBool φ2 4 ob5953 blk5953 (.slice a5953 n5953 c5953) d) := by
  refine fopen Tryz.func71 rfl rfl rfl rfl ?_
  refine dseq (dreg ?_)
  refine lbox rfl rfl rfl rfl rfl X (fun b3341 h3343 X3344 => ?_)
  refine lbox rfl rfl rfl rfl rfl X3344 (fun b3345 h3347 X3348 => ?_)
  refine lpure (v := .slice none 0 0) rfl (p_assign rfl) rfl rfl ?_
  refine lend (nseq (dscope (dseq (dreg ?_))))
  refine lpure (v := .pointer (some ⟨b3341, 0, none⟩)) rfl (p_fa fo_25_0 rfl) rfl rfl ?_
  refine lread (v := .int .i64 p3335.Nodes) rfl (q_load wd_3 rfl) (St.ld X3348 (j := 1) rfl rfl) rfl ?_
  refine Sim.mustM fun k3349 => ?_
  have k3349 := of_decide_eq_true k3349
  obtain ⟨h3349, b3349, vs3349, hv3349, X3349, O3349⟩ := OSl.mk (E := eBool) (φ := φ) (a0 := false) (k := .i64) (k' := .i64) (l := p3335.Nodes) (c := p3335.Nodes) un_22 tb_4 rfl ts_4 rfl rfl tz_4 rfl rfl rfl (by omega) (by omega) (by omega) X3348
  refine lheap rfl (h_makeSlice rfl) hv3349 rfl ?_
  refine lalloc rfl tz_22 rfl rfl rfl X3349 (fun b3351 h3353 X3354 => ?_)
  refine lstore rfl ts_22 rfl rfl (j := 0) rfl rfl rfl rfl rfl rfl X3354 (fun h3355 X3356 => ?_)
  refine lend (nseq (dseq (dreg ?_)))
  refine lread (v := .slice (some ⟨b3349, 0, none⟩) (p3335.Nodes).toNat (p3335.Nodes).toNat) rfl (q_load wd_22 rfl) (St.ld X3356 (j := 0) rfl rfl) rfl ?_
  refine lpure (v := .int .i64 p3338) rfl (p_move rfl) rfl rfl ?_
  refine Sim.bindM fun e3357 he3358 => ?_
  obtain ⟨off3359, cs3359, hp3359, hc3359, hR3359, hl3359, hm3359, hs3359⟩ := OSl.iaC O3349 he3358 (kd := .i64) (n := 1) rfl
  have hR3359 : _ = [(.bool e3357 : Value)] := hR3359
  subst hR3359
  refine lpure (v := .pointer (some ⟨b3349, off3359, none⟩)) rfl (p_ia rs_22 rfl) hp3359 rfl ?_
  have O3362 := hs3359 [.bool true] (true) rfl
  refine lstore rfl ts_4 rfl rfl (j := 1) rfl hm3359 rfl rfl (ble_iff.2 hl3359) rfl X3356 (fun h3360 X3361 => ?_)
  refine lend (nseq (dseq (dlabel (nseq (dseq (dblock ?_))))))
  refine dloopM (τ := (List Bool)) (σ := Blk) (fun s4656 blk4657 => [(3, .pointer (some ⟨b3341, 0, none⟩)), (5, .pointer (some ⟨b3345, 0, none⟩)), (7, .pointer (some ⟨b3351, 0, none⟩))]) (fun s4656 blk4657 hh => St φ lo hh ((some b3351, .cells [.slice (some ⟨b3349, 0, none⟩) (p3335.Nodes).toNat (p3335.Nodes).toNat] 22 .exact) :: (some b3349, blk4657) :: (some b3345, .cells [.slice a3340 n3340 c3340] 26 .exact) :: (some b3341, .cells [.int .i64 p3335.Nodes, .slice a3336 n3336 c3336, .slice a3337 n3337 c3337] 25 .exact) :: own) ∧ OSl eBool φ 4 (some b3349) blk4657 (.slice (some ⟨b3349, 0, none⟩) (p3335.Nodes).toNat (p3335.Nodes).toNat) s4656) ((List.replicate (p3335.Nodes).toNat false).set (p3338).toNat true) ((.cells (setAt vs3349 off3359 [.bool true]) 4 .exact)) (sub_cons rfl (sub_cons rfl (sub_cons rfl sub_nil))) ⟨X3361, O3362⟩ ?_
  rintro n5306 ih5305 s4656 blk4657 t0 h5308 ⟨X5307, O4657⟩
  refine dblock (dseq (dseq (dreg ?_)))
  refine lread (v := .agg #[.int .i64 p3335.Nodes, .slice a3336 n3336 c3336, .slice a3337 n3337 c3337]) rfl (q_load wd_25 rfl) (St.ld X5307 (j := 3) rfl rfl) rfl ?_
  refine linl rfl rfl rfl rfl ca_91 rfl Tryz.func91 rfl rfl rfl rfl rfl ?_
  refine dseq (dreg ?_)
  refine lbox rfl rfl rfl rfl rfl X5307 (fun b5309 h5311 X5312 => ?_)
  refine lpure (v := .nilFunc) rfl (p_assign rfl) rfl rfl ?_
  refine lend (nseq (dseq (dreg ?_)))
  refine lpure (v := .func (.func 109) #[] #[.pointer (some ⟨b5309, 0, none⟩)]) rfl (p_makeFunc rfl) rfl rfl ?_
  refine lpure (v := .func (.func 109) #[] #[.pointer (some ⟨b5309, 0, none⟩)]) rfl (p_assign rfl) rfl rfl ?_
  refine lend (nseq (dret ?_))
  refine kin_r (res_1 resT) ?_
  refine lend (nseq (dblock ?_))
  refine drange rfl rfl ca_109 Tryz.func109 rfl rfl X5312 (fun _ => rfl) ?_
  intro l5313 q5314 df5315 h5317 Q5316 X5318
  refine dseq (dreg ?_)
  refine lpure (v := .pointer (some ⟨b5309, 2, none⟩)) rfl (p_fa fo_25_2 rfl) rfl rfl ?_
  refine lread (v := .slice a3337 n3337 c3337) rfl (q_load wd_23 rfl) (St.ld X5318 (j := 2) rfl rfl) rfl ?_
  refine lpure (v := .int .i64 (p3335.Links.length : Int)) rfl (p_len rfl rfl rfl un_23 rfl) (RSl.lenC H3337) rfl ?_
  refine lpure (v := .int .i64 0) rfl (p_move rfl) rfl rfl ?_
  refine lend (nseq (dblock ?_))
  refine dloopM (τ := Int × (List Bool)) (σ := Blk) (fun s5636 blk5637 => [(0, .func (.yield l5313) #[] #[]), (6, .slice a3337 n3337 c3337), (7, .int .i64 (p3335.Links.length : Int)), (8, .int .i64 s5636.1)]) (fun s5636 blk5637 hh => St φ lo hh ((some l5313, rdy q5314) :: (none, .dead) :: (some b5309, .cells [.int .i64 p3335.Nodes, .slice a3336 n3336 c3336, .slice a3337 n3337 c3337] 25 .exact) :: (some b3351, .cells [.slice (some ⟨b3349, 0, none⟩) (p3335.Nodes).toNat (p3335.Nodes).toNat] 22 .exact) :: (some b3349, blk5637) :: (some b3345, .cells [.slice a3340 n3340 c3340] 26 .exact) :: (some b3341, .cells [.int .i64 p3335.Nodes, .slice a3336 n3336 c3336, .slice a3337 n3337 c3337] 25 .exact) :: own) ∧ OSl eBool φ 4 (some b3349) blk5637 (.slice (some ⟨b3349, 0, none⟩) (p3335.Nodes).toNat (p3335.Nodes).toNat) s5636.2) (0, s4656) blk4657 (sub_cons rfl (sub_cons rfl (sub_cons rfl (sub_cons rfl sub_nil)))) ⟨(St.pick X5318 (.keep _ (.none _ (.skip _ (.keep _ (.keep _ (.keep _ (.keep _ (.keep _ (.refl _)))))))))), O4657⟩ ?_
  rintro n5796 ih5795 s5636 blk5637 t0 h5798 ⟨X5797, O5637⟩
  refine dseq (dreg ?_)
  refine lpure (v := .bool (decide (s5636.1 < (p3335.Links.length : Int)))) rfl (p_lt rfl) rfl rfl ?_
  refine lend (nseq (dseq ?_))
  refine dcond rfl rfl (fun k5799 => ?_) (fun k5799 => ?_)
  · refine dskip (nseq (dseq (dblock (dseq (dreg ?_)))))
    refine lpure (v := .int .i64 s5636.1) rfl (p_move rfl) rfl rfl ?_
    refine Sim.bindM fun e5800 he5801 => ?_
    obtain ⟨p5802, cs5802, hp5802, hF5802, hR5802⟩ := RSl.ia H3337 he5801 (kd := .i64) (n := 4) rfl
    obtain rfl := eApiLink_el hR5802
    refine lpure (v := p5802) rfl (p_ia rs_23 rfl) hp5802 rfl ?_
    refine lread (v := .agg #[.int .i64 e5800.A, .int .i64 e5800.B, .int .i64 e5800.Per, .int .i64 e5800.Delay]) rfl (q_load wd_65 rfl) (FP.ldw X5797 hF5802 rfl rfl) rfl ?_
    refine lalloc rfl tz_65 rfl rfl rfl X5797 (fun b5803 h5805 X5806 => ?_)
    refine lpure (v := .int .i64 s5636.1) rfl (p_assign rfl) rfl rfl ?_
    refine lstore rfl ts_65 rfl rfl (j := 0) rfl rfl rfl rfl rfl rfl X5806 (fun h5807 X5808 => ?_)
    refine lend (nseq (dseq (dreg ?_)))
    refine lpure (v := .func (.yield l5313) #[] #[]) rfl (p_move rfl) rfl rfl ?_
    refine lread (v := .agg #[.int .i64 e5800.A, .int .i64 e5800.B, .int .i64 e5800.Per, .int .i64 e5800.Delay]) rfl (q_load wd_65 rfl) (St.ld X5808 (j := 0) rfl rfl) rfl ?_
    refine lpure (v := .int .i64 s5636.1) rfl (p_move rfl) rfl rfl ?_
    refine lpure (v := .int .i64 (w64 (2 * s5636.1))) rfl (p_mul rfl) rfl rfl ?_
    refine lpure (v := .agg #[.int .i64 e5800.A, .int .i64 e5800.B, .int .i64 e5800.Per, .int .i64 e5800.Delay, .int .i64 (w64 (2 * s5636.1))]) rfl (p_build rfl) (build_st' tz_111 pl_111 rfl) rfl ?_
    refine lround rfl rfl rfl rfl rfl rfl X5808 (j := 1) rfl Q5316 rfl rfl rfl rfl rfl (fun t5809 => ?_)
    refine dreg ?_
    refine lalloc rfl tz_111 rfl rfl rfl X5808 (fun b5810 h5812 X5813 => ?_)
    refine lstore rfl ts_111 rfl rfl (j := 0) rfl rfl rfl rfl rfl rfl X5813 (fun h5814 X5815 => ?_)
    refine lend ?_
    refine basg X5815 (j := 2) rfl (fun h5816 X5817 => ?_)
    refine dblock (dseq ?_)
    refine ddraw 0 0 0 (by kernel_rfl) ?_
    refine sload (v := .slice (some ⟨b3349, 0, none⟩) (p3335.Nodes).toNat (p3335.Nodes).toNat) rfl rfl (q_load wd_22 rfl) (St.ld X5817 (j := 5) rfl rfl) (same_self 20 rfl) rfl ?_
    refine sload (v := .agg #[.int .i64 e5800.A, .int .i64 e5800.B, .int .i64 e5800.Per, .int .i64 e5800.Delay, .int .i64 (w64 (2 * s5636.1))]) rfl rfl (q_load wd_111 rfl) (St.ld X5817 (j := 0) rfl rfl) (same_self 20 rfl) rfl ?_
    refine scall (en := fun d => (.int .i64 d)) rfl rfl ca_92 rfl rfl (f92_ok X5817 ((TopoEnd.mk e5800 (w64 (2 * s5636.1))))) rfl (fun e5818 => ?_)
    refine Sim.bindM fun e5822 he5823 => ?_
    obtain ⟨vs5824, m5824, off5824, cs5824, rfl, hp5824, hc5824, hR5824, hl5824, hm5824, hs5824⟩ := OSl.iaB O5637 he5823 (kd := .i64) (n := 1) rfl
    have hR5824 : _ = [(.bool e5822 : Value)] := hR5824
    subst hR5824
    refine spure (v := .pointer (some ⟨b3349, off5824, none⟩)) rfl (p_ia rs_22 rfl) (lo_t (lo_osl X5817 (j := 6) rfl O5637) (lo_t rfl rfl)) hp5824 rfl ?_
    refine sload (v := .bool e5822) rfl rfl (q_load wd_4 rfl) (St.ld X5817 (j := 6) rfl (rdE1 hc5824 (k := 0) rfl rfl)) (same_self 20 rfl) rfl ?_
    refine spure (v := .bool e5822) rfl (p_move rfl) (lo_t rfl rfl) rfl rfl ?_
    refine sjoinM (τ := Bool) (σ := Unit) (fun s5834 (_ : Unit) => [(5, .pointer (some ⟨b3345, 0, none⟩)), (7, .pointer (some ⟨b3351, 0, none⟩)), (8, .pointer (some ⟨b5810, 0, none⟩)), (30, .bool s5834)]) (fun s5834 (_ : Unit) hh => St φ lo hh ((some b5810, .cells [.int .i64 e5800.A, .int .i64 e5800.B, .int .i64 e5800.Per, .int .i64 e5800.Delay, .int .i64 (w64 (2 * s5636.1))] 111 .exact) :: (some b5803, .cells [.int .i64 e5800.A, .int .i64 e5800.B, .int .i64 e5800.Per, .int .i64 e5800.Delay] 65 .exact) :: (some l5313, bsy q5314) :: (none, .dead) :: (some b5309, .cells [.int .i64 p3335.Nodes, .slice a3336 n3336 c3336, .slice a3337 n3337 c3337] 25 .exact) :: (some b3351, .cells [.slice (some ⟨b3349, 0, none⟩) (p3335.Nodes).toNat (p3335.Nodes).toNat] 22 .exact) :: (some b3349, .cells vs5824 4 m5824) :: (some b3345, .cells [.slice a3340 n3340 c3340] 26 .exact) :: (some b3341, .cells [.int .i64 p3335.Nodes, .slice a3336 n3336 c3336, .slice a3337 n3337 c3337] 25 .exact) :: own)) 7 13 ?_ ?_
    · rintro s5834 _ t0 h5836 X5835
      refine spure (v := .bool s5834) rfl (p_move rfl) (lo_t rfl rfl) rfl rfl ?_
      refine sjoinM (τ := Bool) (σ := Unit) (fun s5843 (_ : Unit) => [(7, .pointer (some ⟨b3351, 0, none⟩)), (8, .pointer (some ⟨b5810, 0, none⟩)), (38, .bool s5843)]) (fun s5843 (_ : Unit) hh => St φ lo hh ((some b5810, .cells [.int .i64 e5800.A, .int .i64 e5800.B, .int .i64 e5800.Per, .int .i64 e5800.Delay, .int .i64 (w64 (2 * s5636.1))] 111 .exact) :: (some b5803, .cells [.int .i64 e5800.A, .int .i64 e5800.B, .int .i64 e5800.Per, .int .i64 e5800.Delay] 65 .exact) :: (some l5313, bsy q5314) :: (none, .dead) :: (some b5309, .cells [.int .i64 p3335.Nodes, .slice a3336 n3336 c3336, .slice a3337 n3337 c3337] 25 .exact) :: (some b3351, .cells [.slice (some ⟨b3349, 0, none⟩) (p3335.Nodes).toNat (p3335.Nodes).toNat] 22 .exact) :: (some b3349, .cells vs5824 4 m5824) :: (some b3345, .cells [.slice a3340 n3340 c3340] 26 .exact) :: (some b3341, .cells [.int .i64 p3335.Nodes, .slice a3336 n3336 c3336, .slice a3337 n3337 c3337] 25 .exact) :: own)) 7 21 ?_ ?_
      · rintro s5843 _ t0 h5845 X5844
        refine send ?_
        refine nseq ?_
        refine dcond rfl rfl (fun k5846 => ?_) (fun k5846 => ?_)
        · refine dseq ?_
          refine ddraw 16 16 0 (by kernel_rfl) ?_
          refine sload (v := .slice (some ⟨b3349, 0, none⟩) (p3335.Nodes).toNat (p3335.Nodes).toNat) rfl rfl (q_load wd_22 rfl) (St.ld X5844 (j := 5) rfl rfl) (same_self 20 rfl) rfl ?_
          refine sload (v := .agg #[.int .i64 e5800.A, .int .i64 e5800.B, .int .i64 e5800.Per, .int .i64 e5800.Delay, .int .i64 (w64 (2 * s5636.1))]) rfl rfl (q_load wd_111 rfl) (St.ld X5844 (j := 0) rfl rfl) (same_self 20 rfl) rfl ?_
          refine scall (en := fun d => (.int .i64 d)) rfl rfl ca_94 rfl rfl (f94_ok X5844 ((TopoEnd.mk e5800 (w64 (2 * s5636.1))))) rfl (fun e5847 => ?_)
          refine Sim.bindM fun e5851 he5852 => ?_
          obtain ⟨off5853, cs5853, hp5853, hc5853, hR5853, hl5853, hm5853, hs5853⟩ := OSl.iaC O5637 he5852 (kd := .i64) (n := 1) rfl
          have hR5853 : _ = [(.bool e5851 : Value)] := hR5853
          subst hR5853
          refine spure (v := .pointer (some ⟨b3349, off5853, none⟩)) rfl (p_ia rs_22 rfl) (lo_t (lo_osl X5844 (j := 6) rfl O5637) (lo_t rfl rfl)) hp5853 rfl ?_
          have O5856 := hs5853 [.bool true] (true) rfl
          refine sstore rfl rfl ts_4 rfl rfl (j := 6) rfl hm5853 rfl rfl (ble_iff.2 hl5853) rfl X5844 (fun h5854 X5855 => ?_)
          refine send ?_
          refine nseq (dexit (eblock rfl ?_))
          refine ernd X5855 (j := 2) rfl (fun h5857 X5858 => ?_)
          refine lpure (v := .bool true) rfl (p_not rfl) rfl rfl ?_
          refine lpure (v := .bool true) rfl (p_move rfl) rfl rfl ?_
          refine lskip rfl rfl ?_
          refine lskip rfl rfl ?_
          refine lskip rfl rfl ?_
          refine lskip rfl rfl ?_
          refine lskip rfl rfl ?_
          refine lskip rfl rfl ?_
          refine lskip rfl rfl ?_
          refine lskip rfl rfl ?_
          refine lpure (v := .bool true) rfl (p_pick rfl) rfl rfl ?_
          refine lend (nseq (dcondT rfl rfl (dret (rblock (rseq (rloop (rblock ?_)))))))
          refine kin_r res_0 ?_
          refine rend_d X5858 (j := 2) rfl (.inr ⟨_, rfl, rfl⟩) (fun h5859 X5860 => ?_)
          refine eblock rfl (eseq (xblock ?_))
          exact kbackM ih5305 (s5636.2.set (e5847).toNat true) ((.cells (setAt vs5824 off5853 [.bool true]) 4 m5824)) (sub_cons rfl (sub_cons rfl (sub_cons rfl sub_nil))) ⟨(St.pick X5860 (.skip _ (.skip _ (.skip _ (.skip _ (.skip _ (.keep _ (.keep _ (.keep _ (.keep _ (.refl _))))))))))), O5856⟩
        refine dskip (nblock ?_)
        refine nrnd X5844 (j := 2) rfl (fun h5861 X5862 => ?_)
        refine lpure (v := .bool false) rfl (p_not rfl) rfl rfl ?_
        refine lpure (v := .bool false) rfl (p_move rfl) rfl rfl ?_
        refine lpure (v := .func (.yield l5313) #[] #[]) rfl (p_move rfl) rfl rfl ?_
        refine lread (v := .agg #[.int .i64 e5800.A, .int .i64 e5800.B, .int .i64 e5800.Per, .int .i64 e5800.Delay]) rfl (q_load wd_65 rfl) (St.ld X5862 (j := 1) rfl rfl) rfl ?_
        refine lpure (v := .int .i64 s5636.1) rfl (p_move rfl) rfl rfl ?_
        refine lpure (v := .int .i64 (w64 (2 * s5636.1))) rfl (p_mul rfl) rfl rfl ?_
        refine lpure (v := .int .i64 (w64 ((w64 (2 * s5636.1)) + 1))) rfl (p_add rfl) rfl rfl ?_
        refine lpure (v := .agg #[.int .i64 e5800.A, .int .i64 e5800.B, .int .i64 e5800.Per, .int .i64 e5800.Delay, .int .i64 (w64 ((w64 (2 * s5636.1)) + 1))]) rfl (p_build rfl) (build_st' tz_111 pl_111 rfl) rfl ?_
        refine lround rfl rfl rfl rfl rfl rfl X5862 (j := 2) rfl Q5316 rfl rfl rfl rfl rfl (fun t5863 => ?_)
        refine dreg ?_
        refine lalloc rfl tz_111 rfl rfl rfl X5862 (fun b5864 h5866 X5867 => ?_)
        refine lstore rfl ts_111 rfl rfl (j := 0) rfl rfl rfl rfl rfl rfl X5867 (fun h5868 X5869 => ?_)
        refine lend ?_
        refine basg X5869 (j := 3) rfl (fun h5870 X5871 => ?_)
        refine dblock (dseq ?_)
        refine ddraw 0 0 0 (by kernel_rfl) ?_
        refine sload (v := .slice (some ⟨b3349, 0, none⟩) (p3335.Nodes).toNat (p3335.Nodes).toNat) rfl rfl (q_load wd_22 rfl) (St.ld X5871 (j := 6) rfl rfl) (same_self 20 rfl) rfl ?_
        refine sload (v := .agg #[.int .i64 e5800.A, .int .i64 e5800.B, .int .i64 e5800.Per, .int .i64 e5800.Delay, .int .i64 (w64 ((w64 (2 * s5636.1)) + 1))]) rfl rfl (q_load wd_111 rfl) (St.ld X5871 (j := 0) rfl rfl) (same_self 20 rfl) rfl ?_
        refine scall (en := fun d => (.int .i64 d)) rfl rfl ca_92 rfl rfl (f92_ok X5871 ((TopoEnd.mk e5800 (w64 ((w64 (2 * s5636.1)) + 1))))) rfl (fun e5872 => ?_)
        refine Sim.bindM fun e5876 he5877 => ?_
        obtain ⟨off5878, cs5878, hp5878, hc5878, hR5878, hl5878, hm5878, hs5878⟩ := OSl.iaC O5637 he5877 (kd := .i64) (n := 1) rfl
        have hR5878 : _ = [(.bool e5876 : Value)] := hR5878
        subst hR5878
        refine spure (v := .pointer (some ⟨b3349, off5878, none⟩)) rfl (p_ia rs_22 rfl) (lo_t (lo_osl X5871 (j := 7) rfl O5637) (lo_t rfl rfl)) hp5878 rfl ?_
        refine sload (v := .bool e5876) rfl rfl (q_load wd_4 rfl) (St.ld X5871 (j := 7) rfl (rdE1 hc5878 (k := 0) rfl rfl)) (same_self 20 rfl) rfl ?_
        refine spure (v := .bool e5876) rfl (p_move rfl) (lo_t rfl rfl) rfl rfl ?_
        refine sjoinM (τ := Bool) (σ := Unit) (fun s5888 (_ : Unit) => [(5, .pointer (some ⟨b3345, 0, none⟩)), (7, .pointer (some ⟨b3351, 0, none⟩)), (8, .pointer (some ⟨b5864, 0, none⟩)), (30, .bool s5888)]) (fun s5888 (_ : Unit) hh => St φ lo hh ((some b5864, .cells [.int .i64 e5800.A, .int .i64 e5800.B, .int .i64 e5800.Per, .int .i64 e5800.Delay, .int .i64 (w64 ((w64 (2 * s5636.1)) + 1))] 111 .exact) :: (some b5810, .cells [.int .i64 e5800.A, .int .i64 e5800.B, .int .i64 e5800.Per, .int .i64 e5800.Delay, .int .i64 (w64 (2 * s5636.1))] 111 .exact) :: (some b5803, .cells [.int .i64 e5800.A, .int .i64 e5800.B, .int .i64 e5800.Per, .int .i64 e5800.Delay] 65 .exact) :: (some l5313, bsy q5314) :: (none, .dead) :: (some b5309, .cells [.int .i64 p3335.Nodes, .slice a3336 n3336 c3336, .slice a3337 n3337 c3337] 25 .exact) :: (some b3351, .cells [.slice (some ⟨b3349, 0, none⟩) (p3335.Nodes).toNat (p3335.Nodes).toNat] 22 .exact) :: (some b3349, .cells vs5824 4 m5824) :: (some b3345, .cells [.slice a3340 n3340 c3340] 26 .exact) :: (some b3341, .cells [.int .i64 p3335.Nodes, .slice a3336 n3336 c3336, .slice a3337 n3337 c3337] 25 .exact) :: own)) 7 13 ?_ ?_
        · rintro s5888 _ t0 h5890 X5889
          refine spure (v := .bool s5888) rfl (p_move rfl) (lo_t rfl rfl) rfl rfl ?_
          refine sjoinM (τ := Bool) (σ := Unit) (fun s5897 (_ : Unit) => [(7, .pointer (some ⟨b3351, 0, none⟩)), (8, .pointer (some ⟨b5864, 0, none⟩)), (38, .bool s5897)]) (fun s5897 (_ : Unit) hh => St φ lo hh ((some b5864, .cells [.int .i64 e5800.A, .int .i64 e5800.B, .int .i64 e5800.Per, .int .i64 e5800.Delay, .int .i64 (w64 ((w64 (2 * s5636.1)) + 1))] 111 .exact) :: (some b5810, .cells [.int .i64 e5800.A, .int .i64 e5800.B, .int .i64 e5800.Per, .int .i64 e5800.Delay, .int .i64 (w64 (2 * s5636.1))] 111 .exact) :: (some b5803, .cells [.int .i64 e5800.A, .int .i64 e5800.B, .int .i64 e5800.Per, .int .i64 e5800.Delay] 65 .exact) :: (some l5313, bsy q5314) :: (none, .dead) :: (some b5309, .cells [.int .i64 p3335.Nodes, .slice a3336 n3336 c3336, .slice a3337 n3337 c3337] 25 .exact) :: (some b3351, .cells [.slice (some ⟨b3349, 0, none⟩) (p3335.Nodes).toNat (p3335.Nodes).toNat] 22 .exact) :: (some b3349, .cells vs5824 4 m5824) :: (some b3345, .cells [.slice a3340 n3340 c3340] 26 .exact) :: (some b3341, .cells [.int .i64 p3335.Nodes, .slice a3336 n3336 c3336, .slice a3337 n3337 c3337] 25 .exact) :: own)) 7 21 ?_ ?_
          · rintro s5897 _ t0 h5899 X5898
            refine send ?_
            refine nseq ?_
            refine dcond rfl rfl (fun k5900 => ?_) (fun k5900 => ?_)
            · refine dseq ?_
              refine ddraw 16 16 0 (by kernel_rfl) ?_
              refine sload (v := .slice (some ⟨b3349, 0, none⟩) (p3335.Nodes).toNat (p3335.Nodes).toNat) rfl rfl (q_load wd_22 rfl) (St.ld X5898 (j := 6) rfl rfl) (same_self 20 rfl) rfl ?_
              refine sload (v := .agg #[.int .i64 e5800.A, .int .i64 e5800.B, .int .i64 e5800.Per, .int .i64 e5800.Delay, .int .i64 (w64 ((w64 (2 * s5636.1)) + 1))]) rfl rfl (q_load wd_111 rfl) (St.ld X5898 (j := 0) rfl rfl) (same_self 20 rfl) rfl ?_
              refine scall (en := fun d => (.int .i64 d)) rfl rfl ca_94 rfl rfl (f94_ok X5898 ((TopoEnd.mk e5800 (w64 ((w64 (2 * s5636.1)) + 1))))) rfl (fun e5901 => ?_)
              refine Sim.bindM fun e5905 he5906 => ?_
              obtain ⟨off5907, cs5907, hp5907, hc5907, hR5907, hl5907, hm5907, hs5907⟩ := OSl.iaC O5637 he5906 (kd := .i64) (n := 1) rfl
              have hR5907 : _ = [(.bool e5905 : Value)] := hR5907
              subst hR5907
              refine spure (v := .pointer (some ⟨b3349, off5907, none⟩)) rfl (p_ia rs_22 rfl) (lo_t (lo_osl X5898 (j := 7) rfl O5637) (lo_t rfl rfl)) hp5907 rfl ?_
              have O5910 := hs5907 [.bool true] (true) rfl
              refine sstore rfl rfl ts_4 rfl rfl (j := 7) rfl hm5907 rfl rfl (ble_iff.2 hl5907) rfl X5898 (fun h5908 X5909 => ?_)
              refine send ?_
              refine nseq (dexit (eblock rfl ?_))
              refine ernd X5909 (j := 3) rfl (fun h5911 X5912 => ?_)
              refine lpure (v := .bool true) rfl (p_not rfl) rfl rfl ?_
              refine lpure (v := .bool true) rfl (p_pick rfl) rfl rfl ?_
              refine lend (nseq (dcondT rfl rfl (dret (rblock (rseq (rloop (rblock ?_)))))))
              refine kin_r res_0 ?_
              refine rend_d X5912 (j := 3) rfl (.inr ⟨_, rfl, rfl⟩) (fun h5913 X5914 => ?_)
              refine eblock rfl (eseq (xblock ?_))
              exact kbackM ih5305 (s5636.2.set (e5901).toNat true) ((.cells (setAt vs5824 off5907 [.bool true]) 4 m5824)) (sub_cons rfl (sub_cons rfl (sub_cons rfl sub_nil))) ⟨(St.pick X5914 (.skip _ (.skip _ (.skip _ (.skip _ (.skip _ (.skip _ (.keep _ (.keep _ (.keep _ (.keep _ (.refl _)))))))))))), O5910⟩
            refine dskip (nblock ?_)
            refine nrnd X5898 (j := 3) rfl (fun h5915 X5916 => ?_)
            refine lpure (v := .bool false) rfl (p_not rfl) rfl rfl ?_
            refine lpure (v := .bool false) rfl (p_pick rfl) rfl rfl ?_
            refine lend (nseq (dcondF rfl rfl (dskip (nblock (nseq (dreg ?_))))))
            refine lpure (v := .int .i64 (w64 (s5636.1 + 1))) rfl (p_add rfl) rfl rfl ?_
            refine lpure (v := .int .i64 (w64 (s5636.1 + 1))) rfl (p_move rfl) rfl rfl ?_
            refine lend ?_
            exact kbackM ih5795 ((w64 (s5636.1 + 1)), s5636.2) (.cells vs5824 4 m5824) (sub_cons rfl (sub_cons rfl (sub_cons rfl (sub_cons rfl sub_nil)))) ⟨(St.pick X5916 (.skip _ (.skip _ (.skip _ (.keep _ (.none _ (.skip _ (.keep _ (.keep _ (.keep _ (.keep _ (.keep _ (.refl _))))))))))))), O5637⟩
          intro j5917 J5918
          refine sif (j := 31) (show _ = Value.bool s5888 from rfl) (fun k5919 => ?_) (fun k5919 => ?_)
          · refine sload (v := .slice a3340 n3340 c3340) rfl rfl (q_load wd_26 rfl) (St.ld X5889 (j := 8) rfl rfl) (same_self 20 rfl) rfl ?_
            refine spure (v := .pointer (some ⟨b5864, 4, none⟩)) rfl (p_fa fo_111_1 rfl) (lo_t (lo_own X5889 (j := 0) (o := 0) (s := none) (f := 0) rfl) rfl) rfl rfl ?_
            refine sload (v := .int .i64 (w64 ((w64 (2 * s5636.1)) + 1))) rfl rfl (q_load wd_3 rfl) (St.ld X5889 (j := 0) rfl rfl) (same_self 20 rfl) rfl ?_
            refine spure (v := .int .i64 (w64 (Int.tdiv (w64 ((w64 (2 * s5636.1)) + 1)) 2))) rfl (p_quo rfl) (lo_t rfl (lo_c rfl)) rfl rfl ?_
            refine scall (en := fun d => (.bool d)) rfl rfl ca_54 rfl rfl (f54_ok X5889 p3339 ((w64 (Int.tdiv (w64 ((w64 (2 * s5636.1)) + 1)) 2))) H3340) rfl (fun e5920 => ?_)
            refine spure (v := .bool (!e5920)) rfl (p_not rfl) (lo_t rfl rfl) rfl rfl ?_
            refine spure (v := .bool (!e5920)) rfl (p_pick rfl) (lo_t rfl (lo_t rfl (lo_c rfl))) rfl rfl ?_
            exact sjmpM J5918 (!e5920) () (sub_cons rfl (sub_cons rfl (sub_cons rfl sub_nil))) (St.pick X5889 (.keep _ (.keep _ (.keep _ (.keep _ (.none _ (.skip _ (.keep _ (.keep _ (.keep _ (.keep _ (.keep _ (.refl _)))))))))))))
          refine sskip rfl rfl ?_
          refine sskip rfl rfl ?_
          refine sskip rfl rfl ?_
          refine sskip rfl rfl ?_
          refine sskip rfl rfl ?_
          refine sskip rfl rfl ?_
          refine spure (v := .bool false) rfl (p_pick rfl) (lo_t rfl (lo_t rfl (lo_c rfl))) rfl rfl ?_
          exact sjmpM J5918 false () (sub_cons rfl (sub_cons rfl (sub_cons rfl sub_nil))) (St.pick X5889 (.keep _ (.keep _ (.keep _ (.keep _ (.none _ (.skip _ (.keep _ (.keep _ (.keep _ (.keep _ (.keep _ (.refl _)))))))))))))
        intro j5924 J5925
        refine sif (j := 23) (show _ = Value.bool e5876 from rfl) (fun k5926 => ?_) (fun k5926 => ?_)
        · refine sload (v := .slice (some ⟨b3349, 0, none⟩) (p3335.Nodes).toNat (p3335.Nodes).toNat) rfl rfl (q_load wd_22 rfl) (St.ld X5871 (j := 6) rfl rfl) (same_self 20 rfl) rfl ?_
          refine sload (v := .agg #[.int .i64 e5800.A, .int .i64 e5800.B, .int .i64 e5800.Per, .int .i64 e5800.Delay, .int .i64 (w64 ((w64 (2 * s5636.1)) + 1))]) rfl rfl (q_load wd_111 rfl) (St.ld X5871 (j := 0) rfl rfl) (same_self 20 rfl) rfl ?_
          refine scall (en := fun d => (.int .i64 d)) rfl rfl ca_94 rfl rfl (f94_ok X5871 ((TopoEnd.mk e5800 (w64 ((w64 (2 * s5636.1)) + 1))))) rfl (fun e5927 => ?_)
          refine Sim.bindM fun e5931 he5932 => ?_
          obtain ⟨off5933, cs5933, hp5933, hc5933, hR5933, hl5933, hm5933, hs5933⟩ := OSl.iaC O5637 he5932 (kd := .i64) (n := 1) rfl
          have hR5933 : _ = [(.bool e5931 : Value)] := hR5933
          subst hR5933
          refine spure (v := .pointer (some ⟨b3349, off5933, none⟩)) rfl (p_ia rs_22 rfl) (lo_t (lo_osl X5871 (j := 7) rfl O5637) (lo_t rfl rfl)) hp5933 rfl ?_
          refine sload (v := .bool e5931) rfl rfl (q_load wd_4 rfl) (St.ld X5871 (j := 7) rfl (rdE1 hc5933 (k := 0) rfl rfl)) (same_self 20 rfl) rfl ?_
          refine spure (v := .bool (!e5931)) rfl (p_not rfl) (lo_t rfl rfl) rfl rfl ?_
          refine spure (v := .bool (!e5931)) rfl (p_pick rfl) (lo_t rfl (lo_t rfl (lo_c rfl))) rfl rfl ?_
          exact sjmpM J5925 (!e5931) () (sub_cons rfl (sub_cons rfl (sub_cons rfl (sub_cons rfl sub_nil)))) (St.pick X5871 (.keep _ (.keep _ (.keep _ (.keep _ (.none _ (.skip _ (.keep _ (.keep _ (.keep _ (.keep _ (.keep _ (.refl _)))))))))))))
        refine sskip rfl rfl ?_
        refine sskip rfl rfl ?_
        refine sskip rfl rfl ?_
        refine sskip rfl rfl ?_
        refine sskip rfl rfl ?_
        refine sskip rfl rfl ?_
        refine spure (v := .bool false) rfl (p_pick rfl) (lo_t rfl (lo_t rfl (lo_c rfl))) rfl rfl ?_
        exact sjmpM J5925 false () (sub_cons rfl (sub_cons rfl (sub_cons rfl (sub_cons rfl sub_nil)))) (St.pick X5871 (.keep _ (.keep _ (.keep _ (.keep _ (.none _ (.skip _ (.keep _ (.keep _ (.keep _ (.keep _ (.keep _ (.refl _)))))))))))))
      intro j5934 J5935
      refine sif (j := 31) (show _ = Value.bool s5834 from rfl) (fun k5936 => ?_) (fun k5936 => ?_)
      · refine sload (v := .slice a3340 n3340 c3340) rfl rfl (q_load wd_26 rfl) (St.ld X5835 (j := 7) rfl rfl) (same_self 20 rfl) rfl ?_
        refine spure (v := .pointer (some ⟨b5810, 4, none⟩)) rfl (p_fa fo_111_1 rfl) (lo_t (lo_own X5835 (j := 0) (o := 0) (s := none) (f := 0) rfl) rfl) rfl rfl ?_
        refine sload (v := .int .i64 (w64 (2 * s5636.1))) rfl rfl (q_load wd_3 rfl) (St.ld X5835 (j := 0) rfl rfl) (same_self 20 rfl) rfl ?_
        refine spure (v := .int .i64 (w64 (Int.tdiv (w64 (2 * s5636.1)) 2))) rfl (p_quo rfl) (lo_t rfl (lo_c rfl)) rfl rfl ?_
        refine scall (en := fun d => (.bool d)) rfl rfl ca_54 rfl rfl (f54_ok X5835 p3339 ((w64 (Int.tdiv (w64 (2 * s5636.1)) 2))) H3340) rfl (fun e5937 => ?_)
        refine spure (v := .bool (!e5937)) rfl (p_not rfl) (lo_t rfl rfl) rfl rfl ?_
        refine spure (v := .bool (!e5937)) rfl (p_pick rfl) (lo_t rfl (lo_t rfl (lo_c rfl))) rfl rfl ?_
        exact sjmpM J5935 (!e5937) () (sub_cons rfl (sub_cons rfl (sub_cons rfl sub_nil))) (St.pick X5835 (.keep _ (.keep _ (.keep _ (.none _ (.skip _ (.keep _ (.keep _ (.keep _ (.keep _ (.keep _ (.refl _))))))))))))
      refine sskip rfl rfl ?_
      refine sskip rfl rfl ?_
      refine sskip rfl rfl ?_
      refine sskip rfl rfl ?_
      refine sskip rfl rfl ?_
      refine sskip rfl rfl ?_
      refine spure (v := .bool false) rfl (p_pick rfl) (lo_t rfl (lo_t rfl (lo_c rfl))) rfl rfl ?_
      exact sjmpM J5935 false () (sub_cons rfl (sub_cons rfl (sub_cons rfl sub_nil))) (St.pick X5835 (.keep _ (.keep _ (.keep _ (.none _ (.skip _ (.keep _ (.keep _ (.keep _ (.keep _ (.keep _ (.refl _))))))))))))
    intro j5941 J5942
    refine sif (j := 23) (show _ = Value.bool e5822 from rfl) (fun k5943 => ?_) (fun k5943 => ?_)
    · refine sload (v := .slice (some ⟨b3349, 0, none⟩) (p3335.Nodes).toNat (p3335.Nodes).toNat) rfl rfl (q_load wd_22 rfl) (St.ld X5817 (j := 5) rfl rfl) (same_self 20 rfl) rfl ?_
      refine sload (v := .agg #[.int .i64 e5800.A, .int .i64 e5800.B, .int .i64 e5800.Per, .int .i64 e5800.Delay, .int .i64 (w64 (2 * s5636.1))]) rfl rfl (q_load wd_111 rfl) (St.ld X5817 (j := 0) rfl rfl) (same_self 20 rfl) rfl ?_
      refine scall (en := fun d => (.int .i64 d)) rfl rfl ca_94 rfl rfl (f94_ok X5817 ((TopoEnd.mk e5800 (w64 (2 * s5636.1))))) rfl (fun e5944 => ?_)
      refine Sim.bindM fun e5948 he5949 => ?_
      obtain ⟨off5950, cs5950, hp5950, hc5950, hR5950, hl5950, hm5950, hs5950⟩ := OSl.iaC O5637 he5949 (kd := .i64) (n := 1) rfl
      have hR5950 : _ = [(.bool e5948 : Value)] := hR5950
      subst hR5950
      refine spure (v := .pointer (some ⟨b3349, off5950, none⟩)) rfl (p_ia rs_22 rfl) (lo_t (lo_osl X5817 (j := 6) rfl O5637) (lo_t rfl rfl)) hp5950 rfl ?_
      refine sload (v := .bool e5948) rfl rfl (q_load wd_4 rfl) (St.ld X5817 (j := 6) rfl (rdE1 hc5950 (k := 0) rfl rfl)) (same_self 20 rfl) rfl ?_
      refine spure (v := .bool (!e5948)) rfl (p_not rfl) (lo_t rfl rfl) rfl rfl ?_
      refine spure (v := .bool (!e5948)) rfl (p_pick rfl) (lo_t rfl (lo_t rfl (lo_c rfl))) rfl rfl ?_
      exact sjmpM J5942 (!e5948) () (sub_cons rfl (sub_cons rfl (sub_cons rfl (sub_cons rfl sub_nil)))) (St.pick X5817 (.keep _ (.keep _ (.keep _ (.none _ (.skip _ (.keep _ (.keep _ (.keep _ (.keep _ (.keep _ (.refl _))))))))))))
    refine sskip rfl rfl ?_
    refine sskip rfl rfl ?_
    refine sskip rfl rfl ?_
    refine sskip rfl rfl ?_
    refine sskip rfl rfl ?_
    refine sskip rfl rfl ?_
    refine spure (v := .bool false) rfl (p_pick rfl) (lo_t rfl (lo_t rfl (lo_c rfl))) rfl rfl ?_
    exact sjmpM J5942 false () (sub_cons rfl (sub_cons rfl (sub_cons rfl (sub_cons rfl sub_nil)))) (St.pick X5817 (.keep _ (.keep _ (.keep _ (.none _ (.skip _ (.keep _ (.keep _ (.keep _ (.keep _ (.keep _ (.refl _))))))))))))
  refine dexit (eseq (eloop (xblock ?_)))
  refine kin_n res_0 ?_
  refine rend_n X5797 (j := 0) rfl (fun h5951 X5952 => ?_)
  refine nblock (nseq (dexit (eblock rfl (eloop (xblock (nseq (dseq (dreg ?_))))))))
  refine lread (v := .slice (some ⟨b3349, 0, none⟩) (p3335.Nodes).toNat (p3335.Nodes).toNat) rfl (q_load wd_22 rfl) (St.ld X5952 (j := 3) rfl rfl) rfl ?_
  refine lpure (v := .slice (some ⟨b3349, 0, none⟩) (p3335.Nodes).toNat (p3335.Nodes).toNat) rfl (p_assign rfl) rfl rfl ?_
  refine lend (nseq (dret (rscope ?_)))
  exact kopen_r (res_1 resT) ⟨φ, ((some ⟨b3349, 0, none⟩)), ((p3335.Nodes).toNat), ((p3335.Nodes).toNat), (some b3349), blk5637, (Fz.le_refl _), St.pick (St.front X5952 (j := 4) rfl) (.keep _ (.skip _ (.skip _ (.skip _ (.skip _ (.skip _ (.skip _ (.refl _)))))))), rfl, O5637⟩
/-! slices.Index[[]bool,bool] -/
theorem f93_ok {n : Nat} {φ : Fz} {lo : Nat} {h : Heap} {own : OwnL}  {a5968 : Option Addr} {n5968 c5968 : Nat} (X : St φ lo h (own)) (p5967 : (List Bool)) (p5969 : Bool) (H5968 : RSl eBool φ (.slice a5968 n5968 c5968) p5967) : Sim ((recN Tryz.prog LL cutF (n + 1)).call 93 #[(.slice a5968 n5968 c5968), (.bool p5969)] h) (m_slices_Index_bool_bool p5967 p5969) (fun (d : Int) p => p = (.int .i64 d, h)) := by
  refine fcut Tryz.func93 rfl rfl rfl rfl X ?_
  intro h0 X0
  refine dseq (dreg ?_)
  refine lpure (v := .int .i64 0) rfl (p_assign rfl) rfl rfl ?_
  refine lend (nseq (dseq (dseq (dreg ?_))))
  refine lpure (v := .slice a5968 n5968 c5968) rfl (p_move rfl) rfl rfl ?_
  refine lpure (v := .int .i64 (p5967.length : Int)) rfl (p_len rfl rfl rfl un_22 rfl) (RSl.lenC H5968) rfl ?_
  refine lpure (v := .int .i64 0) rfl (p_move rfl) rfl rfl ?_
  refine lend (nseq (dblock ?_))
  refine dloopM (τ := Int) (σ := Unit) (fun s5986 (_ : Unit) => [(0, .slice a5968 n5968 c5968), (1, .bool p5969), (7, .int .i64 (p5967.length : Int)), (8, .int .i64 s5986)]) (fun s5986 (_ : Unit) hh => St φ h.n hh ([])) 0 () (sub_cons rfl (sub_cons rfl (sub_cons rfl (sub_cons rfl sub_nil)))) X0 ?_
  rintro n5996 ih5995 s5986 _ t0 h5998 X5997
  refine dseq (dreg ?_)
  refine lpure (v := .bool (decide (s5986 < (p5967.length : Int)))) rfl (p_lt rfl) rfl rfl ?_
  refine lend (nseq (dseq ?_))
  refine dcond rfl rfl (fun k5999 => ?_) (fun k5999 => ?_)
  · refine dskip (nseq (dseq (dblock (dseq (dreg ?_)))))
    refine lpure (v := .int .i64 s5986) rfl (p_move rfl) rfl rfl ?_
    refine lpure (v := .int .i64 s5986) rfl (p_assign rfl) rfl rfl ?_
    refine lend (nseq (dseq (dreg ?_)))
    refine lpure (v := .bool p5969) rfl (p_move rfl) rfl rfl ?_
    refine lpure (v := .slice a5968 n5968 c5968) rfl (p_move rfl) rfl rfl ?_
    refine lpure (v := .int .i64 s5986) rfl (p_move rfl) rfl rfl ?_
    refine Sim.bindM fun e6000 he6001 => ?_
    obtain ⟨p6002, cs6002, hp6002, hF6002, hR6002⟩ := RSl.ia H5968 he6001 (kd := .i64) (n := 1) rfl
    have hR6002 : _ = [(.bool e6000 : Value)] := hR6002
    subst hR6002
    refine lpure (v := p6002) rfl (p_ia rs_22 rfl) hp6002 rfl ?_
    refine lread (v := .bool e6000) rfl (q_load wd_4 rfl) (FP.ld X5997 hF6002) rfl ?_
    refine lpure (v := .bool (p5969 == e6000)) rfl (p_bin rfl) (bin_eqB un_4) rfl ?_
    refine lend (nseq ?_)
    refine dcond rfl rfl (fun k6003 => ?_) (fun k6003 => ?_)
    · refine dseq (dreg ?_)
      refine lpure (v := .int .i64 s5986) rfl (p_move rfl) rfl rfl ?_
      refine lpure (v := .int .i64 s5986) rfl (p_assign rfl) rfl rfl ?_
      refine lend (nseq (dret (rblock (rseq (rloop (rblock (rseq ?_)))))))
      exact kcut_r (res_1 resT) X5997 rfl rfl
    refine dskip (nblock (nseq (dreg ?_)))
    refine lpure (v := .int .i64 (w64 (s5986 + 1))) rfl (p_add rfl) rfl rfl ?_
    refine lpure (v := .int .i64 (w64 (s5986 + 1))) rfl (p_move rfl) rfl rfl ?_
    refine lend ?_
    exact kbackM ih5995 (w64 (s5986 + 1)) () (sub_cons rfl (sub_cons rfl (sub_cons rfl (sub_cons rfl sub_nil)))) X5997
  refine dexit (eseq (eloop (xblock (nseq (dseq (dreg ?_))))))
  refine lpure (v := .int .i64 (-1)) rfl (p_assign rfl) rfl rfl ?_
  refine lend (nseq (dret ?_))
  exact kcut_r (res_1 resT) X5997 rfl rfl
/-! slices.Contains[[]bool,bool] -/
theorem f70_ok {n : Nat} {φ : Fz} {lo : Nat} {h : Heap} {own : OwnL}  {a5965 : Option Addr} {n5965 c5965 : Nat} (X : St φ lo h (own)) (p5964 : (List Bool)) (p5966 : Bool) (H5965 : RSl eBool φ (.slice a5965 n5965 c5965) p5964) : Sim ((recN Tryz.prog LL cutF (n + 2)).call 70 #[(.slice a5965 n5965 c5965), (.bool p5966)] h) (m_slices_Contains_bool_bool p5964 p5966) (fun (d : Bool) p => p = (.bool d, h)) := by
  refine fcut Tryz.func70 rfl rfl rfl rfl X ?_
  intro h0 X0
  refine dseq (dreg ?_)
  refine lpure (v := .bool false) rfl (p_assign rfl) rfl rfl ?_
  refine lend (nseq (dseq (dreg ?_)))
  refine lpure (v := .slice a5965 n5965 c5965) rfl (p_move rfl) rfl rfl ?_
  refine lpure (v := .bool p5966) rfl (p_move rfl) rfl rfl ?_
  refine lcall rfl rfl ca_93 rfl rfl (f93_ok X0 p5964 p5966 H5965) rfl (fun e6004 v6005 h6006 hq6007 => ?_)
  cases hq6007
  refine lpure (v := .bool (decide (0 ≤ e6004))) rfl (p_ge rfl) rfl rfl ?_
  refine lpure (v := .bool (decide (0 ≤ e6004))) rfl (p_assign rfl) rfl rfl ?_
  refine lend (nseq (dret ?_))
  exact kcut_r (res_1 resT) X0 rfl rfl
/-! isochron/topo.Check -/
theorem f39_ok {n : Nat} {φ : Fz} {lo : Nat} {h : Heap} {own : OwnL}  {a80 : Option Addr} {n80 c80 : Nat} {a81 : Option Addr} {n81 c81 : Nat} (X : St φ lo h (own)) (p79 : ApiTopo) (H80 : RSl eBool φ (.slice a80 n80 c80) p79.Station) (H81 : RSl eApiLink φ (.slice a81 n81 c81) p79.Links) : Sim ((recN Tryz.prog LL cutF (n + 6)).call 39 #[(.agg #[.int .i64 p79.Nodes, .slice a80 n80 c80, .slice a81 n81 c81])] h) (m_topo_Check p79) (fun (d : Int) p => p = (.int .i64 d, h)) := by
  refine fcut Tryz.func39 rfl rfl rfl rfl X ?_
  intro h0 X0
  refine dseq (dreg ?_)
  refine lbox rfl rfl rfl rfl rfl X0 (fun b82 h84 X85 => ?_)
  refine lpure (v := .int .i64 0) rfl (p_assign rfl) rfl rfl ?_
  refine lend (nseq (dseq (dseq (dreg ?_))))
  refine lpure (v := .pointer (some ⟨b82, 0, none⟩)) rfl (p_fa fo_25_0 rfl) rfl rfl ?_
  refine lread (v := .int .i64 p79.Nodes) rfl (q_load wd_3 rfl) (St.ld X85 (j := 0) rfl rfl) rfl ?_
  refine lpure (v := .bool (decide (p79.Nodes < 2))) rfl (p_lt rfl) rfl rfl ?_
  refine lpure (v := .bool (decide (p79.Nodes < 2))) rfl (p_move rfl) rfl rfl ?_
  refine lsh (τ := Bool) (σ := Unit) (fun s87 (_ : Unit) => [(1, .pointer (some ⟨b82, 0, none⟩)), (13, .bool s87)]) (fun s87 (_ : Unit) hh => St φ h.n hh ([(some b82, .cells [.int .i64 p79.Nodes, .slice a80 n80 c80, .slice a81 n81 c81] 25 .exact)])) 4 ?_ ?_
  · rintro s87 _ t0 h89 X88
    refine lpure (v := .bool s87) rfl (p_move rfl) rfl rfl ?_
    refine lsh (τ := Bool) (σ := Unit) (fun s91 (_ : Unit) => [(1, .pointer (some ⟨b82, 0, none⟩)), (21, .bool s91)]) (fun s91 (_ : Unit) hh => St φ h.n hh ([(some b82, .cells [.int .i64 p79.Nodes, .slice a80 n80 c80, .slice a81 n81 c81] 25 .exact)])) 7 ?_ ?_
    · rintro s91 _ t0 h93 X92
      refine lpure (v := .bool s91) rfl (p_move rfl) rfl rfl ?_
      refine lsh (τ := Bool) (σ := Unit) (fun s95 (_ : Unit) => [(1, .pointer (some ⟨b82, 0, none⟩)), (27, .bool s95)]) (fun s95 (_ : Unit) hh => St φ h.n hh ([(some b82, .cells [.int .i64 p79.Nodes, .slice a80 n80 c80, .slice a81 n81 c81] 25 .exact)])) 5 ?_ ?_
      · rintro s95 _ t0 h97 X96
        refine lend (nseq ?_)
        refine dcond rfl rfl (fun k98 => ?_) (fun k98 => ?_)
        · refine dseq (dreg ?_)
          refine lpure (v := .int .i64 260) rfl (p_assign rfl) rfl rfl ?_
          refine lend (nseq (dret (rseq ?_)))
          exact kcut_r (res_1 resT) X96 rfl rfl
        refine dskip (nseq (dseq (dseq (dreg ?_))))
        refine lpure (v := .pointer (some ⟨b82, 2, none⟩)) rfl (p_fa fo_25_2 rfl) rfl rfl ?_
        refine lread (v := .slice a81 n81 c81) rfl (q_load wd_23 rfl) (St.ld X96 (j := 0) rfl rfl) rfl ?_
        refine lpure (v := .int .i64 (p79.Links.length : Int)) rfl (p_len rfl rfl rfl un_23 rfl) (RSl.lenC H81) rfl ?_
        refine lpure (v := .int .i64 0) rfl (p_move rfl) rfl rfl ?_
        refine lend (nseq (dblock ?_))
        refine dloopM (τ := Int) (σ := Unit) (fun s6394 (_ : Unit) => [(1, .pointer (some ⟨b82, 0, none⟩)), (30, .int .i64 (p79.Links.length : Int)), (31, .int .i64 s6394)]) (fun s6394 (_ : Unit) hh => St φ h.n hh ([(some b82, .cells [.int .i64 p79.Nodes, .slice a80 n80 c80, .slice a81 n81 c81] 25 .exact)])) 0 () (sub_cons rfl (sub_cons rfl (sub_cons rfl sub_nil))) X96 ?_
        rintro n6615 ih6614 s6394 _ t0 h6617 X6616
        refine dseq (dreg ?_)
        refine lpure (v := .bool (decide (s6394 < (p79.Links.length : Int)))) rfl (p_lt rfl) rfl rfl ?_
        refine lend (nseq (dseq ?_))
        refine dcond rfl rfl (fun k6618 => ?_) (fun k6618 => ?_)
        · refine dskip (nseq (dseq (dblock (dseq (dreg ?_)))))
          refine lpure (v := .int .i64 s6394) rfl (p_move rfl) rfl rfl ?_
          refine lpure (v := .int .i64 s6394) rfl (p_assign rfl) rfl rfl ?_
          refine lend (nseq (dseq (dreg ?_)))
          refine lread (v := .agg #[.int .i64 p79.Nodes, .slice a80 n80 c80, .slice a81 n81 c81]) rfl (q_load wd_25 rfl) (St.ld X6616 (j := 0) rfl rfl) rfl ?_
          refine lpure (v := .int .i64 s6394) rfl (p_move rfl) rfl rfl ?_
          refine lcall rfl rfl ca_68 rfl rfl (f68_ok X6616 p79 s6394 H80 H81) rfl (fun e6619 v6620 h6621 hq6622 => ?_)
          cases hq6622
          refine lpure (v := .bool (!e6619)) rfl (p_not rfl) rfl rfl ?_
          refine lend (nseq ?_)
          refine dcond rfl rfl (fun k6623 => ?_) (fun k6623 => ?_)
          · refine dseq (dreg ?_)
            refine lpure (v := .int .i64 260) rfl (p_assign rfl) rfl rfl ?_
            refine lend (nseq (dret (rblock (rseq (rloop (rblock (rseq ?_)))))))
            exact kcut_r (res_1 resT) X6616 rfl rfl
          refine dskip (nblock (nseq (dreg ?_)))
          refine lpure (v := .int .i64 (w64 (s6394 + 1))) rfl (p_add rfl) rfl rfl ?_
          refine lpure (v := .int .i64 (w64 (s6394 + 1))) rfl (p_move rfl) rfl rfl ?_
          refine lend ?_
          exact kbackM ih6614 (w64 (s6394 + 1)) () (sub_cons rfl (sub_cons rfl (sub_cons rfl sub_nil))) X6616
        refine dexit (eseq (eloop (xblock (nseq (dseq (dseq (dreg ?_)))))))
        refine lpure (v := .pointer (some ⟨b82, 1, none⟩)) rfl (p_fa fo_25_1 rfl) rfl rfl ?_
        refine lread (v := .slice a80 n80 c80) rfl (q_load wd_22 rfl) (St.ld X6616 (j := 0) rfl rfl) rfl ?_
        refine lpure (v := .int .i64 (p79.Station.length : Int)) rfl (p_len rfl rfl rfl un_22 rfl) (RSl.lenC H80) rfl ?_
        refine lpure (v := .int .i64 0) rfl (p_move rfl) rfl rfl ?_
        refine lend (nseq (dblock ?_))
        refine dloopM (τ := Int) (σ := Unit) (fun s6728 (_ : Unit) => [(1, .pointer (some ⟨b82, 0, none⟩)), (40, .slice a80 n80 c80), (41, .int .i64 (p79.Station.length : Int)), (42, .int .i64 s6728)]) (fun s6728 (_ : Unit) hh => St φ h.n hh ([(some b82, .cells [.int .i64 p79.Nodes, .slice a80 n80 c80, .slice a81 n81 c81] 25 .exact)])) 0 () (sub_cons rfl (sub_cons rfl (sub_cons rfl (sub_cons rfl sub_nil)))) X6616 ?_
        rintro n6782 ih6781 s6728 _ t0 h6784 X6783
        refine dseq (dreg ?_)
        refine lpure (v := .bool (decide (s6728 < (p79.Station.length : Int)))) rfl (p_lt rfl) rfl rfl ?_
        refine lend (nseq (dseq ?_))
        refine dcond rfl rfl (fun k6785 => ?_) (fun k6785 => ?_)
        · refine dskip (nseq (dseq (dblock (dseq (dreg ?_)))))
          refine lpure (v := .int .i64 s6728) rfl (p_move rfl) rfl rfl ?_
          refine Sim.bindM fun e6786 he6787 => ?_
          obtain ⟨p6788, cs6788, hp6788, hF6788, hR6788⟩ := RSl.ia H80 he6787 (kd := .i64) (n := 1) rfl
          have hR6788 : _ = [(.bool e6786 : Value)] := hR6788
          subst hR6788
          refine lpure (v := p6788) rfl (p_ia rs_22 rfl) hp6788 rfl ?_
          refine lread (v := .bool e6786) rfl (q_load wd_4 rfl) (FP.ld X6783 hF6788) rfl ?_
          refine lpure (v := .int .i64 s6728) rfl (p_assign rfl) rfl rfl ?_
          refine lpure (v := .bool e6786) rfl (p_assign rfl) rfl rfl ?_
          refine lend (nseq (dseq (dreg ?_)))
          refine lpure (v := .bool e6786) rfl (p_move rfl) rfl rfl ?_
          refine lpure (v := .bool e6786) rfl (p_move rfl) rfl rfl ?_
          refine ljoinM (τ := Bool) (σ := Unit) (fun s6800 (_ : Unit) => [(1, .pointer (some ⟨b82, 0, none⟩)), (40, .slice a80 n80 c80), (41, .int .i64 (p79.Station.length : Int)), (42, .int .i64 s6728), (59, .bool s6800)]) (fun s6800 (_ : Unit) hh => St φ h.n hh ([(some b82, .cells [.int .i64 p79.Nodes, .slice a80 n80 c80, .slice a81 n81 c81] 25 .exact)])) 11 ?_ ?_
          · rintro s6800 _ t0 h6802 X6801
            refine lend (nseq ?_)
            refine dcond rfl rfl (fun k6803 => ?_) (fun k6803 => ?_)
            · refine dseq (dreg ?_)
              refine lpure (v := .int .i64 260) rfl (p_assign rfl) rfl rfl ?_
              refine lend (nseq (dret (rblock (rseq (rloop (rblock (rseq ?_)))))))
              exact kcut_r (res_1 resT) X6801 rfl rfl
            refine dskip (nblock (nseq (dreg ?_)))
            refine lpure (v := .int .i64 (w64 (s6728 + 1))) rfl (p_add rfl) rfl rfl ?_
            refine lpure (v := .int .i64 (w64 (s6728 + 1))) rfl (p_move rfl) rfl rfl ?_
            refine lend ?_
            exact kbackM ih6781 (w64 (s6728 + 1)) () (sub_cons rfl (sub_cons rfl (sub_cons rfl (sub_cons rfl sub_nil)))) X6801
          intro j6804 J6805
          refine lif (i := 48) (show _ = Value.bool e6786 from rfl) (fun k6806 => ?_) (fun k6806 => ?_)
          · refine lread (v := .agg #[.int .i64 p79.Nodes, .slice a80 n80 c80, .slice a81 n81 c81]) rfl (q_load wd_25 rfl) (St.ld X6783 (j := 0) rfl rfl) rfl ?_
            refine lpure (v := .int .i64 s6728) rfl (p_move rfl) rfl rfl ?_
            refine lcall rfl rfl ca_69 rfl rfl (f69_ok X6783 p79 s6728 H80 H81) rfl (fun e6807 v6808 h6809 hq6810 => ?_)
            cases hq6810
            refine lpure (v := .bool (decide (e6807 < 1))) rfl (p_lt rfl) rfl rfl ?_
            refine lpure (v := .bool (decide (e6807 < 1))) rfl (p_move rfl) rfl rfl ?_
            refine lif (i := 53) (show _ = Value.bool (decide (e6807 < 1)) from rfl) (fun k6811 => ?_) (fun k6811 => ?_)
            · refine lskip rfl rfl ?_
              refine lskip rfl rfl ?_
              refine lskip rfl rfl ?_
              refine lskip rfl rfl ?_
              refine lpure (v := .bool true) rfl (p_pick rfl) rfl rfl ?_
              refine lpure (v := .bool true) rfl (p_pick rfl) rfl rfl ?_
              exact ljmpM J6805 true () (sub_cons rfl (sub_cons rfl (sub_cons rfl (sub_cons rfl (sub_cons rfl sub_nil))))) X6783
            refine lread (v := .agg #[.int .i64 p79.Nodes, .slice a80 n80 c80, .slice a81 n81 c81]) rfl (q_load wd_25 rfl) (St.ld X6783 (j := 0) rfl rfl) rfl ?_
            refine lpure (v := .int .i64 s6728) rfl (p_move rfl) rfl rfl ?_
            refine lcall rfl rfl ca_69 rfl rfl (f69_ok X6783 p79 s6728 H80 H81) rfl (fun e6812 v6813 h6814 hq6815 => ?_)
            cases hq6815
            refine lpure (v := .bool (decide (2 < e6812))) rfl (p_gt rfl) rfl rfl ?_
            refine lpure (v := .bool (decide (2 < e6812))) rfl (p_pick rfl) rfl rfl ?_
            refine lpure (v := .bool (decide (2 < e6812))) rfl (p_pick rfl) rfl rfl ?_
            exact ljmpM J6805 (decide (2 < e6812)) () (sub_cons rfl (sub_cons rfl (sub_cons rfl (sub_cons rfl (sub_cons rfl sub_nil))))) X6783
          refine lskip rfl rfl ?_
          refine lskip rfl rfl ?_
          refine lskip rfl rfl ?_
          refine lskip rfl rfl ?_
          refine lskip rfl rfl ?_
          refine lskip rfl rfl ?_
          refine lskip rfl rfl ?_
          refine lskip rfl rfl ?_
          refine lskip rfl rfl ?_
          refine lskip rfl rfl ?_
          refine lpure (v := .bool false) rfl (p_pick rfl) rfl rfl ?_
          exact ljmpM J6805 false () (sub_cons rfl (sub_cons rfl (sub_cons rfl (sub_cons rfl (sub_cons rfl sub_nil))))) X6783
        refine dexit (eseq (eloop (xblock (nseq (dseq (dseq (dreg ?_)))))))
        refine lread (v := .agg #[.int .i64 p79.Nodes, .slice a80 n80 c80, .slice a81 n81 c81]) rfl (q_load wd_25 rfl) (St.ld X6783 (j := 0) rfl rfl) rfl ?_
        refine lcall rfl rfl ca_71 rfl rfl (f71_ok X6783 p79 0 ([]) H80 H81 (.inl ⟨rfl, rfl⟩)) rfl ?_
        rintro e6816 _ h6818 ⟨φ6820, a6823, n6823, c6823, ob6823, blk6823, g6821, X6822, rfl, O6823⟩
        obtain ⟨φ6825, g6826, X6827, H6828⟩ := OSl.freeze X6822 (j := 0) rfl O6823
        refine lcall rfl rfl ca_70 rfl rfl (f70_ok X6827 e6816 false H6828) rfl (fun e6829 v6830 h6831 hq6832 => ?_)
        cases hq6832
        refine lend (nseq ?_)
        refine dcond rfl rfl (fun k6833 => ?_) (fun k6833 => ?_)
        · refine dseq (dreg ?_)
          refine lpure (v := .int .i64 260) rfl (p_assign rfl) rfl rfl ?_
          refine lend (nseq (dret (rseq ?_)))
          exact kcut_r (res_1 resT) X6822 rfl rfl
        refine dskip (nseq (dseq (dreg ?_)))
        refine lpure (v := .int .i64 0) rfl (p_assign rfl) rfl rfl ?_
        refine lend (nseq (dret ?_))
        exact kcut_r (res_1 resT) X6822 rfl rfl
      intro j6834 J6835
      refine lcase (i := 22) (show _ = Value.bool s91 from rfl) (fun k6836 => ?_) (fun k6836 => ?_)
      · refine lskip rfl rfl ?_
        refine lskip rfl rfl ?_
        refine lskip rfl rfl ?_
        refine lskip rfl rfl ?_
        refine lpure (v := .bool true) rfl (p_pick rfl) rfl rfl ?_
        refine Sim.of_eq (congrArg j6834 (show (s91 || (decide (24 < (p79.Links.length : Int)))) = true from by rw [k6836] <;> rfl)) ?_
        exact ljmpM J6835 true () (sub_cons rfl (sub_cons rfl sub_nil)) X92
      refine lpure (v := .pointer (some ⟨b82, 2, none⟩)) rfl (p_fa fo_25_2 rfl) rfl rfl ?_
      refine lread (v := .slice a81 n81 c81) rfl (q_load wd_23 rfl) (St.ld X92 (j := 0) rfl rfl) rfl ?_
      refine lpure (v := .int .i64 (p79.Links.length : Int)) rfl (p_len rfl rfl rfl un_23 rfl) (RSl.lenC H81) rfl ?_
      refine lpure (v := .bool (decide (24 < (p79.Links.length : Int)))) rfl (p_gt rfl) rfl rfl ?_
      refine lpure (v := .bool (decide (24 < (p79.Links.length : Int)))) rfl (p_pick rfl) rfl rfl ?_
      refine Sim.of_eq (congrArg j6834 (show (s91 || (decide (24 < (p79.Links.length : Int)))) = (decide (24 < (p79.Links.length : Int))) from by rw [k6836] <;> rfl)) ?_
      exact ljmpM J6835 (decide (24 < (p79.Links.length : Int))) () (sub_cons rfl (sub_cons rfl sub_nil)) X92
    intro j6837 J6838
    refine lcase (i := 14) (show _ = Value.bool s87 from rfl) (fun k6839 => ?_) (fun k6839 => ?_)
    · refine lskip rfl rfl ?_
      refine lskip rfl rfl ?_
      refine lskip rfl rfl ?_
      refine lskip rfl rfl ?_
      refine lskip rfl rfl ?_
      refine lskip rfl rfl ?_
      refine lpure (v := .bool true) rfl (p_pick rfl) rfl rfl ?_
      refine Sim.of_eq (congrArg j6837 (show (s87 || (decide ((p79.Station.length : Int) ≠ p79.Nodes))) = true from by rw [k6839] <;> rfl)) ?_
      exact ljmpM J6838 true () (sub_cons rfl (sub_cons rfl sub_nil)) X88
    refine lpure (v := .pointer (some ⟨b82, 1, none⟩)) rfl (p_fa fo_25_1 rfl) rfl rfl ?_
    refine lread (v := .slice a80 n80 c80) rfl (q_load wd_22 rfl) (St.ld X88 (j := 0) rfl rfl) rfl ?_
    refine lpure (v := .int .i64 (p79.Station.length : Int)) rfl (p_len rfl rfl rfl un_22 rfl) (RSl.lenC H80) rfl ?_
    refine lpure (v := .pointer (some ⟨b82, 0, none⟩)) rfl (p_fa fo_25_0 rfl) rfl rfl ?_
    refine lread (v := .int .i64 p79.Nodes) rfl (q_load wd_3 rfl) (St.ld X88 (j := 0) rfl rfl) rfl ?_
    refine lpure (v := .bool (decide ((p79.Station.length : Int) ≠ p79.Nodes))) rfl (p_ne rfl) rfl rfl ?_
    refine lpure (v := .bool (decide ((p79.Station.length : Int) ≠ p79.Nodes))) rfl (p_pick rfl) rfl rfl ?_
    refine Sim.of_eq (congrArg j6837 (show (s87 || (decide ((p79.Station.length : Int) ≠ p79.Nodes))) = (decide ((p79.Station.length : Int) ≠ p79.Nodes)) from by rw [k6839] <;> rfl)) ?_
    exact ljmpM J6838 (decide ((p79.Station.length : Int) ≠ p79.Nodes)) () (sub_cons rfl (sub_cons rfl sub_nil)) X88
  intro j6840 J6841
  refine lcase (i := 9) (show _ = Value.bool (decide (p79.Nodes < 2)) from rfl) (fun k6842 => ?_) (fun k6842 => ?_)
  · refine lskip rfl rfl ?_
    refine lskip rfl rfl ?_
    refine lskip rfl rfl ?_
    refine lpure (v := .bool true) rfl (p_pick rfl) rfl rfl ?_
    refine Sim.of_eq (congrArg j6840 (show ((decide (p79.Nodes < 2)) || (decide (12 < p79.Nodes))) = true from by rw [k6842] <;> rfl)) ?_
    exact ljmpM J6841 true () (sub_cons rfl (sub_cons rfl sub_nil)) X85
  refine lpure (v := .pointer (some ⟨b82, 0, none⟩)) rfl (p_fa fo_25_0 rfl) rfl rfl ?_
  refine lread (v := .int .i64 p79.Nodes) rfl (q_load wd_3 rfl) (St.ld X85 (j := 0) rfl rfl) rfl ?_
  refine lpure (v := .bool (decide (12 < p79.Nodes))) rfl (p_gt rfl) rfl rfl ?_
  refine lpure (v := .bool (decide (12 < p79.Nodes))) rfl (p_pick rfl) rfl rfl ?_
  refine Sim.of_eq (congrArg j6840 (show ((decide (p79.Nodes < 2)) || (decide (12 < p79.Nodes))) = (decide (12 < p79.Nodes)) from by rw [k6842] <;> rfl)) ?_
  exact ljmpM J6841 (decide (12 < p79.Nodes)) () (sub_cons rfl (sub_cons rfl sub_nil)) X85
/-! isochron/topo.From -/
theorem f80_ok {n : Nat} {φ : Fz} {lo : Nat} {h : Heap} {own : OwnL}  {a6968 : Option Addr} {n6968 c6968 : Nat} {a6969 : Option Addr} {n6969 c6969 : Nat} (X : St φ lo h (own)) (p6967 : ApiTopo) (p6970 : Int) (H6968 : RSl eBool φ (.slice a6968 n6968 c6968) p6967.Station) (H6969 : RSl eApiLink φ (.slice a6969 n6969 c6969) p6967.Links) : Sim ((recN Tryz.prog LL cutF (n + 8)).call 80 #[(.agg #[.int .i64 p6967.Nodes, .slice a6968 n6968 c6968, .slice a6969 n6969 c6969]), (.int .i64 p6970)] h) (m_topo_From p6967 p6970) (fun (d : (Int × Int)) p => p = (.tuple #[.int .i64 d.1, .int .i64 d.2], h)) := by
  refine fcut Tryz.func80 rfl rfl rfl rfl X ?_
  intro h0 X0
  refine dseq (dreg ?_)
  refine lbox rfl rfl rfl rfl rfl X0 (fun b6971 h6973 X6974 => ?_)
  refine lpure (v := .int .i64 0) rfl (p_assign rfl) rfl rfl ?_
  refine lpure (v := .int .i64 0) rfl (p_assign rfl) rfl rfl ?_
  refine lend (nseq (dseq (dreg ?_)))
  refine lread (v := .agg #[.int .i64 p6967.Nodes, .slice a6968 n6968 c6968, .slice a6969 n6969 c6969]) rfl (q_load wd_25 rfl) (St.ld X6974 (j := 0) rfl rfl) rfl ?_
  refine lpure (v := .int .i64 p6970) rfl (p_move rfl) rfl rfl ?_
  refine linl rfl rfl rfl rfl ca_107 rfl Tryz.func107 rfl rfl rfl rfl rfl ?_
  refine dseq (dreg ?_)
  refine lbox rfl rfl rfl rfl rfl X6974 (fun b6975 h6977 X6978 => ?_)
  refine lpure (v := .int .i64 0) rfl (p_assign rfl) rfl rfl ?_
  refine lpure (v := .int .i64 0) rfl (p_assign rfl) rfl rfl ?_
  refine lend (nseq (dseq (dreg ?_)))
  refine lpure (v := .int .i64 0) rfl (p_assign rfl) rfl rfl ?_
  refine lend (nseq (dseq (dseq (dreg ?_))))
  refine lread (v := .agg #[.int .i64 p6967.Nodes, .slice a6968 n6968 c6968, .slice a6969 n6969 c6969]) rfl (q_load wd_25 rfl) (St.ld X6978 (j := 0) rfl rfl) rfl ?_
  refine lcall rfl rfl ca_39 rfl rfl (f39_ok X6978 p6967 H6968 H6969) rfl (fun e6979 v6980 h6981 hq6982 => ?_)
  cases hq6982
  refine lpure (v := .int .i64 e6979) rfl (p_assign rfl) rfl rfl ?_
  refine lend (nseq (dseq (dreg ?_)))
  refine lpure (v := .int .i64 e6979) rfl (p_move rfl) rfl rfl ?_
  refine lpure (v := .bool (decide (e6979 ≠ 0))) rfl (p_ne rfl) rfl rfl ?_
  refine lend (nseq ?_)
  refine dcond rfl rfl (fun k6983 => ?_) (fun k6983 => ?_)
  · refine dseq (dreg ?_)
    refine lpure (v := .int .i64 0) rfl (p_move rfl) rfl rfl ?_
    refine lpure (v := .int .i64 e6979) rfl (p_move rfl) rfl rfl ?_
    refine lpure (v := .int .i64 0) rfl (p_assign rfl) rfl rfl ?_
    refine lpure (v := .int .i64 e6979) rfl (p_assign rfl) rfl rfl ?_
    refine lend (nseq (dret (rseq ?_)))
    refine kin_r (res_2 resT resT) ?_
    refine lpure (v := .int .i64 0) rfl (p_extract rfl) rfl rfl ?_
    refine lpure (v := .int .i64 e6979) rfl (p_extract rfl) rfl rfl ?_
    refine lpure (v := .int .i64 0) rfl (p_assign rfl) rfl rfl ?_
    refine lpure (v := .int .i64 e6979) rfl (p_assign rfl) rfl rfl ?_
    refine lend (nseq (dret ?_))
    exact kcut_r (res_2 resT resT) X6978 rfl rfl
  refine dskip (nseq (dseq (dseq (dreg ?_))))
  refine lpure (v := .int .i64 p6970) rfl (p_move rfl) rfl rfl ?_
  refine lpure (v := .bool (decide (p6970 < 0))) rfl (p_lt rfl) rfl rfl ?_
  refine lpure (v := .bool (decide (p6970 < 0))) rfl (p_move rfl) rfl rfl ?_
  refine lsh (τ := Bool) (σ := Unit) (fun s6985 (_ : Unit) => [(1, .int .i64 p6970), (2, .func (.func 92) #[] #[]), (3, .pointer (some ⟨b6975, 0, none⟩)), (8, .int .i64 0), (25, .bool s6985)]) (fun s6985 (_ : Unit) hh => St φ h.n hh ([(some b6975, .cells [.int .i64 p6967.Nodes, .slice a6968 n6968 c6968, .slice a6969 n6969 c6969] 25 .exact), (some b6971, .cells [.int .i64 p6967.Nodes, .slice a6968 n6968 c6968, .slice a6969 n6969 c6969] 25 .exact)])) 7 ?_ ?_
  · rintro s6985 _ t0 h6987 X6986
    refine lend (nseq ?_)
    refine dcond rfl rfl (fun k6988 => ?_) (fun k6988 => ?_)
    · refine dseq (dreg ?_)
      refine lpure (v := .int .i64 0) rfl (p_move rfl) rfl rfl ?_
      refine lpure (v := .int .i64 0) rfl (p_assign rfl) rfl rfl ?_
      refine lpure (v := .int .i64 2) rfl (p_assign rfl) rfl rfl ?_
      refine lend (nseq (dret (rseq ?_)))
      refine kin_r (res_2 resT resT) ?_
      refine lpure (v := .int .i64 0) rfl (p_extract rfl) rfl rfl ?_
      refine lpure (v := .int .i64 2) rfl (p_extract rfl) rfl rfl ?_
      refine lpure (v := .int .i64 0) rfl (p_assign rfl) rfl rfl ?_
      refine lpure (v := .int .i64 2) rfl (p_assign rfl) rfl rfl ?_
      refine lend (nseq (dret ?_))
      exact kcut_r (res_2 resT resT) X6986 rfl rfl
    refine dskip (nseq (dseq (dreg ?_)))
    refine lpure (v := .func (.func 92) #[] #[]) rfl (p_move rfl) rfl rfl ?_
    refine lpure (v := .pointer (some ⟨b6975, 2, none⟩)) rfl (p_fa fo_25_2 rfl) rfl rfl ?_
    refine lread (v := .slice a6969 n6969 c6969) rfl (q_load wd_23 rfl) (St.ld X6986 (j := 0) rfl rfl) rfl ?_
    refine lpure (v := .int .i64 p6970) rfl (p_move rfl) rfl rfl ?_
    refine lpure (v := .int .i64 (w64 (Int.tdiv p6970 2))) rfl (p_quo rfl) rfl rfl ?_
    refine Sim.bindM fun e6989 he6990 => ?_
    obtain ⟨p6991, cs6991, hp6991, hF6991, hR6991⟩ := RSl.ia H6969 he6990 (kd := .i64) (n := 4) rfl
    obtain rfl := eApiLink_el hR6991
    refine lpure (v := p6991) rfl (p_ia rs_23 rfl) hp6991 rfl ?_
    refine lread (v := .agg #[.int .i64 e6989.A, .int .i64 e6989.B, .int .i64 e6989.Per, .int .i64 e6989.Delay]) rfl (q_load wd_65 rfl) (FP.ldw X6986 hF6991 rfl rfl) rfl ?_
    refine lpure (v := .int .i64 p6970) rfl (p_move rfl) rfl rfl ?_
    refine lpure (v := .agg #[.int .i64 e6989.A, .int .i64 e6989.B, .int .i64 e6989.Per, .int .i64 e6989.Delay, .int .i64 p6970]) rfl (p_build rfl) (build_st' tz_111 pl_111 rfl) rfl ?_
    refine lcallv rfl rfl rfl rfl ca_92 rfl rfl (f92_ok X6986 ((TopoEnd.mk e6989 p6970))) rfl (fun e6992 v6993 h6994 hq6995 => ?_)
    cases hq6995
    refine lpure (v := .int .i64 e6992) rfl (p_assign rfl) rfl rfl ?_
    refine lpure (v := .int .i64 0) rfl (p_assign rfl) rfl rfl ?_
    refine lend (nseq (dret ?_))
    refine kin_r (res_2 resT resT) ?_
    refine lpure (v := .int .i64 e6992) rfl (p_extract rfl) rfl rfl ?_
    refine lpure (v := .int .i64 0) rfl (p_extract rfl) rfl rfl ?_
    refine lpure (v := .int .i64 e6992) rfl (p_assign rfl) rfl rfl ?_
    refine lpure (v := .int .i64 0) rfl (p_assign rfl) rfl rfl ?_
    refine lend (nseq (dret ?_))
    exact kcut_r (res_2 resT resT) X6986 rfl rfl
  intro j6996 J6997
  refine lcase (i := 18) (show _ = Value.bool (decide (p6970 < 0)) from rfl) (fun k6998 => ?_) (fun k6998 => ?_)
  · refine lskip rfl rfl ?_
    refine lskip rfl rfl ?_
    refine lskip rfl rfl ?_
    refine lskip rfl rfl ?_
    refine lskip rfl rfl ?_
    refine lskip rfl rfl ?_
    refine lpure (v := .bool true) rfl (p_pick rfl) rfl rfl ?_
    refine Sim.of_eq (congrArg j6996 (show ((decide (p6970 < 0)) || (decide ((w64 (2 * (p6967.Links.length : Int))) ≤ p6970))) = true from by rw [k6998] <;> rfl)) ?_
    exact ljmpM J6997 true () (sub_cons rfl (sub_cons rfl (sub_cons rfl (sub_cons rfl (sub_cons rfl sub_nil))))) X6978
  refine lpure (v := .int .i64 p6970) rfl (p_move rfl) rfl rfl ?_
  refine lpure (v := .pointer (some ⟨b6975, 2, none⟩)) rfl (p_fa fo_25_2 rfl) rfl rfl ?_
  refine lread (v := .slice a6969 n6969 c6969) rfl (q_load wd_23 rfl) (St.ld X6978 (j := 0) rfl rfl) rfl ?_
  refine lpure (v := .int .i64 (p6967.Links.length : Int)) rfl (p_len rfl rfl rfl un_23 rfl) (RSl.lenC H6969) rfl ?_
  refine lpure (v := .int .i64 (w64 (2 * (p6967.Links.length : Int)))) rfl (p_mul rfl) rfl rfl ?_
  refine lpure (v := .bool (decide ((w64 (2 * (p6967.Links.length : Int))) ≤ p6970))) rfl (p_ge rfl) rfl rfl ?_
  refine lpure (v := .bool (decide ((w64 (2 * (p6967.Links.length : Int))) ≤ p6970))) rfl (p_pick rfl) rfl rfl ?_
  refine Sim.of_eq (congrArg j6996 (show ((decide (p6970 < 0)) || (decide ((w64 (2 * (p6967.Links.length : Int))) ≤ p6970))) = (decide ((w64 (2 * (p6967.Links.length : Int))) ≤ p6970)) from by rw [k6998] <;> rfl)) ?_
  exact ljmpM J6997 (decide ((w64 (2 * (p6967.Links.length : Int))) ≤ p6970)) () (sub_cons rfl (sub_cons rfl (sub_cons rfl (sub_cons rfl (sub_cons rfl sub_nil))))) X6978
/-! (isochron/route.walk).from -/
theorem f56_ok {n : Nat} {φ : Fz} {lo : Nat} {h : Heap} {own : OwnL}  {a6960 : Option Addr} {n6960 c6960 : Nat} {a6961 : Option Addr} {n6961 c6961 : Nat} (X : St φ lo h (own)) (p6959 : RouteWalk) (p6962 : Int) (H6960 : RSl eBool φ (.slice a6960 n6960 c6960) p6959.Topo.Station) (H6961 : RSl eApiLink φ (.slice a6961 n6961 c6961) p6959.Topo.Links) : Sim ((recN Tryz.prog LL cutF (n + 9)).call 56 #[(.agg #[.int .i64 p6959.Topo.Nodes, .slice a6960 n6960 c6960, .slice a6961 n6961 c6961]), (.int .i64 p6962)] h) (m_route_walk_from p6959 p6962) (fun (d : Int) p => p = (.int .i64 d, h)) := by
  refine fcut Tryz.func56 rfl rfl rfl rfl X ?_
  intro h0 X0
  refine dseq (dreg ?_)
  refine lbox rfl rfl rfl rfl rfl X0 (fun b6963 h6965 X6966 => ?_)
  refine lpure (v := .int .i64 0) rfl (p_assign rfl) rfl rfl ?_
  refine lend (nseq (dseq (dreg ?_)))
  refine lpure (v := .pointer (some ⟨b6963, 0, none⟩)) rfl (p_fa fo_60_0 rfl) rfl rfl ?_
  refine lread (v := .agg #[.int .i64 p6959.Topo.Nodes, .slice a6960 n6960 c6960, .slice a6961 n6961 c6961]) rfl (q_load wd_25 rfl) (St.ld X6966 (j := 0) rfl rfl) rfl ?_
  refine lpure (v := .int .i64 p6962) rfl (p_move rfl) rfl rfl ?_
  refine lcall rfl rfl ca_80 rfl rfl (f80_ok X6966 (p6959.Topo) p6962 H6960 H6961) rfl (fun e6999 v7000 h7001 hq7002 => ?_)
  cases hq7002
  refine lpure (v := .tuple #[.int .i64 e6999.1, .int .i64 e6999.2]) rfl (p_move rfl) rfl rfl ?_
  refine lpure (v := .int .i64 e6999.1) rfl (p_extract rfl) rfl rfl ?_
  refine lpure (v := .int .i64 e6999.2) rfl (p_extract rfl) rfl rfl ?_
  refine lpure (v := .int .i64 e6999.1) rfl (p_assign rfl) rfl rfl ?_
  refine lpure (v := .int .i64 e6999.2) rfl (p_assign rfl) rfl rfl ?_
  refine lend (nseq (dseq (dreg ?_)))
  refine lpure (v := .int .i64 e6999.1) rfl (p_move rfl) rfl rfl ?_
  refine lpure (v := .int .i64 e6999.1) rfl (p_assign rfl) rfl rfl ?_
  refine lend (nseq (dret ?_))
  exact kcut_r (res_1 resT) X6966 rfl rfl
/-! isochron/topo.To -/
theorem f79_ok {n : Nat} {φ : Fz} {lo : Nat} {h : Heap} {own : OwnL}  {a7053 : Option Addr} {n7053 c7053 : Nat} {a7054 : Option Addr} {n7054 c7054 : Nat} (X : St φ lo h (own)) (p7052 : ApiTopo) (p7055 : Int) (H7053 : RSl eBool φ (.slice a7053 n7053 c7053) p7052.Station) (H7054 : RSl eApiLink φ (.slice a7054 n7054 c7054) p7052.Links) : Sim ((recN Tryz.prog LL cutF (n + 8)).call 79 #[(.agg #[.int .i64 p7052.Nodes, .slice a7053 n7053 c7053, .slice a7054 n7054 c7054]), (.int .i64 p7055)] h) (m_topo_To p7052 p7055) (fun (d : (Int × Int)) p => p = (.tuple #[.int .i64 d.1, .int .i64 d.2], h)) := by
  refine fcut Tryz.func79 rfl rfl rfl rfl X ?_
  intro h0 X0
  refine dseq (dreg ?_)
  refine lbox rfl rfl rfl rfl rfl X0 (fun b7056 h7058 X7059 => ?_)
  refine lpure (v := .int .i64 0) rfl (p_assign rfl) rfl rfl ?_
  refine lpure (v := .int .i64 0) rfl (p_assign rfl) rfl rfl ?_
  refine lend (nseq (dseq (dreg ?_)))
  refine lread (v := .agg #[.int .i64 p7052.Nodes, .slice a7053 n7053 c7053, .slice a7054 n7054 c7054]) rfl (q_load wd_25 rfl) (St.ld X7059 (j := 0) rfl rfl) rfl ?_
  refine lpure (v := .int .i64 p7055) rfl (p_move rfl) rfl rfl ?_
  refine linl rfl rfl rfl rfl ca_107 rfl Tryz.func107 rfl rfl rfl rfl rfl ?_
  refine dseq (dreg ?_)
  refine lbox rfl rfl rfl rfl rfl X7059 (fun b7060 h7062 X7063 => ?_)
  refine lpure (v := .int .i64 0) rfl (p_assign rfl) rfl rfl ?_
  refine lpure (v := .int .i64 0) rfl (p_assign rfl) rfl rfl ?_
  refine lend (nseq (dseq (dreg ?_)))
  refine lpure (v := .int .i64 0) rfl (p_assign rfl) rfl rfl ?_
  refine lend (nseq (dseq (dseq (dreg ?_))))
  refine lread (v := .agg #[.int .i64 p7052.Nodes, .slice a7053 n7053 c7053, .slice a7054 n7054 c7054]) rfl (q_load wd_25 rfl) (St.ld X7063 (j := 0) rfl rfl) rfl ?_
  refine lcall rfl rfl ca_39 rfl rfl (f39_ok X7063 p7052 H7053 H7054) rfl (fun e7064 v7065 h7066 hq7067 => ?_)
  cases hq7067
  refine lpure (v := .int .i64 e7064) rfl (p_assign rfl) rfl rfl ?_
  refine lend (nseq (dseq (dreg ?_)))
  refine lpure (v := .int .i64 e7064) rfl (p_move rfl) rfl rfl ?_
  refine lpure (v := .bool (decide (e7064 ≠ 0))) rfl (p_ne rfl) rfl rfl ?_
  refine lend (nseq ?_)
  refine dcond rfl rfl (fun k7068 => ?_) (fun k7068 => ?_)
  · refine dseq (dreg ?_)
    refine lpure (v := .int .i64 0) rfl (p_move rfl) rfl rfl ?_
    refine lpure (v := .int .i64 e7064) rfl (p_move rfl) rfl rfl ?_
    refine lpure (v := .int .i64 0) rfl (p_assign rfl) rfl rfl ?_
    refine lpure (v := .int .i64 e7064) rfl (p_assign rfl) rfl rfl ?_
    refine lend (nseq (dret (rseq ?_)))
    refine kin_r (res_2 resT resT) ?_
    refine lpure (v := .int .i64 0) rfl (p_extract rfl) rfl rfl ?_
    refine lpure (v := .int .i64 e7064) rfl (p_extract rfl) rfl rfl ?_
    refine lpure (v := .int .i64 0) rfl (p_assign rfl) rfl rfl ?_
    refine lpure (v := .int .i64 e7064) rfl (p_assign rfl) rfl rfl ?_
    refine lend (nseq (dret ?_))
    exact kcut_r (res_2 resT resT) X7063 rfl rfl
  refine dskip (nseq (dseq (dseq (dreg ?_))))
  refine lpure (v := .int .i64 p7055) rfl (p_move rfl) rfl rfl ?_
  refine lpure (v := .bool (decide (p7055 < 0))) rfl (p_lt rfl) rfl rfl ?_
  refine lpure (v := .bool (decide (p7055 < 0))) rfl (p_move rfl) rfl rfl ?_
  refine lsh (τ := Bool) (σ := Unit) (fun s7070 (_ : Unit) => [(1, .int .i64 p7055), (2, .func (.func 94) #[] #[]), (3, .pointer (some ⟨b7060, 0, none⟩)), (8, .int .i64 0), (25, .bool s7070)]) (fun s7070 (_ : Unit) hh => St φ h.n hh ([(some b7060, .cells [.int .i64 p7052.Nodes, .slice a7053 n7053 c7053, .slice a7054 n7054 c7054] 25 .exact), (some b7056, .cells [.int .i64 p7052.Nodes, .slice a7053 n7053 c7053, .slice a7054 n7054 c7054] 25 .exact)])) 7 ?_ ?_
  · rintro s7070 _ t0 h7072 X7071
    refine lend (nseq ?_)
    refine dcond rfl rfl (fun k7073 => ?_) (fun k7073 => ?_)
    · refine dseq (dreg ?_)
      refine lpure (v := .int .i64 0) rfl (p_move rfl) rfl rfl ?_
      refine lpure (v := .int .i64 0) rfl (p_assign rfl) rfl rfl ?_
      refine lpure (v := .int .i64 2) rfl (p_assign rfl) rfl rfl ?_
      refine lend (nseq (dret (rseq ?_)))
      refine kin_r (res_2 resT resT) ?_
      refine lpure (v := .int .i64 0) rfl (p_extract rfl) rfl rfl ?_
      refine lpure (v := .int .i64 2) rfl (p_extract rfl) rfl rfl ?_
      refine lpure (v := .int .i64 0) rfl (p_assign rfl) rfl rfl ?_
      refine lpure (v := .int .i64 2) rfl (p_assign rfl) rfl rfl ?_
      refine lend (nseq (dret ?_))
      exact kcut_r (res_2 resT resT) X7071 rfl rfl
    refine dskip (nseq (dseq (dreg ?_)))
    refine lpure (v := .func (.func 94) #[] #[]) rfl (p_move rfl) rfl rfl ?_
    refine lpure (v := .pointer (some ⟨b7060, 2, none⟩)) rfl (p_fa fo_25_2 rfl) rfl rfl ?_
    refine lread (v := .slice a7054 n7054 c7054) rfl (q_load wd_23 rfl) (St.ld X7071 (j := 0) rfl rfl) rfl ?_
    refine lpure (v := .int .i64 p7055) rfl (p_move rfl) rfl rfl ?_
    refine lpure (v := .int .i64 (w64 (Int.tdiv p7055 2))) rfl (p_quo rfl) rfl rfl ?_
    refine Sim.bindM fun e7074 he7075 => ?_
    obtain ⟨p7076, cs7076, hp7076, hF7076, hR7076⟩ := RSl.ia H7054 he7075 (kd := .i64) (n := 4) rfl
    obtain rfl := eApiLink_el hR7076
    refine lpure (v := p7076) rfl (p_ia rs_23 rfl) hp7076 rfl ?_
    refine lread (v := .agg #[.int .i64 e7074.A, .int .i64 e7074.B, .int .i64 e7074.Per, .int .i64 e7074.Delay]) rfl (q_load wd_65 rfl) (FP.ldw X7071 hF7076 rfl rfl) rfl ?_
    refine lpure (v := .int .i64 p7055) rfl (p_move rfl) rfl rfl ?_
    refine lpure (v := .agg #[.int .i64 e7074.A, .int .i64 e7074.B, .int .i64 e7074.Per, .int .i64 e7074.Delay, .int .i64 p7055]) rfl (p_build rfl) (build_st' tz_111 pl_111 rfl) rfl ?_
    refine lcallv rfl rfl rfl rfl ca_94 rfl rfl (f94_ok X7071 ((TopoEnd.mk e7074 p7055))) rfl (fun e7077 v7078 h7079 hq7080 => ?_)
    cases hq7080
    refine lpure (v := .int .i64 e7077) rfl (p_assign rfl) rfl rfl ?_
    refine lpure (v := .int .i64 0) rfl (p_assign rfl) rfl rfl ?_
    refine lend (nseq (dret ?_))
    refine kin_r (res_2 resT resT) ?_
    refine lpure (v := .int .i64 e7077) rfl (p_extract rfl) rfl rfl ?_
    refine lpure (v := .int .i64 0) rfl (p_extract rfl) rfl rfl ?_
    refine lpure (v := .int .i64 e7077) rfl (p_assign rfl) rfl rfl ?_
    refine lpure (v := .int .i64 0) rfl (p_assign rfl) rfl rfl ?_
    refine lend (nseq (dret ?_))
    exact kcut_r (res_2 resT resT) X7071 rfl rfl
  intro j7081 J7082
  refine lcase (i := 18) (show _ = Value.bool (decide (p7055 < 0)) from rfl) (fun k7083 => ?_) (fun k7083 => ?_)
  · refine lskip rfl rfl ?_
    refine lskip rfl rfl ?_
    refine lskip rfl rfl ?_
    refine lskip rfl rfl ?_
    refine lskip rfl rfl ?_
    refine lskip rfl rfl ?_
    refine lpure (v := .bool true) rfl (p_pick rfl) rfl rfl ?_
    refine Sim.of_eq (congrArg j7081 (show ((decide (p7055 < 0)) || (decide ((w64 (2 * (p7052.Links.length : Int))) ≤ p7055))) = true from by rw [k7083] <;> rfl)) ?_
    exact ljmpM J7082 true () (sub_cons rfl (sub_cons rfl (sub_cons rfl (sub_cons rfl (sub_cons rfl sub_nil))))) X7063
  refine lpure (v := .int .i64 p7055) rfl (p_move rfl) rfl rfl ?_
  refine lpure (v := .pointer (some ⟨b7060, 2, none⟩)) rfl (p_fa fo_25_2 rfl) rfl rfl ?_
  refine lread (v := .slice a7054 n7054 c7054) rfl (q_load wd_23 rfl) (St.ld X7063 (j := 0) rfl rfl) rfl ?_
  refine lpure (v := .int .i64 (p7052.Links.length : Int)) rfl (p_len rfl rfl rfl un_23 rfl) (RSl.lenC H7054) rfl ?_
  refine lpure (v := .int .i64 (w64 (2 * (p7052.Links.length : Int)))) rfl (p_mul rfl) rfl rfl ?_
  refine lpure (v := .bool (decide ((w64 (2 * (p7052.Links.length : Int))) ≤ p7055))) rfl (p_ge rfl) rfl rfl ?_
  refine lpure (v := .bool (decide ((w64 (2 * (p7052.Links.length : Int))) ≤ p7055))) rfl (p_pick rfl) rfl rfl ?_
  refine Sim.of_eq (congrArg j7081 (show ((decide (p7055 < 0)) || (decide ((w64 (2 * (p7052.Links.length : Int))) ≤ p7055))) = (decide ((w64 (2 * (p7052.Links.length : Int))) ≤ p7055)) from by rw [k7083] <;> rfl)) ?_
  exact ljmpM J7082 (decide ((w64 (2 * (p7052.Links.length : Int))) ≤ p7055)) () (sub_cons rfl (sub_cons rfl (sub_cons rfl (sub_cons rfl (sub_cons rfl sub_nil))))) X7063
/-! (isochron/route.walk).valid -/
theorem f40_ok {n : Nat} {φ : Fz} {lo : Nat} {h : Heap} {own : OwnL}  {a6855 : Option Addr} {n6855 c6855 : Nat} {a6856 : Option Addr} {n6856 c6856 : Nat} {a6858 : Option Addr} {n6858 c6858 : Nat} (X : St φ lo h (own)) (p6854 : RouteWalk) (p6857 : (List Int)) (H6855 : RSl eBool φ (.slice a6855 n6855 c6855) p6854.Topo.Station) (H6856 : RSl eApiLink φ (.slice a6856 n6856 c6856) p6854.Topo.Links) (H6858 : RSl (eInt .i64) φ (.slice a6858 n6858 c6858) p6857) : Sim ((recN Tryz.prog LL cutF (n + 12)).call 40 #[(.agg #[.int .i64 p6854.Topo.Nodes, .slice a6855 n6855 c6855, .slice a6856 n6856 c6856]), (.slice a6858 n6858 c6858)] h) (m_route_walk_valid p6854 p6857) (fun (d : Bool) p => p = (.bool d, h)) := by
  refine fcut Tryz.func40 rfl rfl rfl rfl X ?_
  intro h0 X0
  refine dseq (dreg ?_)
  refine lbox rfl rfl rfl rfl rfl X0 (fun b6859 h6861 X6862 => ?_)
  refine lbox rfl rfl rfl rfl rfl X6862 (fun b6863 h6865 X6866 => ?_)
  refine lpure (v := .bool false) rfl (p_assign rfl) rfl rfl ?_
  refine lend (nseq (dscope (dseq (dseq (dreg ?_)))))
  refine lread (v := .slice a6858 n6858 c6858) rfl (q_load wd_27 rfl) (St.ld X6866 (j := 0) rfl rfl) rfl ?_
  refine lpure (v := .int .i64 (p6857.length : Int)) rfl (p_len rfl rfl rfl un_27 rfl) (RSl.lenC H6858) rfl ?_
  refine lpure (v := .bool (decide ((p6857.length : Int) < 1))) rfl (p_lt rfl) rfl rfl ?_
  refine lpure (v := .bool (decide ((p6857.length : Int) < 1))) rfl (p_move rfl) rfl rfl ?_
  refine lsh (τ := Bool) (σ := Unit) (fun s6868 (_ : Unit) => [(2, .pointer (some ⟨b6859, 0, none⟩)), (3, .pointer (some ⟨b6863, 0, none⟩)), (15, .bool s6868)]) (fun s6868 (_ : Unit) hh => St φ h.n hh ([(some b6863, .cells [.slice a6858 n6858 c6858] 27 .exact), (some b6859, .cells [.int .i64 p6854.Topo.Nodes, .slice a6855 n6855 c6855, .slice a6856 n6856 c6856] 60 .exact)])) 4 ?_ ?_
  · rintro s6868 _ t0 h6870 X6869
    refine lpure (v := .bool s6868) rfl (p_move rfl) rfl rfl ?_
    refine ljoinM (τ := Bool) (σ := Unit) (fun s6935 (_ : Unit) => [(2, .pointer (some ⟨b6859, 0, none⟩)), (3, .pointer (some ⟨b6863, 0, none⟩)), (20, .bool s6935)]) (fun s6935 (_ : Unit) hh => St φ h.n hh ([(some b6863, .cells [.slice a6858 n6858 c6858] 27 .exact), (some b6859, .cells [.int .i64 p6854.Topo.Nodes, .slice a6855 n6855 c6855, .slice a6856 n6856 c6856] 60 .exact)])) 4 ?_ ?_
    · rintro s6935 _ t0 h6937 X6936
      refine lend (nseq ?_)
      refine dcond rfl rfl (fun k6938 => ?_) (fun k6938 => ?_)
      · refine dseq (dreg ?_)
        refine lpure (v := .bool false) rfl (p_assign rfl) rfl rfl ?_
        refine lend (nseq (dret (rseq (rscope ?_))))
        exact kcut_r (res_1 resT) X6936 rfl rfl
      refine dskip (nseq (dseq (dreg ?_)))
      refine lalloc rfl tz_26 rfl rfl rfl X6936 (fun b6939 h6941 X6942 => ?_)
      refine lend (nseq (dseq (dlabel (nseq (dseq (dseq (dreg ?_)))))))
      refine lread (v := .agg #[.int .i64 p6854.Topo.Nodes, .slice a6855 n6855 c6855, .slice a6856 n6856 c6856]) rfl (q_load wd_60 rfl) (St.ld X6942 (j := 2) rfl rfl) rfl ?_
      refine lread (v := .slice a6858 n6858 c6858) rfl (q_load wd_27 rfl) (St.ld X6942 (j := 1) rfl rfl) rfl ?_
      refine linl rfl rfl rfl rfl ca_59 rfl Tryz.func59 rfl rfl rfl rfl rfl ?_
      refine dseq (dreg ?_)
      refine lbox rfl rfl rfl rfl rfl X6942 (fun b6943 h6945 X6946 => ?_)
      refine lbox rfl rfl rfl rfl rfl X6946 (fun b6947 h6949 X6950 => ?_)
      refine lpure (v := .nilFunc) rfl (p_assign rfl) rfl rfl ?_
      refine lend (nseq (dseq (dreg ?_)))
      refine lpure (v := .func (.func 82) #[] #[.pointer (some ⟨b6943, 0, none⟩), .pointer (some ⟨b6947, 0, none⟩)]) rfl (p_makeFunc rfl) rfl rfl ?_
      refine lpure (v := .func (.func 82) #[] #[.pointer (some ⟨b6943, 0, none⟩), .pointer (some ⟨b6947, 0, none⟩)]) rfl (p_assign rfl) rfl rfl ?_
      refine lend (nseq (dret ?_))
      refine kin_r (res_1 resT) ?_
      refine lend (nseq (dblock ?_))
      refine drange rfl rfl ca_82 Tryz.func82 rfl rfl X6950 (fun _ => rfl) ?_
      intro l6951 q6952 df6953 h6955 Q6954 X6956
      refine dseq (dreg ?_)
      refine lread (v := .agg #[.int .i64 p6854.Topo.Nodes, .slice a6855 n6855 c6855, .slice a6856 n6856 c6856]) rfl (q_load wd_60 rfl) (St.ld X6956 (j := 3) rfl rfl) rfl ?_
      refine lpure (v := .func (.func 55) #[.agg #[.int .i64 p6854.Topo.Nodes, .slice a6855 n6855 c6855, .slice a6856 n6856 c6856]] #[]) rfl (p_makeFunc rfl) rfl rfl ?_
      refine lpure (v := .func (.func 55) #[.agg #[.int .i64 p6854.Topo.Nodes, .slice a6855 n6855 c6855, .slice a6856 n6856 c6856]] #[]) rfl (p_assign rfl) rfl rfl ?_
      refine lend (nseq (dseq (dseq ?_)))
      refine dgo_start (n := 8) rfl (by kernel_rfl) ?_
      refine gpure (v := .func (.yield l6951) #[] #[]) rfl (p_move rfl) (lo_t (and_tt (lo_own X6956 (j := 0) (o := 0) (s := none) (f := 0) rfl) rfl) rfl) rfl rfl ?_
      refine gload (v := .agg #[.int .i64 p6854.Topo.Nodes, .slice a6855 n6855 c6855, .slice a6856 n6856 c6856]) rfl (q_load wd_60 rfl) (St.ld X6956 (j := 3) rfl rfl) rfl ?_
      refine gload (v := .slice a6858 n6858 c6858) rfl (q_load wd_27 rfl) (St.ld X6956 (j := 2) rfl rfl) rfl ?_
      refine Sim.bindM fun e7003 he7004 => ?_
      obtain ⟨p7005, cs7005, hp7005, hF7005, hR7005⟩ := RSl.ia H6858 he7004 (kd := .i64) (n := 1) rfl
      have hR7005 : _ = [(.int .i64 e7003 : Value)] := hR7005
      subst hR7005
      refine gpure (v := p7005) rfl (p_ia rs_27 rfl) (lo_t (lo_sl X6956 H6858) (lo_c rfl)) hp7005 rfl ?_
      refine gload (v := .int .i64 e7003) rfl (q_load wd_3 rfl) (FP.ld X6956 hF7005) rfl ?_
      refine gwait rfl (still_call rfl rfl ca_56 rfl) rfl ?_
      refine dgo_skip ?_
      refine dgo_skip ?_
      refine gcall (m := 7) [false, false, false] (rk_cons (q_load wd_3 rfl) (FP.ld X6956 hF7005) (same_self 20 rfl) (rk_cons (q_load wd_27 rfl) (St.ld X6956 (j := 2) rfl rfl) (same_self 20 rfl) (rk_cons (q_load wd_60 rfl) (St.ld X6956 (j := 3) rfl rfl) (same_self 20 rfl) rk_nil))) rfl rfl rfl rfl rfl ca_56 rfl rfl (f56_ok X6956 p6854 e7003 H6855 H6856) rfl (fun e7006 v7007 h7008 hq7009 => ?_)
      cases hq7009
      refine dgo_skip ?_
      refine dgo_skip ?_
      refine dgo_skip ?_
      refine dgo_skip ?_
      refine dgo_skip ?_
      refine dgo_skip ?_
      refine gwait rfl (still_act rfl).1 rfl ?_
      refine dgo_skip ?_
      refine ground (m := 6) [] rk_nil rfl rfl rfl rfl rfl rfl rfl rfl rfl X6956 (j := 0) rfl Q6954 rfl rfl rfl rfl rfl (fun t7010 => ?_)
      refine dreg ?_
      refine lpure (v := .int .i64 e7006) rfl (p_assign rfl) rfl rfl ?_
      refine lend ?_
      refine basg X6956 (j := 0) rfl (fun h7011 X7012 => ?_)
      refine dblock (dseq (dreg ?_))
      refine lread (v := .slice none 0 0) rfl (q_load wd_26 rfl) (St.ld X7012 (j := 4) rfl rfl) rfl ?_
      refine lpure (v := .int .i64 0) rfl (p_len rfl rfl rfl un_26 rfl) rfl rfl ?_
      refine lpure (v := .int .i64 0) rfl (p_assign rfl) rfl rfl ?_
      refine lend (nseq (dseq (dseq ?_)))
      refine ddraw 0 0 268435456 (by kernel_rfl) ?_
      refine sload (v := .slice none 0 0) rfl rfl (q_load wd_26 rfl) (St.ld X7012 (j := 4) rfl rfl) (same_self 20 rfl) rfl ?_
      refine spure (v := .int .i64 e7006) rfl (p_move rfl) (lo_t rfl rfl) rfl rfl ?_
      refine scall (en := fun d => (.bool d)) rfl rfl ca_54 rfl rfl (f54_ok X7012 ([]) e7006 (.inl ⟨rfl, rfl⟩)) rfl (fun e7013 => ?_)
      refine spure (v := .bool e7013) rfl (p_move rfl) (lo_t rfl rfl) rfl rfl ?_
      refine sjoinM (τ := Bool) (σ := Unit) (fun s7019 (_ : Unit) => [(2, .pointer (some ⟨b6859, 0, none⟩)), (3, .pointer (some ⟨b6863, 0, none⟩)), (5, .pointer (some ⟨b6939, 0, none⟩)), (6, .int .i64 e7006), (7, .int .i64 0), (48, .bool s7019)]) (fun s7019 (_ : Unit) hh => St φ h.n hh ([(some l6951, bsy q6952), (none, .dead), (some b6947, .cells [.slice a6858 n6858 c6858] 27 .exact), (some b6943, .cells [.int .i64 p6854.Topo.Nodes, .slice a6855 n6855 c6855, .slice a6856 n6856 c6856] 60 .exact), (some b6939, .cells [.slice none 0 0] 26 .exact), (some b6863, .cells [.slice a6858 n6858 c6858] 27 .exact), (some b6859, .cells [.int .i64 p6854.Topo.Nodes, .slice a6855 n6855 c6855, .slice a6856 n6856 c6856] 60 .exact)])) 18 22 ?_ ?_
      · rintro s7019 _ t0 h7021 X7020
        refine spure (v := .bool s7019) rfl (p_move rfl) (lo_t rfl rfl) rfl rfl ?_
        refine sjoinM (τ := Bool) (σ := Unit) (fun s7024 (_ : Unit) => [(5, .pointer (some ⟨b6939, 0, none⟩)), (6, .int .i64 e7006), (66, .bool s7024)]) (fun s7024 (_ : Unit) hh => St φ h.n hh ([(some l6951, bsy q6952), (none, .dead), (some b6947, .cells [.slice a6858 n6858 c6858] 27 .exact), (some b6943, .cells [.int .i64 p6854.Topo.Nodes, .slice a6855 n6855 c6855, .slice a6856 n6856 c6856] 60 .exact), (some b6939, .cells [.slice none 0 0] 26 .exact), (some b6863, .cells [.slice a6858 n6858 c6858] 27 .exact), (some b6859, .cells [.int .i64 p6854.Topo.Nodes, .slice a6855 n6855 c6855, .slice a6856 n6856 c6856] 60 .exact)])) 17 40 ?_ ?_
        · rintro s7024 _ t0 h7026 X7025
          refine send ?_
          refine nseq ?_
          refine dcond rfl rfl (fun k7027 => ?_) (fun k7027 => ?_)
          · refine dexit (eseq (eblock rfl ?_))
            refine ernd X7025 (j := 0) rfl (fun h7028 X7029 => ?_)
            refine dgo_skip ?_
            refine dgo_skip ?_
            refine dgo_skip ?_
            refine dgo_skip ?_
            refine dgo_skip ?_
            refine dgo_skip ?_
            refine dgo_skip ?_
            refine gpure (v := .bool true) rfl (p_not rfl) (lo_t rfl rfl) rfl rfl ?_
            refine gend rk_nil ?_
            refine nseq (dcondT rfl rfl (dret (rseq ?_)))
            refine kin_r res_0 ?_
            refine rend_d X7029 (j := 0) rfl (.inr ⟨_, rfl, rfl⟩) (fun h7030 X7031 => ?_)
            refine xblock (nseq (dseq (dreg ?_)))
            refine lread (v := .slice none 0 0) rfl (q_load wd_26 rfl) (St.ld X7031 (j := 4) rfl rfl) rfl ?_
            refine lpure (v := .int .i64 0) rfl (p_len rfl rfl rfl un_26 rfl) rfl rfl ?_
            refine lread (v := .slice a6858 n6858 c6858) rfl (q_load wd_27 rfl) (St.ld X7031 (j := 5) rfl rfl) rfl ?_
            refine lpure (v := .int .i64 (p6857.length : Int)) rfl (p_len rfl rfl rfl un_27 rfl) (RSl.lenC H6858) rfl ?_
            refine lpure (v := .int .i64 (w64 ((p6857.length : Int) + 1))) rfl (p_add rfl) rfl rfl ?_
            refine lpure (v := .bool (decide (0 = (w64 ((p6857.length : Int) + 1))))) rfl (p_eq rfl) rfl rfl ?_
            refine lpure (v := .bool (decide (0 = (w64 ((p6857.length : Int) + 1))))) rfl (p_assign rfl) rfl rfl ?_
            refine lend (nseq (dret (rscope ?_)))
            exact kcut_r (res_1 resT) X7031 rfl rfl
          refine dskip (nseq (dreg ?_))
          refine lread (v := .slice none 0 0) rfl (q_load wd_26 rfl) (St.ld X7025 (j := 4) rfl rfl) rfl ?_
          refine lpure (v := .int .i64 e7006) rfl (p_move rfl) rfl rfl ?_
          obtain ⟨h7032, b7032, hv7032, X7032, O7032⟩ := OSl.lay (E := (eInt .i64)) (φ := φ) (cs := [.int .i64 e7006]) (l := [e7006]) (len := 1) (parts := [(0, .int .i64 e7006)]) un_26 ts_3 rfl rfl rfl tz_3 rfl rfl (show RowD (eInt .i64) φ [.int .i64 e7006] [e7006] from ⟨[.int .i64 e7006], _, rfl, rfl, rfl⟩) rfl rfl X7025
          refine lheap rfl (h_buildSlice rfl) hv7032 rfl ?_
          have X7035 := St.pick X7032 (.none .dead (.refl _))
          obtain ⟨ws7036, hw7036⟩ := OSl.read O7032 X7035 (k := 1) rfl (n := 1) rfl
          refine Sim.mustM fun k7036 => ?_
          obtain ⟨h7036, a7036, c7036, ob7036, blk7036, hv7036, X7036, O7036⟩ := OSl.append (show OSl (eInt .i64) φ 3 none .dead (.slice none 0 0) [] from OSl.nil) X7035 (j := 0) rfl hw7036 k7036 (ts := #[26, 26]) rfl un_26 (argOk_of ax_26_26) ts_3 rfl rfl tb_3 rfl tz_3 rfl
          refine lheap rfl (h_builtin rfl rfl) hv7036 rfl ?_
          refine lstore rfl ts_26 rfl rfl (j := 6) rfl rfl rfl rfl rfl rfl X7036 (fun h7037 X7038 => ?_)
          refine lend (nblock ?_)
          refine nrnd X7038 (j := 2) rfl (fun h7039 X7040 => ?_)
          refine dgo_skip ?_
          refine dgo_skip ?_
          refine dgo_skip ?_
          refine dgo_skip ?_
          refine dgo_skip ?_
          refine dgo_skip ?_
          refine dgo_skip ?_
          refine gpure (v := .bool false) rfl (p_not rfl) (lo_t rfl rfl) rfl rfl ?_
          refine gend rk_nil ?_
          refine nseq (dcondF rfl rfl (dskip (nseq (dseq (dreg ?_)))))
          refine lread (v := .slice a6858 n6858 c6858) rfl (q_load wd_27 rfl) (St.ld X7040 (j := 4) rfl rfl) rfl ?_
          refine lpure (v := .int .i64 (p6857.length : Int)) rfl (p_len rfl rfl rfl un_27 rfl) (RSl.lenC H6858) rfl ?_
          refine lpure (v := .int .i64 0) rfl (p_move rfl) rfl rfl ?_
          refine lend (nseq (dblock ?_))
          refine dloopM (τ := Int × (List Int)) (σ := Option Addr × Nat × Nat × Option Nat × Blk) (fun s7252 (a7253, n7253, c7253, ob7253, blk7253) => [(0, .func (.yield l6951) #[] #[]), (4, .func (.func 55) #[.agg #[.int .i64 p6854.Topo.Nodes, .slice a6855 n6855 c6855, .slice a6856 n6856 c6856]] #[]), (17, .slice a6858 n6858 c6858), (18, .int .i64 (p6857.length : Int)), (19, .int .i64 s7252.1)]) (fun s7252 (a7253, n7253, c7253, ob7253, blk7253) hh => St φ h.n hh ([(ob7253, blk7253), (some b7032, (.cells [.int .i64 e7006] 3 .exact)), (some l6951, rdy q6952), (none, .dead), (some b6947, .cells [.slice a6858 n6858 c6858] 27 .exact), (some b6943, .cells [.int .i64 p6854.Topo.Nodes, .slice a6855 n6855 c6855, .slice a6856 n6856 c6856] 60 .exact), (some b6939, .cells [.slice a7253 n7253 c7253] 26 .exact), (some b6863, .cells [.slice a6858 n6858 c6858] 27 .exact), (some b6859, .cells [.int .i64 p6854.Topo.Nodes, .slice a6855 n6855 c6855, .slice a6856 n6856 c6856] 60 .exact)]) ∧ OSl (eInt .i64) φ 3 ob7253 blk7253 (.slice a7253 n7253 c7253) s7252.2) (0, (([] : List Int) ++ ([e7006]))) (a7036, (([] : List Int).length + ([e7006]).length), c7036, ob7036, blk7036) (sub_cons rfl (sub_cons rfl (sub_cons rfl (sub_cons rfl (sub_cons rfl sub_nil))))) ⟨(St.pick X7040 (.keep _ (.keep _ (.keep _ (.none _ (.skip _ (.keep _ (.keep _ (.keep _ (.keep _ (.keep _ (.nil _)))))))))))), O7036⟩ ?_
          rintro n7344 ih7343 s7252 ⟨a7253, n7253, c7253, ob7253, blk7253⟩ t0 h7346 ⟨X7345, O7253⟩
          refine dseq (dreg ?_)
          refine lpure (v := .bool (decide (s7252.1 < (p6857.length : Int)))) rfl (p_lt rfl) rfl rfl ?_
          refine lend (nseq (dseq ?_))
          refine dcond rfl rfl (fun k7347 => ?_) (fun k7347 => ?_)
          · refine dskip (nseq (dseq (dblock (dseq (dreg ?_)))))
            refine Sim.bindM fun e7348 he7349 => ?_
            obtain ⟨p7350, cs7350, hp7350, hF7350, hR7350⟩ := RSl.ia H6858 he7349 (kd := .i64) (n := 1) rfl
            have hR7350 : _ = [(.int .i64 e7348 : Value)] := hR7350
            subst hR7350
            refine lpure (v := p7350) rfl (p_ia rs_27 rfl) hp7350 rfl ?_
            refine lread (v := .int .i64 e7348) rfl (q_load wd_3 rfl) (FP.ld X7345 hF7350) rfl ?_
            refine lpure (v := .int .i64 e7348) rfl (p_assign rfl) rfl rfl ?_
            refine lend (nseq (dseq (dreg ?_)))
            refine lpure (v := .func (.yield l6951) #[] #[]) rfl (p_move rfl) rfl rfl ?_
            refine lpure (v := .func (.func 55) #[.agg #[.int .i64 p6854.Topo.Nodes, .slice a6855 n6855 c6855, .slice a6856 n6856 c6856]] #[]) rfl (p_move rfl) rfl rfl ?_
            refine lpure (v := .int .i64 e7348) rfl (p_move rfl) rfl rfl ?_
            refine linl rfl rfl rfl rfl ca_55 rfl Tryz.func55 rfl rfl rfl rfl rfl ?_
            refine dseq (dreg ?_)
            refine lbox rfl rfl rfl rfl rfl X7345 (fun b7351 h7353 X7354 => ?_)
            refine lpure (v := .int .i64 0) rfl (p_assign rfl) rfl rfl ?_
            refine lend (nseq (dseq (dreg ?_)))
            refine lpure (v := .pointer (some ⟨b7351, 0, none⟩)) rfl (p_fa fo_60_0 rfl) rfl rfl ?_
            refine lread (v := .agg #[.int .i64 p6854.Topo.Nodes, .slice a6855 n6855 c6855, .slice a6856 n6856 c6856]) rfl (q_load wd_25 rfl) (St.ld X7354 (j := 0) rfl rfl) rfl ?_
            refine lpure (v := .int .i64 e7348) rfl (p_move rfl) rfl rfl ?_
            refine lcall rfl rfl ca_79 rfl rfl (f79_ok X7354 (p6854.Topo) e7348 H6855 H6856) rfl (fun e7355 v7356 h7357 hq7358 => ?_)
            cases hq7358
            refine lpure (v := .tuple #[.int .i64 e7355.1, .int .i64 e7355.2]) rfl (p_move rfl) rfl rfl ?_
            refine lpure (v := .int .i64 e7355.1) rfl (p_extract rfl) rfl rfl ?_
            refine lpure (v := .int .i64 e7355.2) rfl (p_extract rfl) rfl rfl ?_
            refine lpure (v := .int .i64 e7355.1) rfl (p_assign rfl) rfl rfl ?_
            refine lpure (v := .int .i64 e7355.2) rfl (p_assign rfl) rfl rfl ?_
            refine lend (nseq (dseq (dreg ?_)))
            refine lpure (v := .int .i64 e7355.1) rfl (p_move rfl) rfl rfl ?_
            refine lpure (v := .int .i64 e7355.1) rfl (p_assign rfl) rfl rfl ?_
            refine lend (nseq (dret ?_))
            refine kin_r (res_1 resT) ?_
            refine lround rfl rfl rfl rfl rfl rfl X7354 (j := 3) rfl Q6954 rfl rfl rfl rfl rfl (fun t7359 => ?_)
            refine dreg ?_
            refine lpure (v := .int .i64 e7355.1) rfl (p_assign rfl) rfl rfl ?_
            refine lend ?_
            refine basg X7354 (j := 3) rfl (fun h7360 X7361 => ?_)
            refine dblock (dseq (dreg ?_))
            refine lread (v := .slice a7253 n7253 c7253) rfl (q_load wd_26 rfl) (St.ld X7361 (j := 7) rfl rfl) rfl ?_
            refine lpure (v := .int .i64 (s7252.2.length : Int)) rfl (p_len rfl rfl rfl un_26 rfl) (OSl.len O7253) rfl ?_
            refine lpure (v := .int .i64 (s7252.2.length : Int)) rfl (p_assign rfl) rfl rfl ?_
            refine lend (nseq (dseq (dseq ?_)))
            refine ddraw 0 0 268435456 (by kernel_rfl) ?_
            refine sload (v := .slice a7253 n7253 c7253) rfl rfl (q_load wd_26 rfl) (St.ld X7361 (j := 7) rfl rfl) (same_self 20 rfl) rfl ?_
            refine spure (v := .int .i64 e7355.1) rfl (p_move rfl) (lo_t rfl rfl) rfl rfl ?_
            obtain ⟨φ7362, g7363, X7364, H7365⟩ := OSl.freeze X7361 (j := 1) rfl O7253
            refine scall (en := fun d => (.bool d)) rfl rfl ca_54 rfl rfl (f54_ok X7364 (s7252.2) (e7355.1) H7365) rfl (fun e7366 => ?_)
            refine spure (v := .bool e7366) rfl (p_move rfl) (lo_t rfl rfl) rfl rfl ?_
            refine sjoinM (τ := Bool × (List Int)) (σ := Blk) (fun s7383 blk7384 => [(2, .pointer (some ⟨b6859, 0, none⟩)), (3, .pointer (some ⟨b6863, 0, none⟩)), (5, .pointer (some ⟨b6939, 0, none⟩)), (6, .int .i64 e7355.1), (7, .int .i64 (s7252.2.length : Int)), (48, .bool s7383.1)]) (fun s7383 blk7384 hh => St φ h.n hh ([(some b7351, .cells [.int .i64 p6854.Topo.Nodes, .slice a6855 n6855 c6855, .slice a6856 n6856 c6856] 60 .exact), (ob7253, blk7384), (some b7032, (.cells [.int .i64 e7006] 3 .exact)), (some l6951, bsy q6952), (none, .dead), (some b6947, .cells [.slice a6858 n6858 c6858] 27 .exact), (some b6943, .cells [.int .i64 p6854.Topo.Nodes, .slice a6855 n6855 c6855, .slice a6856 n6856 c6856] 60 .exact), (some b6939, .cells [.slice a7253 n7253 c7253] 26 .exact), (some b6863, .cells [.slice a6858 n6858 c6858] 27 .exact), (some b6859, .cells [.int .i64 p6854.Topo.Nodes, .slice a6855 n6855 c6855, .slice a6856 n6856 c6856] 60 .exact)]) ∧ OSl (eInt .i64) φ 3 ob7253 blk7384 (.slice a7253 n7253 c7253) s7383.2) 18 22 ?_ ?_
            · rintro s7383 blk7384 t0 h7386 ⟨X7385, O7384⟩
              refine spure (v := .bool s7383.1) rfl (p_move rfl) (lo_t rfl rfl) rfl rfl ?_
              refine sjoinM (τ := Bool) (σ := Unit) (fun s7394 (_ : Unit) => [(5, .pointer (some ⟨b6939, 0, none⟩)), (6, .int .i64 e7355.1), (66, .bool s7394)]) (fun s7394 (_ : Unit) hh => St φ h.n hh ([(some b7351, .cells [.int .i64 p6854.Topo.Nodes, .slice a6855 n6855 c6855, .slice a6856 n6856 c6856] 60 .exact), (ob7253, blk7384), (some b7032, (.cells [.int .i64 e7006] 3 .exact)), (some l6951, bsy q6952), (none, .dead), (some b6947, .cells [.slice a6858 n6858 c6858] 27 .exact), (some b6943, .cells [.int .i64 p6854.Topo.Nodes, .slice a6855 n6855 c6855, .slice a6856 n6856 c6856] 60 .exact), (some b6939, .cells [.slice a7253 n7253 c7253] 26 .exact), (some b6863, .cells [.slice a6858 n6858 c6858] 27 .exact), (some b6859, .cells [.int .i64 p6854.Topo.Nodes, .slice a6855 n6855 c6855, .slice a6856 n6856 c6856] 60 .exact)])) 17 40 ?_ ?_
              · rintro s7394 _ t0 h7396 X7395
                refine send ?_
                refine nseq ?_
                refine dcond rfl rfl (fun k7397 => ?_) (fun k7397 => ?_)
                · refine dexit (eseq (eblock rfl ?_))
                  refine ernd X7395 (j := 3) rfl (fun h7398 X7399 => ?_)
                  refine lpure (v := .bool true) rfl (p_not rfl) rfl rfl ?_
                  refine lend (nseq (dcondT rfl rfl (dret (rblock (rseq (rloop (rblock ?_)))))))
                  refine kin_r res_0 ?_
                  refine rend_d X7399 (j := 3) rfl (.inr ⟨_, rfl, rfl⟩) (fun h7400 X7401 => ?_)
                  refine xblock (nseq (dseq (dreg ?_)))
                  refine lread (v := .slice a7253 n7253 c7253) rfl (q_load wd_26 rfl) (St.ld X7401 (j := 7) rfl rfl) rfl ?_
                  refine lpure (v := .int .i64 (s7383.2.length : Int)) rfl (p_len rfl rfl rfl un_26 rfl) (OSl.len O7384) rfl ?_
                  refine lread (v := .slice a6858 n6858 c6858) rfl (q_load wd_27 rfl) (St.ld X7401 (j := 8) rfl rfl) rfl ?_
                  refine lpure (v := .int .i64 (p6857.length : Int)) rfl (p_len rfl rfl rfl un_27 rfl) (RSl.lenC H6858) rfl ?_
                  refine lpure (v := .int .i64 (w64 ((p6857.length : Int) + 1))) rfl (p_add rfl) rfl rfl ?_
                  refine lpure (v := .bool (decide ((s7383.2.length : Int) = (w64 ((p6857.length : Int) + 1))))) rfl (p_eq rfl) rfl rfl ?_
                  refine lpure (v := .bool (decide ((s7383.2.length : Int) = (w64 ((p6857.length : Int) + 1))))) rfl (p_assign rfl) rfl rfl ?_
                  refine lend (nseq (dret (rscope ?_)))
                  exact kcut_r (res_1 resT) X7401 rfl rfl
                refine dskip (nseq (dreg ?_))
                refine lread (v := .slice a7253 n7253 c7253) rfl (q_load wd_26 rfl) (St.ld X7395 (j := 7) rfl rfl) rfl ?_
                refine lpure (v := .int .i64 e7355.1) rfl (p_move rfl) rfl rfl ?_
                obtain ⟨h7402, b7402, hv7402, X7402, O7402⟩ := OSl.lay (E := (eInt .i64)) (φ := φ) (cs := [.int .i64 e7355.1]) (l := [e7355.1]) (len := 1) (parts := [(0, .int .i64 e7355.1)]) un_26 ts_3 rfl rfl rfl tz_3 rfl rfl (show RowD (eInt .i64) φ [.int .i64 e7355.1] [e7355.1] from ⟨[.int .i64 e7355.1], _, rfl, rfl, rfl⟩) rfl rfl X7395
                refine lheap rfl (h_buildSlice rfl) hv7402 rfl ?_
                obtain ⟨ws7404, hw7404⟩ := OSl.read O7402 X7402 (k := 0) rfl (n := 1) rfl
                refine Sim.mustM fun k7404 => ?_
                obtain ⟨h7404, a7404, c7404, ob7404, blk7404, hv7404, X7404, O7404⟩ := OSl.append O7384 X7402 (j := 2) rfl hw7404 k7404 (ts := #[26, 26]) rfl un_26 (argOk_of ax_26_26) ts_3 rfl rfl tb_3 rfl tz_3 rfl
                refine lheap rfl (h_builtin rfl rfl) hv7404 rfl ?_
                refine lstore rfl ts_26 rfl rfl (j := 8) rfl rfl rfl rfl rfl rfl X7404 (fun h7405 X7406 => ?_)
                refine lend (nblock ?_)
                refine nrnd X7406 (j := 4) rfl (fun h7407 X7408 => ?_)
                refine lpure (v := .bool false) rfl (p_not rfl) rfl rfl ?_
                refine lend (nseq (dcondF rfl rfl (dskip (nblock (nseq (dreg ?_))))))
                refine lpure (v := .int .i64 (w64 (s7252.1 + 1))) rfl (p_add rfl) rfl rfl ?_
                refine lpure (v := .int .i64 (w64 (s7252.1 + 1))) rfl (p_move rfl) rfl rfl ?_
                refine lend ?_
                exact kbackM ih7343 ((w64 (s7252.1 + 1)), (s7383.2 ++ ([e7355.1]))) (a7404, (s7383.2.length + ([e7355.1]).length), c7404, ob7404, blk7404) (sub_cons rfl (sub_cons rfl (sub_cons rfl (sub_cons rfl (sub_cons rfl sub_nil))))) ⟨(St.pick X7408 (.skip _ (.skip _ (.keep _ (.keep _ (.keep _ (.none _ (.skip _ (.keep _ (.keep _ (.keep _ (.keep _ (.keep _ (.nil _)))))))))))))), O7404⟩
              intro j7409 J7410
              refine sif (j := 49) (show _ = Value.bool s7383.1 from rfl) (fun k7411 => ?_) (fun k7411 => ?_)
              · refine sskip rfl rfl ?_
                refine sskip rfl rfl ?_
                refine sskip rfl rfl ?_
                refine sskip rfl rfl ?_
                refine sskip rfl rfl ?_
                refine sskip rfl rfl ?_
                refine sskip rfl rfl ?_
                refine sskip rfl rfl ?_
                refine sskip rfl rfl ?_
                refine sskip rfl rfl ?_
                refine sskip rfl rfl ?_
                refine sskip rfl rfl ?_
                refine sskip rfl rfl ?_
                refine sskip rfl rfl ?_
                refine sskip rfl rfl ?_
                refine sskip rfl rfl ?_
                refine spure (v := .bool true) rfl (p_pick rfl) (lo_t rfl (lo_c (lo_t rfl rfl))) rfl rfl ?_
                exact sjmpM J7410 true () (sub_cons rfl (sub_cons rfl (sub_cons rfl sub_nil))) (St.pick X7385 (.keep _ (.keep _ (.keep _ (.keep _ (.none _ (.skip _ (.keep _ (.keep _ (.keep _ (.keep _ (.keep _ (.nil _)))))))))))))
              refine spure (v := .int .i64 (s7252.2.length : Int)) rfl (p_move rfl) (lo_t rfl rfl) rfl rfl ?_
              refine spure (v := .bool (decide (0 < (s7252.2.length : Int)))) rfl (p_gt rfl) (lo_t rfl (lo_c rfl)) rfl rfl ?_
              refine spure (v := .bool (decide (0 < (s7252.2.length : Int)))) rfl (p_move rfl) (lo_t rfl rfl) rfl rfl ?_
              refine sif (j := 52) (show _ = Value.bool (decide (0 < (s7252.2.length : Int))) from rfl) (fun k7412 => ?_) (fun k7412 => ?_)
              · refine spure (v := .int .i64 (s7252.2.length : Int)) rfl (p_move rfl) (lo_t rfl rfl) rfl rfl ?_
                refine sload (v := .slice a6858 n6858 c6858) rfl rfl (q_load wd_27 rfl) (St.ld X7385 (j := 8) rfl rfl) (same_self 20 rfl) rfl ?_
                refine spure (v := .int .i64 (p6857.length : Int)) rfl (p_len rfl rfl rfl un_27 rfl) (lo_t (lo_sl X7385 H6858) rfl) (RSl.lenC H6858) rfl ?_
                refine spure (v := .bool (decide ((s7252.2.length : Int) < (p6857.length : Int)))) rfl (p_lt rfl) (lo_t rfl (lo_t rfl rfl)) rfl rfl ?_
                refine spure (v := .bool (decide ((s7252.2.length : Int) < (p6857.length : Int)))) rfl (p_pick rfl) (lo_t rfl (lo_t rfl (lo_c rfl))) rfl rfl ?_
                refine spure (v := .bool (decide ((s7252.2.length : Int) < (p6857.length : Int)))) rfl (p_move rfl) (lo_t rfl rfl) rfl rfl ?_
                refine sif (j := 58) (show _ = Value.bool (decide ((s7252.2.length : Int) < (p6857.length : Int))) from rfl) (fun k7413 => ?_) (fun k7413 => ?_)
                · refine spure (v := .pointer (some ⟨b6859, 0, none⟩)) rfl (p_fa fo_60_0 rfl) (lo_t (lo_own X7385 (j := 9) (o := 0) (s := none) (f := 0) rfl) rfl) rfl rfl ?_
                  refine spure (v := .pointer (some ⟨b6859, 1, none⟩)) rfl (p_fa fo_25_1 rfl) (lo_t (lo_own X7385 (j := 9) (o := 0) (s := none) (f := 0) rfl) rfl) rfl rfl ?_
                  refine sload (v := .slice a6855 n6855 c6855) rfl rfl (q_load wd_22 rfl) (St.ld X7385 (j := 9) rfl rfl) (same_self 20 rfl) rfl ?_
                  refine spure (v := .int .i64 e7355.1) rfl (p_move rfl) (lo_t rfl rfl) rfl rfl ?_
                  refine Sim.bindM fun e7414 he7415 => ?_
                  obtain ⟨p7416, cs7416, hp7416, hF7416, hR7416⟩ := RSl.ia H6855 he7415 (kd := .i64) (n := 1) rfl
                  have hR7416 : _ = [(.bool e7414 : Value)] := hR7416
                  subst hR7416
                  refine spure (v := p7416) rfl (p_ia rs_22 rfl) (lo_t (lo_sl X7385 H6855) (lo_t rfl rfl)) hp7416 rfl ?_
                  refine sload (v := .bool e7414) rfl rfl (q_load wd_4 rfl) (FP.ld X7385 hF7416) (same_self 20 rfl) rfl ?_
                  refine spure (v := .bool e7414) rfl (p_pick rfl) (lo_t rfl (lo_t rfl (lo_c rfl))) rfl rfl ?_
                  refine spure (v := .bool e7414) rfl (p_pick rfl) (lo_t rfl (lo_c (lo_t rfl rfl))) rfl rfl ?_
                  exact sjmpM J7410 e7414 () (sub_cons rfl (sub_cons rfl (sub_cons rfl sub_nil))) (St.pick X7385 (.keep _ (.keep _ (.keep _ (.keep _ (.none _ (.skip _ (.keep _ (.keep _ (.keep _ (.keep _ (.keep _ (.nil _)))))))))))))
                refine sskip rfl rfl ?_
                refine sskip rfl rfl ?_
                refine sskip rfl rfl ?_
                refine sskip rfl rfl ?_
                refine sskip rfl rfl ?_
                refine sskip rfl rfl ?_
                refine spure (v := .bool false) rfl (p_pick rfl) (lo_t rfl (lo_t rfl (lo_c rfl))) rfl rfl ?_
                refine spure (v := .bool false) rfl (p_pick rfl) (lo_t rfl (lo_c (lo_t rfl rfl))) rfl rfl ?_
                exact sjmpM J7410 false () (sub_cons rfl (sub_cons rfl (sub_cons rfl sub_nil))) (St.pick X7385 (.keep _ (.keep _ (.keep _ (.keep _ (.none _ (.skip _ (.keep _ (.keep _ (.keep _ (.keep _ (.keep _ (.nil _)))))))))))))
              refine sskip rfl rfl ?_
              refine sskip rfl rfl ?_
              refine sskip rfl rfl ?_
              refine sskip rfl rfl ?_
              refine spure (v := .bool false) rfl (p_pick rfl) (lo_t rfl (lo_t rfl (lo_c rfl))) rfl rfl ?_
              refine spure (v := .bool false) rfl (p_move rfl) (lo_t rfl rfl) rfl rfl ?_
              refine sskip rfl rfl ?_
              refine sskip rfl rfl ?_
              refine sskip rfl rfl ?_
              refine sskip rfl rfl ?_
              refine sskip rfl rfl ?_
              refine sskip rfl rfl ?_
              refine spure (v := .bool false) rfl (p_pick rfl) (lo_t rfl (lo_t rfl (lo_c rfl))) rfl rfl ?_
              refine spure (v := .bool false) rfl (p_pick rfl) (lo_t rfl (lo_c (lo_t rfl rfl))) rfl rfl ?_
              exact sjmpM J7410 false () (sub_cons rfl (sub_cons rfl (sub_cons rfl sub_nil))) (St.pick X7385 (.keep _ (.keep _ (.keep _ (.keep _ (.none _ (.skip _ (.keep _ (.keep _ (.keep _ (.keep _ (.keep _ (.nil _)))))))))))))
            intro j7417 J7418
            refine sif (j := 30) (show _ = Value.bool e7366 from rfl) (fun k7419 => ?_) (fun k7419 => ?_)
            · refine sskip rfl rfl ?_
              refine sskip rfl rfl ?_
              refine sskip rfl rfl ?_
              refine sskip rfl rfl ?_
              refine sskip rfl rfl ?_
              refine sskip rfl rfl ?_
              refine sskip rfl rfl ?_
              refine sskip rfl rfl ?_
              refine sskip rfl rfl ?_
              refine sskip rfl rfl ?_
              refine sskip rfl rfl ?_
              refine sskip rfl rfl ?_
              refine sskip rfl rfl ?_
              refine sskip rfl rfl ?_
              refine sskip rfl rfl ?_
              refine sskip rfl rfl ?_
              refine sskip rfl rfl ?_
              refine spure (v := .bool true) rfl (p_pick rfl) (lo_t rfl (lo_c (lo_t rfl rfl))) rfl rfl ?_
              exact sjmpM J7418 (true, s7252.2) blk7253 (sub_cons rfl (sub_cons rfl (sub_cons rfl (sub_cons rfl (sub_cons rfl (sub_cons rfl sub_nil)))))) ⟨(St.pick X7361 (.keep _ (.keep _ (.keep _ (.keep _ (.none _ (.skip _ (.keep _ (.keep _ (.keep _ (.keep _ (.keep _ (.nil _))))))))))))), O7253⟩
            refine spure (v := .int .i64 (s7252.2.length : Int)) rfl (p_move rfl) (lo_t rfl rfl) rfl rfl ?_
            refine spure (v := .bool (decide (0 < (s7252.2.length : Int)))) rfl (p_gt rfl) (lo_t rfl (lo_c rfl)) rfl rfl ?_
            refine spure (v := .bool (decide (0 < (s7252.2.length : Int)))) rfl (p_move rfl) (lo_t rfl rfl) rfl rfl ?_
            refine sif (j := 33) (show _ = Value.bool (decide (0 < (s7252.2.length : Int))) from rfl) (fun k7420 => ?_) (fun k7420 => ?_)
            · refine sload (v := .agg #[.int .i64 p6854.Topo.Nodes, .slice a6855 n6855 c6855, .slice a6856 n6856 c6856]) rfl rfl (q_load wd_60 rfl) (St.ld X7361 (j := 9) rfl rfl) (same_self 20 rfl) rfl ?_
              refine sload (v := .slice a6858 n6858 c6858) rfl rfl (q_load wd_27 rfl) (St.ld X7361 (j := 8) rfl rfl) (same_self 20 rfl) rfl ?_
              refine spure (v := .int .i64 (s7252.2.length : Int)) rfl (p_move rfl) (lo_t rfl rfl) rfl rfl ?_
              refine spure (v := .int .i64 (w64 ((s7252.2.length : Int) - 1))) rfl (p_sub rfl) (lo_t rfl (lo_c rfl)) rfl rfl ?_
              refine Sim.bindM fun e7421 he7422 => ?_
              obtain ⟨p7423, cs7423, hp7423, hF7423, hR7423⟩ := RSl.ia H6858 he7422 (kd := .i64) (n := 1) rfl
              have hR7423 : _ = [(.int .i64 e7421 : Value)] := hR7423
              subst hR7423
              refine spure (v := p7423) rfl (p_ia rs_27 rfl) (lo_t (lo_sl X7361 H6858) (lo_t rfl rfl)) hp7423 rfl ?_
              refine sload (v := .int .i64 e7421) rfl rfl (q_load wd_3 rfl) (FP.ld X7361 hF7423) (same_self 20 rfl) rfl ?_
              refine scall (en := fun d => (.int .i64 d)) rfl rfl ca_56 rfl rfl (f56_ok X7361 p6854 e7421 H6855 H6856) rfl (fun e7424 => ?_)
              refine sload (v := .slice a7253 n7253 c7253) rfl rfl (q_load wd_26 rfl) (St.ld X7361 (j := 7) rfl rfl) (same_self 20 rfl) rfl ?_
              refine spure (v := .int .i64 (s7252.2.length : Int)) rfl (p_move rfl) (lo_t rfl rfl) rfl rfl ?_
              refine spure (v := .int .i64 (w64 ((s7252.2.length : Int) - 1))) rfl (p_sub rfl) (lo_t rfl (lo_c rfl)) rfl rfl ?_
              refine Sim.bindM fun e7428 he7429 => ?_
              obtain ⟨b7430, vs7430, m7430, off7430, cs7430, rfl, rfl, hp7430, hc7430, hR7430, hl7430, hm7430, hs7430⟩ := OSl.ia O7253 he7429 (kd := .i64) (n := 1) rfl
              have hR7430 : _ = [(.int .i64 e7428 : Value)] := hR7430
              subst hR7430
              refine spure (v := .pointer (some ⟨b7430, off7430, none⟩)) rfl (p_ia rs_26 rfl) (lo_t (lo_osl X7361 (j := 1) rfl O7253) (lo_t rfl rfl)) hp7430 rfl ?_
              refine sload (v := .int .i64 e7428) rfl rfl (q_load wd_3 rfl) (St.ld X7361 (j := 1) rfl (rdE1 hc7430 (k := 0) rfl rfl)) (same_self 20 rfl) rfl ?_
              refine spure (v := .bool (decide (e7424 ≠ e7428))) rfl (p_ne rfl) (lo_t rfl (lo_t rfl rfl)) rfl rfl ?_
              refine spure (v := .bool (decide (e7424 ≠ e7428))) rfl (p_pick rfl) (lo_t rfl (lo_t rfl (lo_c rfl))) rfl rfl ?_
              refine spure (v := .bool (decide (e7424 ≠ e7428))) rfl (p_pick rfl) (lo_t rfl (lo_c (lo_t rfl rfl))) rfl rfl ?_
              exact sjmpM J7418 ((decide (e7424 ≠ e7428)), s7252.2) (.cells vs7430 3 m7430) (sub_cons rfl (sub_cons rfl (sub_cons rfl (sub_cons rfl (sub_cons rfl (sub_cons rfl sub_nil)))))) ⟨(St.pick X7361 (.keep _ (.keep _ (.keep _ (.keep _ (.none _ (.skip _ (.keep _ (.keep _ (.keep _ (.keep _ (.keep _ (.nil _))))))))))))), O7253⟩
            refine sskip rfl rfl ?_
            refine sskip rfl rfl ?_
            refine sskip rfl rfl ?_
            refine sskip rfl rfl ?_
            refine sskip rfl rfl ?_
            refine sskip rfl rfl ?_
            refine sskip rfl rfl ?_
            refine sskip rfl rfl ?_
            refine sskip rfl rfl ?_
            refine sskip rfl rfl ?_
            refine sskip rfl rfl ?_
            refine sskip rfl rfl ?_
            refine sskip rfl rfl ?_
            refine spure (v := .bool false) rfl (p_pick rfl) (lo_t rfl (lo_t rfl (lo_c rfl))) rfl rfl ?_
            refine spure (v := .bool false) rfl (p_pick rfl) (lo_t rfl (lo_c (lo_t rfl rfl))) rfl rfl ?_
            exact sjmpM J7418 (false, s7252.2) blk7253 (sub_cons rfl (sub_cons rfl (sub_cons rfl (sub_cons rfl (sub_cons rfl (sub_cons rfl sub_nil)))))) ⟨(St.pick X7361 (.keep _ (.keep _ (.keep _ (.keep _ (.none _ (.skip _ (.keep _ (.keep _ (.keep _ (.keep _ (.keep _ (.nil _))))))))))))), O7253⟩
          refine dexit (eseq (eloop (xblock ?_)))
          refine kin_n res_0 ?_
          refine rend_n X7345 (j := 2) rfl (fun h7431 X7432 => ?_)
          refine nblock (nseq (dseq (dreg ?_)))
          refine lread (v := .slice a7253 n7253 c7253) rfl (q_load wd_26 rfl) (St.ld X7432 (j := 6) rfl rfl) rfl ?_
          refine lpure (v := .int .i64 (s7252.2.length : Int)) rfl (p_len rfl rfl rfl un_26 rfl) (OSl.len O7253) rfl ?_
          refine lread (v := .slice a6858 n6858 c6858) rfl (q_load wd_27 rfl) (St.ld X7432 (j := 7) rfl rfl) rfl ?_
          refine lpure (v := .int .i64 (p6857.length : Int)) rfl (p_len rfl rfl rfl un_27 rfl) (RSl.lenC H6858) rfl ?_
          refine lpure (v := .int .i64 (w64 ((p6857.length : Int) + 1))) rfl (p_add rfl) rfl rfl ?_
          refine lpure (v := .bool (decide ((s7252.2.length : Int) = (w64 ((p6857.length : Int) + 1))))) rfl (p_eq rfl) rfl rfl ?_
          refine lpure (v := .bool (decide ((s7252.2.length : Int) = (w64 ((p6857.length : Int) + 1))))) rfl (p_assign rfl) rfl rfl ?_
          refine lend (nseq (dret (rscope ?_)))
          exact kcut_r (res_1 resT) X7432 rfl rfl
        intro j7433 J7434
        refine sif (j := 49) (show _ = Value.bool s7019 from rfl) (fun k7435 => ?_) (fun k7435 => ?_)
        · refine sskip rfl rfl ?_
          refine sskip rfl rfl ?_
          refine sskip rfl rfl ?_
          refine sskip rfl rfl ?_
          refine sskip rfl rfl ?_
          refine sskip rfl rfl ?_
          refine sskip rfl rfl ?_
          refine sskip rfl rfl ?_
          refine sskip rfl rfl ?_
          refine sskip rfl rfl ?_
          refine sskip rfl rfl ?_
          refine sskip rfl rfl ?_
          refine sskip rfl rfl ?_
          refine sskip rfl rfl ?_
          refine sskip rfl rfl ?_
          refine sskip rfl rfl ?_
          refine spure (v := .bool true) rfl (p_pick rfl) (lo_t rfl (lo_c (lo_t rfl rfl))) rfl rfl ?_
          exact sjmpM J7434 true () (sub_cons rfl (sub_cons rfl (sub_cons rfl sub_nil))) (St.pick X7020 (.keep _ (.none _ (.skip _ (.keep _ (.keep _ (.keep _ (.keep _ (.keep _ (.nil _))))))))))
        refine spure (v := .int .i64 0) rfl (p_move rfl) (lo_t rfl rfl) rfl rfl ?_
        refine spure (v := .bool false) rfl (p_gt rfl) (lo_t rfl (lo_c rfl)) rfl rfl ?_
        refine spure (v := .bool false) rfl (p_move rfl) (lo_t rfl rfl) rfl rfl ?_
        refine sskip rfl rfl ?_
        refine sskip rfl rfl ?_
        refine sskip rfl rfl ?_
        refine sskip rfl rfl ?_
        refine spure (v := .bool false) rfl (p_pick rfl) (lo_t rfl (lo_t rfl (lo_c rfl))) rfl rfl ?_
        refine spure (v := .bool false) rfl (p_move rfl) (lo_t rfl rfl) rfl rfl ?_
        refine sskip rfl rfl ?_
        refine sskip rfl rfl ?_
        refine sskip rfl rfl ?_
        refine sskip rfl rfl ?_
        refine sskip rfl rfl ?_
        refine sskip rfl rfl ?_
        refine spure (v := .bool false) rfl (p_pick rfl) (lo_t rfl (lo_t rfl (lo_c rfl))) rfl rfl ?_
        refine spure (v := .bool false) rfl (p_pick rfl) (lo_t rfl (lo_c (lo_t rfl rfl))) rfl rfl ?_
        exact sjmpM J7434 false () (sub_cons rfl (sub_cons rfl (sub_cons rfl sub_nil))) (St.pick X7020 (.keep _ (.none _ (.skip _ (.keep _ (.keep _ (.keep _ (.keep _ (.keep _ (.nil _))))))))))
      intro j7436 J7437
      refine sif (j := 30) (show _ = Value.bool e7013 from rfl) (fun k7438 => ?_) (fun k7438 => ?_)
      · refine sskip rfl rfl ?_
        refine sskip rfl rfl ?_
        refine sskip rfl rfl ?_
        refine sskip rfl rfl ?_
        refine sskip rfl rfl ?_
        refine sskip rfl rfl ?_
        refine sskip rfl rfl ?_
        refine sskip rfl rfl ?_
        refine sskip rfl rfl ?_
        refine sskip rfl rfl ?_
        refine sskip rfl rfl ?_
        refine sskip rfl rfl ?_
        refine sskip rfl rfl ?_
        refine sskip rfl rfl ?_
        refine sskip rfl rfl ?_
        refine sskip rfl rfl ?_
        refine sskip rfl rfl ?_
        refine spure (v := .bool true) rfl (p_pick rfl) (lo_t rfl (lo_c (lo_t rfl rfl))) rfl rfl ?_
        exact sjmpM J7437 true () (sub_cons rfl (sub_cons rfl (sub_cons rfl (sub_cons rfl (sub_cons rfl (sub_cons rfl sub_nil)))))) (St.pick X7012 (.keep _ (.none _ (.skip _ (.keep _ (.keep _ (.keep _ (.keep _ (.keep _ (.nil _))))))))))
      refine spure (v := .int .i64 0) rfl (p_move rfl) (lo_t rfl rfl) rfl rfl ?_
      refine spure (v := .bool false) rfl (p_gt rfl) (lo_t rfl (lo_c rfl)) rfl rfl ?_
      refine spure (v := .bool false) rfl (p_move rfl) (lo_t rfl rfl) rfl rfl ?_
      refine sskip rfl rfl ?_
      refine sskip rfl rfl ?_
      refine sskip rfl rfl ?_
      refine sskip rfl rfl ?_
      refine sskip rfl rfl ?_
      refine sskip rfl rfl ?_
      refine sskip rfl rfl ?_
      refine sskip rfl rfl ?_
      refine sskip rfl rfl ?_
      refine sskip rfl rfl ?_
      refine sskip rfl rfl ?_
      refine sskip rfl rfl ?_
      refine sskip rfl rfl ?_
      refine spure (v := .bool false) rfl (p_pick rfl) (lo_t rfl (lo_t rfl (lo_c rfl))) rfl rfl ?_
      refine spure (v := .bool false) rfl (p_pick rfl) (lo_t rfl (lo_c (lo_t rfl rfl))) rfl rfl ?_
      exact sjmpM J7437 false () (sub_cons rfl (sub_cons rfl (sub_cons rfl (sub_cons rfl (sub_cons rfl (sub_cons rfl sub_nil)))))) (St.pick X7012 (.keep _ (.none _ (.skip _ (.keep _ (.keep _ (.keep _ (.keep _ (.keep _ (.nil _))))))))))
    intro j7439 J7440
    refine lif (i := 16) (show _ = Value.bool s6868 from rfl) (fun k7441 => ?_) (fun k7441 => ?_)
    · refine lskip rfl rfl ?_
      refine lskip rfl rfl ?_
      refine lskip rfl rfl ?_
      refine lpure (v := .bool true) rfl (p_pick rfl) rfl rfl ?_
      exact ljmpM J7440 true () (sub_cons rfl (sub_cons rfl (sub_cons rfl sub_nil))) X6869
    refine lread (v := .slice a6858 n6858 c6858) rfl (q_load wd_27 rfl) (St.ld X6869 (j := 0) rfl rfl) rfl ?_
    refine lpure (v := .func (.func 72) #[] #[.pointer (some ⟨b6859, 0, none⟩)]) rfl (p_makeFunc rfl) rfl rfl ?_
    refine linl rfl rfl rfl rfl ca_46 rfl Tryz.func46 rfl rfl rfl rfl rfl ?_
    refine dseq (dreg ?_)
    refine lpure (v := .bool false) rfl (p_assign rfl) rfl rfl ?_
    refine lend (nseq (dseq (dreg ?_)))
    refine lpure (v := .slice a6858 n6858 c6858) rfl (p_move rfl) rfl rfl ?_
    refine lpure (v := .func (.func 72) #[] #[.pointer (some ⟨b6859, 0, none⟩)]) rfl (p_move rfl) rfl rfl ?_
    refine linl rfl rfl rfl rfl ca_73 rfl Tryz.func73 rfl rfl rfl rfl rfl ?_
    refine dseq (dreg ?_)
    refine lpure (v := .int .i64 0) rfl (p_assign rfl) rfl rfl ?_
    refine lend (nseq (dseq (dseq (dreg ?_))))
    refine lpure (v := .slice a6858 n6858 c6858) rfl (p_move rfl) rfl rfl ?_
    refine lpure (v := .int .i64 (p6857.length : Int)) rfl (p_len rfl rfl rfl un_27 rfl) (RSl.lenC H6858) rfl ?_
    refine lpure (v := .int .i64 0) rfl (p_move rfl) rfl rfl ?_
    refine lend (nseq (dblock ?_))
    refine dloopM (τ := Int) (σ := Unit) (fun s7472 (_ : Unit) => [(0, .slice a6858 n6858 c6858), (1, .func (.func 72) #[] #[.pointer (some ⟨b6859, 0, none⟩)]), (7, .int .i64 (p6857.length : Int)), (8, .int .i64 s7472)]) (fun s7472 (_ : Unit) hh => St φ h.n hh ([(some b6863, .cells [.slice a6858 n6858 c6858] 27 .exact), (some b6859, .cells [.int .i64 p6854.Topo.Nodes, .slice a6855 n6855 c6855, .slice a6856 n6856 c6856] 60 .exact)])) 0 () (sub_cons rfl (sub_cons rfl (sub_cons rfl (sub_cons rfl sub_nil)))) X6869 ?_
    rintro n7489 ih7488 s7472 _ t0 h7491 X7490
    refine dseq (dreg ?_)
    refine lpure (v := .bool (decide (s7472 < (p6857.length : Int)))) rfl (p_lt rfl) rfl rfl ?_
    refine lend (nseq (dseq ?_))
    refine dcond rfl rfl (fun k7492 => ?_) (fun k7492 => ?_)
    · refine dskip (nseq (dseq (dblock (dseq (dreg ?_)))))
      refine lpure (v := .int .i64 s7472) rfl (p_move rfl) rfl rfl ?_
      refine lpure (v := .int .i64 s7472) rfl (p_assign rfl) rfl rfl ?_
      refine lend (nseq (dseq (dreg ?_)))
      refine lpure (v := .func (.func 72) #[] #[.pointer (some ⟨b6859, 0, none⟩)]) rfl (p_move rfl) rfl rfl ?_
      refine lpure (v := .slice a6858 n6858 c6858) rfl (p_move rfl) rfl rfl ?_
      refine lpure (v := .int .i64 s7472) rfl (p_move rfl) rfl rfl ?_
      refine Sim.bindM fun e7493 he7494 => ?_
      obtain ⟨p7495, cs7495, hp7495, hF7495, hR7495⟩ := RSl.ia H6858 he7494 (kd := .i64) (n := 1) rfl
      have hR7495 : _ = [(.int .i64 e7493 : Value)] := hR7495
      subst hR7495
      refine lpure (v := p7495) rfl (p_ia rs_27 rfl) hp7495 rfl ?_
      refine lread (v := .int .i64 e7493) rfl (q_load wd_3 rfl) (FP.ld X7490 hF7495) rfl ?_
      refine linl rfl rfl rfl rfl ca_72 rfl Tryz.func72 rfl rfl rfl rfl rfl ?_
      refine dseq (dreg ?_)
      refine lpure (v := .bool false) rfl (p_assign rfl) rfl rfl ?_
      refine lend (nseq (dseq (dreg ?_)))
      refine lpure (v := .int .i64 e7493) rfl (p_move rfl) rfl rfl ?_
      refine lpure (v := .bool (decide (e7493 < 0))) rfl (p_lt rfl) rfl rfl ?_
      refine lpure (v := .bool (decide (e7493 < 0))) rfl (p_move rfl) rfl rfl ?_
      refine lsh (τ := Bool) (σ := Unit) (fun s7497 (_ : Unit) => [(14, .bool s7497)]) (fun s7497 (_ : Unit) hh => St φ h.n hh ([(some b6863, .cells [.slice a6858 n6858 c6858] 27 .exact), (some b6859, .cells [.int .i64 p6854.Topo.Nodes, .slice a6855 n6855 c6855, .slice a6856 n6856 c6856] 60 .exact)])) 8 ?_ ?_
      · rintro s7497 _ t0 h7499 X7498
        refine lpure (v := .bool s7497) rfl (p_assign rfl) rfl rfl ?_
        refine lend (nseq (dret ?_))
        refine kin_r (res_1 resT) ?_
        refine lend (nseq ?_)
        refine dcond rfl rfl (fun k7500 => ?_) (fun k7500 => ?_)
        · refine dseq (dreg ?_)
          refine lpure (v := .int .i64 s7472) rfl (p_move rfl) rfl rfl ?_
          refine lpure (v := .int .i64 s7472) rfl (p_assign rfl) rfl rfl ?_
          refine lend (nseq (dret (rblock (rseq (rloop (rblock (rseq ?_)))))))
          refine kin_r (res_1 resT) ?_
          refine lpure (v := .bool (decide (0 ≤ s7472))) rfl (p_ge rfl) rfl rfl ?_
          refine lpure (v := .bool (decide (0 ≤ s7472))) rfl (p_assign rfl) rfl rfl ?_
          refine lend (nseq (dret ?_))
          refine kin_r (res_1 resT) ?_
          refine lpure (v := .bool (decide (0 ≤ s7472))) rfl (p_pick rfl) rfl rfl ?_
          exact ljmpM J7440 (decide (0 ≤ s7472)) () (sub_cons rfl (sub_cons rfl (sub_cons rfl sub_nil))) X7498
        refine dskip (nblock (nseq (dreg ?_)))
        refine lpure (v := .int .i64 (w64 (s7472 + 1))) rfl (p_add rfl) rfl rfl ?_
        refine lpure (v := .int .i64 (w64 (s7472 + 1))) rfl (p_move rfl) rfl rfl ?_
        refine lend ?_
        exact kbackM ih7488 (w64 (s7472 + 1)) () (sub_cons rfl (sub_cons rfl (sub_cons rfl (sub_cons rfl sub_nil)))) X7498
      intro j7501 J7502
      refine lcase (i := 6) (show _ = Value.bool (decide (e7493 < 0)) from rfl) (fun k7503 => ?_) (fun k7503 => ?_)
      · refine lskip rfl rfl ?_
        refine lskip rfl rfl ?_
        refine lskip rfl rfl ?_
        refine lskip rfl rfl ?_
        refine lskip rfl rfl ?_
        refine lskip rfl rfl ?_
        refine lskip rfl rfl ?_
        refine lpure (v := .bool true) rfl (p_pick rfl) rfl rfl ?_
        refine Sim.of_eq (congrArg j7501 (show ((decide (e7493 < 0)) || (decide ((w64 (2 * (p6854.Topo.Links.length : Int))) ≤ e7493))) = true from by rw [k7503] <;> rfl)) ?_
        exact ljmpM J7502 true () (sub_cons rfl sub_nil) X7490
      refine lpure (v := .int .i64 e7493) rfl (p_move rfl) rfl rfl ?_
      refine lpure (v := .pointer (some ⟨b6859, 0, none⟩)) rfl (p_fa fo_60_0 rfl) rfl rfl ?_
      refine lpure (v := .pointer (some ⟨b6859, 2, none⟩)) rfl (p_fa fo_25_2 rfl) rfl rfl ?_
      refine lread (v := .slice a6856 n6856 c6856) rfl (q_load wd_23 rfl) (St.ld X7490 (j := 1) rfl rfl) rfl ?_
      refine lpure (v := .int .i64 (p6854.Topo.Links.length : Int)) rfl (p_len rfl rfl rfl un_23 rfl) (RSl.lenC H6856) rfl ?_
      refine lpure (v := .int .i64 (w64 (2 * (p6854.Topo.Links.length : Int)))) rfl (p_mul rfl) rfl rfl ?_
      refine lpure (v := .bool (decide ((w64 (2 * (p6854.Topo.Links.length : Int))) ≤ e7493))) rfl (p_ge rfl) rfl rfl ?_
      refine lpure (v := .bool (decide ((w64 (2 * (p6854.Topo.Links.length : Int))) ≤ e7493))) rfl (p_pick rfl) rfl rfl ?_
      refine Sim.of_eq (congrArg j7501 (show ((decide (e7493 < 0)) || (decide ((w64 (2 * (p6854.Topo.Links.length : Int))) ≤ e7493))) = (decide ((w64 (2 * (p6854.Topo.Links.length : Int))) ≤ e7493)) from by rw [k7503] <;> rfl)) ?_
      exact ljmpM J7502 (decide ((w64 (2 * (p6854.Topo.Links.length : Int))) ≤ e7493)) () (sub_cons rfl sub_nil) X7490
    refine dexit (eseq (eloop (xblock (nseq (dseq (dreg ?_))))))
    refine lpure (v := .int .i64 (-1)) rfl (p_assign rfl) rfl rfl ?_
    refine lend (nseq (dret ?_))
    refine kin_r (res_1 resT) ?_
    refine lpure (v := .bool false) rfl (p_ge rfl) rfl rfl ?_
    refine lpure (v := .bool false) rfl (p_assign rfl) rfl rfl ?_
    refine lend (nseq (dret ?_))
    refine kin_r (res_1 resT) ?_
    refine lpure (v := .bool false) rfl (p_pick rfl) rfl rfl ?_
    exact ljmpM J7440 false () (sub_cons rfl (sub_cons rfl (sub_cons rfl sub_nil))) X7490
  intro j7504 J7505
  refine lcase (i := 11) (show _ = Value.bool (decide ((p6857.length : Int) < 1)) from rfl) (fun k7506 => ?_) (fun k7506 => ?_)
  · refine lskip rfl rfl ?_
    refine lskip rfl rfl ?_
    refine lskip rfl rfl ?_
    refine lpure (v := .bool true) rfl (p_pick rfl) rfl rfl ?_
    refine Sim.of_eq (congrArg j7504 (show ((decide ((p6857.length : Int) < 1)) || (decide (8 < (p6857.length : Int)))) = true from by rw [k7506] <;> rfl)) ?_
    exact ljmpM J7505 true () (sub_cons rfl (sub_cons rfl (sub_cons rfl sub_nil))) X6866
  refine lread (v := .slice a6858 n6858 c6858) rfl (q_load wd_27 rfl) (St.ld X6866 (j := 0) rfl rfl) rfl ?_
  refine lpure (v := .int .i64 (p6857.length : Int)) rfl (p_len rfl rfl rfl un_27 rfl) (RSl.lenC H6858) rfl ?_
  refine lpure (v := .bool (decide (8 < (p6857.length : Int)))) rfl (p_gt rfl) rfl rfl ?_
  refine lpure (v := .bool (decide (8 < (p6857.length : Int)))) rfl (p_pick rfl) rfl rfl ?_
  refine Sim.of_eq (congrArg j7504 (show ((decide ((p6857.length : Int) < 1)) || (decide (8 < (p6857.length : Int)))) = (decide (8 < (p6857.length : Int))) from by rw [k7506] <;> rfl)) ?_
  exact ljmpM J7505 (decide (8 < (p6857.length : Int))) () (sub_cons rfl (sub_cons rfl (sub_cons rfl sub_nil))) X6866
/-! isochron/route.Check -/
theorem f15_ok {n : Nat} {φ : Fz} {lo : Nat} {h : Heap} {own : OwnL}  {a71 : Option Addr} {n71 c71 : Nat} {a72 : Option Addr} {n72 c72 : Nat} {a74 : Option Addr} {n74 c74 : Nat} (X : St φ lo h (own)) (p70 : ApiTopo) (p73 : (List Int)) (H71 : RSl eBool φ (.slice a71 n71 c71) p70.Station) (H72 : RSl eApiLink φ (.slice a72 n72 c72) p70.Links) (H74 : RSl (eInt .i64) φ (.slice a74 n74 c74) p73) : Sim ((recN Tryz.prog LL cutF (n + 13)).call 15 #[(.agg #[.int .i64 p70.Nodes, .slice a71 n71 c71, .slice a72 n72 c72]), (.slice a74 n74 c74)] h) (m_route_Check p70 p73) (fun (d : Int) p => p = (.int .i64 d, h)) := by
  refine fcut Tryz.func15 rfl rfl rfl rfl X ?_
  intro h0 X0
  refine dseq (dreg ?_)
  refine lbox rfl rfl rfl rfl rfl X0 (fun b75 h77 X78 => ?_)
  refine lpure (v := .int .i64 0) rfl (p_assign rfl) rfl rfl ?_
  refine lend (nseq (dseq (dseq (dreg ?_))))
  refine lread (v := .agg #[.int .i64 p70.Nodes, .slice a71 n71 c71, .slice a72 n72 c72]) rfl (q_load wd_25 rfl) (St.ld X78 (j := 0) rfl rfl) rfl ?_
  refine lcall rfl rfl ca_39 rfl rfl (f39_ok X78 p70 H71 H72) rfl (fun e6843 v6844 h6845 hq6846 => ?_)
  cases hq6846
  refine lpure (v := .int .i64 e6843) rfl (p_assign rfl) rfl rfl ?_
  refine lend (nseq (dseq (dreg ?_)))
  refine lpure (v := .int .i64 e6843) rfl (p_move rfl) rfl rfl ?_
  refine lpure (v := .bool (decide (e6843 ≠ 0))) rfl (p_ne rfl) rfl rfl ?_
  refine lend (nseq ?_)
  refine dcond rfl rfl (fun k6847 => ?_) (fun k6847 => ?_)
  · refine dseq (dreg ?_)
    refine lpure (v := .int .i64 e6843) rfl (p_move rfl) rfl rfl ?_
    refine lpure (v := .int .i64 e6843) rfl (p_assign rfl) rfl rfl ?_
    refine lend (nseq (dret (rseq ?_)))
    exact kcut_r (res_1 resT) X78 rfl rfl
  refine dskip (nseq (dseq (dseq (dreg ?_))))
  refine lread (v := .agg #[.int .i64 p70.Nodes, .slice a71 n71 c71, .slice a72 n72 c72]) rfl (q_load wd_25 rfl) (St.ld X78 (j := 0) rfl rfl) rfl ?_
  refine lpure (v := .agg #[.int .i64 p70.Nodes, .slice a71 n71 c71, .slice a72 n72 c72]) rfl (p_build rfl) (build_st' tz_60 pl_60 rfl) rfl ?_
  refine lalloc rfl tz_60 rfl rfl rfl X78 (fun b6848 h6850 X6851 => ?_)
  refine lstore rfl ts_60 rfl rfl (j := 0) rfl rfl rfl rfl rfl rfl X6851 (fun h6852 X6853 => ?_)
  refine lend (nseq (dseq (dreg ?_)))
  refine lread (v := .agg #[.int .i64 p70.Nodes, .slice a71 n71 c71, .slice a72 n72 c72]) rfl (q_load wd_60 rfl) (St.ld X6853 (j := 0) rfl rfl) rfl ?_
  refine lpure (v := .slice a74 n74 c74) rfl (p_move rfl) rfl rfl ?_
  refine lcall rfl rfl ca_40 rfl rfl (f40_ok X6853 ((RouteWalk.mk p70)) p73 H71 H72 H74) rfl (fun e7507 v7508 h7509 hq7510 => ?_)
  cases hq7510
  refine lpure (v := .bool (!e7507)) rfl (p_not rfl) rfl rfl ?_
  refine lend (nseq ?_)
  refine dcond rfl rfl (fun k7511 => ?_) (fun k7511 => ?_)
  · refine dseq (dreg ?_)
    refine lpure (v := .int .i64 310) rfl (p_assign rfl) rfl rfl ?_
    refine lend (nseq (dret (rseq ?_)))
    exact kcut_r (res_1 resT) X6853 rfl rfl
  refine dskip (nseq (dseq (dreg ?_)))
  refine lpure (v := .int .i64 0) rfl (p_assign rfl) rfl rfl ?_
  refine lend (nseq (dret ?_))
  exact kcut_r (res_1 resT) X6853 rfl rfl
/-! (isochron/route.walk).list -/
theorem f30_ok {n : Nat} {φ : Fz} {lo : Nat} {h : Heap} {own : OwnL}  {a7682 : Option Addr} {n7682 c7682 : Nat} {a7683 : Option Addr} {n7683 c7683 : Nat} {a7685 : Option Addr} {n7685 c7685 : Nat} (X : St φ lo h (own)) (p7681 : RouteWalk) (p7684 : (List Int)) (H7682 : RSl eBool φ (.slice a7682 n7682 c7682) p7681.Topo.Station) (H7683 : RSl eApiLink φ (.slice a7683 n7683 c7683) p7681.Topo.Links) (H7685 : RSl (eInt .i64) φ (.slice a7685 n7685 c7685) p7684) : Sim ((recN Tryz.prog LL cutF (n + 13)).call 30 #[(.agg #[.int .i64 p7681.Topo.Nodes, .slice a7682 n7682 c7682, .slice a7683 n7683 c7683]), (.slice a7685 n7685 c7685)] h) (m_route_walk_list p7681 p7684) (fun (d : (List Int)) p => ∃ φ2 : Fz, ∃ a7841 : Option Addr, ∃ n7841 : Nat, ∃ c7841 : Nat, ∃ ob7841 : Option Nat, ∃ blk7841 : Blk, Fz.le φ φ2 ∧ St φ2 lo p.2 ((ob7841, blk7841) :: own) ∧ p.1 = .slice a7841 n7841 c7841 ∧ OSl (eInt .i64) φ2 3 ob7841 blk7841 (.slice a7841 n7841 c7841) d) := by
  refine fopen Tryz.func30 rfl rfl rfl rfl ?_
  refine dseq (dreg ?_)
  refine lbox rfl rfl rfl rfl rfl X (fun b7686 h7688 X7689 => ?_)
  refine lpure (v := .slice none 0 0) rfl (p_assign rfl) rfl rfl ?_
  refine lend (nseq (dseq (dreg ?_)))
  refine lread (v := .agg #[.int .i64 p7681.Topo.Nodes, .slice a7682 n7682 c7682, .slice a7683 n7683 c7683]) rfl (q_load wd_60 rfl) (St.ld X7689 (j := 0) rfl rfl) rfl ?_
  refine lpure (v := .slice a7685 n7685 c7685) rfl (p_move rfl) rfl rfl ?_
  refine linl rfl rfl rfl rfl ca_59 rfl Tryz.func59 rfl rfl rfl rfl rfl ?_
  refine dseq (dreg ?_)
  refine lbox rfl rfl rfl rfl rfl X7689 (fun b7690 h7692 X7693 => ?_)
  refine lbox rfl rfl rfl rfl rfl X7693 (fun b7694 h7696 X7697 => ?_)
  refine lpure (v := .nilFunc) rfl (p_assign rfl) rfl rfl ?_
  refine lend (nseq (dseq (dreg ?_)))
  refine lpure (v := .func (.func 82) #[] #[.pointer (some ⟨b7690, 0, none⟩), .pointer (some ⟨b7694, 0, none⟩)]) rfl (p_makeFunc rfl) rfl rfl ?_
  refine lpure (v := .func (.func 82) #[] #[.pointer (some ⟨b7690, 0, none⟩), .pointer (some ⟨b7694, 0, none⟩)]) rfl (p_assign rfl) rfl rfl ?_
  refine lend (nseq (dret ?_))
  refine kin_r (res_1 resT) ?_
  refine linl rfl rfl rfl rfl ca_58 rfl Tryz.func58 rfl rfl rfl rfl rfl ?_
  refine dseq (dreg ?_)
  refine lpure (v := .slice none 0 0) rfl (p_assign rfl) rfl rfl ?_
  refine lend (nseq (dseq (dreg ?_)))
  refine lpure (v := .func (.func 82) #[] #[.pointer (some ⟨b7690, 0, none⟩), .pointer (some ⟨b7694, 0, none⟩)]) rfl (p_move rfl) rfl rfl ?_
  refine linl rfl rfl rfl rfl ca_81 rfl Tryz.func81 rfl rfl rfl rfl rfl ?_
  refine dseq (dreg ?_)
  refine lbox rfl rfl rfl rfl rfl X7697 (fun b7698 h7700 X7701 => ?_)
  refine lpure (v := .slice none 0 0) rfl (p_assign rfl) rfl rfl ?_
  refine lend (nseq (dseq (dseq (dreg ?_))))
  refine lpure (v := .func (.func 82) #[] #[.pointer (some ⟨b7690, 0, none⟩), .pointer (some ⟨b7694, 0, none⟩)]) rfl (p_move rfl) rfl rfl ?_
  refine lend (nseq (dblock ?_))
  refine drange rfl rfl ca_82 Tryz.func82 rfl rfl X7701 (fun _ => rfl) ?_
  intro l7702 q7703 df7704 h7706 Q7705 X7707
  refine dseq (dreg ?_)
  refine lread (v := .agg #[.int .i64 p7681.Topo.Nodes, .slice a7682 n7682 c7682, .slice a7683 n7683 c7683]) rfl (q_load wd_60 rfl) (St.ld X7707 (j := 4) rfl rfl) rfl ?_
  refine lpure (v := .func (.func 55) #[.agg #[.int .i64 p7681.Topo.Nodes, .slice a7682 n7682 c7682, .slice a7683 n7683 c7683]] #[]) rfl (p_makeFunc rfl) rfl rfl ?_
  refine lpure (v := .func (.func 55) #[.agg #[.int .i64 p7681.Topo.Nodes, .slice a7682 n7682 c7682, .slice a7683 n7683 c7683]] #[]) rfl (p_assign rfl) rfl rfl ?_
  refine lend (nseq (dseq (dseq ?_)))
  refine dgo_start (n := 8) rfl (by kernel_rfl) ?_
  refine gpure (v := .func (.yield l7702) #[] #[]) rfl (p_move rfl) (lo_t (and_tt (lo_own X7707 (j := 0) (o := 0) (s := none) (f := 0) rfl) rfl) rfl) rfl rfl ?_
  refine gload (v := .agg #[.int .i64 p7681.Topo.Nodes, .slice a7682 n7682 c7682, .slice a7683 n7683 c7683]) rfl (q_load wd_60 rfl) (St.ld X7707 (j := 4) rfl rfl) rfl ?_
  refine gload (v := .slice a7685 n7685 c7685) rfl (q_load wd_27 rfl) (St.ld X7707 (j := 3) rfl rfl) rfl ?_
  refine Sim.bindM fun e7710 he7711 => ?_
  obtain ⟨p7712, cs7712, hp7712, hF7712, hR7712⟩ := RSl.ia H7685 he7711 (kd := .i64) (n := 1) rfl
  have hR7712 : _ = [(.int .i64 e7710 : Value)] := hR7712
  subst hR7712
  refine gpure (v := p7712) rfl (p_ia rs_27 rfl) (lo_t (lo_sl X7707 H7685) (lo_c rfl)) hp7712 rfl ?_
  refine gload (v := .int .i64 e7710) rfl (q_load wd_3 rfl) (FP.ld X7707 hF7712) rfl ?_
  refine gwait rfl (still_call rfl rfl ca_56 rfl) rfl ?_
  refine dgo_skip ?_
  refine dgo_skip ?_
  refine gcall (m := 7) [false, false, false] (rk_cons (q_load wd_3 rfl) (FP.ld X7707 hF7712) (same_self 20 rfl) (rk_cons (q_load wd_27 rfl) (St.ld X7707 (j := 3) rfl rfl) (same_self 20 rfl) (rk_cons (q_load wd_60 rfl) (St.ld X7707 (j := 4) rfl rfl) (same_self 20 rfl) rk_nil))) rfl rfl rfl rfl rfl ca_56 rfl rfl (f56_ok X7707 p7681 e7710 H7682 H7683) rfl (fun e7713 v7714 h7715 hq7716 => ?_)
  cases hq7716
  refine dgo_skip ?_
  refine dgo_skip ?_
  refine dgo_skip ?_
  refine dgo_skip ?_
  refine dgo_skip ?_
  refine dgo_skip ?_
  refine gwait rfl (still_act rfl).1 rfl ?_
  refine dgo_skip ?_
  refine ground (m := 6) [] rk_nil rfl rfl rfl rfl rfl rfl rfl rfl rfl X7707 (j := 0) rfl Q7705 rfl rfl rfl rfl rfl (fun t7717 => ?_)
  refine dreg ?_
  refine lpure (v := .int .i64 e7713) rfl (p_assign rfl) rfl rfl ?_
  refine lend ?_
  refine basg X7707 (j := 0) rfl (fun h7718 X7719 => ?_)
  refine dblock (dreg ?_)
  refine lread (v := .slice none 0 0) rfl (q_load wd_26 rfl) (St.ld X7719 (j := 2) rfl rfl) rfl ?_
  refine lpure (v := .int .i64 e7713) rfl (p_move rfl) rfl rfl ?_
  obtain ⟨h7720, b7720, hv7720, X7720, O7720⟩ := OSl.lay (E := (eInt .i64)) (φ := φ) (cs := [.int .i64 e7713]) (l := [e7713]) (len := 1) (parts := [(0, .int .i64 e7713)]) un_26 ts_3 rfl rfl rfl tz_3 rfl rfl (show RowD (eInt .i64) φ [.int .i64 e7713] [e7713] from ⟨[.int .i64 e7713], _, rfl, rfl, rfl⟩) rfl rfl X7719
  refine lheap rfl (h_buildSlice rfl) hv7720 rfl ?_
  have X7723 := St.pick X7720 (.none .dead (.refl _))
  obtain ⟨ws7724, hw7724⟩ := OSl.read O7720 X7723 (k := 1) rfl (n := 1) rfl
  refine Sim.mustM fun k7724 => ?_
  obtain ⟨h7724, a7724, c7724, ob7724, blk7724, hv7724, X7724, O7724⟩ := OSl.append (show OSl (eInt .i64) φ 3 none .dead (.slice none 0 0) [] from OSl.nil) X7723 (j := 0) rfl hw7724 k7724 (ts := #[26, 26]) rfl un_26 (argOk_of ax_26_26) ts_3 rfl rfl tb_3 rfl tz_3 rfl
  refine lheap rfl (h_builtin rfl rfl) hv7724 rfl ?_
  refine lstore rfl ts_26 rfl rfl (j := 4) rfl rfl rfl rfl rfl rfl X7724 (fun h7725 X7726 => ?_)
  refine lend (nblock ?_)
  refine nrnd X7726 (j := 2) rfl (fun h7727 X7728 => ?_)
  refine dgo_skip ?_
  refine dgo_skip ?_
  refine dgo_skip ?_
  refine dgo_skip ?_
  refine dgo_skip ?_
  refine dgo_skip ?_
  refine dgo_skip ?_
  refine gpure (v := .bool false) rfl (p_not rfl) (lo_t rfl rfl) rfl rfl ?_
  refine gend rk_nil ?_
  refine nseq (dcondF rfl rfl (dskip (nseq (dseq (dreg ?_)))))
  refine lread (v := .slice a7685 n7685 c7685) rfl (q_load wd_27 rfl) (St.ld X7728 (j := 5) rfl rfl) rfl ?_
  refine lpure (v := .int .i64 (p7684.length : Int)) rfl (p_len rfl rfl rfl un_27 rfl) (RSl.lenC H7685) rfl ?_
  refine lpure (v := .int .i64 0) rfl (p_move rfl) rfl rfl ?_
  refine lend (nseq (dblock ?_))
  refine dloopM (τ := Int × (List Int)) (σ := Option Addr × Nat × Nat × Option Nat × Blk) (fun s7784 (a7785, n7785, c7785, ob7785, blk7785) => [(0, .func (.yield l7702) #[] #[]), (4, .func (.func 55) #[.agg #[.int .i64 p7681.Topo.Nodes, .slice a7682 n7682 c7682, .slice a7683 n7683 c7683]] #[]), (17, .slice a7685 n7685 c7685), (18, .int .i64 (p7684.length : Int)), (19, .int .i64 s7784.1)]) (fun s7784 (a7785, n7785, c7785, ob7785, blk7785) hh => St φ lo hh ((ob7785, blk7785) :: (some b7720, (.cells [.int .i64 e7713] 3 .exact)) :: (some l7702, rdy q7703) :: (none, .dead) :: (some b7698, .cells [.slice a7785 n7785 c7785] 26 .exact) :: (some b7694, .cells [.slice a7685 n7685 c7685] 27 .exact) :: (some b7690, .cells [.int .i64 p7681.Topo.Nodes, .slice a7682 n7682 c7682, .slice a7683 n7683 c7683] 60 .exact) :: (some b7686, .cells [.int .i64 p7681.Topo.Nodes, .slice a7682 n7682 c7682, .slice a7683 n7683 c7683] 60 .exact) :: own) ∧ OSl (eInt .i64) φ 3 ob7785 blk7785 (.slice a7785 n7785 c7785) s7784.2) (0, (([] : List Int) ++ ([e7713]))) (a7724, (([] : List Int).length + ([e7713]).length), c7724, ob7724, blk7724) (sub_cons rfl (sub_cons rfl (sub_cons rfl (sub_cons rfl (sub_cons rfl sub_nil))))) ⟨(St.pick X7728 (.keep _ (.keep _ (.keep _ (.none _ (.skip _ (.keep _ (.keep _ (.keep _ (.keep _ (.refl _))))))))))), O7724⟩ ?_
  rintro n7814 ih7813 s7784 ⟨a7785, n7785, c7785, ob7785, blk7785⟩ t0 h7816 ⟨X7815, O7785⟩
  refine dseq (dreg ?_)
  refine lpure (v := .bool (decide (s7784.1 < (p7684.length : Int)))) rfl (p_lt rfl) rfl rfl ?_
  refine lend (nseq (dseq ?_))
  refine dcond rfl rfl (fun k7817 => ?_) (fun k7817 => ?_)
  · refine dskip (nseq (dseq (dblock (dseq (dreg ?_)))))
    refine Sim.bindM fun e7818 he7819 => ?_
    obtain ⟨p7820, cs7820, hp7820, hF7820, hR7820⟩ := RSl.ia H7685 he7819 (kd := .i64) (n := 1) rfl
    have hR7820 : _ = [(.int .i64 e7818 : Value)] := hR7820
    subst hR7820
    refine lpure (v := p7820) rfl (p_ia rs_27 rfl) hp7820 rfl ?_
    refine lread (v := .int .i64 e7818) rfl (q_load wd_3 rfl) (FP.ld X7815 hF7820) rfl ?_
    refine lpure (v := .int .i64 e7818) rfl (p_assign rfl) rfl rfl ?_
    refine lend (nseq (dseq (dreg ?_)))
    refine lpure (v := .func (.yield l7702) #[] #[]) rfl (p_move rfl) rfl rfl ?_
    refine lpure (v := .func (.func 55) #[.agg #[.int .i64 p7681.Topo.Nodes, .slice a7682 n7682 c7682, .slice a7683 n7683 c7683]] #[]) rfl (p_move rfl) rfl rfl ?_
    refine lpure (v := .int .i64 e7818) rfl (p_move rfl) rfl rfl ?_
    refine linl rfl rfl rfl rfl ca_55 rfl Tryz.func55 rfl rfl rfl rfl rfl ?_
    refine dseq (dreg ?_)
    refine lbox rfl rfl rfl rfl rfl X7815 (fun b7821 h7823 X7824 => ?_)
    refine lpure (v := .int .i64 0) rfl (p_assign rfl) rfl rfl ?_
    refine lend (nseq (dseq (dreg ?_)))
    refine lpure (v := .pointer (some ⟨b7821, 0, none⟩)) rfl (p_fa fo_60_0 rfl) rfl rfl ?_
    refine lread (v := .agg #[.int .i64 p7681.Topo.Nodes, .slice a7682 n7682 c7682, .slice a7683 n7683 c7683]) rfl (q_load wd_25 rfl) (St.ld X7824 (j := 0) rfl rfl) rfl ?_
    refine lpure (v := .int .i64 e7818) rfl (p_move rfl) rfl rfl ?_
    refine lcall rfl rfl ca_79 rfl rfl (f79_ok X7824 (p7681.Topo) e7818 H7682 H7683) rfl (fun e7825 v7826 h7827 hq7828 => ?_)
    cases hq7828
    refine lpure (v := .tuple #[.int .i64 e7825.1, .int .i64 e7825.2]) rfl (p_move rfl) rfl rfl ?_
    refine lpure (v := .int .i64 e7825.1) rfl (p_extract rfl) rfl rfl ?_
    refine lpure (v := .int .i64 e7825.2) rfl (p_extract rfl) rfl rfl ?_
    refine lpure (v := .int .i64 e7825.1) rfl (p_assign rfl) rfl rfl ?_
    refine lpure (v := .int .i64 e7825.2) rfl (p_assign rfl) rfl rfl ?_
    refine lend (nseq (dseq (dreg ?_)))
    refine lpure (v := .int .i64 e7825.1) rfl (p_move rfl) rfl rfl ?_
    refine lpure (v := .int .i64 e7825.1) rfl (p_assign rfl) rfl rfl ?_
    refine lend (nseq (dret ?_))
    refine kin_r (res_1 resT) ?_
    refine lround rfl rfl rfl rfl rfl rfl X7824 (j := 3) rfl Q7705 rfl rfl rfl rfl rfl (fun t7829 => ?_)
    refine dreg ?_
    refine lpure (v := .int .i64 e7825.1) rfl (p_assign rfl) rfl rfl ?_
    refine lend ?_
    refine basg X7824 (j := 3) rfl (fun h7830 X7831 => ?_)
    refine dblock (dreg ?_)
    refine lread (v := .slice a7785 n7785 c7785) rfl (q_load wd_26 rfl) (St.ld X7831 (j := 5) rfl rfl) rfl ?_
    refine lpure (v := .int .i64 e7825.1) rfl (p_move rfl) rfl rfl ?_
    obtain ⟨h7832, b7832, hv7832, X7832, O7832⟩ := OSl.lay (E := (eInt .i64)) (φ := φ) (cs := [.int .i64 e7825.1]) (l := [e7825.1]) (len := 1) (parts := [(0, .int .i64 e7825.1)]) un_26 ts_3 rfl rfl rfl tz_3 rfl rfl (show RowD (eInt .i64) φ [.int .i64 e7825.1] [e7825.1] from ⟨[.int .i64 e7825.1], _, rfl, rfl, rfl⟩) rfl rfl X7831
    refine lheap rfl (h_buildSlice rfl) hv7832 rfl ?_
    obtain ⟨ws7834, hw7834⟩ := OSl.read O7832 X7832 (k := 0) rfl (n := 1) rfl
    refine Sim.mustM fun k7834 => ?_
    obtain ⟨h7834, a7834, c7834, ob7834, blk7834, hv7834, X7834, O7834⟩ := OSl.append O7785 X7832 (j := 2) rfl hw7834 k7834 (ts := #[26, 26]) rfl un_26 (argOk_of ax_26_26) ts_3 rfl rfl tb_3 rfl tz_3 rfl
    refine lheap rfl (h_builtin rfl rfl) hv7834 rfl ?_
    refine lstore rfl ts_26 rfl rfl (j := 6) rfl rfl rfl rfl rfl rfl X7834 (fun h7835 X7836 => ?_)
    refine lend (nblock ?_)
    refine nrnd X7836 (j := 4) rfl (fun h7837 X7838 => ?_)
    refine lpure (v := .bool false) rfl (p_not rfl) rfl rfl ?_
    refine lend (nseq (dcondF rfl rfl (dskip (nblock (nseq (dreg ?_))))))
    refine lpure (v := .int .i64 (w64 (s7784.1 + 1))) rfl (p_add rfl) rfl rfl ?_
    refine lpure (v := .int .i64 (w64 (s7784.1 + 1))) rfl (p_move rfl) rfl rfl ?_
    refine lend ?_
    exact kbackM ih7813 ((w64 (s7784.1 + 1)), (s7784.2 ++ ([e7825.1]))) (a7834, (s7784.2.length + ([e7825.1]).length), c7834, ob7834, blk7834) (sub_cons rfl (sub_cons rfl (sub_cons rfl (sub_cons rfl (sub_cons rfl sub_nil))))) ⟨(St.pick X7838 (.skip _ (.skip _ (.keep _ (.keep _ (.keep _ (.none _ (.skip _ (.keep _ (.keep _ (.keep _ (.keep _ (.refl _))))))))))))), O7834⟩
  refine dexit (eseq (eloop (xblock ?_)))
  refine kin_n res_0 ?_
  refine rend_n X7815 (j := 2) rfl (fun h7839 X7840 => ?_)
  refine nblock (nseq (dseq (dreg ?_)))
  refine lread (v := .slice a7785 n7785 c7785) rfl (q_load wd_26 rfl) (St.ld X7840 (j := 4) rfl rfl) rfl ?_
  refine lpure (v := .slice a7785 n7785 c7785) rfl (p_assign rfl) rfl rfl ?_
  refine lend (nseq (dret ?_))
  refine kin_r (res_1 resT) ?_
  refine lpure (v := .slice a7785 n7785 c7785) rfl (p_assign rfl) rfl rfl ?_
  refine lend (nseq (dret ?_))
  refine kin_r (res_1 resT) ?_
  refine lpure (v := .slice a7785 n7785 c7785) rfl (p_assign rfl) rfl rfl ?_
  refine lend (nseq (dret ?_))
  exact kopen_r (res_1 resT) ⟨φ, a7785, n7785, c7785, ob7785, blk7785, (Fz.le_refl _), St.pick X7840 (.keep _ (.skip _ (.skip _ (.skip _ (.skip _ (.skip _ (.skip _ (.skip _ (.refl _))))))))), rfl, O7785⟩
/-! isochron/route.Nodes -/
theorem f9_ok {n : Nat} {φ : Fz} {lo : Nat} {h : Heap} {own : OwnL}  {a7853 : Option Addr} {n7853 c7853 : Nat} {a7854 : Option Addr} {n7854 c7854 : Nat} {a7856 : Option Addr} {n7856 c7856 : Nat} (X : St φ lo h (own)) (p7852 : ApiTopo) (p7855 : (List Int)) (H7853 : RSl eBool φ (.slice a7853 n7853 c7853) p7852.Station) (H7854 : RSl eApiLink φ (.slice a7854 n7854 c7854) p7852.Links) (H7856 : RSl (eInt .i64) φ (.slice a7856 n7856 c7856) p7855) : Sim ((recN Tryz.prog LL cutF (n + 16)).call 9 #[(.agg #[.int .i64 p7852.Nodes, .slice a7853 n7853 c7853, .slice a7854 n7854 c7854]), (.slice a7856 n7856 c7856)] h) (m_route_Nodes p7852 p7855) (fun (d : ((List Int) × Int)) p => ∃ φ2 : Fz, ∃ a7887 : Option Addr, ∃ n7887 : Nat, ∃ c7887 : Nat, ∃ ob7887 : Option Nat, ∃ blk7887 : Blk, Fz.le φ φ2 ∧ St φ2 lo p.2 ((ob7887, blk7887) :: own) ∧ p.1 = .tuple #[.slice a7887 n7887 c7887, .int .i64 d.2] ∧ OSl (eInt .i64) φ2 3 ob7887 blk7887 (.slice a7887 n7887 c7887) d.1) := by
  refine fopen Tryz.func9 rfl rfl rfl rfl ?_
  refine dseq (dreg ?_)
  refine lbox rfl rfl rfl rfl rfl X (fun b7857 h7859 X7860 => ?_)
  refine lbox rfl rfl rfl rfl rfl X7860 (fun b7861 h7863 X7864 => ?_)
  refine lpure (v := .slice none 0 0) rfl (p_assign rfl) rfl rfl ?_
  refine lpure (v := .int .i64 0) rfl (p_assign rfl) rfl rfl ?_
  refine lend (nseq (dseq (dreg ?_)))
  refine lread (v := .agg #[.int .i64 p7852.Nodes, .slice a7853 n7853 c7853, .slice a7854 n7854 c7854]) rfl (q_load wd_25 rfl) (St.ld X7864 (j := 1) rfl rfl) rfl ?_
  refine lread (v := .slice a7856 n7856 c7856) rfl (q_load wd_27 rfl) (St.ld X7864 (j := 0) rfl rfl) rfl ?_
  refine lpure (v := .func (.func 29) #[] #[.pointer (some ⟨b7861, 0, none⟩)]) rfl (p_makeFunc rfl) rfl rfl ?_
  refine linl rfl rfl rfl rfl ca_28 rfl Tryz.func28 rfl rfl rfl rfl rfl ?_
  refine dseq (dreg ?_)
  refine lbox rfl rfl rfl rfl rfl X7864 (fun b7865 h7867 X7868 => ?_)
  refine lpure (v := .slice none 0 0) rfl (p_assign rfl) rfl rfl ?_
  refine lpure (v := .int .i64 0) rfl (p_assign rfl) rfl rfl ?_
  refine lend (nseq (dseq (dseq (dreg ?_))))
  refine lread (v := .agg #[.int .i64 p7852.Nodes, .slice a7853 n7853 c7853, .slice a7854 n7854 c7854]) rfl (q_load wd_25 rfl) (St.ld X7868 (j := 0) rfl rfl) rfl ?_
  refine lpure (v := .slice a7856 n7856 c7856) rfl (p_move rfl) rfl rfl ?_
  refine lcall rfl rfl ca_15 rfl rfl (f15_ok X7868 p7852 p7855 H7853 H7854 H7856) rfl (fun e7869 v7870 h7871 hq7872 => ?_)
  cases hq7872
  refine lpure (v := .int .i64 e7869) rfl (p_assign rfl) rfl rfl ?_
  refine lend (nseq (dseq (dreg ?_)))
  refine lpure (v := .int .i64 e7869) rfl (p_move rfl) rfl rfl ?_
  refine lpure (v := .bool (decide (e7869 ≠ 0))) rfl (p_ne rfl) rfl rfl ?_
  refine lend (nseq ?_)
  refine dcond rfl rfl (fun k7873 => ?_) (fun k7873 => ?_)
  · refine dseq (dreg ?_)
    refine lpure (v := .slice none 0 0) rfl (p_assign rfl) rfl rfl ?_
    refine lend (nseq (dseq (dreg ?_)))
    refine lpure (v := .slice none 0 0) rfl (p_move rfl) rfl rfl ?_
    refine lpure (v := .int .i64 e7869) rfl (p_move rfl) rfl rfl ?_
    refine lpure (v := .slice none 0 0) rfl (p_assign rfl) rfl rfl ?_
    refine lpure (v := .int .i64 e7869) rfl (p_assign rfl) rfl rfl ?_
    refine lend (nseq (dret (rseq ?_)))
    refine kin_r (res_2 resT resT) ?_
    refine lpure (v := .slice none 0 0) rfl (p_extract rfl) rfl rfl ?_
    refine lpure (v := .int .i64 e7869) rfl (p_extract rfl) rfl rfl ?_
    refine lpure (v := .slice none 0 0) rfl (p_assign rfl) rfl rfl ?_
    refine lpure (v := .int .i64 e7869) rfl (p_assign rfl) rfl rfl ?_
    refine lend (nseq (dret ?_))
    exact kopen_r (res_2 resT resT) ⟨φ, none, 0, 0, none, (.dead), (Fz.le_refl _), St.pick X7868 (.none _ (.skip _ (.skip _ (.skip _ (.refl _))))), rfl, OSl.nil⟩
  refine dskip (nseq (dseq (dreg ?_)))
  refine lpure (v := .func (.func 29) #[] #[.pointer (some ⟨b7861, 0, none⟩)]) rfl (p_move rfl) rfl rfl ?_
  refine lread (v := .agg #[.int .i64 p7852.Nodes, .slice a7853 n7853 c7853, .slice a7854 n7854 c7854]) rfl (q_load wd_25 rfl) (St.ld X7868 (j := 0) rfl rfl) rfl ?_
  refine lpure (v := .agg #[.int .i64 p7852.Nodes, .slice a7853 n7853 c7853, .slice a7854 n7854 c7854]) rfl (p_build rfl) (build_st' tz_60 pl_60 rfl) rfl ?_
  refine linl rfl rfl rfl rfl ca_29 rfl Tryz.func29 rfl rfl rfl rfl rfl ?_
  refine dseq (dreg ?_)
  refine lbox rfl rfl rfl rfl rfl X7868 (fun b7874 h7876 X7877 => ?_)
  refine lpure (v := .slice none 0 0) rfl (p_assign rfl) rfl rfl ?_
  refine lend (nseq (dseq (dreg ?_)))
  refine lread (v := .agg #[.int .i64 p7852.Nodes, .slice a7853 n7853 c7853, .slice a7854 n7854 c7854]) rfl (q_load wd_60 rfl) (St.ld X7877 (j := 0) rfl rfl) rfl ?_
  refine lread (v := .slice a7856 n7856 c7856) rfl (q_load wd_27 rfl) (St.ld X7877 (j := 2) rfl rfl) rfl ?_
  refine lcall rfl rfl ca_30 rfl rfl (f30_ok X7877 ((RouteWalk.mk p7852)) p7855 H7853 H7854 H7856) rfl ?_
  rintro e7878 _ h7880 ⟨φ7882, a7885, n7885, c7885, ob7885, blk7885, g7883, X7884, rfl, O7885⟩
  refine lpure (v := .slice a7885 n7885 c7885) rfl (p_assign rfl) rfl rfl ?_
  refine lend (nseq (dret ?_))
  refine kin_r (res_1 resT) ?_
  refine lpure (v := .slice a7885 n7885 c7885) rfl (p_assign rfl) rfl rfl ?_
  refine lpure (v := .int .i64 0) rfl (p_assign rfl) rfl rfl ?_
  refine lend (nseq (dret ?_))
  refine kin_r (res_2 resT resT) ?_
  refine lpure (v := .slice a7885 n7885 c7885) rfl (p_extract rfl) rfl rfl ?_
  refine lpure (v := .int .i64 0) rfl (p_extract rfl) rfl rfl ?_
  refine lpure (v := .slice a7885 n7885 c7885) rfl (p_assign rfl) rfl rfl ?_
  refine lpure (v := .int .i64 0) rfl (p_assign rfl) rfl rfl ?_
  refine lend (nseq (dret ?_))
  exact kopen_r (res_2 resT resT) ⟨φ7882, a7885, n7885, c7885, ob7885, blk7885, g7883, St.pick X7884 (.keep _ (.skip _ (.skip _ (.skip _ (.skip _ (.refl _)))))), rfl, O7885⟩
/-! isochron/route.Ends -/
theorem f10_ok {n : Nat} {φ : Fz} {lo : Nat} {h : Heap} {own : OwnL}  {a7913 : Option Addr} {n7913 c7913 : Nat} {a7914 : Option Addr} {n7914 c7914 : Nat} {a7916 : Option Addr} {n7916 c7916 : Nat} (X : St φ lo h (own)) (p7912 : ApiTopo) (p7915 : (List Int)) (H7913 : RSl eBool φ (.slice a7913 n7913 c7913) p7912.Station) (H7914 : RSl eApiLink φ (.slice a7914 n7914 c7914) p7912.Links) (H7916 : RSl (eInt .i64) φ (.slice a7916 n7916 c7916) p7915) : Sim ((recN Tryz.prog LL cutF (n + 17)).call 10 #[(.agg #[.int .i64 p7912.Nodes, .slice a7913 n7913 c7913, .slice a7914 n7914 c7914]), (.slice a7916 n7916 c7916)] h) (m_route_Ends p7912 p7915) (fun (d : (Int × Int × Int)) p => p = (.tuple #[.int .i64 d.1, .int .i64 d.2.1, .int .i64 d.2.2], h)) := by
  refine fcut Tryz.func10 rfl rfl rfl rfl X ?_
  intro h0 X0
  refine dseq (dreg ?_)
  refine lbox rfl rfl rfl rfl rfl X0 (fun b7917 h7919 X7920 => ?_)
  refine lpure (v := .int .i64 0) rfl (p_assign rfl) rfl rfl ?_
  refine lpure (v := .int .i64 0) rfl (p_assign rfl) rfl rfl ?_
  refine lpure (v := .int .i64 0) rfl (p_assign rfl) rfl rfl ?_
  refine lend (nseq (dseq (dreg ?_)))
  refine lread (v := .agg #[.int .i64 p7912.Nodes, .slice a7913 n7913 c7913, .slice a7914 n7914 c7914]) rfl (q_load wd_25 rfl) (St.ld X7920 (j := 0) rfl rfl) rfl ?_
  refine lpure (v := .slice a7916 n7916 c7916) rfl (p_move rfl) rfl rfl ?_
  refine lcall rfl rfl ca_9 rfl rfl (f9_ok X7920 p7912 p7915 H7913 H7914 H7916) rfl ?_
  rintro e7921 _ h7923 ⟨φ7925, a7928, n7928, c7928, ob7928, blk7928, g7926, X7927, rfl, O7928⟩
  refine lpure (v := .tuple #[.slice a7928 n7928 c7928, .int .i64 e7921.2]) rfl (p_move rfl) rfl rfl ?_
  refine lpure (v := .slice a7928 n7928 c7928) rfl (p_extract rfl) rfl rfl ?_
  refine lpure (v := .int .i64 e7921.2) rfl (p_extract rfl) rfl rfl ?_
  refine lpure (v := .slice a7928 n7928 c7928) rfl (p_assign rfl) rfl rfl ?_
  refine lpure (v := .int .i64 e7921.2) rfl (p_assign rfl) rfl rfl ?_
  refine lend (nseq (dseq (dseq (dreg ?_))))
  refine lpure (v := .int .i64 e7921.2) rfl (p_move rfl) rfl rfl ?_
  refine lpure (v := .bool (decide (e7921.2 ≠ 0))) rfl (p_ne rfl) rfl rfl ?_
  refine lend (nseq ?_)
  refine dcond rfl rfl (fun k7930 => ?_) (fun k7930 => ?_)
  · refine dseq (dreg ?_)
    refine lpure (v := .int .i64 e7921.2) rfl (p_move rfl) rfl rfl ?_
    refine lpure (v := .int .i64 0) rfl (p_assign rfl) rfl rfl ?_
    refine lpure (v := .int .i64 0) rfl (p_assign rfl) rfl rfl ?_
    refine lpure (v := .int .i64 e7921.2) rfl (p_assign rfl) rfl rfl ?_
    refine lend (nseq (dret (rseq ?_)))
    exact kcut_r (res_3 resT resT resT) X7927 rfl rfl
  refine dskip (nseq (dseq ?_))
  refine ddraw 0 0 32 (by kernel_rfl) ?_
  refine spure (v := .slice a7928 n7928 c7928) rfl (p_move rfl) (lo_t (lo_osl X7927 (j := 0) rfl O7928) rfl) rfl rfl ?_
  refine Sim.bindM fun e7931 he7932 => ?_
  obtain ⟨b7933, vs7933, m7933, off7933, cs7933, rfl, rfl, hp7933, hc7933, hR7933, hl7933, hm7933, hs7933⟩ := OSl.ia O7928 he7932 (kd := .i64) (n := 1) rfl
  have hR7933 : _ = [(.int .i64 e7931 : Value)] := hR7933
  subst hR7933
  refine spure (v := .pointer (some ⟨b7933, off7933, none⟩)) rfl (p_ia rs_26 rfl) (lo_t (lo_osl X7927 (j := 0) rfl O7928) (lo_c rfl)) hp7933 rfl ?_
  refine sload (v := .int .i64 e7931) rfl rfl (q_load wd_3 rfl) (St.ld X7927 (j := 0) rfl (rdE1 hc7933 (k := 0) rfl rfl)) (same_self 20 rfl) rfl ?_
  refine spure (v := .slice a7928 n7928 c7928) rfl (p_move rfl) (lo_t (lo_osl X7927 (j := 0) rfl O7928) rfl) rfl rfl ?_
  refine spure (v := .slice a7928 n7928 c7928) rfl (p_move rfl) (lo_t (lo_osl X7927 (j := 0) rfl O7928) rfl) rfl rfl ?_
  refine spure (v := .int .i64 (e7921.1.length : Int)) rfl (p_len rfl rfl rfl un_26 rfl) (lo_t (lo_osl X7927 (j := 0) rfl O7928) rfl) (OSl.len O7928) rfl ?_
  refine spure (v := .int .i64 (w64 ((e7921.1.length : Int) - 1))) rfl (p_sub rfl) (lo_t rfl (lo_c rfl)) rfl rfl ?_
  refine Sim.bindM fun e7934 he7935 => ?_
  obtain ⟨off7936, cs7936, hp7936, hc7936, hR7936, hl7936, hm7936, hs7936⟩ := OSl.iaC O7928 he7935 (kd := .i64) (n := 1) rfl
  have hR7936 : _ = [(.int .i64 e7934 : Value)] := hR7936
  subst hR7936
  refine spure (v := .pointer (some ⟨b7933, off7936, none⟩)) rfl (p_ia rs_26 rfl) (lo_t (lo_osl X7927 (j := 0) rfl O7928) (lo_t rfl rfl)) hp7936 rfl ?_
  refine sload (v := .int .i64 e7934) rfl rfl (q_load wd_3 rfl) (St.ld X7927 (j := 0) rfl (rdE1 hc7936 (k := 0) rfl rfl)) (same_self 20 rfl) rfl ?_
  refine spure (v := .int .i64 e7931) rfl (p_assign rfl) (lo_t rfl rfl) rfl rfl ?_
  refine spure (v := .int .i64 e7934) rfl (p_assign rfl) (lo_t rfl rfl) rfl rfl ?_
  refine spure (v := .int .i64 0) rfl (p_assign rfl) (lo_c rfl) rfl rfl ?_
  refine send ?_
  refine nseq (dret ?_)
  exact kcut_r (res_3 resT resT resT) X7927 rfl rfl
/-! isochron/route.Delay$1 -/
theorem f32_ok {n : Nat} {φ : Fz} {lo : Nat} {h : Heap} {own : OwnL}  (X : St φ lo h (own)) (p7991 : ApiLink) : Sim ((recN Tryz.prog LL cutF (n + 1)).call 32 #[(.agg #[.int .i64 p7991.A, .int .i64 p7991.B, .int .i64 p7991.Per, .int .i64 p7991.Delay])] h) (m_route_Delay_1 p7991) (fun (d : Int) p => p = (.int .i64 d, h)) := by
  refine fcut Tryz.func32 rfl rfl rfl rfl X ?_
  intro h0 X0
  refine dseq (dreg ?_)
  refine lbox rfl rfl rfl rfl rfl X0 (fun b7992 h7994 X7995 => ?_)
  refine lpure (v := .int .i64 0) rfl (p_assign rfl) rfl rfl ?_
  refine lend (nseq (dseq (dreg ?_)))
  refine lpure (v := .pointer (some ⟨b7992, 3, none⟩)) rfl (p_fa fo_65_3 rfl) rfl rfl ?_
  refine lread (v := .int .i64 p7991.Delay) rfl (q_load wd_3 rfl) (St.ld X7995 (j := 0) rfl rfl) rfl ?_
  refine lpure (v := .int .i64 p7991.Delay) rfl (p_assign rfl) rfl rfl ?_
  refine lend (nseq (dret ?_))
  exact kcut_r (res_1 resT) X7995 rfl rfl
/-! isochron/route.Delay -/
theorem f11_ok {n : Nat} {φ : Fz} {lo : Nat} {h : Heap} {own : OwnL}  {a7948 : Option Addr} {n7948 c7948 : Nat} {a7949 : Option Addr} {n7949 c7949 : Nat} {a7951 : Option Addr} {n7951 c7951 : Nat} (X : St φ lo h (own)) (p7947 : ApiTopo) (p7950 : (List Int)) (H7948 : RSl eBool φ (.slice a7948 n7948 c7948) p7947.Station) (H7949 : RSl eApiLink φ (.slice a7949 n7949 c7949) p7947.Links) (H7951 : RSl (eInt .i64) φ (.slice a7951 n7951 c7951) p7950) : Sim ((recN Tryz.prog LL cutF (n + 16)).call 11 #[(.agg #[.int .i64 p7947.Nodes, .slice a7948 n7948 c7948, .slice a7949 n7949 c7949]), (.slice a7951 n7951 c7951)] h) (m_route_Delay p7947 p7950) (fun (d : (Int × Int)) p => p = (.tuple #[.int .i64 d.1, .int .i64 d.2], h)) := by
  refine fcut Tryz.func11 rfl rfl rfl rfl X ?_
  intro h0 X0
  refine dseq (dreg ?_)
  refine lbox rfl rfl rfl rfl rfl X0 (fun b7952 h7954 X7955 => ?_)
  refine lpure (v := .int .i64 0) rfl (p_assign rfl) rfl rfl ?_
  refine lpure (v := .int .i64 0) rfl (p_assign rfl) rfl rfl ?_
  refine lend (nseq (dseq (dreg ?_)))
  refine lread (v := .agg #[.int .i64 p7947.Nodes, .slice a7948 n7948 c7948, .slice a7949 n7949 c7949]) rfl (q_load wd_25 rfl) (St.ld X7955 (j := 0) rfl rfl) rfl ?_
  refine lpure (v := .slice a7951 n7951 c7951) rfl (p_move rfl) rfl rfl ?_
  refine linl rfl rfl rfl rfl ca_31 rfl Tryz.func31 rfl rfl rfl rfl rfl ?_
  refine dseq (dreg ?_)
  refine lbox rfl rfl rfl rfl rfl X7955 (fun b7956 h7958 X7959 => ?_)
  refine lbox rfl rfl rfl rfl rfl X7959 (fun b7960 h7962 X7963 => ?_)
  refine lbox rfl rfl rfl rfl rfl X7963 (fun b7964 h7966 X7967 => ?_)
  refine lpure (v := .int .i64 0) rfl (p_assign rfl) rfl rfl ?_
  refine lpure (v := .int .i64 0) rfl (p_assign rfl) rfl rfl ?_
  refine lend (nseq (dseq (dreg ?_)))
  refine lread (v := .agg #[.int .i64 p7947.Nodes, .slice a7948 n7948 c7948, .slice a7949 n7949 c7949]) rfl (q_load wd_25 rfl) (St.ld X7967 (j := 2) rfl rfl) rfl ?_
  refine lread (v := .slice a7951 n7951 c7951) rfl (q_load wd_27 rfl) (St.ld X7967 (j := 1) rfl rfl) rfl ?_
  refine lpure (v := .func (.func 61) #[] #[.pointer (some ⟨b7960, 0, none⟩), .pointer (some ⟨b7964, 0, none⟩)]) rfl (p_makeFunc rfl) rfl rfl ?_
  refine linl rfl rfl rfl rfl ca_60 rfl Tryz.func60 rfl rfl rfl rfl rfl ?_
  refine dseq (dreg ?_)
  refine lbox rfl rfl rfl rfl rfl X7967 (fun b7968 h7970 X7971 => ?_)
  refine lpure (v := .int .i64 0) rfl (p_assign rfl) rfl rfl ?_
  refine lpure (v := .int .i64 0) rfl (p_assign rfl) rfl rfl ?_
  refine lend (nseq (dseq (dseq (dreg ?_))))
  refine lread (v := .agg #[.int .i64 p7947.Nodes, .slice a7948 n7948 c7948, .slice a7949 n7949 c7949]) rfl (q_load wd_25 rfl) (St.ld X7971 (j := 0) rfl rfl) rfl ?_
  refine lpure (v := .slice a7951 n7951 c7951) rfl (p_move rfl) rfl rfl ?_
  refine lcall rfl rfl ca_15 rfl rfl (f15_ok X7971 p7947 p7950 H7948 H7949 H7951) rfl (fun e7972 v7973 h7974 hq7975 => ?_)
  cases hq7975
  refine lpure (v := .int .i64 e7972) rfl (p_assign rfl) rfl rfl ?_
  refine lend (nseq (dseq (dreg ?_)))
  refine lpure (v := .int .i64 e7972) rfl (p_move rfl) rfl rfl ?_
  refine lpure (v := .bool (decide (e7972 ≠ 0))) rfl (p_ne rfl) rfl rfl ?_
  refine lend (nseq ?_)
  refine dcond rfl rfl (fun k7976 => ?_) (fun k7976 => ?_)
  · refine dseq (dreg ?_)
    refine lpure (v := .int .i64 0) rfl (p_assign rfl) rfl rfl ?_
    refine lend (nseq (dseq (dreg ?_)))
    refine lpure (v := .int .i64 0) rfl (p_move rfl) rfl rfl ?_
    refine lpure (v := .int .i64 e7972) rfl (p_move rfl) rfl rfl ?_
    refine lpure (v := .int .i64 0) rfl (p_assign rfl) rfl rfl ?_
    refine lpure (v := .int .i64 e7972) rfl (p_assign rfl) rfl rfl ?_
    refine lend (nseq (dret (rseq ?_)))
    refine kin_r (res_2 resT resT) ?_
    refine lpure (v := .int .i64 0) rfl (p_extract rfl) rfl rfl ?_
    refine lpure (v := .int .i64 e7972) rfl (p_extract rfl) rfl rfl ?_
    refine lpure (v := .int .i64 0) rfl (p_assign rfl) rfl rfl ?_
    refine lpure (v := .int .i64 e7972) rfl (p_assign rfl) rfl rfl ?_
    refine lend (nseq (dret ?_))
    refine kin_r (res_2 resT resT) ?_
    refine lpure (v := .int .i64 0) rfl (p_extract rfl) rfl rfl ?_
    refine lpure (v := .int .i64 e7972) rfl (p_extract rfl) rfl rfl ?_
    refine lpure (v := .int .i64 0) rfl (p_assign rfl) rfl rfl ?_
    refine lpure (v := .int .i64 e7972) rfl (p_assign rfl) rfl rfl ?_
    refine lend (nseq (dret ?_))
    exact kcut_r (res_2 resT resT) X7971 rfl rfl
  refine dskip (nseq (dseq (dreg ?_)))
  refine lpure (v := .func (.func 61) #[] #[.pointer (some ⟨b7960, 0, none⟩), .pointer (some ⟨b7964, 0, none⟩)]) rfl (p_move rfl) rfl rfl ?_
  refine lread (v := .agg #[.int .i64 p7947.Nodes, .slice a7948 n7948 c7948, .slice a7949 n7949 c7949]) rfl (q_load wd_25 rfl) (St.ld X7971 (j := 0) rfl rfl) rfl ?_
  refine lpure (v := .agg #[.int .i64 p7947.Nodes, .slice a7948 n7948 c7948, .slice a7949 n7949 c7949]) rfl (p_build rfl) (build_st' tz_60 pl_60 rfl) rfl ?_
  refine linl rfl rfl rfl rfl ca_61 rfl Tryz.func61 rfl rfl rfl rfl rfl ?_
  refine dseq (dreg ?_)
  refine lbox rfl rfl rfl rfl rfl X7971 (fun b7977 h7979 X7980 => ?_)
  refine lpure (v := .int .i64 0) rfl (p_assign rfl) rfl rfl ?_
  refine lend (nseq (dseq (dreg ?_)))
  refine lpure (v := .int .i64 0) rfl (p_assign rfl) rfl rfl ?_
  refine lend (nseq (dseq (dseq (dreg ?_))))
  refine lread (v := .slice a7951 n7951 c7951) rfl (q_load wd_27 rfl) (St.ld X7980 (j := 3) rfl rfl) rfl ?_
  refine lpure (v := .int .i64 (p7950.length : Int)) rfl (p_len rfl rfl rfl un_27 rfl) (RSl.lenC H7951) rfl ?_
  refine lpure (v := .int .i64 0) rfl (p_move rfl) rfl rfl ?_
  refine lend (nseq (dblock ?_))
  refine dloopM (τ := Int × Int) (σ := Unit) (fun s8014 (_ : Unit) => [(2, .pointer (some ⟨b7964, 0, none⟩)), (3, .pointer (some ⟨b7977, 0, none⟩)), (5, .int .i64 s8014.1), (8, .slice a7951 n7951 c7951), (9, .int .i64 (p7950.length : Int)), (10, .int .i64 s8014.2)]) (fun s8014 (_ : Unit) hh => St φ h.n hh ([(some b7977, .cells [.int .i64 p7947.Nodes, .slice a7948 n7948 c7948, .slice a7949 n7949 c7949] 60 .exact), (some b7968, .cells [.int .i64 p7947.Nodes, .slice a7948 n7948 c7948, .slice a7949 n7949 c7949] 25 .exact), (some b7964, .cells [.func (.func 32) #[] #[]] 66 .exact), (some b7960, .cells [.slice a7951 n7951 c7951] 27 .exact), (some b7956, .cells [.int .i64 p7947.Nodes, .slice a7948 n7948 c7948, .slice a7949 n7949 c7949] 25 .exact), (some b7952, .cells [.int .i64 p7947.Nodes, .slice a7948 n7948 c7948, .slice a7949 n7949 c7949] 25 .exact)])) (0, 0) () (sub_cons rfl (sub_cons rfl (sub_cons rfl (sub_cons rfl (sub_cons rfl (sub_cons rfl sub_nil)))))) X7980 ?_
  rintro n8030 ih8029 s8014 _ t0 h8032 X8031
  refine dseq (dreg ?_)
  refine lpure (v := .bool (decide (s8014.2 < (p7950.length : Int)))) rfl (p_lt rfl) rfl rfl ?_
  refine lend (nseq (dseq ?_))
  refine dcond rfl rfl (fun k8033 => ?_) (fun k8033 => ?_)
  · refine dskip (nseq (dseq (dblock (dseq (dreg ?_)))))
    refine Sim.bindM fun e8034 he8035 => ?_
    obtain ⟨p8036, cs8036, hp8036, hF8036, hR8036⟩ := RSl.ia H7951 he8035 (kd := .i64) (n := 1) rfl
    have hR8036 : _ = [(.int .i64 e8034 : Value)] := hR8036
    subst hR8036
    refine lpure (v := p8036) rfl (p_ia rs_27 rfl) hp8036 rfl ?_
    refine lread (v := .int .i64 e8034) rfl (q_load wd_3 rfl) (FP.ld X8031 hF8036) rfl ?_
    refine lpure (v := .int .i64 e8034) rfl (p_assign rfl) rfl rfl ?_
    refine lend (nseq ?_)
    refine dgo_start (n := 12) rfl (by kernel_rfl) ?_
    refine gpure (v := .int .i64 s8014.1) rfl (p_move rfl) (lo_t rfl rfl) rfl rfl ?_
    refine gload (v := .func (.func 32) #[] #[]) rfl (q_load wd_66 rfl) (St.ld X8031 (j := 2) rfl rfl) rfl ?_
    refine gpure (v := .pointer (some ⟨b7977, 0, none⟩)) rfl (p_fa fo_60_0 rfl) (lo_t (lo_own X8031 (j := 0) (o := 0) (s := none) (f := 0) rfl) rfl) rfl rfl ?_
    refine gpure (v := .pointer (some ⟨b7977, 2, none⟩)) rfl (p_fa fo_25_2 rfl) (lo_t (lo_own X8031 (j := 0) (o := 0) (s := none) (f := 0) rfl) rfl) rfl rfl ?_
    refine gload (v := .slice a7949 n7949 c7949) rfl (q_load wd_23 rfl) (St.ld X8031 (j := 0) rfl rfl) rfl ?_
    refine gpure (v := .int .i64 e8034) rfl (p_move rfl) (lo_t rfl rfl) rfl rfl ?_
    refine gpure (v := .int .i64 (w64 (Int.tdiv e8034 2))) rfl (p_quo rfl) (lo_t rfl (lo_c rfl)) rfl rfl ?_
    refine Sim.bindM fun e8037 he8038 => ?_
    obtain ⟨p8039, cs8039, hp8039, hF8039, hR8039⟩ := RSl.ia H7949 he8038 (kd := .i64) (n := 4) rfl
    obtain rfl := eApiLink_el hR8039
    refine gpure (v := p8039) rfl (p_ia rs_23 rfl) (lo_t (lo_sl X8031 H7949) (lo_t rfl rfl)) hp8039 rfl ?_
    refine gload (v := .agg #[.int .i64 e8037.A, .int .i64 e8037.B, .int .i64 e8037.Per, .int .i64 e8037.Delay]) rfl (q_load wd_65 rfl) (FP.ldw X8031 hF8039 rfl rfl) rfl ?_
    refine gwait rfl (still_act rfl).1 rfl ?_
    refine dgo_skip ?_
    refine dgo_skip ?_
    refine gcallv (m := 11) [false, false, false] (rk_cons (q_load wd_65 rfl) (FP.ldw X8031 hF8039 rfl rfl) (same_self 20 rfl) (rk_cons (q_load wd_23 rfl) (St.ld X8031 (j := 0) rfl rfl) (same_self 20 rfl) (rk_cons (q_load wd_66 rfl) (St.ld X8031 (j := 2) rfl rfl) (same_self 20 rfl) rk_nil))) rfl rfl rfl rfl rfl rfl rfl ca_32 rfl rfl (f32_ok X8031 e8037) rfl (fun e8040 v8041 h8042 hq8043 => ?_)
    cases hq8043
    refine dgo_skip ?_
    refine dgo_skip ?_
    refine dgo_skip ?_
    refine dgo_skip ?_
    refine dgo_skip ?_
    refine dgo_skip ?_
    refine dgo_skip ?_
    refine dgo_skip ?_
    refine dgo_skip ?_
    refine dgo_skip ?_
    refine gpure (v := .int .i64 (w64 (s8014.1 + e8040))) rfl (p_add rfl) (lo_t rfl (lo_t rfl rfl)) rfl rfl ?_
    refine gpure (v := .int .i64 (w64 (s8014.1 + e8040))) rfl (p_assign rfl) (lo_t rfl rfl) rfl rfl ?_
    refine gend rk_nil ?_
    refine nblock (nseq (dreg ?_))
    refine lpure (v := .int .i64 (w64 (s8014.2 + 1))) rfl (p_add rfl) rfl rfl ?_
    refine lpure (v := .int .i64 (w64 (s8014.2 + 1))) rfl (p_move rfl) rfl rfl ?_
    refine lend ?_
    exact kbackM ih8029 ((w64 (s8014.1 + e8040)), (w64 (s8014.2 + 1))) () (sub_cons rfl (sub_cons rfl (sub_cons rfl (sub_cons rfl (sub_cons rfl (sub_cons rfl sub_nil)))))) X8031
  refine dexit (eseq (eloop (xblock (nseq (dseq (dreg ?_))))))
  refine lpure (v := .int .i64 s8014.1) rfl (p_move rfl) rfl rfl ?_
  refine lpure (v := .int .i64 s8014.1) rfl (p_assign rfl) rfl rfl ?_
  refine lend (nseq (dret ?_))
  refine kin_r (res_1 resT) ?_
  refine lpure (v := .int .i64 s8014.1) rfl (p_assign rfl) rfl rfl ?_
  refine lpure (v := .int .i64 0) rfl (p_assign rfl) rfl rfl ?_
  refine lend (nseq (dret ?_))
  refine kin_r (res_2 resT resT) ?_
  refine lpure (v := .int .i64 s8014.1) rfl (p_extract rfl) rfl rfl ?_
  refine lpure (v := .int .i64 0) rfl (p_extract rfl) rfl rfl ?_
  refine lpure (v := .int .i64 s8014.1) rfl (p_assign rfl) rfl rfl ?_
  refine lpure (v := .int .i64 0) rfl (p_assign rfl) rfl rfl ?_
  refine lend (nseq (dret ?_))
  refine kin_r (res_2 resT resT) ?_
  refine lpure (v := .int .i64 s8014.1) rfl (p_extract rfl) rfl rfl ?_
  refine lpure (v := .int .i64 0) rfl (p_extract rfl) rfl rfl ?_
  refine lpure (v := .int .i64 s8014.1) rfl (p_assign rfl) rfl rfl ?_
  refine lpure (v := .int .i64 0) rfl (p_assign rfl) rfl rfl ?_
  refine lend (nseq (dret ?_))
  exact kcut_r (res_2 resT resT) X8031 rfl rfl
end Go.AM
