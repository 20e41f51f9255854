/- Printed: functions of the given program as functions over plain data, and that the machine does what they say; no claim of its own; no condition. -/
import Derived.Test.YtlkddekecegfdaaGreatGcFacts
set_option maxRecDepth 100000
set_option maxHeartbeats 4000000
set_option linter.unusedVariables false
set_option linter.unusedSimpArgs false
namespace Go.AM
open Go Go.Proofs

/-! isochron/isochronlaw21.line -/
theorem f27_ok {n : Nat} {φ : Fz} {lo : Nat} {h : Heap} {own : OwnL}  (X : St φ lo h (own)) : Sim ((recN Tryz.prog LL cutF (n + 1)).call 27 #[] h) (m_isochronlaw21_line) (fun (d : ApiTopo) p => ∃ φ2 : Fz, ∃ a31 : Option Addr, ∃ n31 : Nat, ∃ c31 : Nat, ∃ ob31 : Option Nat, ∃ blk31 : Blk, ∃ a33 : Option Addr, ∃ n33 : Nat, ∃ c33 : Nat, ∃ ob33 : Option Nat, ∃ blk33 : Blk, Fz.le φ φ2 ∧ St φ2 lo p.2 ((ob31, blk31) :: (ob33, blk33) :: own) ∧ p.1 = .agg #[.int .i64 d.Nodes, .slice a31 n31 c31, .slice a33 n33 c33] ∧ OSl eBool φ2 4 ob31 blk31 (.slice a31 n31 c31) d.Station ∧ OSl eApiLink φ2 65 ob33 blk33 (.slice a33 n33 c33) d.Links) := by
  refine fopen Tryz.func27 rfl rfl rfl rfl ?_
  refine dseq (dreg ?_)
  refine lalloc rfl tz_25 rfl rfl rfl X (fun b21 h23 X24 => ?_)
  refine lend (nseq (dseq (dreg ?_)))
  obtain ⟨h25, b25, hv25, X25, O25⟩ := OSl.lay (E := eBool) (φ := φ) (cs := [.bool true, .bool false, .bool false, .bool true]) (l := [true, false, false, true]) (len := 4) (parts := [(0, .bool true), (1, .bool false), (2, .bool false), (3, .bool true)]) un_22 ts_4 rfl rfl rfl tz_4 rfl rfl (show RowD eBool φ [.bool true, .bool false, .bool false, .bool true] [true, false, false, true] from ⟨[.bool true], _, rfl, rfl, ⟨[.bool false], _, rfl, rfl, ⟨[.bool false], _, rfl, rfl, ⟨[.bool true], _, rfl, rfl, rfl⟩⟩⟩⟩) rfl rfl X24
  refine lheap rfl (h_buildSlice rfl) hv25 rfl ?_
  refine lpure (v := .agg #[.int .i64 0, .int .i64 1, .int .i64 8, .int .i64 50]) rfl (p_build rfl) (build_st' tz_65 pl_65 rfl) rfl ?_
  refine lpure (v := .agg #[.int .i64 1, .int .i64 2, .int .i64 8, .int .i64 0]) rfl (p_build rfl) (build_st' tz_65 pl_65 rfl) rfl ?_
  refine lpure (v := .agg #[.int .i64 2, .int .i64 3, .int .i64 80, .int .i64 7]) rfl (p_build rfl) (build_st' tz_65 pl_65 rfl) rfl ?_
  obtain ⟨h27, b27, hv27, X27, O27⟩ := OSl.lay (E := eApiLink) (φ := φ) (cs := [.int .i64 0, .int .i64 1, .int .i64 8, .int .i64 50, .int .i64 1, .int .i64 2, .int .i64 8, .int .i64 0, .int .i64 2, .int .i64 3, .int .i64 80, .int .i64 7]) (l := [(ApiLink.mk 0 1 8 50), (ApiLink.mk 1 2 8 0), (ApiLink.mk 2 3 80 7)]) (len := 3) (parts := [(0, .agg #[.int .i64 0, .int .i64 1, .int .i64 8, .int .i64 50]), (1, .agg #[.int .i64 1, .int .i64 2, .int .i64 8, .int .i64 0]), (2, .agg #[.int .i64 2, .int .i64 3, .int .i64 80, .int .i64 7])]) un_23 ts_65 rfl rfl rfl tz_65 rfl rfl (show RowD eApiLink φ [.int .i64 0, .int .i64 1, .int .i64 8, .int .i64 50, .int .i64 1, .int .i64 2, .int .i64 8, .int .i64 0, .int .i64 2, .int .i64 3, .int .i64 80, .int .i64 7] [(ApiLink.mk 0 1 8 50), (ApiLink.mk 1 2 8 0), (ApiLink.mk 2 3 80 7)] from ⟨[.int .i64 0, .int .i64 1, .int .i64 8, .int .i64 50], _, rfl, ⟨_, _, rfl, rfl, ⟨_, _, rfl, rfl, ⟨_, _, rfl, rfl, ⟨_, _, rfl, rfl, rfl⟩⟩⟩⟩, ⟨[.int .i64 1, .int .i64 2, .int .i64 8, .int .i64 0], _, rfl, ⟨_, _, rfl, rfl, ⟨_, _, rfl, rfl, ⟨_, _, rfl, rfl, ⟨_, _, rfl, rfl, rfl⟩⟩⟩⟩, ⟨[.int .i64 2, .int .i64 3, .int .i64 80, .int .i64 7], _, rfl, ⟨_, _, rfl, rfl, ⟨_, _, rfl, rfl, ⟨_, _, rfl, rfl, ⟨_, _, rfl, rfl, rfl⟩⟩⟩⟩, rfl⟩⟩⟩) rfl rfl X25
  refine lheap rfl (h_buildSlice rfl) hv27 rfl ?_
  refine lpure (v := .agg #[.int .i64 4, .slice (some ⟨b25, 0, none⟩) 4 4, .slice (some ⟨b27, 0, none⟩) 3 3]) rfl (p_build rfl) (build_st' tz_25 pl_25 rfl) rfl ?_
  refine lstore rfl ts_25 rfl rfl (j := 2) rfl rfl rfl rfl rfl rfl X27 (fun h29 X30 => ?_)
  refine lend (nseq (dret ?_))
  exact kopen_r (res_1 (resC wd_25 (St.ld X30 (j := 2) rfl rfl))) ⟨φ, ((some ⟨b25, 0, none⟩)), 4, 4, (some b25), ((.cells [.bool true, .bool false, .bool false, .bool true] 4 .exact)), ((some ⟨b27, 0, none⟩)), 3, 3, (some b27), ((.cells [.int .i64 0, .int .i64 1, .int .i64 8, .int .i64 50, .int .i64 1, .int .i64 2, .int .i64 8, .int .i64 0, .int .i64 2, .int .i64 3, .int .i64 80, .int .i64 7] 65 .exact)), (Fz.le_refl _), St.pick (St.front X30 (j := 1) rfl) (.keep _ (.keep _ (.skip _ (.refl _)))), rfl, O25, O27⟩
/-! isochron/topo.isNode -/
theorem f85_ok {n : Nat} {φ : Fz} {lo : Nat} {h : Heap} {own : OwnL}  {a132 : Option Addr} {n132 c132 : Nat} {a133 : Option Addr} {n133 c133 : Nat} (X : St φ lo h (own)) (p131 : ApiTopo) (p134 : Int) (H132 : RSl eBool φ (.slice a132 n132 c132) p131.Station) (H133 : RSl eApiLink φ (.slice a133 n133 c133) p131.Links) : Sim ((recN Tryz.prog LL cutF (n + 1)).call 85 #[(.agg #[.int .i64 p131.Nodes, .slice a132 n132 c132, .slice a133 n133 c133]), (.int .i64 p134)] h) (m_topo_isNode p131 p134) (fun (d : Bool) p => p = (.bool d, h)) := by
  refine fcut Tryz.func85 rfl rfl rfl rfl X ?_
  intro h0 X0
  refine dseq (dreg ?_)
  refine lbox rfl rfl rfl rfl rfl X0 (fun b135 h137 X138 => ?_)
  refine lpure (v := .bool false) rfl (p_assign rfl) rfl rfl ?_
  refine lend (nseq (dseq (dreg ?_)))
  refine lpure (v := .int .i64 p134) rfl (p_move rfl) rfl rfl ?_
  refine lpure (v := .bool (decide (0 ≤ p134))) rfl (p_ge rfl) rfl rfl ?_
  refine lpure (v := .bool (decide (0 ≤ p134))) rfl (p_move rfl) rfl rfl ?_
  refine lsh (τ := Bool) (σ := Unit) (fun s140 (_ : Unit) => [(12, .bool s140)]) (fun s140 (_ : Unit) hh => St φ h.n hh ([(some b135, .cells [.int .i64 p131.Nodes, .slice a132 n132 c132, .slice a133 n133 c133] 25 .exact)])) 5 ?_ ?_
  · rintro s140 _ t0 h142 X141
    refine lpure (v := .bool s140) rfl (p_assign rfl) rfl rfl ?_
    refine lend (nseq (dret ?_))
    exact kcut_r (res_1 resT) X141 rfl rfl
  intro j143 J144
  refine lcase (i := 7) (show _ = Value.bool (decide (0 ≤ p134)) from rfl) (fun k145 => ?_) (fun k145 => ?_)
  · refine lpure (v := .int .i64 p134) rfl (p_move rfl) rfl rfl ?_
    refine lpure (v := .pointer (some ⟨b135, 0, none⟩)) rfl (p_fa fo_25_0 rfl) rfl rfl ?_
    refine lread (v := .int .i64 p131.Nodes) rfl (q_load wd_3 rfl) (St.ld X138 (j := 0) rfl rfl) rfl ?_
    refine lpure (v := .bool (decide (p134 < p131.Nodes))) rfl (p_lt rfl) rfl rfl ?_
    refine lpure (v := .bool (decide (p134 < p131.Nodes))) rfl (p_pick rfl) rfl rfl ?_
    refine Sim.of_eq (congrArg j143 (show ((decide (0 ≤ p134)) && (decide (p134 < p131.Nodes))) = (decide (p134 < p131.Nodes)) from by rw [k145] <;> rfl)) ?_
    exact ljmpM J144 (decide (p134 < p131.Nodes)) () (sub_cons rfl sub_nil) X138
  refine lskip rfl rfl ?_
  refine lskip rfl rfl ?_
  refine lskip rfl rfl ?_
  refine lskip rfl rfl ?_
  refine lpure (v := .bool false) rfl (p_pick rfl) rfl rfl ?_
  refine Sim.of_eq (congrArg j143 (show ((decide (0 ≤ p134)) && (decide (p134 < p131.Nodes))) = false from by rw [k145] <;> rfl)) ?_
  exact ljmpM J144 false () (sub_cons rfl sub_nil) X138
/-! isochron/topo.validLink -/
theorem f68_ok {n : Nat} {φ : Fz} {lo : Nat} {h : Heap} {own : OwnL}  {a105 : Option Addr} {n105 c105 : Nat} {a106 : Option Addr} {n106 c106 : Nat} (X : St φ lo h (own)) (p104 : ApiTopo) (p107 : Int) (H105 : RSl eBool φ (.slice a105 n105 c105) p104.Station) (H106 : RSl eApiLink φ (.slice a106 n106 c106) p104.Links) : Sim ((recN Tryz.prog LL cutF (n + 5)).call 68 #[(.agg #[.int .i64 p104.Nodes, .slice a105 n105 c105, .slice a106 n106 c106]), (.int .i64 p107)] h) (m_topo_validLink p104 p107) (fun (d : Bool) p => p = (.bool d, h)) := by
  refine fcut Tryz.func68 rfl rfl rfl rfl X ?_
  intro h0 X0
  refine dseq (dreg ?_)
  refine lbox rfl rfl rfl rfl rfl X0 (fun b108 h110 X111 => ?_)
  refine lbox rfl rfl rfl rfl rfl X111 (fun b112 h114 X115 => ?_)
  refine lpure (v := .bool false) rfl (p_assign rfl) rfl rfl ?_
  refine lend (nseq (dseq (dreg ?_)))
  refine lpure (v := .pointer (some ⟨b108, 2, none⟩)) rfl (p_fa fo_25_2 rfl) rfl rfl ?_
  refine lread (v := .slice a106 n106 c106) rfl (q_load wd_23 rfl) (St.ld X115 (j := 1) rfl rfl) rfl ?_
  refine lread (v := .int .i64 p107) rfl (q_load wd_3 rfl) (St.ld X115 (j := 0) rfl rfl) rfl ?_
  refine Sim.bindM fun e116 he117 => ?_
  obtain ⟨p118, cs118, hp118, hF118, hR118⟩ := RSl.ia H106 he117 (kd := .i64) (n := 4) rfl
  obtain rfl := eApiLink_el hR118
  refine lpure (v := p118) rfl (p_ia rs_23 rfl) hp118 rfl ?_
  refine lread (v := .agg #[.int .i64 e116.A, .int .i64 e116.B, .int .i64 e116.Per, .int .i64 e116.Delay]) rfl (q_load wd_65 rfl) (FP.ldw X115 hF118 rfl rfl) rfl ?_
  refine lalloc rfl tz_65 rfl rfl rfl X115 (fun b119 h121 X122 => ?_)
  refine lstore rfl ts_65 rfl rfl (j := 0) rfl rfl rfl rfl rfl rfl X122 (fun h123 X124 => ?_)
  refine lend (nseq (dseq (dreg ?_)))
  refine lpure (v := .func (.func 84) #[] #[.pointer (some ⟨b108, 0, none⟩), .pointer (some ⟨b119, 0, none⟩)]) rfl (p_makeFunc rfl) rfl rfl ?_
  refine lpure (v := .func (.func 86) #[] #[.pointer (some ⟨b108, 0, none⟩), .pointer (some ⟨b119, 0, none⟩)]) rfl (p_makeFunc rfl) rfl rfl ?_
  refine lpure (v := .func (.func 87) #[] #[.pointer (some ⟨b119, 0, none⟩)]) rfl (p_makeFunc rfl) rfl rfl ?_
  refine lpure (v := .func (.func 88) #[] #[.pointer (some ⟨b108, 0, none⟩), .pointer (some ⟨b112, 0, none⟩), .pointer (some ⟨b119, 0, none⟩)]) rfl (p_makeFunc rfl) rfl rfl ?_
  refine lpure (v := .agg #[.func (.func 84) #[] #[.pointer (some ⟨b108, 0, none⟩), .pointer (some ⟨b119, 0, none⟩)], .func (.func 86) #[] #[.pointer (some ⟨b108, 0, none⟩), .pointer (some ⟨b119, 0, none⟩)], .func (.func 87) #[] #[.pointer (some ⟨b119, 0, none⟩)], .func (.func 88) #[] #[.pointer (some ⟨b108, 0, none⟩), .pointer (some ⟨b112, 0, none⟩), .pointer (some ⟨b119, 0, none⟩)]]) rfl (p_build rfl) (build_ar' tz_106 ae_106 rfl) rfl ?_
  refine lalloc rfl tz_106 rfl rfl rfl X124 (fun b125 h127 X128 => ?_)
  refine lstore rfl ts_106 rfl rfl (j := 0) rfl rfl rfl rfl rfl rfl X128 (fun h129 X130 => ?_)
  refine lend (nseq (dseq (dseq (dreg ?_))))
  refine lread (v := .agg #[.func (.func 84) #[] #[.pointer (some ⟨b108, 0, none⟩), .pointer (some ⟨b119, 0, none⟩)], .func (.func 86) #[] #[.pointer (some ⟨b108, 0, none⟩), .pointer (some ⟨b119, 0, none⟩)], .func (.func 87) #[] #[.pointer (some ⟨b119, 0, none⟩)], .func (.func 88) #[] #[.pointer (some ⟨b108, 0, none⟩), .pointer (some ⟨b112, 0, none⟩), .pointer (some ⟨b119, 0, none⟩)]]) rfl (q_load wd_106 rfl) (St.ld X130 (j := 0) rfl rfl) rfl ?_
  refine lpure (v := .int .i64 0) rfl (p_move rfl) rfl rfl ?_
  refine lend (nseq (dblock ?_))
  refine dunroll 999999 rfl ?_
  refine dseq (dreg ?_)
  refine lpure (v := .bool true) rfl (p_lt rfl) rfl rfl ?_
  refine lend (nseq (dseq (dcondT rfl rfl (dskip (nseq (dseq (dblock (dseq (dreg ?_)))))))))
  refine lpure (v := .func (.func 84) #[] #[.pointer (some ⟨b108, 0, none⟩), .pointer (some ⟨b119, 0, none⟩)]) rfl (p_index as_106 rfl) rfl rfl ?_
  refine lpure (v := .func (.func 84) #[] #[.pointer (some ⟨b108, 0, none⟩), .pointer (some ⟨b119, 0, none⟩)]) rfl (p_assign rfl) rfl rfl ?_
  refine lend (nseq (dseq (dreg ?_)))
  refine lpure (v := .func (.func 84) #[] #[.pointer (some ⟨b108, 0, none⟩), .pointer (some ⟨b119, 0, none⟩)]) rfl (p_move rfl) rfl rfl ?_
  refine linl rfl rfl rfl rfl ca_84 rfl Tryz.func84 rfl rfl rfl rfl rfl ?_
  refine dseq (dreg ?_)
  refine lpure (v := .bool false) rfl (p_assign rfl) rfl rfl ?_
  refine lend (nseq (dseq (dreg ?_)))
  refine lread (v := .agg #[.int .i64 p104.Nodes, .slice a105 n105 c105, .slice a106 n106 c106]) rfl (q_load wd_25 rfl) (St.ld X130 (j := 3) rfl rfl) rfl ?_
  refine lpure (v := .pointer (some ⟨b119, 0, none⟩)) rfl (p_fa fo_65_0 rfl) rfl rfl ?_
  refine lread (v := .int .i64 e116.A) rfl (q_load wd_3 rfl) (St.ld X130 (j := 1) rfl rfl) rfl ?_
  refine lcall rfl rfl ca_85 rfl rfl (f85_ok X130 p104 (e116.A) H105 H106) rfl (fun e146 v147 h148 hq149 => ?_)
  cases hq149
  refine lpure (v := .bool e146) rfl (p_move rfl) rfl rfl ?_
  refine ljoinM (τ := Bool) (σ := Unit) (fun s156 (_ : Unit) => [(1, .pointer (some ⟨b119, 0, none⟩)), (12, .bool s156)]) (fun s156 (_ : Unit) hh => St φ h.n hh ([(some b125, .cells [.func (.func 84) #[] #[.pointer (some ⟨b108, 0, none⟩), .pointer (some ⟨b119, 0, none⟩)], .func (.func 86) #[] #[.pointer (some ⟨b108, 0, none⟩), .pointer (some ⟨b119, 0, none⟩)], .func (.func 87) #[] #[.pointer (some ⟨b119, 0, none⟩)], .func (.func 88) #[] #[.pointer (some ⟨b108, 0, none⟩), .pointer (some ⟨b112, 0, none⟩), .pointer (some ⟨b119, 0, none⟩)]] 106 .exact), (some b119, .cells [.int .i64 e116.A, .int .i64 e116.B, .int .i64 e116.Per, .int .i64 e116.Delay] 65 .exact), (some b112, .cells [.int .i64 p107] 3 .exact), (some b108, .cells [.int .i64 p104.Nodes, .slice a105 n105 c105, .slice a106 n106 c106] 25 .exact)])) 5 ?_ ?_
  · rintro s156 _ t0 h158 X157
    refine lpure (v := .bool s156) rfl (p_move rfl) rfl rfl ?_
    refine lsh (τ := Bool) (σ := Unit) (fun s160 (_ : Unit) => [(19, .bool s160)]) (fun s160 (_ : Unit) hh => St φ h.n hh ([(some b125, .cells [.func (.func 84) #[] #[.pointer (some ⟨b108, 0, none⟩), .pointer (some ⟨b119, 0, none⟩)], .func (.func 86) #[] #[.pointer (some ⟨b108, 0, none⟩), .pointer (some ⟨b119, 0, none⟩)], .func (.func 87) #[] #[.pointer (some ⟨b119, 0, none⟩)], .func (.func 88) #[] #[.pointer (some ⟨b108, 0, none⟩), .pointer (some ⟨b112, 0, none⟩), .pointer (some ⟨b119, 0, none⟩)]] 106 .exact), (some b119, .cells [.int .i64 e116.A, .int .i64 e116.B, .int .i64 e116.Per, .int .i64 e116.Delay] 65 .exact), (some b112, .cells [.int .i64 p107] 3 .exact), (some b108, .cells [.int .i64 p104.Nodes, .slice a105 n105 c105, .slice a106 n106 c106] 25 .exact)])) 6 ?_ ?_
    · rintro s160 _ t0 h162 X161
      refine lpure (v := .bool s160) rfl (p_assign rfl) rfl rfl ?_
      refine lend (nseq (dret ?_))
      refine kin_r (res_1 resT) ?_
      refine lpure (v := .bool (!s160)) rfl (p_not rfl) rfl rfl ?_
      refine lend (nseq ?_)
      refine dcond rfl rfl (fun k163 => ?_) (fun k163 => ?_)
      · refine dseq (dreg ?_)
        refine lpure (v := .bool false) rfl (p_assign rfl) rfl rfl ?_
        refine lend (nseq (dret (rblock (rseq (rloop (rblock (rseq ?_)))))))
        exact kcut_r (res_1 resT) X161 rfl rfl
      refine dskip (nblock (nseq (dreg ?_)))
      refine lpure (v := .int .i64 1) rfl (p_add rfl) rfl rfl ?_
      refine lpure (v := .int .i64 1) rfl (p_move rfl) rfl rfl ?_
      refine lend ?_
      refine nunroll 999998 rfl ?_
      refine dseq (dreg ?_)
      refine lpure (v := .bool true) rfl (p_lt rfl) rfl rfl ?_
      refine lend (nseq (dseq (dcondT rfl rfl (dskip (nseq (dseq (dblock (dseq (dreg ?_)))))))))
      refine lpure (v := .func (.func 86) #[] #[.pointer (some ⟨b108, 0, none⟩), .pointer (some ⟨b119, 0, none⟩)]) rfl (p_index as_106 rfl) rfl rfl ?_
      refine lpure (v := .func (.func 86) #[] #[.pointer (some ⟨b108, 0, none⟩), .pointer (some ⟨b119, 0, none⟩)]) rfl (p_assign rfl) rfl rfl ?_
      refine lend (nseq (dseq (dreg ?_)))
      refine lpure (v := .func (.func 86) #[] #[.pointer (some ⟨b108, 0, none⟩), .pointer (some ⟨b119, 0, none⟩)]) rfl (p_move rfl) rfl rfl ?_
      refine linl rfl rfl rfl rfl ca_86 rfl Tryz.func86 rfl rfl rfl rfl rfl ?_
      refine dseq (dreg ?_)
      refine lpure (v := .bool false) rfl (p_assign rfl) rfl rfl ?_
      refine lend (nseq (dseq (dreg ?_)))
      refine lpure (v := .pointer (some ⟨b108, 1, none⟩)) rfl (p_fa fo_25_1 rfl) rfl rfl ?_
      refine lread (v := .slice a105 n105 c105) rfl (q_load wd_22 rfl) (St.ld X161 (j := 3) rfl rfl) rfl ?_
      refine lpure (v := .pointer (some ⟨b119, 0, none⟩)) rfl (p_fa fo_65_0 rfl) rfl rfl ?_
      refine lread (v := .int .i64 e116.A) rfl (q_load wd_3 rfl) (St.ld X161 (j := 1) rfl rfl) rfl ?_
      refine Sim.bindM fun e164 he165 => ?_
      obtain ⟨p166, cs166, hp166, hF166, hR166⟩ := RSl.ia H105 he165 (kd := .i64) (n := 1) rfl
      have hR166 : _ = [(.bool e164 : Value)] := hR166
      subst hR166
      refine lpure (v := p166) rfl (p_ia rs_22 rfl) hp166 rfl ?_
      refine lread (v := .bool e164) rfl (q_load wd_4 rfl) (FP.ld X161 hF166) rfl ?_
      refine lpure (v := .bool (!e164)) rfl (p_not rfl) rfl rfl ?_
      refine lpure (v := .bool (!e164)) rfl (p_move rfl) rfl rfl ?_
      refine ljoinM (τ := Bool) (σ := Unit) (fun s172 (_ : Unit) => [(18, .bool s172)]) (fun s172 (_ : Unit) hh => St φ h.n hh ([(some b125, .cells [.func (.func 84) #[] #[.pointer (some ⟨b108, 0, none⟩), .pointer (some ⟨b119, 0, none⟩)], .func (.func 86) #[] #[.pointer (some ⟨b108, 0, none⟩), .pointer (some ⟨b119, 0, none⟩)], .func (.func 87) #[] #[.pointer (some ⟨b119, 0, none⟩)], .func (.func 88) #[] #[.pointer (some ⟨b108, 0, none⟩), .pointer (some ⟨b112, 0, none⟩), .pointer (some ⟨b119, 0, none⟩)]] 106 .exact), (some b119, .cells [.int .i64 e116.A, .int .i64 e116.B, .int .i64 e116.Per, .int .i64 e116.Delay] 65 .exact), (some b112, .cells [.int .i64 p107] 3 .exact), (some b108, .cells [.int .i64 p104.Nodes, .slice a105 n105 c105, .slice a106 n106 c106] 25 .exact)])) 8 ?_ ?_
      · rintro s172 _ t0 h174 X173
        refine lpure (v := .bool s172) rfl (p_assign rfl) rfl rfl ?_
        refine lend (nseq (dret ?_))
        refine kin_r (res_1 resT) ?_
        refine lpure (v := .bool (!s172)) rfl (p_not rfl) rfl rfl ?_
        refine lend (nseq ?_)
        refine dcond rfl rfl (fun k175 => ?_) (fun k175 => ?_)
        · refine dseq (dreg ?_)
          refine lpure (v := .bool false) rfl (p_assign rfl) rfl rfl ?_
          refine lend (nseq (dret (rblock (rseq (rloop (rblock (rseq ?_)))))))
          exact kcut_r (res_1 resT) X173 rfl rfl
        refine dskip (nblock (nseq (dreg ?_)))
        refine lpure (v := .int .i64 2) rfl (p_add rfl) rfl rfl ?_
        refine lpure (v := .int .i64 2) rfl (p_move rfl) rfl rfl ?_
        refine lend ?_
        refine nunroll 999997 rfl ?_
        refine dseq (dreg ?_)
        refine lpure (v := .bool true) rfl (p_lt rfl) rfl rfl ?_
        refine lend (nseq (dseq (dcondT rfl rfl (dskip (nseq (dseq (dblock (dseq (dreg ?_)))))))))
        refine lpure (v := .func (.func 87) #[] #[.pointer (some ⟨b119, 0, none⟩)]) rfl (p_index as_106 rfl) rfl rfl ?_
        refine lpure (v := .func (.func 87) #[] #[.pointer (some ⟨b119, 0, none⟩)]) rfl (p_assign rfl) rfl rfl ?_
        refine lend (nseq (dseq (dreg ?_)))
        refine lpure (v := .func (.func 87) #[] #[.pointer (some ⟨b119, 0, none⟩)]) rfl (p_move rfl) rfl rfl ?_
        refine linl rfl rfl rfl rfl ca_87 rfl Tryz.func87 rfl rfl rfl rfl rfl ?_
        refine dseq (dreg ?_)
        refine lpure (v := .bool false) rfl (p_assign rfl) rfl rfl ?_
        refine lend (nseq (dseq (dreg ?_)))
        refine lpure (v := .pointer (some ⟨b119, 2, none⟩)) rfl (p_fa fo_65_2 rfl) rfl rfl ?_
        refine lread (v := .int .i64 e116.Per) rfl (q_load wd_3 rfl) (St.ld X173 (j := 1) rfl rfl) rfl ?_
        refine lpure (v := .bool (decide (1 ≤ e116.Per))) rfl (p_ge rfl) rfl rfl ?_
        refine lpure (v := .bool (decide (1 ≤ e116.Per))) rfl (p_move rfl) rfl rfl ?_
        refine lsh (τ := Bool) (σ := Unit) (fun s177 (_ : Unit) => [(0, .pointer (some ⟨b119, 0, none⟩)), (9, .bool s177)]) (fun s177 (_ : Unit) hh => St φ h.n hh ([(some b125, .cells [.func (.func 84) #[] #[.pointer (some ⟨b108, 0, none⟩), .pointer (some ⟨b119, 0, none⟩)], .func (.func 86) #[] #[.pointer (some ⟨b108, 0, none⟩), .pointer (some ⟨b119, 0, none⟩)], .func (.func 87) #[] #[.pointer (some ⟨b119, 0, none⟩)], .func (.func 88) #[] #[.pointer (some ⟨b108, 0, none⟩), .pointer (some ⟨b112, 0, none⟩), .pointer (some ⟨b119, 0, none⟩)]] 106 .exact), (some b119, .cells [.int .i64 e116.A, .int .i64 e116.B, .int .i64 e116.Per, .int .i64 e116.Delay] 65 .exact), (some b112, .cells [.int .i64 p107] 3 .exact), (some b108, .cells [.int .i64 p104.Nodes, .slice a105 n105 c105, .slice a106 n106 c106] 25 .exact)])) 4 ?_ ?_
        · rintro s177 _ t0 h179 X178
          refine lpure (v := .bool s177) rfl (p_move rfl) rfl rfl ?_
          refine lsh (τ := Bool) (σ := Unit) (fun s181 (_ : Unit) => [(0, .pointer (some ⟨b119, 0, none⟩)), (14, .bool s181)]) (fun s181 (_ : Unit) hh => St φ h.n hh ([(some b125, .cells [.func (.func 84) #[] #[.pointer (some ⟨b108, 0, none⟩), .pointer (some ⟨b119, 0, none⟩)], .func (.func 86) #[] #[.pointer (some ⟨b108, 0, none⟩), .pointer (some ⟨b119, 0, none⟩)], .func (.func 87) #[] #[.pointer (some ⟨b119, 0, none⟩)], .func (.func 88) #[] #[.pointer (some ⟨b108, 0, none⟩), .pointer (some ⟨b112, 0, none⟩), .pointer (some ⟨b119, 0, none⟩)]] 106 .exact), (some b119, .cells [.int .i64 e116.A, .int .i64 e116.B, .int .i64 e116.Per, .int .i64 e116.Delay] 65 .exact), (some b112, .cells [.int .i64 p107] 3 .exact), (some b108, .cells [.int .i64 p104.Nodes, .slice a105 n105 c105, .slice a106 n106 c106] 25 .exact)])) 4 ?_ ?_
          · rintro s181 _ t0 h183 X182
            refine lpure (v := .bool s181) rfl (p_move rfl) rfl rfl ?_
            refine lsh (τ := Bool) (σ := Unit) (fun s185 (_ : Unit) => [(19, .bool s185)]) (fun s185 (_ : Unit) hh => St φ h.n hh ([(some b125, .cells [.func (.func 84) #[] #[.pointer (some ⟨b108, 0, none⟩), .pointer (some ⟨b119, 0, none⟩)], .func (.func 86) #[] #[.pointer (some ⟨b108, 0, none⟩), .pointer (some ⟨b119, 0, none⟩)], .func (.func 87) #[] #[.pointer (some ⟨b119, 0, none⟩)], .func (.func 88) #[] #[.pointer (some ⟨b108, 0, none⟩), .pointer (some ⟨b112, 0, none⟩), .pointer (some ⟨b119, 0, none⟩)]] 106 .exact), (some b119, .cells [.int .i64 e116.A, .int .i64 e116.B, .int .i64 e116.Per, .int .i64 e116.Delay] 65 .exact), (some b112, .cells [.int .i64 p107] 3 .exact), (some b108, .cells [.int .i64 p104.Nodes, .slice a105 n105 c105, .slice a106 n106 c106] 25 .exact)])) 4 ?_ ?_
            · rintro s185 _ t0 h187 X186
              refine lpure (v := .bool s185) rfl (p_assign rfl) rfl rfl ?_
              refine lend (nseq (dret ?_))
              refine kin_r (res_1 resT) ?_
              refine lpure (v := .bool (!s185)) rfl (p_not rfl) rfl rfl ?_
              refine lend (nseq ?_)
              refine dcond rfl rfl (fun k188 => ?_) (fun k188 => ?_)
              · refine dseq (dreg ?_)
                refine lpure (v := .bool false) rfl (p_assign rfl) rfl rfl ?_
                refine lend (nseq (dret (rblock (rseq (rloop (rblock (rseq ?_)))))))
                exact kcut_r (res_1 resT) X186 rfl rfl
              refine dskip (nblock (nseq (dreg ?_)))
              refine lpure (v := .int .i64 3) rfl (p_add rfl) rfl rfl ?_
              refine lpure (v := .int .i64 3) rfl (p_move rfl) rfl rfl ?_
              refine lend ?_
              refine nunroll 999996 rfl ?_
              refine dseq (dreg ?_)
              refine lpure (v := .bool true) rfl (p_lt rfl) rfl rfl ?_
              refine lend (nseq (dseq (dcondT rfl rfl (dskip (nseq (dseq (dblock (dseq (dreg ?_)))))))))
              refine lpure (v := .func (.func 88) #[] #[.pointer (some ⟨b108, 0, none⟩), .pointer (some ⟨b112, 0, none⟩), .pointer (some ⟨b119, 0, none⟩)]) rfl (p_index as_106 rfl) rfl rfl ?_
              refine lpure (v := .func (.func 88) #[] #[.pointer (some ⟨b108, 0, none⟩), .pointer (some ⟨b112, 0, none⟩), .pointer (some ⟨b119, 0, none⟩)]) rfl (p_assign rfl) rfl rfl ?_
              refine lend (nseq (dseq (dreg ?_)))
              refine lpure (v := .func (.func 88) #[] #[.pointer (some ⟨b108, 0, none⟩), .pointer (some ⟨b112, 0, none⟩), .pointer (some ⟨b119, 0, none⟩)]) rfl (p_move rfl) rfl rfl ?_
              refine linl rfl rfl rfl rfl ca_88 rfl Tryz.func88 rfl rfl rfl rfl rfl ?_
              refine dseq (dreg ?_)
              refine lpure (v := .bool false) rfl (p_assign rfl) rfl rfl ?_
              refine lend (nseq (dseq (dreg ?_)))
              refine lpure (v := .pointer (some ⟨b108, 2, none⟩)) rfl (p_fa fo_25_2 rfl) rfl rfl ?_
              refine lread (v := .slice a106 n106 c106) rfl (q_load wd_23 rfl) (St.ld X186 (j := 3) rfl rfl) rfl ?_
              refine lread (v := .int .i64 p107) rfl (q_load wd_3 rfl) (St.ld X186 (j := 2) rfl rfl) rfl ?_
              refine Sim.mustM fun k189 => ?_
              have k189 := of_decide_eq_true k189
              obtain ⟨a189, n189, c189, hv189, H189⟩ := RSl.slice H106 X186 un_23 ts_65 rfl bnd_none (bnd_int (show (0 : Int) ≤ p107 from by omega)) (by omega) (by omega)
              refine lread rfl (q_slice rfl (evo_ok rfl) (evo_ok rfl) (evo_ok rfl)) hv189 rfl ?_
              refine lpure (v := .func (.func 90) #[] #[.pointer (some ⟨b119, 0, none⟩)]) rfl (p_makeFunc rfl) rfl rfl ?_
              refine linl rfl rfl rfl rfl ca_89 rfl Tryz.func89 rfl rfl rfl rfl rfl ?_
              refine dseq (dreg ?_)
              refine lpure (v := .bool false) rfl (p_assign rfl) rfl rfl ?_
              refine lend (nseq (dseq (dreg ?_)))
              refine lpure (v := .slice a189 n189 c189) rfl (p_move rfl) rfl rfl ?_
              refine lpure (v := .func (.func 90) #[] #[.pointer (some ⟨b119, 0, none⟩)]) rfl (p_move rfl) rfl rfl ?_
              refine linl rfl rfl rfl rfl ca_108 rfl Tryz.func108 rfl rfl rfl rfl rfl ?_
              refine dseq (dreg ?_)
              refine lpure (v := .int .i64 0) rfl (p_assign rfl) rfl rfl ?_
              refine lend (nseq (dseq (dseq (dreg ?_))))
              refine lpure (v := .slice a189 n189 c189) rfl (p_move rfl) rfl rfl ?_
              refine lpure (v := .int .i64 ((p104.Links.take (p107).toNat).length : Int)) rfl (p_len rfl rfl rfl un_23 rfl) (RSl.lenC H189) rfl ?_
              refine lpure (v := .int .i64 0) rfl (p_move rfl) rfl rfl ?_
              refine lend (nseq (dblock ?_))
              refine dloopM (τ := Int) (σ := Unit) (fun s245 (_ : Unit) => [(0, .slice a189 n189 c189), (1, .func (.func 90) #[] #[.pointer (some ⟨b119, 0, none⟩)]), (7, .int .i64 ((p104.Links.take (p107).toNat).length : Int)), (8, .int .i64 s245)]) (fun s245 (_ : Unit) hh => St φ h.n hh ([(some b125, .cells [.func (.func 84) #[] #[.pointer (some ⟨b108, 0, none⟩), .pointer (some ⟨b119, 0, none⟩)], .func (.func 86) #[] #[.pointer (some ⟨b108, 0, none⟩), .pointer (some ⟨b119, 0, none⟩)], .func (.func 87) #[] #[.pointer (some ⟨b119, 0, none⟩)], .func (.func 88) #[] #[.pointer (some ⟨b108, 0, none⟩), .pointer (some ⟨b112, 0, none⟩), .pointer (some ⟨b119, 0, none⟩)]] 106 .exact), (some b119, .cells [.int .i64 e116.A, .int .i64 e116.B, .int .i64 e116.Per, .int .i64 e116.Delay] 65 .exact), (some b112, .cells [.int .i64 p107] 3 .exact), (some b108, .cells [.int .i64 p104.Nodes, .slice a105 n105 c105, .slice a106 n106 c106] 25 .exact)])) 0 () (sub_cons rfl (sub_cons rfl (sub_cons rfl (sub_cons rfl sub_nil)))) X186 ?_
              rintro n275 ih274 s245 _ t0 h277 X276
              refine dseq (dreg ?_)
              refine lpure (v := .bool (decide (s245 < ((p104.Links.take (p107).toNat).length : Int)))) rfl (p_lt rfl) rfl rfl ?_
              refine lend (nseq (dseq ?_))
              refine dcond rfl rfl (fun k278 => ?_) (fun k278 => ?_)
              · refine dskip (nseq (dseq (dblock (dseq (dreg ?_)))))
                refine lpure (v := .int .i64 s245) rfl (p_move rfl) rfl rfl ?_
                refine lpure (v := .int .i64 s245) rfl (p_assign rfl) rfl rfl ?_
                refine lend (nseq (dseq (dreg ?_)))
                refine lpure (v := .func (.func 90) #[] #[.pointer (some ⟨b119, 0, none⟩)]) rfl (p_move rfl) rfl rfl ?_
                refine lpure (v := .slice a189 n189 c189) rfl (p_move rfl) rfl rfl ?_
                refine lpure (v := .int .i64 s245) rfl (p_move rfl) rfl rfl ?_
                refine Sim.bindM fun e279 he280 => ?_
                obtain ⟨p281, cs281, hp281, hF281, hR281⟩ := RSl.ia H189 he280 (kd := .i64) (n := 4) rfl
                obtain rfl := eApiLink_el hR281
                refine lpure (v := p281) rfl (p_ia rs_23 rfl) hp281 rfl ?_
                refine lread (v := .agg #[.int .i64 e279.A, .int .i64 e279.B, .int .i64 e279.Per, .int .i64 e279.Delay]) rfl (q_load wd_65 rfl) (FP.ldw X276 hF281 rfl rfl) rfl ?_
                refine linl rfl rfl rfl rfl ca_90 rfl Tryz.func90 rfl rfl rfl rfl rfl ?_
                refine dseq (dreg ?_)
                refine lbox rfl rfl rfl rfl rfl X276 (fun b282 h284 X285 => ?_)
                refine lpure (v := .bool false) rfl (p_assign rfl) rfl rfl ?_
                refine lend (nseq (dseq (dreg ?_)))
                refine lpure (v := .pointer (some ⟨b282, 0, none⟩)) rfl (p_fa fo_65_0 rfl) rfl rfl ?_
                refine lread (v := .int .i64 e279.A) rfl (q_load wd_3 rfl) (St.ld X285 (j := 0) rfl rfl) rfl ?_
                refine lpure (v := .pointer (some ⟨b119, 0, none⟩)) rfl (p_fa fo_65_0 rfl) rfl rfl ?_
                refine lread (v := .int .i64 e116.A) rfl (q_load wd_3 rfl) (St.ld X285 (j := 2) rfl rfl) rfl ?_
                refine lpure (v := .bool (decide (e279.A = e116.A))) rfl (p_eq rfl) rfl rfl ?_
                refine lpure (v := .bool (decide (e279.A = e116.A))) rfl (p_move rfl) rfl rfl ?_
                refine lsh (τ := Bool) (σ := Unit) (fun s287 (_ : Unit) => [(1, .pointer (some ⟨b119, 0, none⟩)), (2, .pointer (some ⟨b282, 0, none⟩)), (15, .bool s287)]) (fun s287 (_ : Unit) hh => St φ h.n hh ([(some b282, .cells [.int .i64 e279.A, .int .i64 e279.B, .int .i64 e279.Per, .int .i64 e279.Delay] 65 .exact), (some b125, .cells [.func (.func 84) #[] #[.pointer (some ⟨b108, 0, none⟩), .pointer (some ⟨b119, 0, none⟩)], .func (.func 86) #[] #[.pointer (some ⟨b108, 0, none⟩), .pointer (some ⟨b119, 0, none⟩)], .func (.func 87) #[] #[.pointer (some ⟨b119, 0, none⟩)], .func (.func 88) #[] #[.pointer (some ⟨b108, 0, none⟩), .pointer (some ⟨b112, 0, none⟩), .pointer (some ⟨b119, 0, none⟩)]] 106 .exact), (some b119, .cells [.int .i64 e116.A, .int .i64 e116.B, .int .i64 e116.Per, .int .i64 e116.Delay] 65 .exact), (some b112, .cells [.int .i64 p107] 3 .exact), (some b108, .cells [.int .i64 p104.Nodes, .slice a105 n105 c105, .slice a106 n106 c106] 25 .exact)])) 6 ?_ ?_
                · rintro s287 _ t0 h289 X288
                  refine lpure (v := .bool s287) rfl (p_move rfl) rfl rfl ?_
                  refine lsh (τ := Bool) (σ := Unit) (fun s291 (_ : Unit) => [(29, .bool s291)]) (fun s291 (_ : Unit) hh => St φ h.n hh ([(some b282, .cells [.int .i64 e279.A, .int .i64 e279.B, .int .i64 e279.Per, .int .i64 e279.Delay] 65 .exact), (some b125, .cells [.func (.func 84) #[] #[.pointer (some ⟨b108, 0, none⟩), .pointer (some ⟨b119, 0, none⟩)], .func (.func 86) #[] #[.pointer (some ⟨b108, 0, none⟩), .pointer (some ⟨b119, 0, none⟩)], .func (.func 87) #[] #[.pointer (some ⟨b119, 0, none⟩)], .func (.func 88) #[] #[.pointer (some ⟨b108, 0, none⟩), .pointer (some ⟨b112, 0, none⟩), .pointer (some ⟨b119, 0, none⟩)]] 106 .exact), (some b119, .cells [.int .i64 e116.A, .int .i64 e116.B, .int .i64 e116.Per, .int .i64 e116.Delay] 65 .exact), (some b112, .cells [.int .i64 p107] 3 .exact), (some b108, .cells [.int .i64 p104.Nodes, .slice a105 n105 c105, .slice a106 n106 c106] 25 .exact)])) 13 ?_ ?_
                  · rintro s291 _ t0 h293 X292
                    refine lpure (v := .bool s291) rfl (p_assign rfl) rfl rfl ?_
                    refine lend (nseq (dret ?_))
                    refine kin_r (res_1 resT) ?_
                    refine lend (nseq ?_)
                    refine dcond rfl rfl (fun k294 => ?_) (fun k294 => ?_)
                    · refine dseq (dreg ?_)
                      refine lpure (v := .int .i64 s245) rfl (p_move rfl) rfl rfl ?_
                      refine lpure (v := .int .i64 s245) rfl (p_assign rfl) rfl rfl ?_
                      refine lend (nseq (dret (rblock (rseq (rloop (rblock (rseq ?_)))))))
                      refine kin_r (res_1 resT) ?_
                      refine lpure (v := .bool (decide (0 ≤ s245))) rfl (p_ge rfl) rfl rfl ?_
                      refine lpure (v := .bool (decide (0 ≤ s245))) rfl (p_assign rfl) rfl rfl ?_
                      refine lend (nseq (dret ?_))
                      refine kin_r (res_1 resT) ?_
                      refine lpure (v := .bool (!(decide (0 ≤ s245)))) rfl (p_not rfl) rfl rfl ?_
                      refine lpure (v := .bool (!(decide (0 ≤ s245)))) rfl (p_assign rfl) rfl rfl ?_
                      refine lend (nseq (dret ?_))
                      refine kin_r (res_1 resT) ?_
                      refine lpure (v := .bool (!(!(decide (0 ≤ s245))))) rfl (p_not rfl) rfl rfl ?_
                      refine lend (nseq ?_)
                      refine dcond rfl rfl (fun k295 => ?_) (fun k295 => ?_)
                      · refine dseq (dreg ?_)
                        refine lpure (v := .bool false) rfl (p_assign rfl) rfl rfl ?_
                        refine lend (nseq (dret (rblock (rseq (rloop (rblock (rseq ?_)))))))
                        exact kcut_r (res_1 resT) X292 rfl rfl
                      refine dskip (nblock (nseq (dreg ?_)))
                      refine lpure (v := .int .i64 4) rfl (p_add rfl) rfl rfl ?_
                      refine lpure (v := .int .i64 4) rfl (p_move rfl) rfl rfl ?_
                      refine lend ?_
                      refine nunroll 999995 rfl ?_
                      refine dseq (dreg ?_)
                      refine lpure (v := .bool false) rfl (p_lt rfl) rfl rfl ?_
                      refine lend (nseq (dseq (dcondF rfl rfl (dexit (eseq (eloop (xblock (nseq (dseq (dreg ?_))))))))))
                      refine lpure (v := .bool true) rfl (p_assign rfl) rfl rfl ?_
                      refine lend (nseq (dret ?_))
                      exact kcut_r (res_1 resT) X292 rfl rfl
                    refine dskip (nblock (nseq (dreg ?_)))
                    refine lpure (v := .int .i64 (w64 (s245 + 1))) rfl (p_add rfl) rfl rfl ?_
                    refine lpure (v := .int .i64 (w64 (s245 + 1))) rfl (p_move rfl) rfl rfl ?_
                    refine lend ?_
                    exact kbackM ih274 (w64 (s245 + 1)) () (sub_cons rfl (sub_cons rfl (sub_cons rfl (sub_cons rfl sub_nil)))) (St.pick X292 (.skip _ (.keep _ (.keep _ (.keep _ (.keep _ (.nil _)))))))
                  intro j296 J297
                  refine lcase (i := 16) (show _ = Value.bool s287 from rfl) (fun k298 => ?_) (fun k298 => ?_)
                  · refine lskip rfl rfl ?_
                    refine lskip rfl rfl ?_
                    refine lskip rfl rfl ?_
                    refine lskip rfl rfl ?_
                    refine lskip rfl rfl ?_
                    refine lskip rfl rfl ?_
                    refine lskip rfl rfl ?_
                    refine lskip rfl rfl ?_
                    refine lskip rfl rfl ?_
                    refine lskip rfl rfl ?_
                    refine lskip rfl rfl ?_
                    refine lskip rfl rfl ?_
                    refine lpure (v := .bool true) rfl (p_pick rfl) rfl rfl ?_
                    refine Sim.of_eq (congrArg j296 (show (s287 || ((decide (e279.A = e116.B)) && (decide (e279.B = e116.A)))) = true from by rw [k298] <;> rfl)) ?_
                    exact ljmpM J297 true () (sub_cons rfl sub_nil) X288
                  refine lpure (v := .pointer (some ⟨b282, 0, none⟩)) rfl (p_fa fo_65_0 rfl) rfl rfl ?_
                  refine lread (v := .int .i64 e279.A) rfl (q_load wd_3 rfl) (St.ld X288 (j := 0) rfl rfl) rfl ?_
                  refine lpure (v := .pointer (some ⟨b119, 1, none⟩)) rfl (p_fa fo_65_1 rfl) rfl rfl ?_
                  refine lread (v := .int .i64 e116.B) rfl (q_load wd_3 rfl) (St.ld X288 (j := 2) rfl rfl) rfl ?_
                  refine lpure (v := .bool (decide (e279.A = e116.B))) rfl (p_eq rfl) rfl rfl ?_
                  refine lpure (v := .bool (decide (e279.A = e116.B))) rfl (p_move rfl) rfl rfl ?_
                  refine lcase (i := 22) (show _ = Value.bool (decide (e279.A = e116.B)) from rfl) (fun k299 => ?_) (fun k299 => ?_)
                  · refine lpure (v := .pointer (some ⟨b282, 1, none⟩)) rfl (p_fa fo_65_1 rfl) rfl rfl ?_
                    refine lread (v := .int .i64 e279.B) rfl (q_load wd_3 rfl) (St.ld X288 (j := 0) rfl rfl) rfl ?_
                    refine lpure (v := .pointer (some ⟨b119, 0, none⟩)) rfl (p_fa fo_65_0 rfl) rfl rfl ?_
                    refine lread (v := .int .i64 e116.A) rfl (q_load wd_3 rfl) (St.ld X288 (j := 2) rfl rfl) rfl ?_
                    refine lpure (v := .bool (decide (e279.B = e116.A))) rfl (p_eq rfl) rfl rfl ?_
                    refine lpure (v := .bool (decide (e279.B = e116.A))) rfl (p_pick rfl) rfl rfl ?_
                    refine lpure (v := .bool (decide (e279.B = e116.A))) rfl (p_pick rfl) rfl rfl ?_
                    refine Sim.of_eq (congrArg j296 (show (s287 || ((decide (e279.A = e116.B)) && (decide (e279.B = e116.A)))) = (decide (e279.B = e116.A)) from by rw [k298, k299] <;> rfl)) ?_
                    exact ljmpM J297 (decide (e279.B = e116.A)) () (sub_cons rfl sub_nil) X288
                  refine lskip rfl rfl ?_
                  refine lskip rfl rfl ?_
                  refine lskip rfl rfl ?_
                  refine lskip rfl rfl ?_
                  refine lskip rfl rfl ?_
                  refine lpure (v := .bool false) rfl (p_pick rfl) rfl rfl ?_
                  refine lpure (v := .bool false) rfl (p_pick rfl) rfl rfl ?_
                  refine Sim.of_eq (congrArg j296 (show (s287 || ((decide (e279.A = e116.B)) && (decide (e279.B = e116.A)))) = false from by rw [k298, k299] <;> rfl)) ?_
                  exact ljmpM J297 false () (sub_cons rfl sub_nil) X288
                intro j300 J301
                refine lcase (i := 9) (show _ = Value.bool (decide (e279.A = e116.A)) from rfl) (fun k302 => ?_) (fun k302 => ?_)
                · refine lpure (v := .pointer (some ⟨b282, 1, none⟩)) rfl (p_fa fo_65_1 rfl) rfl rfl ?_
                  refine lread (v := .int .i64 e279.B) rfl (q_load wd_3 rfl) (St.ld X285 (j := 0) rfl rfl) rfl ?_
                  refine lpure (v := .pointer (some ⟨b119, 1, none⟩)) rfl (p_fa fo_65_1 rfl) rfl rfl ?_
                  refine lread (v := .int .i64 e116.B) rfl (q_load wd_3 rfl) (St.ld X285 (j := 2) rfl rfl) rfl ?_
                  refine lpure (v := .bool (decide (e279.B = e116.B))) rfl (p_eq rfl) rfl rfl ?_
                  refine lpure (v := .bool (decide (e279.B = e116.B))) rfl (p_pick rfl) rfl rfl ?_
                  refine Sim.of_eq (congrArg j300 (show ((decide (e279.A = e116.A)) && (decide (e279.B = e116.B))) = (decide (e279.B = e116.B)) from by rw [k302] <;> rfl)) ?_
                  exact ljmpM J301 (decide (e279.B = e116.B)) () (sub_cons rfl (sub_cons rfl (sub_cons rfl sub_nil))) X285
                refine lskip rfl rfl ?_
                refine lskip rfl rfl ?_
                refine lskip rfl rfl ?_
                refine lskip rfl rfl ?_
                refine lskip rfl rfl ?_
                refine lpure (v := .bool false) rfl (p_pick rfl) rfl rfl ?_
                refine Sim.of_eq (congrArg j300 (show ((decide (e279.A = e116.A)) && (decide (e279.B = e116.B))) = false from by rw [k302] <;> rfl)) ?_
                exact ljmpM J301 false () (sub_cons rfl (sub_cons rfl (sub_cons rfl sub_nil))) X285
              refine dexit (eseq (eloop (xblock (nseq (dseq (dreg ?_))))))
              refine lpure (v := .int .i64 (-1)) rfl (p_assign rfl) rfl rfl ?_
              refine lend (nseq (dret ?_))
              refine kin_r (res_1 resT) ?_
              refine lpure (v := .bool false) rfl (p_ge rfl) rfl rfl ?_
              refine lpure (v := .bool false) rfl (p_assign rfl) rfl rfl ?_
              refine lend (nseq (dret ?_))
              refine kin_r (res_1 resT) ?_
              refine lpure (v := .bool true) rfl (p_not rfl) rfl rfl ?_
              refine lpure (v := .bool true) rfl (p_assign rfl) rfl rfl ?_
              refine lend (nseq (dret ?_))
              refine kin_r (res_1 resT) ?_
              refine lpure (v := .bool false) rfl (p_not rfl) rfl rfl ?_
              refine lend (nseq (dcondF rfl rfl (dskip (nblock (nseq (dreg ?_))))))
              refine lpure (v := .int .i64 4) rfl (p_add rfl) rfl rfl ?_
              refine lpure (v := .int .i64 4) rfl (p_move rfl) rfl rfl ?_
              refine lend ?_
              refine nunroll 999995 rfl ?_
              refine dseq (dreg ?_)
              refine lpure (v := .bool false) rfl (p_lt rfl) rfl rfl ?_
              refine lend (nseq (dseq (dcondF rfl rfl (dexit (eseq (eloop (xblock (nseq (dseq (dreg ?_))))))))))
              refine lpure (v := .bool true) rfl (p_assign rfl) rfl rfl ?_
              refine lend (nseq (dret ?_))
              exact kcut_r (res_1 resT) X276 rfl rfl
            intro j303 J304
            refine lcase (i := 15) (show _ = Value.bool s181 from rfl) (fun k305 => ?_) (fun k305 => ?_)
            · refine lpure (v := .pointer (some ⟨b119, 3, none⟩)) rfl (p_fa fo_65_3 rfl) rfl rfl ?_
              refine lread (v := .int .i64 e116.Delay) rfl (q_load wd_3 rfl) (St.ld X182 (j := 1) rfl rfl) rfl ?_
              refine lpure (v := .bool (decide (e116.Delay ≤ 10000))) rfl (p_le rfl) rfl rfl ?_
              refine lpure (v := .bool (decide (e116.Delay ≤ 10000))) rfl (p_pick rfl) rfl rfl ?_
              refine Sim.of_eq (congrArg j303 (show (s181 && (decide (e116.Delay ≤ 10000))) = (decide (e116.Delay ≤ 10000)) from by rw [k305] <;> rfl)) ?_
              exact ljmpM J304 (decide (e116.Delay ≤ 10000)) () (sub_cons rfl sub_nil) X182
            refine lskip rfl rfl ?_
            refine lskip rfl rfl ?_
            refine lskip rfl rfl ?_
            refine lpure (v := .bool false) rfl (p_pick rfl) rfl rfl ?_
            refine Sim.of_eq (congrArg j303 (show (s181 && (decide (e116.Delay ≤ 10000))) = false from by rw [k305] <;> rfl)) ?_
            exact ljmpM J304 false () (sub_cons rfl sub_nil) X182
          intro j306 J307
          refine lcase (i := 10) (show _ = Value.bool s177 from rfl) (fun k308 => ?_) (fun k308 => ?_)
          · refine lpure (v := .pointer (some ⟨b119, 3, none⟩)) rfl (p_fa fo_65_3 rfl) rfl rfl ?_
            refine lread (v := .int .i64 e116.Delay) rfl (q_load wd_3 rfl) (St.ld X178 (j := 1) rfl rfl) rfl ?_
            refine lpure (v := .bool (decide (0 ≤ e116.Delay))) rfl (p_ge rfl) rfl rfl ?_
            refine lpure (v := .bool (decide (0 ≤ e116.Delay))) rfl (p_pick rfl) rfl rfl ?_
            refine Sim.of_eq (congrArg j306 (show (s177 && (decide (0 ≤ e116.Delay))) = (decide (0 ≤ e116.Delay)) from by rw [k308] <;> rfl)) ?_
            exact ljmpM J307 (decide (0 ≤ e116.Delay)) () (sub_cons rfl (sub_cons rfl sub_nil)) X178
          refine lskip rfl rfl ?_
          refine lskip rfl rfl ?_
          refine lskip rfl rfl ?_
          refine lpure (v := .bool false) rfl (p_pick rfl) rfl rfl ?_
          refine Sim.of_eq (congrArg j306 (show (s177 && (decide (0 ≤ e116.Delay))) = false from by rw [k308] <;> rfl)) ?_
          exact ljmpM J307 false () (sub_cons rfl (sub_cons rfl sub_nil)) X178
        intro j309 J310
        refine lcase (i := 5) (show _ = Value.bool (decide (1 ≤ e116.Per)) from rfl) (fun k311 => ?_) (fun k311 => ?_)
        · refine lpure (v := .pointer (some ⟨b119, 2, none⟩)) rfl (p_fa fo_65_2 rfl) rfl rfl ?_
          refine lread (v := .int .i64 e116.Per) rfl (q_load wd_3 rfl) (St.ld X173 (j := 1) rfl rfl) rfl ?_
          refine lpure (v := .bool (decide (e116.Per ≤ 1000))) rfl (p_le rfl) rfl rfl ?_
          refine lpure (v := .bool (decide (e116.Per ≤ 1000))) rfl (p_pick rfl) rfl rfl ?_
          refine Sim.of_eq (congrArg j309 (show ((decide (1 ≤ e116.Per)) && (decide (e116.Per ≤ 1000))) = (decide (e116.Per ≤ 1000)) from by rw [k311] <;> rfl)) ?_
          exact ljmpM J310 (decide (e116.Per ≤ 1000)) () (sub_cons rfl (sub_cons rfl sub_nil)) X173
        refine lskip rfl rfl ?_
        refine lskip rfl rfl ?_
        refine lskip rfl rfl ?_
        refine lpure (v := .bool false) rfl (p_pick rfl) rfl rfl ?_
        refine Sim.of_eq (congrArg j309 (show ((decide (1 ≤ e116.Per)) && (decide (e116.Per ≤ 1000))) = false from by rw [k311] <;> rfl)) ?_
        exact ljmpM J310 false () (sub_cons rfl (sub_cons rfl sub_nil)) X173
      intro j312 J313
      refine lif (i := 10) (show _ = Value.bool (!e164) from rfl) (fun k314 => ?_) (fun k314 => ?_)
      · refine lskip rfl rfl ?_
        refine lskip rfl rfl ?_
        refine lskip rfl rfl ?_
        refine lskip rfl rfl ?_
        refine lskip rfl rfl ?_
        refine lskip rfl rfl ?_
        refine lskip rfl rfl ?_
        refine lpure (v := .bool true) rfl (p_pick rfl) rfl rfl ?_
        exact ljmpM J313 true () (sub_cons rfl sub_nil) X161
      refine lpure (v := .pointer (some ⟨b108, 1, none⟩)) rfl (p_fa fo_25_1 rfl) rfl rfl ?_
      refine lread (v := .slice a105 n105 c105) rfl (q_load wd_22 rfl) (St.ld X161 (j := 3) rfl rfl) rfl ?_
      refine lpure (v := .pointer (some ⟨b119, 1, none⟩)) rfl (p_fa fo_65_1 rfl) rfl rfl ?_
      refine lread (v := .int .i64 e116.B) rfl (q_load wd_3 rfl) (St.ld X161 (j := 1) rfl rfl) rfl ?_
      refine Sim.bindM fun e315 he316 => ?_
      obtain ⟨p317, cs317, hp317, hF317, hR317⟩ := RSl.ia H105 he316 (kd := .i64) (n := 1) rfl
      have hR317 : _ = [(.bool e315 : Value)] := hR317
      subst hR317
      refine lpure (v := p317) rfl (p_ia rs_22 rfl) hp317 rfl ?_
      refine lread (v := .bool e315) rfl (q_load wd_4 rfl) (FP.ld X161 hF317) rfl ?_
      refine lpure (v := .bool (!e315)) rfl (p_not rfl) rfl rfl ?_
      refine lpure (v := .bool (!e315)) rfl (p_pick rfl) rfl rfl ?_
      exact ljmpM J313 (!e315) () (sub_cons rfl sub_nil) X161
    intro j318 J319
    refine lcase (i := 13) (show _ = Value.bool s156 from rfl) (fun k320 => ?_) (fun k320 => ?_)
    · refine lpure (v := .pointer (some ⟨b119, 0, none⟩)) rfl (p_fa fo_65_0 rfl) rfl rfl ?_
      refine lread (v := .int .i64 e116.A) rfl (q_load wd_3 rfl) (St.ld X157 (j := 1) rfl rfl) rfl ?_
      refine lpure (v := .pointer (some ⟨b119, 1, none⟩)) rfl (p_fa fo_65_1 rfl) rfl rfl ?_
      refine lread (v := .int .i64 e116.B) rfl (q_load wd_3 rfl) (St.ld X157 (j := 1) rfl rfl) rfl ?_
      refine lpure (v := .bool (decide (e116.A ≠ e116.B))) rfl (p_ne rfl) rfl rfl ?_
      refine lpure (v := .bool (decide (e116.A ≠ e116.B))) rfl (p_pick rfl) rfl rfl ?_
      refine Sim.of_eq (congrArg j318 (show (s156 && (decide (e116.A ≠ e116.B))) = (decide (e116.A ≠ e116.B)) from by rw [k320] <;> rfl)) ?_
      exact ljmpM J319 (decide (e116.A ≠ e116.B)) () (sub_cons rfl sub_nil) X157
    refine lskip rfl rfl ?_
    refine lskip rfl rfl ?_
    refine lskip rfl rfl ?_
    refine lskip rfl rfl ?_
    refine lskip rfl rfl ?_
    refine lpure (v := .bool false) rfl (p_pick rfl) rfl rfl ?_
    refine Sim.of_eq (congrArg j318 (show (s156 && (decide (e116.A ≠ e116.B))) = false from by rw [k320] <;> rfl)) ?_
    exact ljmpM J319 false () (sub_cons rfl sub_nil) X157
  intro j321 J322
  refine lif (i := 7) (show _ = Value.bool e146 from rfl) (fun k323 => ?_) (fun k323 => ?_)
  · refine lread (v := .agg #[.int .i64 p104.Nodes, .slice a105 n105 c105, .slice a106 n106 c106]) rfl (q_load wd_25 rfl) (St.ld X130 (j := 3) rfl rfl) rfl ?_
    refine lpure (v := .pointer (some ⟨b119, 1, none⟩)) rfl (p_fa fo_65_1 rfl) rfl rfl ?_
    refine lread (v := .int .i64 e116.B) rfl (q_load wd_3 rfl) (St.ld X130 (j := 1) rfl rfl) rfl ?_
    refine lcall rfl rfl ca_85 rfl rfl (f85_ok X130 p104 (e116.B) H105 H106) rfl (fun e324 v325 h326 hq327 => ?_)
    cases hq327
    refine lpure (v := .bool e324) rfl (p_pick rfl) rfl rfl ?_
    exact ljmpM J322 e324 () (sub_cons rfl (sub_cons rfl sub_nil)) X130
  refine lskip rfl rfl ?_
  refine lskip rfl rfl ?_
  refine lskip rfl rfl ?_
  refine lskip rfl rfl ?_
  refine lpure (v := .bool false) rfl (p_pick rfl) rfl rfl ?_
  exact ljmpM J322 false () (sub_cons rfl (sub_cons rfl sub_nil)) X130
/-! (isochron/topo.end).from -/
theorem f92_ok {n : Nat} {φ : Fz} {lo : Nat} {h : Heap} {own : OwnL}  (X : St φ lo h (own)) (p394 : TopoEnd) : Sim ((recN Tryz.prog LL cutF (n + 1)).call 92 #[(.agg #[.int .i64 p394.Link.A, .int .i64 p394.Link.B, .int .i64 p394.Link.Per, .int .i64 p394.Link.Delay, .int .i64 p394.port])] h) (m_topo_end_from p394) (fun (d : Int) p => p = (.int .i64 d, h)) := by
  refine fcut Tryz.func92 rfl rfl rfl rfl X ?_
  intro h0 X0
  refine dseq (dreg ?_)
  refine lbox rfl rfl rfl rfl rfl X0 (fun b395 h397 X398 => ?_)
  refine lpure (v := .int .i64 0) rfl (p_assign rfl) rfl rfl ?_
  refine lend (nseq (dseq (dseq (dreg ?_))))
  refine lpure (v := .pointer (some ⟨b395, 4, none⟩)) rfl (p_fa fo_111_1 rfl) rfl rfl ?_
  refine lread (v := .int .i64 p394.port) rfl (q_load wd_3 rfl) (St.ld X398 (j := 0) rfl rfl) rfl ?_
  refine lpure (v := .int .i64 (Int.tmod p394.port 2)) rfl (p_rem rfl) rfl rfl ?_
  refine lpure (v := .bool (decide ((Int.tmod p394.port 2) = 0))) rfl (p_eq rfl) rfl rfl ?_
  refine lend (nseq ?_)
  refine dcond rfl rfl (fun k399 => ?_) (fun k399 => ?_)
  · refine dseq (dreg ?_)
    refine lpure (v := .pointer (some ⟨b395, 0, none⟩)) rfl (p_fa fo_111_0 rfl) rfl rfl ?_
    refine lpure (v := .pointer (some ⟨b395, 0, none⟩)) rfl (p_fa fo_65_0 rfl) rfl rfl ?_
    refine lread (v := .int .i64 p394.Link.A) rfl (q_load wd_3 rfl) (St.ld X398 (j := 0) rfl rfl) rfl ?_
    refine lpure (v := .int .i64 p394.Link.A) rfl (p_assign rfl) rfl rfl ?_
    refine lend (nseq (dret (rseq ?_)))
    exact kcut_r (res_1 resT) X398 rfl rfl
  refine dskip (nseq (dseq (dreg ?_)))
  refine lpure (v := .pointer (some ⟨b395, 0, none⟩)) rfl (p_fa fo_111_0 rfl) rfl rfl ?_
  refine lpure (v := .pointer (some ⟨b395, 1, none⟩)) rfl (p_fa fo_65_1 rfl) rfl rfl ?_
  refine lread (v := .int .i64 p394.Link.B) rfl (q_load wd_3 rfl) (St.ld X398 (j := 0) rfl rfl) rfl ?_
  refine lpure (v := .int .i64 p394.Link.B) rfl (p_assign rfl) rfl rfl ?_
  refine lend (nseq (dret ?_))
  exact kcut_r (res_1 resT) X398 rfl rfl
/-! isochron/topo.degree -/
theorem f69_ok {n : Nat} {φ : Fz} {lo : Nat} {h : Heap} {own : OwnL}  {a343 : Option Addr} {n343 c343 : Nat} {a344 : Option Addr} {n344 c344 : Nat} (X : St φ lo h (own)) (p342 : ApiTopo) (p345 : Int) (H343 : RSl eBool φ (.slice a343 n343 c343) p342.Station) (H344 : RSl eApiLink φ (.slice a344 n344 c344) p342.Links) : Sim ((recN Tryz.prog LL cutF (n + 4)).call 69 #[(.agg #[.int .i64 p342.Nodes, .slice a343 n343 c343, .slice a344 n344 c344]), (.int .i64 p345)] h) (m_topo_degree p342 p345) (fun (d : Int) p => p = (.int .i64 d, h)) := by
  refine fcut Tryz.func69 rfl rfl rfl rfl X ?_
  intro h0 X0
  refine dseq (dreg ?_)
  refine lbox rfl rfl rfl rfl rfl X0 (fun b346 h348 X349 => ?_)
  refine lbox rfl rfl rfl rfl rfl X349 (fun b350 h352 X353 => ?_)
  refine lpure (v := .int .i64 0) rfl (p_assign rfl) rfl rfl ?_
  refine lend (nseq (dseq (dreg ?_)))
  refine lalloc rfl tz_3 rfl rfl rfl X353 (fun b354 h356 X357 => ?_)
  refine lstore rfl ts_3 rfl rfl (j := 0) rfl rfl rfl rfl rfl rfl X357 (fun h358 X359 => ?_)
  refine lend (nseq (dseq (dseq (dreg ?_))))
  refine lread (v := .agg #[.int .i64 p342.Nodes, .slice a343 n343 c343, .slice a344 n344 c344]) rfl (q_load wd_25 rfl) (St.ld X359 (j := 2) rfl rfl) rfl ?_
  refine linl rfl rfl rfl rfl ca_91 rfl Tryz.func91 rfl rfl rfl rfl rfl ?_
  refine dseq (dreg ?_)
  refine lbox rfl rfl rfl rfl rfl X359 (fun b360 h362 X363 => ?_)
  refine lpure (v := .nilFunc) rfl (p_assign rfl) rfl rfl ?_
  refine lend (nseq (dseq (dreg ?_)))
  refine lpure (v := .func (.func 109) #[] #[.pointer (some ⟨b360, 0, none⟩)]) rfl (p_makeFunc rfl) rfl rfl ?_
  refine lpure (v := .func (.func 109) #[] #[.pointer (some ⟨b360, 0, none⟩)]) rfl (p_assign rfl) rfl rfl ?_
  refine lend (nseq (dret ?_))
  refine kin_r (res_1 resT) ?_
  refine lend (nseq (dblock ?_))
  refine drange rfl rfl ca_109 Tryz.func109 rfl rfl X363 (fun _ => rfl) ?_
  intro l364 q365 df366 h368 Q367 X369
  refine dseq (dreg ?_)
  refine lpure (v := .pointer (some ⟨b360, 2, none⟩)) rfl (p_fa fo_25_2 rfl) rfl rfl ?_
  refine lread (v := .slice a344 n344 c344) rfl (q_load wd_23 rfl) (St.ld X369 (j := 2) rfl rfl) rfl ?_
  refine lpure (v := .int .i64 (p342.Links.length : Int)) rfl (p_len rfl rfl rfl un_23 rfl) (RSl.lenC H344) rfl ?_
  refine lpure (v := .int .i64 0) rfl (p_move rfl) rfl rfl ?_
  refine lend (nseq (dblock ?_))
  refine dloopM (τ := Int × Int) (σ := Unit) (fun s508 (_ : Unit) => [(0, .func (.yield l364) #[] #[]), (6, .slice a344 n344 c344), (7, .int .i64 (p342.Links.length : Int)), (8, .int .i64 s508.1)]) (fun s508 (_ : Unit) hh => St φ h.n hh ([(some l364, rdy q365), (none, .dead), (some b360, .cells [.int .i64 p342.Nodes, .slice a343 n343 c343, .slice a344 n344 c344] 25 .exact), (some b354, .cells [.int .i64 s508.2] 3 .exact), (some b350, .cells [.int .i64 p345] 3 .exact), (some b346, .cells [.int .i64 p342.Nodes, .slice a343 n343 c343, .slice a344 n344 c344] 25 .exact)])) (0, 0) () (sub_cons rfl (sub_cons rfl (sub_cons rfl (sub_cons rfl sub_nil)))) (St.pick X369 (.keep _ (.none _ (.skip _ (.keep _ (.keep _ (.keep _ (.keep _ (.nil _))))))))) ?_
  rintro n575 ih574 s508 _ t0 h577 X576
  refine dseq (dreg ?_)
  refine lpure (v := .bool (decide (s508.1 < (p342.Links.length : Int)))) rfl (p_lt rfl) rfl rfl ?_
  refine lend (nseq (dseq ?_))
  refine dcond rfl rfl (fun k578 => ?_) (fun k578 => ?_)
  · refine dskip (nseq (dseq (dblock (dseq (dreg ?_)))))
    refine lpure (v := .int .i64 s508.1) rfl (p_move rfl) rfl rfl ?_
    refine Sim.bindM fun e579 he580 => ?_
    obtain ⟨p581, cs581, hp581, hF581, hR581⟩ := RSl.ia H344 he580 (kd := .i64) (n := 4) rfl
    obtain rfl := eApiLink_el hR581
    refine lpure (v := p581) rfl (p_ia rs_23 rfl) hp581 rfl ?_
    refine lread (v := .agg #[.int .i64 e579.A, .int .i64 e579.B, .int .i64 e579.Per, .int .i64 e579.Delay]) rfl (q_load wd_65 rfl) (FP.ldw X576 hF581 rfl rfl) rfl ?_
    refine lalloc rfl tz_65 rfl rfl rfl X576 (fun b582 h584 X585 => ?_)
    refine lpure (v := .int .i64 s508.1) rfl (p_assign rfl) rfl rfl ?_
    refine lstore rfl ts_65 rfl rfl (j := 0) rfl rfl rfl rfl rfl rfl X585 (fun h586 X587 => ?_)
    refine lend (nseq (dseq (dreg ?_)))
    refine lpure (v := .func (.yield l364) #[] #[]) rfl (p_move rfl) rfl rfl ?_
    refine lread (v := .agg #[.int .i64 e579.A, .int .i64 e579.B, .int .i64 e579.Per, .int .i64 e579.Delay]) rfl (q_load wd_65 rfl) (St.ld X587 (j := 0) rfl rfl) rfl ?_
    refine lpure (v := .int .i64 s508.1) rfl (p_move rfl) rfl rfl ?_
    refine lpure (v := .int .i64 (w64 (2 * s508.1))) rfl (p_mul rfl) rfl rfl ?_
    refine lpure (v := .agg #[.int .i64 e579.A, .int .i64 e579.B, .int .i64 e579.Per, .int .i64 e579.Delay, .int .i64 (w64 (2 * s508.1))]) rfl (p_build rfl) (build_st' tz_111 pl_111 rfl) rfl ?_
    refine lround rfl rfl rfl rfl rfl rfl X587 (j := 1) rfl Q367 rfl rfl rfl rfl rfl (fun t588 => ?_)
    refine dreg ?_
    refine lalloc rfl tz_111 rfl rfl rfl X587 (fun b589 h591 X592 => ?_)
    refine lstore rfl ts_111 rfl rfl (j := 0) rfl rfl rfl rfl rfl rfl X592 (fun h593 X594 => ?_)
    refine lend ?_
    refine basg X594 (j := 2) rfl (fun h595 X596 => ?_)
    refine dblock (dseq ?_)
    refine ddraw 0 0 0 (by kernel_rfl) ?_
    refine sload (v := .agg #[.int .i64 e579.A, .int .i64 e579.B, .int .i64 e579.Per, .int .i64 e579.Delay, .int .i64 (w64 (2 * s508.1))]) rfl rfl (q_load wd_111 rfl) (St.ld X596 (j := 0) rfl rfl) (same_self 20 rfl) rfl ?_
    refine scall (en := fun d => (.int .i64 d)) rfl rfl ca_92 rfl rfl (f92_ok X596 ((TopoEnd.mk e579 (w64 (2 * s508.1))))) rfl (fun e597 => ?_)
    refine sload (v := .int .i64 p345) rfl rfl (q_load wd_3 rfl) (St.ld X596 (j := 6) rfl rfl) (same_self 20 rfl) rfl ?_
    refine spure (v := .bool (decide (e597 = p345))) rfl (p_eq rfl) (lo_t rfl (lo_t rfl rfl)) rfl rfl ?_
    refine send ?_
    refine nseq ?_
    refine djoinM (τ := Int) (σ := Unit) (fun s604 (_ : Unit) => []) (fun s604 (_ : Unit) hh => St φ h.n hh ([(some b589, .cells [.int .i64 e579.A, .int .i64 e579.B, .int .i64 e579.Per, .int .i64 e579.Delay, .int .i64 (w64 (2 * s508.1))] 111 .exact), (some b582, .cells [.int .i64 e579.A, .int .i64 e579.B, .int .i64 e579.Per, .int .i64 e579.Delay] 65 .exact), (some l364, bsy q365), (none, .dead), (some b360, .cells [.int .i64 p342.Nodes, .slice a343 n343 c343, .slice a344 n344 c344] 25 .exact), (some b354, .cells [.int .i64 s604] 3 .exact), (some b350, .cells [.int .i64 p345] 3 .exact), (some b346, .cells [.int .i64 p342.Nodes, .slice a343 n343 c343, .slice a344 n344 c344] 25 .exact)])) ?_ ?_
    · rintro s604 _ t0 h606 X605
      refine nblock ?_
      refine nrnd X605 (j := 2) rfl (fun h609 X610 => ?_)
      refine lpure (v := .bool false) rfl (p_not rfl) rfl rfl ?_
      refine lpure (v := .bool false) rfl (p_move rfl) rfl rfl ?_
      refine lpure (v := .func (.yield l364) #[] #[]) rfl (p_move rfl) rfl rfl ?_
      refine lread (v := .agg #[.int .i64 e579.A, .int .i64 e579.B, .int .i64 e579.Per, .int .i64 e579.Delay]) rfl (q_load wd_65 rfl) (St.ld X610 (j := 1) rfl rfl) rfl ?_
      refine lpure (v := .int .i64 s508.1) rfl (p_move rfl) rfl rfl ?_
      refine lpure (v := .int .i64 (w64 (2 * s508.1))) rfl (p_mul rfl) rfl rfl ?_
      refine lpure (v := .int .i64 (w64 ((w64 (2 * s508.1)) + 1))) rfl (p_add rfl) rfl rfl ?_
      refine lpure (v := .agg #[.int .i64 e579.A, .int .i64 e579.B, .int .i64 e579.Per, .int .i64 e579.Delay, .int .i64 (w64 ((w64 (2 * s508.1)) + 1))]) rfl (p_build rfl) (build_st' tz_111 pl_111 rfl) rfl ?_
      refine lround rfl rfl rfl rfl rfl rfl X610 (j := 2) rfl Q367 rfl rfl rfl rfl rfl (fun t611 => ?_)
      refine dreg ?_
      refine lalloc rfl tz_111 rfl rfl rfl X610 (fun b612 h614 X615 => ?_)
      refine lstore rfl ts_111 rfl rfl (j := 0) rfl rfl rfl rfl rfl rfl X615 (fun h616 X617 => ?_)
      refine lend ?_
      refine basg X617 (j := 3) rfl (fun h618 X619 => ?_)
      refine dblock (dseq ?_)
      refine ddraw 0 0 0 (by kernel_rfl) ?_
      refine sload (v := .agg #[.int .i64 e579.A, .int .i64 e579.B, .int .i64 e579.Per, .int .i64 e579.Delay, .int .i64 (w64 ((w64 (2 * s508.1)) + 1))]) rfl rfl (q_load wd_111 rfl) (St.ld X619 (j := 0) rfl rfl) (same_self 20 rfl) rfl ?_
      refine scall (en := fun d => (.int .i64 d)) rfl rfl ca_92 rfl rfl (f92_ok X619 ((TopoEnd.mk e579 (w64 ((w64 (2 * s508.1)) + 1))))) rfl (fun e620 => ?_)
      refine sload (v := .int .i64 p345) rfl rfl (q_load wd_3 rfl) (St.ld X619 (j := 7) rfl rfl) (same_self 20 rfl) rfl ?_
      refine spure (v := .bool (decide (e620 = p345))) rfl (p_eq rfl) (lo_t rfl (lo_t rfl rfl)) rfl rfl ?_
      refine send ?_
      refine nseq ?_
      refine djoinM (τ := Int) (σ := Unit) (fun s627 (_ : Unit) => []) (fun s627 (_ : Unit) hh => St φ h.n hh ([(some b612, .cells [.int .i64 e579.A, .int .i64 e579.B, .int .i64 e579.Per, .int .i64 e579.Delay, .int .i64 (w64 ((w64 (2 * s508.1)) + 1))] 111 .exact), (some b589, .cells [.int .i64 e579.A, .int .i64 e579.B, .int .i64 e579.Per, .int .i64 e579.Delay, .int .i64 (w64 (2 * s508.1))] 111 .exact), (some b582, .cells [.int .i64 e579.A, .int .i64 e579.B, .int .i64 e579.Per, .int .i64 e579.Delay] 65 .exact), (some l364, bsy q365), (none, .dead), (some b360, .cells [.int .i64 p342.Nodes, .slice a343 n343 c343, .slice a344 n344 c344] 25 .exact), (some b354, .cells [.int .i64 s627] 3 .exact), (some b350, .cells [.int .i64 p345] 3 .exact), (some b346, .cells [.int .i64 p342.Nodes, .slice a343 n343 c343, .slice a344 n344 c344] 25 .exact)])) ?_ ?_
      · rintro s627 _ t0 h629 X628
        refine nblock ?_
        refine nrnd X628 (j := 3) rfl (fun h632 X633 => ?_)
        refine lpure (v := .bool false) rfl (p_not rfl) rfl rfl ?_
        refine lpure (v := .bool false) rfl (p_pick rfl) rfl rfl ?_
        refine lend (nseq (dcondF rfl rfl (dskip (nblock (nseq (dreg ?_))))))
        refine lpure (v := .int .i64 (w64 (s508.1 + 1))) rfl (p_add rfl) rfl rfl ?_
        refine lpure (v := .int .i64 (w64 (s508.1 + 1))) rfl (p_move rfl) rfl rfl ?_
        refine lend ?_
        exact kbackM ih574 ((w64 (s508.1 + 1)), s627) () (sub_cons rfl (sub_cons rfl (sub_cons rfl (sub_cons rfl sub_nil)))) (St.pick X633 (.skip _ (.skip _ (.skip _ (.keep _ (.none _ (.skip _ (.keep _ (.keep _ (.keep _ (.keep _ (.nil _))))))))))))
      intro j630 J631
      refine dcond rfl rfl (fun k624 => ?_) (fun k624 => ?_)
      · refine dreg ?_
        refine lread (v := .int .i64 s604) rfl (q_load wd_3 rfl) (St.ld X619 (j := 6) rfl rfl) rfl ?_
        refine lpure (v := .int .i64 (w64 (s604 + 1))) rfl (p_add rfl) rfl rfl ?_
        refine lstore rfl ts_3 rfl rfl (j := 6) rfl rfl rfl rfl rfl rfl X619 (fun h634 X635 => ?_)
        refine lend ?_
        exact jmpM J631 (w64 (s604 + 1)) () sub_nil (St.pick X635 (.keep _ (.keep _ (.keep _ (.keep _ (.none _ (.skip _ (.keep _ (.keep _ (.keep _ (.keep _ (.nil _))))))))))))
      refine dskip ?_
      exact jmpM J631 s604 () sub_nil (St.pick X619 (.keep _ (.keep _ (.keep _ (.keep _ (.none _ (.skip _ (.keep _ (.keep _ (.keep _ (.keep _ (.nil _))))))))))))
    intro j607 J608
    refine dcond rfl rfl (fun k601 => ?_) (fun k601 => ?_)
    · refine dreg ?_
      refine lread (v := .int .i64 s508.2) rfl (q_load wd_3 rfl) (St.ld X596 (j := 5) rfl rfl) rfl ?_
      refine lpure (v := .int .i64 (w64 (s508.2 + 1))) rfl (p_add rfl) rfl rfl ?_
      refine lstore rfl ts_3 rfl rfl (j := 5) rfl rfl rfl rfl rfl rfl X596 (fun h636 X637 => ?_)
      refine lend ?_
      exact jmpM J608 (w64 (s508.2 + 1)) () sub_nil (St.pick X637 (.keep _ (.keep _ (.keep _ (.none _ (.skip _ (.keep _ (.keep _ (.keep _ (.keep _ (.nil _)))))))))))
    refine dskip ?_
    exact jmpM J608 s508.2 () sub_nil (St.pick X596 (.keep _ (.keep _ (.keep _ (.none _ (.skip _ (.keep _ (.keep _ (.keep _ (.keep _ (.nil _)))))))))))
  refine dexit (eseq (eloop (xblock ?_)))
  refine kin_n res_0 ?_
  refine rend_n X576 (j := 0) rfl (fun h638 X639 => ?_)
  refine nblock (nseq (dseq (dreg ?_)))
  refine lread (v := .int .i64 s508.2) rfl (q_load wd_3 rfl) (St.ld X639 (j := 3) rfl rfl) rfl ?_
  refine lpure (v := .int .i64 s508.2) rfl (p_assign rfl) rfl rfl ?_
  refine lend (nseq (dret ?_))
  exact kcut_r (res_1 resT) X639 rfl rfl
/-! (isochron/topo.end).to -/
theorem f94_ok {n : Nat} {φ : Fz} {lo : Nat} {h : Heap} {own : OwnL}  (X : St φ lo h (own)) (p730 : TopoEnd) : Sim ((recN Tryz.prog LL cutF (n + 2)).call 94 #[(.agg #[.int .i64 p730.Link.A, .int .i64 p730.Link.B, .int .i64 p730.Link.Per, .int .i64 p730.Link.Delay, .int .i64 p730.port])] h) (m_topo_end_to p730) (fun (d : Int) p => p = (.int .i64 d, h)) := by
  refine fcut Tryz.func94 rfl rfl rfl rfl X ?_
  intro h0 X0
  refine dseq (dreg ?_)
  refine lbox rfl rfl rfl rfl rfl X0 (fun b731 h733 X734 => ?_)
  refine lpure (v := .int .i64 0) rfl (p_assign rfl) rfl rfl ?_
  refine lend (nseq (dseq ?_))
  refine ddraw 0 0 0 (by kernel_rfl) ?_
  refine spure (v := .pointer (some ⟨b731, 0, none⟩)) rfl (p_fa fo_111_0 rfl) (lo_t (lo_own X734 (j := 0) (o := 0) (s := none) (f := 0) rfl) rfl) rfl rfl ?_
  refine spure (v := .pointer (some ⟨b731, 0, none⟩)) rfl (p_fa fo_65_0 rfl) (lo_t (lo_own X734 (j := 0) (o := 0) (s := none) (f := 0) rfl) rfl) rfl rfl ?_
  refine sload (v := .int .i64 p730.Link.A) rfl rfl (q_load wd_3 rfl) (St.ld X734 (j := 0) rfl rfl) (same_self 20 rfl) rfl ?_
  refine spure (v := .pointer (some ⟨b731, 0, none⟩)) rfl (p_fa fo_111_0 rfl) (lo_t (lo_own X734 (j := 0) (o := 0) (s := none) (f := 0) rfl) rfl) rfl rfl ?_
  refine spure (v := .pointer (some ⟨b731, 1, none⟩)) rfl (p_fa fo_65_1 rfl) (lo_t (lo_own X734 (j := 0) (o := 0) (s := none) (f := 0) rfl) rfl) rfl rfl ?_
  refine sload (v := .int .i64 p730.Link.B) rfl rfl (q_load wd_3 rfl) (St.ld X734 (j := 0) rfl rfl) (same_self 20 rfl) rfl ?_
  refine spure (v := .int .i64 (w64 (p730.Link.A + p730.Link.B))) rfl (p_add rfl) (lo_t rfl (lo_t rfl rfl)) rfl rfl ?_
  refine sload (v := .agg #[.int .i64 p730.Link.A, .int .i64 p730.Link.B, .int .i64 p730.Link.Per, .int .i64 p730.Link.Delay, .int .i64 p730.port]) rfl rfl (q_load wd_111 rfl) (St.ld X734 (j := 0) rfl rfl) (same_self 20 rfl) rfl ?_
  refine scall (en := fun d => (.int .i64 d)) rfl rfl ca_92 rfl rfl (f92_ok X734 p730) rfl (fun e735 => ?_)
  refine spure (v := .int .i64 (w64 ((w64 (p730.Link.A + p730.Link.B)) - e735))) rfl (p_sub rfl) (lo_t rfl (lo_t rfl rfl)) rfl rfl ?_
  refine spure (v := .int .i64 (w64 ((w64 (p730.Link.A + p730.Link.B)) - e735))) rfl (p_assign rfl) (lo_t rfl rfl) rfl rfl ?_
  refine send ?_
  refine nseq (dret ?_)
  exact kcut_r (res_1 resT) X734 rfl rfl
/-! slices.Index[[]int,int] -/
theorem f78_ok {n : Nat} {φ : Fz} {lo : Nat} {h : Heap} {own : OwnL}  {a743 : Option Addr} {n743 c743 : Nat} (X : St φ lo h (own)) (p742 : (List Int)) (p744 : Int) (H743 : RSl (eInt .i64) φ (.slice a743 n743 c743) p742) : Sim ((recN Tryz.prog LL cutF (n + 1)).call 78 #[(.slice a743 n743 c743), (.int .i64 p744)] h) (m_slices_Index_int_int p742 p744) (fun (d : Int) p => p = (.int .i64 d, h)) := by
  refine fcut Tryz.func78 rfl rfl rfl rfl X ?_
  intro h0 X0
  refine dseq (dreg ?_)
  refine lpure (v := .int .i64 0) rfl (p_assign rfl) rfl rfl ?_
  refine lend (nseq (dseq (dseq (dreg ?_))))
  refine lpure (v := .slice a743 n743 c743) rfl (p_move rfl) rfl rfl ?_
  refine lpure (v := .int .i64 (p742.length : Int)) rfl (p_len rfl rfl rfl un_26 rfl) (RSl.lenC H743) rfl ?_
  refine lpure (v := .int .i64 0) rfl (p_move rfl) rfl rfl ?_
  refine lend (nseq (dblock ?_))
  refine dloopM (τ := Int) (σ := Unit) (fun s761 (_ : Unit) => [(0, .slice a743 n743 c743), (1, .int .i64 p744), (7, .int .i64 (p742.length : Int)), (8, .int .i64 s761)]) (fun s761 (_ : Unit) hh => St φ h.n hh ([])) 0 () (sub_cons rfl (sub_cons rfl (sub_cons rfl (sub_cons rfl sub_nil)))) X0 ?_
  rintro n771 ih770 s761 _ t0 h773 X772
  refine dseq (dreg ?_)
  refine lpure (v := .bool (decide (s761 < (p742.length : Int)))) rfl (p_lt rfl) rfl rfl ?_
  refine lend (nseq (dseq ?_))
  refine dcond rfl rfl (fun k774 => ?_) (fun k774 => ?_)
  · refine dskip (nseq (dseq (dblock (dseq (dreg ?_)))))
    refine lpure (v := .int .i64 s761) rfl (p_move rfl) rfl rfl ?_
    refine lpure (v := .int .i64 s761) rfl (p_assign rfl) rfl rfl ?_
    refine lend (nseq (dseq (dreg ?_)))
    refine lpure (v := .int .i64 p744) rfl (p_move rfl) rfl rfl ?_
    refine lpure (v := .slice a743 n743 c743) rfl (p_move rfl) rfl rfl ?_
    refine lpure (v := .int .i64 s761) rfl (p_move rfl) rfl rfl ?_
    refine Sim.bindM fun e775 he776 => ?_
    obtain ⟨p777, cs777, hp777, hF777, hR777⟩ := RSl.ia H743 he776 (kd := .i64) (n := 1) rfl
    have hR777 : _ = [(.int .i64 e775 : Value)] := hR777
    subst hR777
    refine lpure (v := p777) rfl (p_ia rs_26 rfl) hp777 rfl ?_
    refine lread (v := .int .i64 e775) rfl (q_load wd_3 rfl) (FP.ld X772 hF777) rfl ?_
    refine lpure (v := .bool (decide (p744 = e775))) rfl (p_eq rfl) rfl rfl ?_
    refine lend (nseq ?_)
    refine dcond rfl rfl (fun k778 => ?_) (fun k778 => ?_)
    · refine dseq (dreg ?_)
      refine lpure (v := .int .i64 s761) rfl (p_move rfl) rfl rfl ?_
      refine lpure (v := .int .i64 s761) rfl (p_assign rfl) rfl rfl ?_
      refine lend (nseq (dret (rblock (rseq (rloop (rblock (rseq ?_)))))))
      exact kcut_r (res_1 resT) X772 rfl rfl
    refine dskip (nblock (nseq (dreg ?_)))
    refine lpure (v := .int .i64 (w64 (s761 + 1))) rfl (p_add rfl) rfl rfl ?_
    refine lpure (v := .int .i64 (w64 (s761 + 1))) rfl (p_move rfl) rfl rfl ?_
    refine lend ?_
    exact kbackM ih770 (w64 (s761 + 1)) () (sub_cons rfl (sub_cons rfl (sub_cons rfl (sub_cons rfl sub_nil)))) X772
  refine dexit (eseq (eloop (xblock (nseq (dseq (dreg ?_))))))
  refine lpure (v := .int .i64 (-1)) rfl (p_assign rfl) rfl rfl ?_
  refine lend (nseq (dret ?_))
  exact kcut_r (res_1 resT) X772 rfl rfl
/-! slices.Contains[[]int,int] -/
theorem f54_ok {n : Nat} {φ : Fz} {lo : Nat} {h : Heap} {own : OwnL}  {a740 : Option Addr} {n740 c740 : Nat} (X : St φ lo h (own)) (p739 : (List Int)) (p741 : Int) (H740 : RSl (eInt .i64) φ (.slice a740 n740 c740) p739) : Sim ((recN Tryz.prog LL cutF (n + 2)).call 54 #[(.slice a740 n740 c740), (.int .i64 p741)] h) (m_slices_Contains_int_int p739 p741) (fun (d : Bool) p => p = (.bool d, h)) := by
  refine fcut Tryz.func54 rfl rfl rfl rfl X ?_
  intro h0 X0
  refine dseq (dreg ?_)
  refine lpure (v := .bool false) rfl (p_assign rfl) rfl rfl ?_
  refine lend (nseq (dseq (dreg ?_)))
  refine lpure (v := .slice a740 n740 c740) rfl (p_move rfl) rfl rfl ?_
  refine lpure (v := .int .i64 p741) rfl (p_move rfl) rfl rfl ?_
  refine lcall rfl rfl ca_78 rfl rfl (f78_ok X0 p739 p741 H740) rfl (fun e779 v780 h781 hq782 => ?_)
  cases hq782
  refine lpure (v := .bool (decide (0 ≤ e779))) rfl (p_ge rfl) rfl rfl ?_
  refine lpure (v := .bool (decide (0 ≤ e779))) rfl (p_assign rfl) rfl rfl ?_
  refine lend (nseq (dret ?_))
  exact kcut_r (res_1 resT) X0 rfl rfl
/-! isochron/topo.reach -/
theorem f71_ok {n : Nat} {φ : Fz} {lo : Nat} {h : Heap} {own : OwnL}  {a3337 : Option Addr} {n3337 c3337 : Nat} {a3338 : Option Addr} {n3338 c3338 : Nat} {a3341 : Option Addr} {n3341 c3341 : Nat} (X : St φ lo h (own)) (p3336 : ApiTopo) (p3339 : Int) (p3340 : (List Int)) (H3337 : RSl eBool φ (.slice a3337 n3337 c3337) p3336.Station) (H3338 : RSl eApiLink φ (.slice a3338 n3338 c3338) p3336.Links) (H3341 : RSl (eInt .i64) φ (.slice a3341 n3341 c3341) p3340) : Sim ((recN Tryz.prog LL cutF (n + 5)).call 71 #[(.agg #[.int .i64 p3336.Nodes, .slice a3337 n3337 c3337, .slice a3338 n3338 c3338]), (.int .i64 p3339), (.slice a3341 n3341 c3341)] h) (m_topo_reach p3336 p3339 p3340) (fun (d : (List Bool)) p => ∃ φ2 : Fz, ∃ a5954 : Option Addr, ∃ n5954 : Nat, ∃ c5954 : Nat, ∃ ob5954 : Option Nat, ∃ blk5954 : Blk, Fz.le φ φ2 ∧ St φ2 lo p.2 ((ob5954, blk5954) :: own) ∧ p.1 = .slice a5954 n5954 c5954 ∧ OSl eBool φ2 4 ob5954 blk5954 (.slice a5954 n5954 c5954) d) := by
  refine fopen Tryz.func71 rfl rfl rfl rfl ?_
  refine dseq (dreg ?_)
  refine lbox rfl rfl rfl rfl rfl X (fun b3342 h3344 X3345 => ?_)
  refine lbox rfl rfl rfl rfl rfl X3345 (fun b3346 h3348 X3349 => ?_)
  refine lpure (v := .slice none 0 0) rfl (p_assign rfl) rfl rfl ?_
  refine lend (nseq (dscope (dseq (dreg ?_))))
  refine lpure (v := .pointer (some ⟨b3342, 0, none⟩)) rfl (p_fa fo_25_0 rfl) rfl rfl ?_
  refine lread (v := .int .i64 p3336.Nodes) rfl (q_load wd_3 rfl) (St.ld X3349 (j := 1) rfl rfl) rfl ?_
  refine Sim.mustM fun k3350 => ?_
  have k3350 := of_decide_eq_true k3350
  obtain ⟨h3350, b3350, vs3350, hv3350, X3350, O3350⟩ := OSl.mk (E := eBool) (φ := φ) (a0 := false) (k := .i64) (k' := .i64) (l := p3336.Nodes) (c := p3336.Nodes) un_22 tb_4 rfl ts_4 rfl rfl tz_4 rfl rfl rfl (by omega) (by omega) (by omega) X3349
  refine lheap rfl (h_makeSlice rfl) hv3350 rfl ?_
  refine lalloc rfl tz_22 rfl rfl rfl X3350 (fun b3352 h3354 X3355 => ?_)
  refine lstore rfl ts_22 rfl rfl (j := 0) rfl rfl rfl rfl rfl rfl X3355 (fun h3356 X3357 => ?_)
  refine lend (nseq (dseq (dreg ?_)))
  refine lread (v := .slice (some ⟨b3350, 0, none⟩) (p3336.Nodes).toNat (p3336.Nodes).toNat) rfl (q_load wd_22 rfl) (St.ld X3357 (j := 0) rfl rfl) rfl ?_
  refine lpure (v := .int .i64 p3339) rfl (p_move rfl) rfl rfl ?_
  refine Sim.bindM fun e3358 he3359 => ?_
  obtain ⟨off3360, cs3360, hp3360, hc3360, hR3360, hl3360, hm3360, hs3360⟩ := OSl.iaC O3350 he3359 (kd := .i64) (n := 1) rfl
  have hR3360 : _ = [(.bool e3358 : Value)] := hR3360
  subst hR3360
  refine lpure (v := .pointer (some ⟨b3350, off3360, none⟩)) rfl (p_ia rs_22 rfl) hp3360 rfl ?_
  have O3363 := hs3360 [.bool true] (true) rfl
  refine lstore rfl ts_4 rfl rfl (j := 1) rfl hm3360 rfl rfl (ble_iff.2 hl3360) rfl X3357 (fun h3361 X3362 => ?_)
  refine lend (nseq (dseq (dlabel (nseq (dseq (dblock ?_))))))
  refine dloopM (τ := (List Bool)) (σ := Blk) (fun s4657 blk4658 => [(3, .pointer (some ⟨b3342, 0, none⟩)), (5, .pointer (some ⟨b3346, 0, none⟩)), (7, .pointer (some ⟨b3352, 0, none⟩))]) (fun s4657 blk4658 hh => St φ lo hh ((some b3352, .cells [.slice (some ⟨b3350, 0, none⟩) (p3336.Nodes).toNat (p3336.Nodes).toNat] 22 .exact) :: (some b3350, blk4658) :: (some b3346, .cells [.slice a3341 n3341 c3341] 26 .exact) :: (some b3342, .cells [.int .i64 p3336.Nodes, .slice a3337 n3337 c3337, .slice a3338 n3338 c3338] 25 .exact) :: own) ∧ OSl eBool φ 4 (some b3350) blk4658 (.slice (some ⟨b3350, 0, none⟩) (p3336.Nodes).toNat (p3336.Nodes).toNat) s4657) ((List.replicate (p3336.Nodes).toNat false).set (p3339).toNat true) ((.cells (setAt vs3350 off3360 [.bool true]) 4 .exact)) (sub_cons rfl (sub_cons rfl (sub_cons rfl sub_nil))) ⟨X3362, O3363⟩ ?_
  rintro n5307 ih5306 s4657 blk4658 t0 h5309 ⟨X5308, O4658⟩
  refine dblock (dseq (dseq (dreg ?_)))
  refine lread (v := .agg #[.int .i64 p3336.Nodes, .slice a3337 n3337 c3337, .slice a3338 n3338 c3338]) rfl (q_load wd_25 rfl) (St.ld X5308 (j := 3) rfl rfl) rfl ?_
  refine linl rfl rfl rfl rfl ca_91 rfl Tryz.func91 rfl rfl rfl rfl rfl ?_
  refine dseq (dreg ?_)
  refine lbox rfl rfl rfl rfl rfl X5308 (fun b5310 h5312 X5313 => ?_)
  refine lpure (v := .nilFunc) rfl (p_assign rfl) rfl rfl ?_
  refine lend (nseq (dseq (dreg ?_)))
  refine lpure (v := .func (.func 109) #[] #[.pointer (some ⟨b5310, 0, none⟩)]) rfl (p_makeFunc rfl) rfl rfl ?_
  refine lpure (v := .func (.func 109) #[] #[.pointer (some ⟨b5310, 0, none⟩)]) rfl (p_assign rfl) rfl rfl ?_
  refine lend (nseq (dret ?_))
  refine kin_r (res_1 resT) ?_
  refine lend (nseq (dblock ?_))
  refine drange rfl rfl ca_109 Tryz.func109 rfl rfl X5313 (fun _ => rfl) ?_
  intro l5314 q5315 df5316 h5318 Q5317 X5319
  refine dseq (dreg ?_)
  refine lpure (v := .pointer (some ⟨b5310, 2, none⟩)) rfl (p_fa fo_25_2 rfl) rfl rfl ?_
  refine lread (v := .slice a3338 n3338 c3338) rfl (q_load wd_23 rfl) (St.ld X5319 (j := 2) rfl rfl) rfl ?_
  refine lpure (v := .int .i64 (p3336.Links.length : Int)) rfl (p_len rfl rfl rfl un_23 rfl) (RSl.lenC H3338) rfl ?_
  refine lpure (v := .int .i64 0) rfl (p_move rfl) rfl rfl ?_
  refine lend (nseq (dblock ?_))
  refine dloopM (τ := Int × (List Bool)) (σ := Blk) (fun s5637 blk5638 => [(0, .func (.yield l5314) #[] #[]), (6, .slice a3338 n3338 c3338), (7, .int .i64 (p3336.Links.length : Int)), (8, .int .i64 s5637.1)]) (fun s5637 blk5638 hh => St φ lo hh ((some l5314, rdy q5315) :: (none, .dead) :: (some b5310, .cells [.int .i64 p3336.Nodes, .slice a3337 n3337 c3337, .slice a3338 n3338 c3338] 25 .exact) :: (some b3352, .cells [.slice (some ⟨b3350, 0, none⟩) (p3336.Nodes).toNat (p3336.Nodes).toNat] 22 .exact) :: (some b3350, blk5638) :: (some b3346, .cells [.slice a3341 n3341 c3341] 26 .exact) :: (some b3342, .cells [.int .i64 p3336.Nodes, .slice a3337 n3337 c3337, .slice a3338 n3338 c3338] 25 .exact) :: own) ∧ OSl eBool φ 4 (some b3350) blk5638 (.slice (some ⟨b3350, 0, none⟩) (p3336.Nodes).toNat (p3336.Nodes).toNat) s5637.2) (0, s4657) blk4658 (sub_cons rfl (sub_cons rfl (sub_cons rfl (sub_cons rfl sub_nil)))) ⟨(St.pick X5319 (.keep _ (.none _ (.skip _ (.keep _ (.keep _ (.keep _ (.keep _ (.keep _ (.refl _)))))))))), O4658⟩ ?_
  rintro n5797 ih5796 s5637 blk5638 t0 h5799 ⟨X5798, O5638⟩
  refine dseq (dreg ?_)
  refine lpure (v := .bool (decide (s5637.1 < (p3336.Links.length : Int)))) rfl (p_lt rfl) rfl rfl ?_
  refine lend (nseq (dseq ?_))
  refine dcond rfl rfl (fun k5800 => ?_) (fun k5800 => ?_)
  · refine dskip (nseq (dseq (dblock (dseq (dreg ?_)))))
    refine lpure (v := .int .i64 s5637.1) rfl (p_move rfl) rfl rfl ?_
    refine Sim.bindM fun e5801 he5802 => ?_
    obtain ⟨p5803, cs5803, hp5803, hF5803, hR5803⟩ := RSl.ia H3338 he5802 (kd := .i64) (n := 4) rfl
    obtain rfl := eApiLink_el hR5803
    refine lpure (v := p5803) rfl (p_ia rs_23 rfl) hp5803 rfl ?_
    refine lread (v := .agg #[.int .i64 e5801.A, .int .i64 e5801.B, .int .i64 e5801.Per, .int .i64 e5801.Delay]) rfl (q_load wd_65 rfl) (FP.ldw X5798 hF5803 rfl rfl) rfl ?_
    refine lalloc rfl tz_65 rfl rfl rfl X5798 (fun b5804 h5806 X5807 => ?_)
    refine lpure (v := .int .i64 s5637.1) rfl (p_assign rfl) rfl rfl ?_
    refine lstore rfl ts_65 rfl rfl (j := 0) rfl rfl rfl rfl rfl rfl X5807 (fun h5808 X5809 => ?_)
    refine lend (nseq (dseq (dreg ?_)))
    refine lpure (v := .func (.yield l5314) #[] #[]) rfl (p_move rfl) rfl rfl ?_
    refine lread (v := .agg #[.int .i64 e5801.A, .int .i64 e5801.B, .int .i64 e5801.Per, .int .i64 e5801.Delay]) rfl (q_load wd_65 rfl) (St.ld X5809 (j := 0) rfl rfl) rfl ?_
    refine lpure (v := .int .i64 s5637.1) rfl (p_move rfl) rfl rfl ?_
    refine lpure (v := .int .i64 (w64 (2 * s5637.1))) rfl (p_mul rfl) rfl rfl ?_
    refine lpure (v := .agg #[.int .i64 e5801.A, .int .i64 e5801.B, .int .i64 e5801.Per, .int .i64 e5801.Delay, .int .i64 (w64 (2 * s5637.1))]) rfl (p_build rfl) (build_st' tz_111 pl_111 rfl) rfl ?_
    refine lround rfl rfl rfl rfl rfl rfl X5809 (j := 1) rfl Q5317 rfl rfl rfl rfl rfl (fun t5810 => ?_)
    refine dreg ?_
    refine lalloc rfl tz_111 rfl rfl rfl X5809 (fun b5811 h5813 X5814 => ?_)
    refine lstore rfl ts_111 rfl rfl (j := 0) rfl rfl rfl rfl rfl rfl X5814 (fun h5815 X5816 => ?_)
    refine lend ?_
    refine basg X5816 (j := 2) rfl (fun h5817 X5818 => ?_)
    refine dblock (dseq ?_)
    refine ddraw 0 0 0 (by kernel_rfl) ?_
    refine sload (v := .slice (some ⟨b3350, 0, none⟩) (p3336.Nodes).toNat (p3336.Nodes).toNat) rfl rfl (q_load wd_22 rfl) (St.ld X5818 (j := 5) rfl rfl) (same_self 20 rfl) rfl ?_
    refine sload (v := .agg #[.int .i64 e5801.A, .int .i64 e5801.B, .int .i64 e5801.Per, .int .i64 e5801.Delay, .int .i64 (w64 (2 * s5637.1))]) rfl rfl (q_load wd_111 rfl) (St.ld X5818 (j := 0) rfl rfl) (same_self 20 rfl) rfl ?_
    refine scall (en := fun d => (.int .i64 d)) rfl rfl ca_92 rfl rfl (f92_ok X5818 ((TopoEnd.mk e5801 (w64 (2 * s5637.1))))) rfl (fun e5819 => ?_)
    refine Sim.bindM fun e5823 he5824 => ?_
    obtain ⟨vs5825, m5825, off5825, cs5825, rfl, hp5825, hc5825, hR5825, hl5825, hm5825, hs5825⟩ := OSl.iaB O5638 he5824 (kd := .i64) (n := 1) rfl
    have hR5825 : _ = [(.bool e5823 : Value)] := hR5825
    subst hR5825
    refine spure (v := .pointer (some ⟨b3350, off5825, none⟩)) rfl (p_ia rs_22 rfl) (lo_t (lo_osl X5818 (j := 6) rfl O5638) (lo_t rfl rfl)) hp5825 rfl ?_
    refine sload (v := .bool e5823) rfl rfl (q_load wd_4 rfl) (St.ld X5818 (j := 6) rfl (rdE1 hc5825 (k := 0) rfl rfl)) (same_self 20 rfl) rfl ?_
    refine spure (v := .bool e5823) rfl (p_move rfl) (lo_t rfl rfl) rfl rfl ?_
    refine sjoinM (τ := Bool) (σ := Unit) (fun s5835 (_ : Unit) => [(5, .pointer (some ⟨b3346, 0, none⟩)), (7, .pointer (some ⟨b3352, 0, none⟩)), (8, .pointer (some ⟨b5811, 0, none⟩)), (30, .bool s5835)]) (fun s5835 (_ : Unit) hh => St φ lo hh ((some b5811, .cells [.int .i64 e5801.A, .int .i64 e5801.B, .int .i64 e5801.Per, .int .i64 e5801.Delay, .int .i64 (w64 (2 * s5637.1))] 111 .exact) :: (some b5804, .cells [.int .i64 e5801.A, .int .i64 e5801.B, .int .i64 e5801.Per, .int .i64 e5801.Delay] 65 .exact) :: (some l5314, bsy q5315) :: (none, .dead) :: (some b5310, .cells [.int .i64 p3336.Nodes, .slice a3337 n3337 c3337, .slice a3338 n3338 c3338] 25 .exact) :: (some b3352, .cells [.slice (some ⟨b3350, 0, none⟩) (p3336.Nodes).toNat (p3336.Nodes).toNat] 22 .exact) :: (some b3350, .cells vs5825 4 m5825) :: (some b3346, .cells [.slice a3341 n3341 c3341] 26 .exact) :: (some b3342, .cells [.int .i64 p3336.Nodes, .slice a3337 n3337 c3337, .slice a3338 n3338 c3338] 25 .exact) :: own)) 7 13 ?_ ?_
    · rintro s5835 _ t0 h5837 X5836
      refine spure (v := .bool s5835) rfl (p_move rfl) (lo_t rfl rfl) rfl rfl ?_
      refine sjoinM (τ := Bool) (σ := Unit) (fun s5844 (_ : Unit) => [(7, .pointer (some ⟨b3352, 0, none⟩)), (8, .pointer (some ⟨b5811, 0, none⟩)), (38, .bool s5844)]) (fun s5844 (_ : Unit) hh => St φ lo hh ((some b5811, .cells [.int .i64 e5801.A, .int .i64 e5801.B, .int .i64 e5801.Per, .int .i64 e5801.Delay, .int .i64 (w64 (2 * s5637.1))] 111 .exact) :: (some b5804, .cells [.int .i64 e5801.A, .int .i64 e5801.B, .int .i64 e5801.Per, .int .i64 e5801.Delay] 65 .exact) :: (some l5314, bsy q5315) :: (none, .dead) :: (some b5310, .cells [.int .i64 p3336.Nodes, .slice a3337 n3337 c3337, .slice a3338 n3338 c3338] 25 .exact) :: (some b3352, .cells [.slice (some ⟨b3350, 0, none⟩) (p3336.Nodes).toNat (p3336.Nodes).toNat] 22 .exact) :: (some b3350, .cells vs5825 4 m5825) :: (some b3346, .cells [.slice a3341 n3341 c3341] 26 .exact) :: (some b3342, .cells [.int .i64 p3336.Nodes, .slice a3337 n3337 c3337, .slice a3338 n3338 c3338] 25 .exact) :: own)) 7 21 ?_ ?_
      · rintro s5844 _ t0 h5846 X5845
        refine send ?_
        refine nseq ?_
        refine dcond rfl rfl (fun k5847 => ?_) (fun k5847 => ?_)
        · refine dseq ?_
          refine ddraw 16 16 0 (by kernel_rfl) ?_
          refine sload (v := .slice (some ⟨b3350, 0, none⟩) (p3336.Nodes).toNat (p3336.Nodes).toNat) rfl rfl (q_load wd_22 rfl) (St.ld X5845 (j := 5) rfl rfl) (same_self 20 rfl) rfl ?_
          refine sload (v := .agg #[.int .i64 e5801.A, .int .i64 e5801.B, .int .i64 e5801.Per, .int .i64 e5801.Delay, .int .i64 (w64 (2 * s5637.1))]) rfl rfl (q_load wd_111 rfl) (St.ld X5845 (j := 0) rfl rfl) (same_self 20 rfl) rfl ?_
          refine scall (en := fun d => (.int .i64 d)) rfl rfl ca_94 rfl rfl (f94_ok X5845 ((TopoEnd.mk e5801 (w64 (2 * s5637.1))))) rfl (fun e5848 => ?_)
          refine Sim.bindM fun e5852 he5853 => ?_
          obtain ⟨off5854, cs5854, hp5854, hc5854, hR5854, hl5854, hm5854, hs5854⟩ := OSl.iaC O5638 he5853 (kd := .i64) (n := 1) rfl
          have hR5854 : _ = [(.bool e5852 : Value)] := hR5854
          subst hR5854
          refine spure (v := .pointer (some ⟨b3350, off5854, none⟩)) rfl (p_ia rs_22 rfl) (lo_t (lo_osl X5845 (j := 6) rfl O5638) (lo_t rfl rfl)) hp5854 rfl ?_
          have O5857 := hs5854 [.bool true] (true) rfl
          refine sstore rfl rfl ts_4 rfl rfl (j := 6) rfl hm5854 rfl rfl (ble_iff.2 hl5854) rfl X5845 (fun h5855 X5856 => ?_)
          refine send ?_
          refine nseq (dexit (eblock rfl ?_))
          refine ernd X5856 (j := 2) rfl (fun h5858 X5859 => ?_)
          refine lpure (v := .bool true) rfl (p_not rfl) rfl rfl ?_
          refine lpure (v := .bool true) rfl (p_move rfl) rfl rfl ?_
          refine lskip rfl rfl ?_
          refine lskip rfl rfl ?_
          refine lskip rfl rfl ?_
          refine lskip rfl rfl ?_
          refine lskip rfl rfl ?_
          refine lskip rfl rfl ?_
          refine lskip rfl rfl ?_
          refine lskip rfl rfl ?_
          refine lpure (v := .bool true) rfl (p_pick rfl) rfl rfl ?_
          refine lend (nseq (dcondT rfl rfl (dret (rblock (rseq (rloop (rblock ?_)))))))
          refine kin_r res_0 ?_
          refine rend_d X5859 (j := 2) rfl (.inr ⟨_, rfl, rfl⟩) (fun h5860 X5861 => ?_)
          refine eblock rfl (eseq (xblock ?_))
          exact kbackM ih5306 (s5637.2.set (e5848).toNat true) ((.cells (setAt vs5825 off5854 [.bool true]) 4 m5825)) (sub_cons rfl (sub_cons rfl (sub_cons rfl sub_nil))) ⟨(St.pick X5861 (.skip _ (.skip _ (.skip _ (.skip _ (.skip _ (.keep _ (.keep _ (.keep _ (.keep _ (.refl _))))))))))), O5857⟩
        refine dskip (nblock ?_)
        refine nrnd X5845 (j := 2) rfl (fun h5862 X5863 => ?_)
        refine lpure (v := .bool false) rfl (p_not rfl) rfl rfl ?_
        refine lpure (v := .bool false) rfl (p_move rfl) rfl rfl ?_
        refine lpure (v := .func (.yield l5314) #[] #[]) rfl (p_move rfl) rfl rfl ?_
        refine lread (v := .agg #[.int .i64 e5801.A, .int .i64 e5801.B, .int .i64 e5801.Per, .int .i64 e5801.Delay]) rfl (q_load wd_65 rfl) (St.ld X5863 (j := 1) rfl rfl) rfl ?_
        refine lpure (v := .int .i64 s5637.1) rfl (p_move rfl) rfl rfl ?_
        refine lpure (v := .int .i64 (w64 (2 * s5637.1))) rfl (p_mul rfl) rfl rfl ?_
        refine lpure (v := .int .i64 (w64 ((w64 (2 * s5637.1)) + 1))) rfl (p_add rfl) rfl rfl ?_
        refine lpure (v := .agg #[.int .i64 e5801.A, .int .i64 e5801.B, .int .i64 e5801.Per, .int .i64 e5801.Delay, .int .i64 (w64 ((w64 (2 * s5637.1)) + 1))]) rfl (p_build rfl) (build_st' tz_111 pl_111 rfl) rfl ?_
        refine lround rfl rfl rfl rfl rfl rfl X5863 (j := 2) rfl Q5317 rfl rfl rfl rfl rfl (fun t5864 => ?_)
        refine dreg ?_
        refine lalloc rfl tz_111 rfl rfl rfl X5863 (fun b5865 h5867 X5868 => ?_)
        refine lstore rfl ts_111 rfl rfl (j := 0) rfl rfl rfl rfl rfl rfl X5868 (fun h5869 X5870 => ?_)
        refine lend ?_
        refine basg X5870 (j := 3) rfl (fun h5871 X5872 => ?_)
        refine dblock (dseq ?_)
        refine ddraw 0 0 0 (by kernel_rfl) ?_
        refine sload (v := .slice (some ⟨b3350, 0, none⟩) (p3336.Nodes).toNat (p3336.Nodes).toNat) rfl rfl (q_load wd_22 rfl) (St.ld X5872 (j := 6) rfl rfl) (same_self 20 rfl) rfl ?_
        refine sload (v := .agg #[.int .i64 e5801.A, .int .i64 e5801.B, .int .i64 e5801.Per, .int .i64 e5801.Delay, .int .i64 (w64 ((w64 (2 * s5637.1)) + 1))]) rfl rfl (q_load wd_111 rfl) (St.ld X5872 (j := 0) rfl rfl) (same_self 20 rfl) rfl ?_
        refine scall (en := fun d => (.int .i64 d)) rfl rfl ca_92 rfl rfl (f92_ok X5872 ((TopoEnd.mk e5801 (w64 ((w64 (2 * s5637.1)) + 1))))) rfl (fun e5873 => ?_)
        refine Sim.bindM fun e5877 he5878 => ?_
        obtain ⟨off5879, cs5879, hp5879, hc5879, hR5879, hl5879, hm5879, hs5879⟩ := OSl.iaC O5638 he5878 (kd := .i64) (n := 1) rfl
        have hR5879 : _ = [(.bool e5877 : Value)] := hR5879
        subst hR5879
        refine spure (v := .pointer (some ⟨b3350, off5879, none⟩)) rfl (p_ia rs_22 rfl) (lo_t (lo_osl X5872 (j := 7) rfl O5638) (lo_t rfl rfl)) hp5879 rfl ?_
        refine sload (v := .bool e5877) rfl rfl (q_load wd_4 rfl) (St.ld X5872 (j := 7) rfl (rdE1 hc5879 (k := 0) rfl rfl)) (same_self 20 rfl) rfl ?_
        refine spure (v := .bool e5877) rfl (p_move rfl) (lo_t rfl rfl) rfl rfl ?_
        refine sjoinM (τ := Bool) (σ := Unit) (fun s5889 (_ : Unit) => [(5, .pointer (some ⟨b3346, 0, none⟩)), (7, .pointer (some ⟨b3352, 0, none⟩)), (8, .pointer (some ⟨b5865, 0, none⟩)), (30, .bool s5889)]) (fun s5889 (_ : Unit) hh => St φ lo hh ((some b5865, .cells [.int .i64 e5801.A, .int .i64 e5801.B, .int .i64 e5801.Per, .int .i64 e5801.Delay, .int .i64 (w64 ((w64 (2 * s5637.1)) + 1))] 111 .exact) :: (some b5811, .cells [.int .i64 e5801.A, .int .i64 e5801.B, .int .i64 e5801.Per, .int .i64 e5801.Delay, .int .i64 (w64 (2 * s5637.1))] 111 .exact) :: (some b5804, .cells [.int .i64 e5801.A, .int .i64 e5801.B, .int .i64 e5801.Per, .int .i64 e5801.Delay] 65 .exact) :: (some l5314, bsy q5315) :: (none, .dead) :: (some b5310, .cells [.int .i64 p3336.Nodes, .slice a3337 n3337 c3337, .slice a3338 n3338 c3338] 25 .exact) :: (some b3352, .cells [.slice (some ⟨b3350, 0, none⟩) (p3336.Nodes).toNat (p3336.Nodes).toNat] 22 .exact) :: (some b3350, .cells vs5825 4 m5825) :: (some b3346, .cells [.slice a3341 n3341 c3341] 26 .exact) :: (some b3342, .cells [.int .i64 p3336.Nodes, .slice a3337 n3337 c3337, .slice a3338 n3338 c3338] 25 .exact) :: own)) 7 13 ?_ ?_
        · rintro s5889 _ t0 h5891 X5890
          refine spure (v := .bool s5889) rfl (p_move rfl) (lo_t rfl rfl) rfl rfl ?_
          refine sjoinM (τ := Bool) (σ := Unit) (fun s5898 (_ : Unit) => [(7, .pointer (some ⟨b3352, 0, none⟩)), (8, .pointer (some ⟨b5865, 0, none⟩)), (38, .bool s5898)]) (fun s5898 (_ : Unit) hh => St φ lo hh ((some b5865, .cells [.int .i64 e5801.A, .int .i64 e5801.B, .int .i64 e5801.Per, .int .i64 e5801.Delay, .int .i64 (w64 ((w64 (2 * s5637.1)) + 1))] 111 .exact) :: (some b5811, .cells [.int .i64 e5801.A, .int .i64 e5801.B, .int .i64 e5801.Per, .int .i64 e5801.Delay, .int .i64 (w64 (2 * s5637.1))] 111 .exact) :: (some b5804, .cells [.int .i64 e5801.A, .int .i64 e5801.B, .int .i64 e5801.Per, .int .i64 e5801.Delay] 65 .exact) :: (some l5314, bsy q5315) :: (none, .dead) :: (some b5310, .cells [.int .i64 p3336.Nodes, .slice a3337 n3337 c3337, .slice a3338 n3338 c3338] 25 .exact) :: (some b3352, .cells [.slice (some ⟨b3350, 0, none⟩) (p3336.Nodes).toNat (p3336.Nodes).toNat] 22 .exact) :: (some b3350, .cells vs5825 4 m5825) :: (some b3346, .cells [.slice a3341 n3341 c3341] 26 .exact) :: (some b3342, .cells [.int .i64 p3336.Nodes, .slice a3337 n3337 c3337, .slice a3338 n3338 c3338] 25 .exact) :: own)) 7 21 ?_ ?_
          · rintro s5898 _ t0 h5900 X5899
            refine send ?_
            refine nseq ?_
            refine dcond rfl rfl (fun k5901 => ?_) (fun k5901 => ?_)
            · refine dseq ?_
              refine ddraw 16 16 0 (by kernel_rfl) ?_
              refine sload (v := .slice (some ⟨b3350, 0, none⟩) (p3336.Nodes).toNat (p3336.Nodes).toNat) rfl rfl (q_load wd_22 rfl) (St.ld X5899 (j := 6) rfl rfl) (same_self 20 rfl) rfl ?_
              refine sload (v := .agg #[.int .i64 e5801.A, .int .i64 e5801.B, .int .i64 e5801.Per, .int .i64 e5801.Delay, .int .i64 (w64 ((w64 (2 * s5637.1)) + 1))]) rfl rfl (q_load wd_111 rfl) (St.ld X5899 (j := 0) rfl rfl) (same_self 20 rfl) rfl ?_
              refine scall (en := fun d => (.int .i64 d)) rfl rfl ca_94 rfl rfl (f94_ok X5899 ((TopoEnd.mk e5801 (w64 ((w64 (2 * s5637.1)) + 1))))) rfl (fun e5902 => ?_)
              refine Sim.bindM fun e5906 he5907 => ?_
              obtain ⟨off5908, cs5908, hp5908, hc5908, hR5908, hl5908, hm5908, hs5908⟩ := OSl.iaC O5638 he5907 (kd := .i64) (n := 1) rfl
              have hR5908 : _ = [(.bool e5906 : Value)] := hR5908
              subst hR5908
              refine spure (v := .pointer (some ⟨b3350, off5908, none⟩)) rfl (p_ia rs_22 rfl) (lo_t (lo_osl X5899 (j := 7) rfl O5638) (lo_t rfl rfl)) hp5908 rfl ?_
              have O5911 := hs5908 [.bool true] (true) rfl
              refine sstore rfl rfl ts_4 rfl rfl (j := 7) rfl hm5908 rfl rfl (ble_iff.2 hl5908) rfl X5899 (fun h5909 X5910 => ?_)
              refine send ?_
              refine nseq (dexit (eblock rfl ?_))
              refine ernd X5910 (j := 3) rfl (fun h5912 X5913 => ?_)
              refine lpure (v := .bool true) rfl (p_not rfl) rfl rfl ?_
              refine lpure (v := .bool true) rfl (p_pick rfl) rfl rfl ?_
              refine lend (nseq (dcondT rfl rfl (dret (rblock (rseq (rloop (rblock ?_)))))))
              refine kin_r res_0 ?_
              refine rend_d X5913 (j := 3) rfl (.inr ⟨_, rfl, rfl⟩) (fun h5914 X5915 => ?_)
              refine eblock rfl (eseq (xblock ?_))
              exact kbackM ih5306 (s5637.2.set (e5902).toNat true) ((.cells (setAt vs5825 off5908 [.bool true]) 4 m5825)) (sub_cons rfl (sub_cons rfl (sub_cons rfl sub_nil))) ⟨(St.pick X5915 (.skip _ (.skip _ (.skip _ (.skip _ (.skip _ (.skip _ (.keep _ (.keep _ (.keep _ (.keep _ (.refl _)))))))))))), O5911⟩
            refine dskip (nblock ?_)
            refine nrnd X5899 (j := 3) rfl (fun h5916 X5917 => ?_)
            refine lpure (v := .bool false) rfl (p_not rfl) rfl rfl ?_
            refine lpure (v := .bool false) rfl (p_pick rfl) rfl rfl ?_
            refine lend (nseq (dcondF rfl rfl (dskip (nblock (nseq (dreg ?_))))))
            refine lpure (v := .int .i64 (w64 (s5637.1 + 1))) rfl (p_add rfl) rfl rfl ?_
            refine lpure (v := .int .i64 (w64 (s5637.1 + 1))) rfl (p_move rfl) rfl rfl ?_
            refine lend ?_
            exact kbackM ih5796 ((w64 (s5637.1 + 1)), s5637.2) (.cells vs5825 4 m5825) (sub_cons rfl (sub_cons rfl (sub_cons rfl (sub_cons rfl sub_nil)))) ⟨(St.pick X5917 (.skip _ (.skip _ (.skip _ (.keep _ (.none _ (.skip _ (.keep _ (.keep _ (.keep _ (.keep _ (.keep _ (.refl _))))))))))))), O5638⟩
          intro j5918 J5919
          refine sif (j := 31) (show _ = Value.bool s5889 from rfl) (fun k5920 => ?_) (fun k5920 => ?_)
          · refine sload (v := .slice a3341 n3341 c3341) rfl rfl (q_load wd_26 rfl) (St.ld X5890 (j := 8) rfl rfl) (same_self 20 rfl) rfl ?_
            refine spure (v := .pointer (some ⟨b5865, 4, none⟩)) rfl (p_fa fo_111_1 rfl) (lo_t (lo_own X5890 (j := 0) (o := 0) (s := none) (f := 0) rfl) rfl) rfl rfl ?_
            refine sload (v := .int .i64 (w64 ((w64 (2 * s5637.1)) + 1))) rfl rfl (q_load wd_3 rfl) (St.ld X5890 (j := 0) rfl rfl) (same_self 20 rfl) rfl ?_
            refine spure (v := .int .i64 (w64 (Int.tdiv (w64 ((w64 (2 * s5637.1)) + 1)) 2))) rfl (p_quo rfl) (lo_t rfl (lo_c rfl)) rfl rfl ?_
            refine scall (en := fun d => (.bool d)) rfl rfl ca_54 rfl rfl (f54_ok X5890 p3340 ((w64 (Int.tdiv (w64 ((w64 (2 * s5637.1)) + 1)) 2))) H3341) rfl (fun e5921 => ?_)
            refine spure (v := .bool (!e5921)) rfl (p_not rfl) (lo_t rfl rfl) rfl rfl ?_
            refine spure (v := .bool (!e5921)) rfl (p_pick rfl) (lo_t rfl (lo_t rfl (lo_c rfl))) rfl rfl ?_
            exact sjmpM J5919 (!e5921) () (sub_cons rfl (sub_cons rfl (sub_cons rfl sub_nil))) (St.pick X5890 (.keep _ (.keep _ (.keep _ (.keep _ (.none _ (.skip _ (.keep _ (.keep _ (.keep _ (.keep _ (.keep _ (.refl _)))))))))))))
          refine sskip rfl rfl ?_
          refine sskip rfl rfl ?_
          refine sskip rfl rfl ?_
          refine sskip rfl rfl ?_
          refine sskip rfl rfl ?_
          refine sskip rfl rfl ?_
          refine spure (v := .bool false) rfl (p_pick rfl) (lo_t rfl (lo_t rfl (lo_c rfl))) rfl rfl ?_
          exact sjmpM J5919 false () (sub_cons rfl (sub_cons rfl (sub_cons rfl sub_nil))) (St.pick X5890 (.keep _ (.keep _ (.keep _ (.keep _ (.none _ (.skip _ (.keep _ (.keep _ (.keep _ (.keep _ (.keep _ (.refl _)))))))))))))
        intro j5925 J5926
        refine sif (j := 23) (show _ = Value.bool e5877 from rfl) (fun k5927 => ?_) (fun k5927 => ?_)
        · refine sload (v := .slice (some ⟨b3350, 0, none⟩) (p3336.Nodes).toNat (p3336.Nodes).toNat) rfl rfl (q_load wd_22 rfl) (St.ld X5872 (j := 6) rfl rfl) (same_self 20 rfl) rfl ?_
          refine sload (v := .agg #[.int .i64 e5801.A, .int .i64 e5801.B, .int .i64 e5801.Per, .int .i64 e5801.Delay, .int .i64 (w64 ((w64 (2 * s5637.1)) + 1))]) rfl rfl (q_load wd_111 rfl) (St.ld X5872 (j := 0) rfl rfl) (same_self 20 rfl) rfl ?_
          refine scall (en := fun d => (.int .i64 d)) rfl rfl ca_94 rfl rfl (f94_ok X5872 ((TopoEnd.mk e5801 (w64 ((w64 (2 * s5637.1)) + 1))))) rfl (fun e5928 => ?_)
          refine Sim.bindM fun e5932 he5933 => ?_
          obtain ⟨off5934, cs5934, hp5934, hc5934, hR5934, hl5934, hm5934, hs5934⟩ := OSl.iaC O5638 he5933 (kd := .i64) (n := 1) rfl
          have hR5934 : _ = [(.bool e5932 : Value)] := hR5934
          subst hR5934
          refine spure (v := .pointer (some ⟨b3350, off5934, none⟩)) rfl (p_ia rs_22 rfl) (lo_t (lo_osl X5872 (j := 7) rfl O5638) (lo_t rfl rfl)) hp5934 rfl ?_
          refine sload (v := .bool e5932) rfl rfl (q_load wd_4 rfl) (St.ld X5872 (j := 7) rfl (rdE1 hc5934 (k := 0) rfl rfl)) (same_self 20 rfl) rfl ?_
          refine spure (v := .bool (!e5932)) rfl (p_not rfl) (lo_t rfl rfl) rfl rfl ?_
          refine spure (v := .bool (!e5932)) rfl (p_pick rfl) (lo_t rfl (lo_t rfl (lo_c rfl))) rfl rfl ?_
          exact sjmpM J5926 (!e5932) () (sub_cons rfl (sub_cons rfl (sub_cons rfl (sub_cons rfl sub_nil)))) (St.pick X5872 (.keep _ (.keep _ (.keep _ (.keep _ (.none _ (.skip _ (.keep _ (.keep _ (.keep _ (.keep _ (.keep _ (.refl _)))))))))))))
        refine sskip rfl rfl ?_
        refine sskip rfl rfl ?_
        refine sskip rfl rfl ?_
        refine sskip rfl rfl ?_
        refine sskip rfl rfl ?_
        refine sskip rfl rfl ?_
        refine spure (v := .bool false) rfl (p_pick rfl) (lo_t rfl (lo_t rfl (lo_c rfl))) rfl rfl ?_
        exact sjmpM J5926 false () (sub_cons rfl (sub_cons rfl (sub_cons rfl (sub_cons rfl sub_nil)))) (St.pick X5872 (.keep _ (.keep _ (.keep _ (.keep _ (.none _ (.skip _ (.keep _ (.keep _ (.keep _ (.keep _ (.keep _ (.refl _)))))))))))))
      intro j5935 J5936
      refine sif (j := 31) (show _ = Value.bool s5835 from rfl) (fun k5937 => ?_) (fun k5937 => ?_)
      · refine sload (v := .slice a3341 n3341 c3341) rfl rfl (q_load wd_26 rfl) (St.ld X5836 (j := 7) rfl rfl) (same_self 20 rfl) rfl ?_
        refine spure (v := .pointer (some ⟨b5811, 4, none⟩)) rfl (p_fa fo_111_1 rfl) (lo_t (lo_own X5836 (j := 0) (o := 0) (s := none) (f := 0) rfl) rfl) rfl rfl ?_
        refine sload (v := .int .i64 (w64 (2 * s5637.1))) rfl rfl (q_load wd_3 rfl) (St.ld X5836 (j := 0) rfl rfl) (same_self 20 rfl) rfl ?_
        refine spure (v := .int .i64 (w64 (Int.tdiv (w64 (2 * s5637.1)) 2))) rfl (p_quo rfl) (lo_t rfl (lo_c rfl)) rfl rfl ?_
        refine scall (en := fun d => (.bool d)) rfl rfl ca_54 rfl rfl (f54_ok X5836 p3340 ((w64 (Int.tdiv (w64 (2 * s5637.1)) 2))) H3341) rfl (fun e5938 => ?_)
        refine spure (v := .bool (!e5938)) rfl (p_not rfl) (lo_t rfl rfl) rfl rfl ?_
        refine spure (v := .bool (!e5938)) rfl (p_pick rfl) (lo_t rfl (lo_t rfl (lo_c rfl))) rfl rfl ?_
        exact sjmpM J5936 (!e5938) () (sub_cons rfl (sub_cons rfl (sub_cons rfl sub_nil))) (St.pick X5836 (.keep _ (.keep _ (.keep _ (.none _ (.skip _ (.keep _ (.keep _ (.keep _ (.keep _ (.keep _ (.refl _))))))))))))
      refine sskip rfl rfl ?_
      refine sskip rfl rfl ?_
      refine sskip rfl rfl ?_
      refine sskip rfl rfl ?_
      refine sskip rfl rfl ?_
      refine sskip rfl rfl ?_
      refine spure (v := .bool false) rfl (p_pick rfl) (lo_t rfl (lo_t rfl (lo_c rfl))) rfl rfl ?_
      exact sjmpM J5936 false () (sub_cons rfl (sub_cons rfl (sub_cons rfl sub_nil))) (St.pick X5836 (.keep _ (.keep _ (.keep _ (.none _ (.skip _ (.keep _ (.keep _ (.keep _ (.keep _ (.keep _ (.refl _))))))))))))
    intro j5942 J5943
    refine sif (j := 23) (show _ = Value.bool e5823 from rfl) (fun k5944 => ?_) (fun k5944 => ?_)
    · refine sload (v := .slice (some ⟨b3350, 0, none⟩) (p3336.Nodes).toNat (p3336.Nodes).toNat) rfl rfl (q_load wd_22 rfl) (St.ld X5818 (j := 5) rfl rfl) (same_self 20 rfl) rfl ?_
      refine sload (v := .agg #[.int .i64 e5801.A, .int .i64 e5801.B, .int .i64 e5801.Per, .int .i64 e5801.Delay, .int .i64 (w64 (2 * s5637.1))]) rfl rfl (q_load wd_111 rfl) (St.ld X5818 (j := 0) rfl rfl) (same_self 20 rfl) rfl ?_
      refine scall (en := fun d => (.int .i64 d)) rfl rfl ca_94 rfl rfl (f94_ok X5818 ((TopoEnd.mk e5801 (w64 (2 * s5637.1))))) rfl (fun e5945 => ?_)
      refine Sim.bindM fun e5949 he5950 => ?_
      obtain ⟨off5951, cs5951, hp5951, hc5951, hR5951, hl5951, hm5951, hs5951⟩ := OSl.iaC O5638 he5950 (kd := .i64) (n := 1) rfl
      have hR5951 : _ = [(.bool e5949 : Value)] := hR5951
      subst hR5951
      refine spure (v := .pointer (some ⟨b3350, off5951, none⟩)) rfl (p_ia rs_22 rfl) (lo_t (lo_osl X5818 (j := 6) rfl O5638) (lo_t rfl rfl)) hp5951 rfl ?_
      refine sload (v := .bool e5949) rfl rfl (q_load wd_4 rfl) (St.ld X5818 (j := 6) rfl (rdE1 hc5951 (k := 0) rfl rfl)) (same_self 20 rfl) rfl ?_
      refine spure (v := .bool (!e5949)) rfl (p_not rfl) (lo_t rfl rfl) rfl rfl ?_
      refine spure (v := .bool (!e5949)) rfl (p_pick rfl) (lo_t rfl (lo_t rfl (lo_c rfl))) rfl rfl ?_
      exact sjmpM J5943 (!e5949) () (sub_cons rfl (sub_cons rfl (sub_cons rfl (sub_cons rfl sub_nil)))) (St.pick X5818 (.keep _ (.keep _ (.keep _ (.none _ (.skip _ (.keep _ (.keep _ (.keep _ (.keep _ (.keep _ (.refl _))))))))))))
    refine sskip rfl rfl ?_
    refine sskip rfl rfl ?_
    refine sskip rfl rfl ?_
    refine sskip rfl rfl ?_
    refine sskip rfl rfl ?_
    refine sskip rfl rfl ?_
    refine spure (v := .bool false) rfl (p_pick rfl) (lo_t rfl (lo_t rfl (lo_c rfl))) rfl rfl ?_
    exact sjmpM J5943 false () (sub_cons rfl (sub_cons rfl (sub_cons rfl (sub_cons rfl sub_nil)))) (St.pick X5818 (.keep _ (.keep _ (.keep _ (.none _ (.skip _ (.keep _ (.keep _ (.keep _ (.keep _ (.keep _ (.refl _))))))))))))
  refine dexit (eseq (eloop (xblock ?_)))
  refine kin_n res_0 ?_
  refine rend_n X5798 (j := 0) rfl (fun h5952 X5953 => ?_)
  refine nblock (nseq (dexit (eblock rfl (eloop (xblock (nseq (dseq (dreg ?_))))))))
  refine lread (v := .slice (some ⟨b3350, 0, none⟩) (p3336.Nodes).toNat (p3336.Nodes).toNat) rfl (q_load wd_22 rfl) (St.ld X5953 (j := 3) rfl rfl) rfl ?_
  refine lpure (v := .slice (some ⟨b3350, 0, none⟩) (p3336.Nodes).toNat (p3336.Nodes).toNat) rfl (p_assign rfl) rfl rfl ?_
  refine lend (nseq (dret (rscope ?_)))
  exact kopen_r (res_1 resT) ⟨φ, ((some ⟨b3350, 0, none⟩)), ((p3336.Nodes).toNat), ((p3336.Nodes).toNat), (some b3350), blk5638, (Fz.le_refl _), St.pick (St.front X5953 (j := 4) rfl) (.keep _ (.skip _ (.skip _ (.skip _ (.skip _ (.skip _ (.skip _ (.refl _)))))))), rfl, O5638⟩
/-! slices.Index[[]bool,bool] -/
theorem f93_ok {n : Nat} {φ : Fz} {lo : Nat} {h : Heap} {own : OwnL}  {a5969 : Option Addr} {n5969 c5969 : Nat} (X : St φ lo h (own)) (p5968 : (List Bool)) (p5970 : Bool) (H5969 : RSl eBool φ (.slice a5969 n5969 c5969) p5968) : Sim ((recN Tryz.prog LL cutF (n + 1)).call 93 #[(.slice a5969 n5969 c5969), (.bool p5970)] h) (m_slices_Index_bool_bool p5968 p5970) (fun (d : Int) p => p = (.int .i64 d, h)) := by
  refine fcut Tryz.func93 rfl rfl rfl rfl X ?_
  intro h0 X0
  refine dseq (dreg ?_)
  refine lpure (v := .int .i64 0) rfl (p_assign rfl) rfl rfl ?_
  refine lend (nseq (dseq (dseq (dreg ?_))))
  refine lpure (v := .slice a5969 n5969 c5969) rfl (p_move rfl) rfl rfl ?_
  refine lpure (v := .int .i64 (p5968.length : Int)) rfl (p_len rfl rfl rfl un_22 rfl) (RSl.lenC H5969) rfl ?_
  refine lpure (v := .int .i64 0) rfl (p_move rfl) rfl rfl ?_
  refine lend (nseq (dblock ?_))
  refine dloopM (τ := Int) (σ := Unit) (fun s5987 (_ : Unit) => [(0, .slice a5969 n5969 c5969), (1, .bool p5970), (7, .int .i64 (p5968.length : Int)), (8, .int .i64 s5987)]) (fun s5987 (_ : Unit) hh => St φ h.n hh ([])) 0 () (sub_cons rfl (sub_cons rfl (sub_cons rfl (sub_cons rfl sub_nil)))) X0 ?_
  rintro n5997 ih5996 s5987 _ t0 h5999 X5998
  refine dseq (dreg ?_)
  refine lpure (v := .bool (decide (s5987 < (p5968.length : Int)))) rfl (p_lt rfl) rfl rfl ?_
  refine lend (nseq (dseq ?_))
  refine dcond rfl rfl (fun k6000 => ?_) (fun k6000 => ?_)
  · refine dskip (nseq (dseq (dblock (dseq (dreg ?_)))))
    refine lpure (v := .int .i64 s5987) rfl (p_move rfl) rfl rfl ?_
    refine lpure (v := .int .i64 s5987) rfl (p_assign rfl) rfl rfl ?_
    refine lend (nseq (dseq (dreg ?_)))
    refine lpure (v := .bool p5970) rfl (p_move rfl) rfl rfl ?_
    refine lpure (v := .slice a5969 n5969 c5969) rfl (p_move rfl) rfl rfl ?_
    refine lpure (v := .int .i64 s5987) rfl (p_move rfl) rfl rfl ?_
    refine Sim.bindM fun e6001 he6002 => ?_
    obtain ⟨p6003, cs6003, hp6003, hF6003, hR6003⟩ := RSl.ia H5969 he6002 (kd := .i64) (n := 1) rfl
    have hR6003 : _ = [(.bool e6001 : Value)] := hR6003
    subst hR6003
    refine lpure (v := p6003) rfl (p_ia rs_22 rfl) hp6003 rfl ?_
    refine lread (v := .bool e6001) rfl (q_load wd_4 rfl) (FP.ld X5998 hF6003) rfl ?_
    refine lpure (v := .bool (p5970 == e6001)) rfl (p_bin rfl) (bin_eqB un_4) rfl ?_
    refine lend (nseq ?_)
    refine dcond rfl rfl (fun k6004 => ?_) (fun k6004 => ?_)
    · refine dseq (dreg ?_)
      refine lpure (v := .int .i64 s5987) rfl (p_move rfl) rfl rfl ?_
      refine lpure (v := .int .i64 s5987) rfl (p_assign rfl) rfl rfl ?_
      refine lend (nseq (dret (rblock (rseq (rloop (rblock (rseq ?_)))))))
      exact kcut_r (res_1 resT) X5998 rfl rfl
    refine dskip (nblock (nseq (dreg ?_)))
    refine lpure (v := .int .i64 (w64 (s5987 + 1))) rfl (p_add rfl) rfl rfl ?_
    refine lpure (v := .int .i64 (w64 (s5987 + 1))) rfl (p_move rfl) rfl rfl ?_
    refine lend ?_
    exact kbackM ih5996 (w64 (s5987 + 1)) () (sub_cons rfl (sub_cons rfl (sub_cons rfl (sub_cons rfl sub_nil)))) X5998
  refine dexit (eseq (eloop (xblock (nseq (dseq (dreg ?_))))))
  refine lpure (v := .int .i64 (-1)) rfl (p_assign rfl) rfl rfl ?_
  refine lend (nseq (dret ?_))
  exact kcut_r (res_1 resT) X5998 rfl rfl
/-! slices.Contains[[]bool,bool] -/
theorem f70_ok {n : Nat} {φ : Fz} {lo : Nat} {h : Heap} {own : OwnL}  {a5966 : Option Addr} {n5966 c5966 : Nat} (X : St φ lo h (own)) (p5965 : (List Bool)) (p5967 : Bool) (H5966 : RSl eBool φ (.slice a5966 n5966 c5966) p5965) : Sim ((recN Tryz.prog LL cutF (n + 2)).call 70 #[(.slice a5966 n5966 c5966), (.bool p5967)] h) (m_slices_Contains_bool_bool p5965 p5967) (fun (d : Bool) p => p = (.bool d, h)) := by
  refine fcut Tryz.func70 rfl rfl rfl rfl X ?_
  intro h0 X0
  refine dseq (dreg ?_)
  refine lpure (v := .bool false) rfl (p_assign rfl) rfl rfl ?_
  refine lend (nseq (dseq (dreg ?_)))
  refine lpure (v := .slice a5966 n5966 c5966) rfl (p_move rfl) rfl rfl ?_
  refine lpure (v := .bool p5967) rfl (p_move rfl) rfl rfl ?_
  refine lcall rfl rfl ca_93 rfl rfl (f93_ok X0 p5965 p5967 H5966) rfl (fun e6005 v6006 h6007 hq6008 => ?_)
  cases hq6008
  refine lpure (v := .bool (decide (0 ≤ e6005))) rfl (p_ge rfl) rfl rfl ?_
  refine lpure (v := .bool (decide (0 ≤ e6005))) rfl (p_assign rfl) rfl rfl ?_
  refine lend (nseq (dret ?_))
  exact kcut_r (res_1 resT) X0 rfl rfl
/-! isochron/topo.Check -/
theorem f39_ok {n : Nat} {φ : Fz} {lo : Nat} {h : Heap} {own : OwnL}  {a81 : Option Addr} {n81 c81 : Nat} {a82 : Option Addr} {n82 c82 : Nat} (X : St φ lo h (own)) (p80 : ApiTopo) (H81 : RSl eBool φ (.slice a81 n81 c81) p80.Station) (H82 : RSl eApiLink φ (.slice a82 n82 c82) p80.Links) : Sim ((recN Tryz.prog LL cutF (n + 6)).call 39 #[(.agg #[.int .i64 p80.Nodes, .slice a81 n81 c81, .slice a82 n82 c82])] h) (m_topo_Check p80) (fun (d : Int) p => p = (.int .i64 d, h)) := by
  refine fcut Tryz.func39 rfl rfl rfl rfl X ?_
  intro h0 X0
  refine dseq (dreg ?_)
  refine lbox rfl rfl rfl rfl rfl X0 (fun b83 h85 X86 => ?_)
  refine lpure (v := .int .i64 0) rfl (p_assign rfl) rfl rfl ?_
  refine lend (nseq (dseq (dseq (dreg ?_))))
  refine lpure (v := .pointer (some ⟨b83, 0, none⟩)) rfl (p_fa fo_25_0 rfl) rfl rfl ?_
  refine lread (v := .int .i64 p80.Nodes) rfl (q_load wd_3 rfl) (St.ld X86 (j := 0) rfl rfl) rfl ?_
  refine lpure (v := .bool (decide (p80.Nodes < 2))) rfl (p_lt rfl) rfl rfl ?_
  refine lpure (v := .bool (decide (p80.Nodes < 2))) rfl (p_move rfl) rfl rfl ?_
  refine lsh (τ := Bool) (σ := Unit) (fun s88 (_ : Unit) => [(1, .pointer (some ⟨b83, 0, none⟩)), (13, .bool s88)]) (fun s88 (_ : Unit) hh => St φ h.n hh ([(some b83, .cells [.int .i64 p80.Nodes, .slice a81 n81 c81, .slice a82 n82 c82] 25 .exact)])) 4 ?_ ?_
  · rintro s88 _ t0 h90 X89
    refine lpure (v := .bool s88) rfl (p_move rfl) rfl rfl ?_
    refine lsh (τ := Bool) (σ := Unit) (fun s92 (_ : Unit) => [(1, .pointer (some ⟨b83, 0, none⟩)), (21, .bool s92)]) (fun s92 (_ : Unit) hh => St φ h.n hh ([(some b83, .cells [.int .i64 p80.Nodes, .slice a81 n81 c81, .slice a82 n82 c82] 25 .exact)])) 7 ?_ ?_
    · rintro s92 _ t0 h94 X93
      refine lpure (v := .bool s92) rfl (p_move rfl) rfl rfl ?_
      refine lsh (τ := Bool) (σ := Unit) (fun s96 (_ : Unit) => [(1, .pointer (some ⟨b83, 0, none⟩)), (27, .bool s96)]) (fun s96 (_ : Unit) hh => St φ h.n hh ([(some b83, .cells [.int .i64 p80.Nodes, .slice a81 n81 c81, .slice a82 n82 c82] 25 .exact)])) 5 ?_ ?_
      · rintro s96 _ t0 h98 X97
        refine lend (nseq ?_)
        refine dcond rfl rfl (fun k99 => ?_) (fun k99 => ?_)
        · refine dseq (dreg ?_)
          refine lpure (v := .int .i64 260) rfl (p_assign rfl) rfl rfl ?_
          refine lend (nseq (dret (rseq ?_)))
          exact kcut_r (res_1 resT) X97 rfl rfl
        refine dskip (nseq (dseq (dseq (dreg ?_))))
        refine lpure (v := .pointer (some ⟨b83, 2, none⟩)) rfl (p_fa fo_25_2 rfl) rfl rfl ?_
        refine lread (v := .slice a82 n82 c82) rfl (q_load wd_23 rfl) (St.ld X97 (j := 0) rfl rfl) rfl ?_
        refine lpure (v := .int .i64 (p80.Links.length : Int)) rfl (p_len rfl rfl rfl un_23 rfl) (RSl.lenC H82) rfl ?_
        refine lpure (v := .int .i64 0) rfl (p_move rfl) rfl rfl ?_
        refine lend (nseq (dblock ?_))
        refine dloopM (τ := Int) (σ := Unit) (fun s6395 (_ : Unit) => [(1, .pointer (some ⟨b83, 0, none⟩)), (30, .int .i64 (p80.Links.length : Int)), (31, .int .i64 s6395)]) (fun s6395 (_ : Unit) hh => St φ h.n hh ([(some b83, .cells [.int .i64 p80.Nodes, .slice a81 n81 c81, .slice a82 n82 c82] 25 .exact)])) 0 () (sub_cons rfl (sub_cons rfl (sub_cons rfl sub_nil))) X97 ?_
        rintro n6616 ih6615 s6395 _ t0 h6618 X6617
        refine dseq (dreg ?_)
        refine lpure (v := .bool (decide (s6395 < (p80.Links.length : Int)))) rfl (p_lt rfl) rfl rfl ?_
        refine lend (nseq (dseq ?_))
        refine dcond rfl rfl (fun k6619 => ?_) (fun k6619 => ?_)
        · refine dskip (nseq (dseq (dblock (dseq (dreg ?_)))))
          refine lpure (v := .int .i64 s6395) rfl (p_move rfl) rfl rfl ?_
          refine lpure (v := .int .i64 s6395) rfl (p_assign rfl) rfl rfl ?_
          refine lend (nseq (dseq (dreg ?_)))
          refine lread (v := .agg #[.int .i64 p80.Nodes, .slice a81 n81 c81, .slice a82 n82 c82]) rfl (q_load wd_25 rfl) (St.ld X6617 (j := 0) rfl rfl) rfl ?_
          refine lpure (v := .int .i64 s6395) rfl (p_move rfl) rfl rfl ?_
          refine lcall rfl rfl ca_68 rfl rfl (f68_ok X6617 p80 s6395 H81 H82) rfl (fun e6620 v6621 h6622 hq6623 => ?_)
          cases hq6623
          refine lpure (v := .bool (!e6620)) rfl (p_not rfl) rfl rfl ?_
          refine lend (nseq ?_)
          refine dcond rfl rfl (fun k6624 => ?_) (fun k6624 => ?_)
          · refine dseq (dreg ?_)
            refine lpure (v := .int .i64 260) rfl (p_assign rfl) rfl rfl ?_
            refine lend (nseq (dret (rblock (rseq (rloop (rblock (rseq ?_)))))))
            exact kcut_r (res_1 resT) X6617 rfl rfl
          refine dskip (nblock (nseq (dreg ?_)))
          refine lpure (v := .int .i64 (w64 (s6395 + 1))) rfl (p_add rfl) rfl rfl ?_
          refine lpure (v := .int .i64 (w64 (s6395 + 1))) rfl (p_move rfl) rfl rfl ?_
          refine lend ?_
          exact kbackM ih6615 (w64 (s6395 + 1)) () (sub_cons rfl (sub_cons rfl (sub_cons rfl sub_nil))) X6617
        refine dexit (eseq (eloop (xblock (nseq (dseq (dseq (dreg ?_)))))))
        refine lpure (v := .pointer (some ⟨b83, 1, none⟩)) rfl (p_fa fo_25_1 rfl) rfl rfl ?_
        refine lread (v := .slice a81 n81 c81) rfl (q_load wd_22 rfl) (St.ld X6617 (j := 0) rfl rfl) rfl ?_
        refine lpure (v := .int .i64 (p80.Station.length : Int)) rfl (p_len rfl rfl rfl un_22 rfl) (RSl.lenC H81) rfl ?_
        refine lpure (v := .int .i64 0) rfl (p_move rfl) rfl rfl ?_
        refine lend (nseq (dblock ?_))
        refine dloopM (τ := Int) (σ := Unit) (fun s6729 (_ : Unit) => [(1, .pointer (some ⟨b83, 0, none⟩)), (40, .slice a81 n81 c81), (41, .int .i64 (p80.Station.length : Int)), (42, .int .i64 s6729)]) (fun s6729 (_ : Unit) hh => St φ h.n hh ([(some b83, .cells [.int .i64 p80.Nodes, .slice a81 n81 c81, .slice a82 n82 c82] 25 .exact)])) 0 () (sub_cons rfl (sub_cons rfl (sub_cons rfl (sub_cons rfl sub_nil)))) X6617 ?_
        rintro n6783 ih6782 s6729 _ t0 h6785 X6784
        refine dseq (dreg ?_)
        refine lpure (v := .bool (decide (s6729 < (p80.Station.length : Int)))) rfl (p_lt rfl) rfl rfl ?_
        refine lend (nseq (dseq ?_))
        refine dcond rfl rfl (fun k6786 => ?_) (fun k6786 => ?_)
        · refine dskip (nseq (dseq (dblock (dseq (dreg ?_)))))
          refine lpure (v := .int .i64 s6729) rfl (p_move rfl) rfl rfl ?_
          refine Sim.bindM fun e6787 he6788 => ?_
          obtain ⟨p6789, cs6789, hp6789, hF6789, hR6789⟩ := RSl.ia H81 he6788 (kd := .i64) (n := 1) rfl
          have hR6789 : _ = [(.bool e6787 : Value)] := hR6789
          subst hR6789
          refine lpure (v := p6789) rfl (p_ia rs_22 rfl) hp6789 rfl ?_
          refine lread (v := .bool e6787) rfl (q_load wd_4 rfl) (FP.ld X6784 hF6789) rfl ?_
          refine lpure (v := .int .i64 s6729) rfl (p_assign rfl) rfl rfl ?_
          refine lpure (v := .bool e6787) rfl (p_assign rfl) rfl rfl ?_
          refine lend (nseq (dseq (dreg ?_)))
          refine lpure (v := .bool e6787) rfl (p_move rfl) rfl rfl ?_
          refine lpure (v := .bool e6787) rfl (p_move rfl) rfl rfl ?_
          refine ljoinM (τ := Bool) (σ := Unit) (fun s6801 (_ : Unit) => [(1, .pointer (some ⟨b83, 0, none⟩)), (40, .slice a81 n81 c81), (41, .int .i64 (p80.Station.length : Int)), (42, .int .i64 s6729), (59, .bool s6801)]) (fun s6801 (_ : Unit) hh => St φ h.n hh ([(some b83, .cells [.int .i64 p80.Nodes, .slice a81 n81 c81, .slice a82 n82 c82] 25 .exact)])) 11 ?_ ?_
          · rintro s6801 _ t0 h6803 X6802
            refine lend (nseq ?_)
            refine dcond rfl rfl (fun k6804 => ?_) (fun k6804 => ?_)
            · refine dseq (dreg ?_)
              refine lpure (v := .int .i64 260) rfl (p_assign rfl) rfl rfl ?_
              refine lend (nseq (dret (rblock (rseq (rloop (rblock (rseq ?_)))))))
              exact kcut_r (res_1 resT) X6802 rfl rfl
            refine dskip (nblock (nseq (dreg ?_)))
            refine lpure (v := .int .i64 (w64 (s6729 + 1))) rfl (p_add rfl) rfl rfl ?_
            refine lpure (v := .int .i64 (w64 (s6729 + 1))) rfl (p_move rfl) rfl rfl ?_
            refine lend ?_
            exact kbackM ih6782 (w64 (s6729 + 1)) () (sub_cons rfl (sub_cons rfl (sub_cons rfl (sub_cons rfl sub_nil)))) X6802
          intro j6805 J6806
          refine lif (i := 48) (show _ = Value.bool e6787 from rfl) (fun k6807 => ?_) (fun k6807 => ?_)
          · refine lread (v := .agg #[.int .i64 p80.Nodes, .slice a81 n81 c81, .slice a82 n82 c82]) rfl (q_load wd_25 rfl) (St.ld X6784 (j := 0) rfl rfl) rfl ?_
            refine lpure (v := .int .i64 s6729) rfl (p_move rfl) rfl rfl ?_
            refine lcall rfl rfl ca_69 rfl rfl (f69_ok X6784 p80 s6729 H81 H82) rfl (fun e6808 v6809 h6810 hq6811 => ?_)
            cases hq6811
            refine lpure (v := .bool (decide (e6808 < 1))) rfl (p_lt rfl) rfl rfl ?_
            refine lpure (v := .bool (decide (e6808 < 1))) rfl (p_move rfl) rfl rfl ?_
            refine lif (i := 53) (show _ = Value.bool (decide (e6808 < 1)) from rfl) (fun k6812 => ?_) (fun k6812 => ?_)
            · refine lskip rfl rfl ?_
              refine lskip rfl rfl ?_
              refine lskip rfl rfl ?_
              refine lskip rfl rfl ?_
              refine lpure (v := .bool true) rfl (p_pick rfl) rfl rfl ?_
              refine lpure (v := .bool true) rfl (p_pick rfl) rfl rfl ?_
              exact ljmpM J6806 true () (sub_cons rfl (sub_cons rfl (sub_cons rfl (sub_cons rfl (sub_cons rfl sub_nil))))) X6784
            refine lread (v := .agg #[.int .i64 p80.Nodes, .slice a81 n81 c81, .slice a82 n82 c82]) rfl (q_load wd_25 rfl) (St.ld X6784 (j := 0) rfl rfl) rfl ?_
            refine lpure (v := .int .i64 s6729) rfl (p_move rfl) rfl rfl ?_
            refine lcall rfl rfl ca_69 rfl rfl (f69_ok X6784 p80 s6729 H81 H82) rfl (fun e6813 v6814 h6815 hq6816 => ?_)
            cases hq6816
            refine lpure (v := .bool (decide (2 < e6813))) rfl (p_gt rfl) rfl rfl ?_
            refine lpure (v := .bool (decide (2 < e6813))) rfl (p_pick rfl) rfl rfl ?_
            refine lpure (v := .bool (decide (2 < e6813))) rfl (p_pick rfl) rfl rfl ?_
            exact ljmpM J6806 (decide (2 < e6813)) () (sub_cons rfl (sub_cons rfl (sub_cons rfl (sub_cons rfl (sub_cons rfl sub_nil))))) X6784
          refine lskip rfl rfl ?_
          refine lskip rfl rfl ?_
          refine lskip rfl rfl ?_
          refine lskip rfl rfl ?_
          refine lskip rfl rfl ?_
          refine lskip rfl rfl ?_
          refine lskip rfl rfl ?_
          refine lskip rfl rfl ?_
          refine lskip rfl rfl ?_
          refine lskip rfl rfl ?_
          refine lpure (v := .bool false) rfl (p_pick rfl) rfl rfl ?_
          exact ljmpM J6806 false () (sub_cons rfl (sub_cons rfl (sub_cons rfl (sub_cons rfl (sub_cons rfl sub_nil))))) X6784
        refine dexit (eseq (eloop (xblock (nseq (dseq (dseq (dreg ?_)))))))
        refine lread (v := .agg #[.int .i64 p80.Nodes, .slice a81 n81 c81, .slice a82 n82 c82]) rfl (q_load wd_25 rfl) (St.ld X6784 (j := 0) rfl rfl) rfl ?_
        refine lcall rfl rfl ca_71 rfl rfl (f71_ok X6784 p80 0 ([]) H81 H82 (.inl ⟨rfl, rfl⟩)) rfl ?_
        rintro e6817 _ h6819 ⟨φ6821, a6824, n6824, c6824, ob6824, blk6824, g6822, X6823, rfl, O6824⟩
        obtain ⟨φ6826, g6827, X6828, H6829⟩ := OSl.freeze X6823 (j := 0) rfl O6824
        refine lcall rfl rfl ca_70 rfl rfl (f70_ok X6828 e6817 false H6829) rfl (fun e6830 v6831 h6832 hq6833 => ?_)
        cases hq6833
        refine lend (nseq ?_)
        refine dcond rfl rfl (fun k6834 => ?_) (fun k6834 => ?_)
        · refine dseq (dreg ?_)
          refine lpure (v := .int .i64 260) rfl (p_assign rfl) rfl rfl ?_
          refine lend (nseq (dret (rseq ?_)))
          exact kcut_r (res_1 resT) X6823 rfl rfl
        refine dskip (nseq (dseq (dreg ?_)))
        refine lpure (v := .int .i64 0) rfl (p_assign rfl) rfl rfl ?_
        refine lend (nseq (dret ?_))
        exact kcut_r (res_1 resT) X6823 rfl rfl
      intro j6835 J6836
      refine lcase (i := 22) (show _ = Value.bool s92 from rfl) (fun k6837 => ?_) (fun k6837 => ?_)
      · refine lskip rfl rfl ?_
        refine lskip rfl rfl ?_
        refine lskip rfl rfl ?_
        refine lskip rfl rfl ?_
        refine lpure (v := .bool true) rfl (p_pick rfl) rfl rfl ?_
        refine Sim.of_eq (congrArg j6835 (show (s92 || (decide (24 < (p80.Links.length : Int)))) = true from by rw [k6837] <;> rfl)) ?_
        exact ljmpM J6836 true () (sub_cons rfl (sub_cons rfl sub_nil)) X93
      refine lpure (v := .pointer (some ⟨b83, 2, none⟩)) rfl (p_fa fo_25_2 rfl) rfl rfl ?_
      refine lread (v := .slice a82 n82 c82) rfl (q_load wd_23 rfl) (St.ld X93 (j := 0) rfl rfl) rfl ?_
      refine lpure (v := .int .i64 (p80.Links.length : Int)) rfl (p_len rfl rfl rfl un_23 rfl) (RSl.lenC H82) rfl ?_
      refine lpure (v := .bool (decide (24 < (p80.Links.length : Int)))) rfl (p_gt rfl) rfl rfl ?_
      refine lpure (v := .bool (decide (24 < (p80.Links.length : Int)))) rfl (p_pick rfl) rfl rfl ?_
      refine Sim.of_eq (congrArg j6835 (show (s92 || (decide (24 < (p80.Links.length : Int)))) = (decide (24 < (p80.Links.length : Int))) from by rw [k6837] <;> rfl)) ?_
      exact ljmpM J6836 (decide (24 < (p80.Links.length : Int))) () (sub_cons rfl (sub_cons rfl sub_nil)) X93
    intro j6838 J6839
    refine lcase (i := 14) (show _ = Value.bool s88 from rfl) (fun k6840 => ?_) (fun k6840 => ?_)
    · refine lskip rfl rfl ?_
      refine lskip rfl rfl ?_
      refine lskip rfl rfl ?_
      refine lskip rfl rfl ?_
      refine lskip rfl rfl ?_
      refine lskip rfl rfl ?_
      refine lpure (v := .bool true) rfl (p_pick rfl) rfl rfl ?_
      refine Sim.of_eq (congrArg j6838 (show (s88 || (decide ((p80.Station.length : Int) ≠ p80.Nodes))) = true from by rw [k6840] <;> rfl)) ?_
      exact ljmpM J6839 true () (sub_cons rfl (sub_cons rfl sub_nil)) X89
    refine lpure (v := .pointer (some ⟨b83, 1, none⟩)) rfl (p_fa fo_25_1 rfl) rfl rfl ?_
    refine lread (v := .slice a81 n81 c81) rfl (q_load wd_22 rfl) (St.ld X89 (j := 0) rfl rfl) rfl ?_
    refine lpure (v := .int .i64 (p80.Station.length : Int)) rfl (p_len rfl rfl rfl un_22 rfl) (RSl.lenC H81) rfl ?_
    refine lpure (v := .pointer (some ⟨b83, 0, none⟩)) rfl (p_fa fo_25_0 rfl) rfl rfl ?_
    refine lread (v := .int .i64 p80.Nodes) rfl (q_load wd_3 rfl) (St.ld X89 (j := 0) rfl rfl) rfl ?_
    refine lpure (v := .bool (decide ((p80.Station.length : Int) ≠ p80.Nodes))) rfl (p_ne rfl) rfl rfl ?_
    refine lpure (v := .bool (decide ((p80.Station.length : Int) ≠ p80.Nodes))) rfl (p_pick rfl) rfl rfl ?_
    refine Sim.of_eq (congrArg j6838 (show (s88 || (decide ((p80.Station.length : Int) ≠ p80.Nodes))) = (decide ((p80.Station.length : Int) ≠ p80.Nodes)) from by rw [k6840] <;> rfl)) ?_
    exact ljmpM J6839 (decide ((p80.Station.length : Int) ≠ p80.Nodes)) () (sub_cons rfl (sub_cons rfl sub_nil)) X89
  intro j6841 J6842
  refine lcase (i := 9) (show _ = Value.bool (decide (p80.Nodes < 2)) from rfl) (fun k6843 => ?_) (fun k6843 => ?_)
  · refine lskip rfl rfl ?_
    refine lskip rfl rfl ?_
    refine lskip rfl rfl ?_
    refine lpure (v := .bool true) rfl (p_pick rfl) rfl rfl ?_
    refine Sim.of_eq (congrArg j6841 (show ((decide (p80.Nodes < 2)) || (decide (12 < p80.Nodes))) = true from by rw [k6843] <;> rfl)) ?_
    exact ljmpM J6842 true () (sub_cons rfl (sub_cons rfl sub_nil)) X86
  refine lpure (v := .pointer (some ⟨b83, 0, none⟩)) rfl (p_fa fo_25_0 rfl) rfl rfl ?_
  refine lread (v := .int .i64 p80.Nodes) rfl (q_load wd_3 rfl) (St.ld X86 (j := 0) rfl rfl) rfl ?_
  refine lpure (v := .bool (decide (12 < p80.Nodes))) rfl (p_gt rfl) rfl rfl ?_
  refine lpure (v := .bool (decide (12 < p80.Nodes))) rfl (p_pick rfl) rfl rfl ?_
  refine Sim.of_eq (congrArg j6841 (show ((decide (p80.Nodes < 2)) || (decide (12 < p80.Nodes))) = (decide (12 < p80.Nodes)) from by rw [k6843] <;> rfl)) ?_
  exact ljmpM J6842 (decide (12 < p80.Nodes)) () (sub_cons rfl (sub_cons rfl sub_nil)) X86
/-! isochron/topo.From -/
theorem f80_ok {n : Nat} {φ : Fz} {lo : Nat} {h : Heap} {own : OwnL}  {a6969 : Option Addr} {n6969 c6969 : Nat} {a6970 : Option Addr} {n6970 c6970 : Nat} (X : St φ lo h (own)) (p6968 : ApiTopo) (p6971 : Int) (H6969 : RSl eBool φ (.slice a6969 n6969 c6969) p6968.Station) (H6970 : RSl eApiLink φ (.slice a6970 n6970 c6970) p6968.Links) : Sim ((recN Tryz.prog LL cutF (n + 8)).call 80 #[(.agg #[.int .i64 p6968.Nodes, .slice a6969 n6969 c6969, .slice a6970 n6970 c6970]), (.int .i64 p6971)] h) (m_topo_From p6968 p6971) (fun (d : (Int × Int)) p => p = (.tuple #[.int .i64 d.1, .int .i64 d.2], h)) := by
  refine fcut Tryz.func80 rfl rfl rfl rfl X ?_
  intro h0 X0
  refine dseq (dreg ?_)
  refine lbox rfl rfl rfl rfl rfl X0 (fun b6972 h6974 X6975 => ?_)
  refine lpure (v := .int .i64 0) rfl (p_assign rfl) rfl rfl ?_
  refine lpure (v := .int .i64 0) rfl (p_assign rfl) rfl rfl ?_
  refine lend (nseq (dseq (dreg ?_)))
  refine lread (v := .agg #[.int .i64 p6968.Nodes, .slice a6969 n6969 c6969, .slice a6970 n6970 c6970]) rfl (q_load wd_25 rfl) (St.ld X6975 (j := 0) rfl rfl) rfl ?_
  refine lpure (v := .int .i64 p6971) rfl (p_move rfl) rfl rfl ?_
  refine linl rfl rfl rfl rfl ca_107 rfl Tryz.func107 rfl rfl rfl rfl rfl ?_
  refine dseq (dreg ?_)
  refine lbox rfl rfl rfl rfl rfl X6975 (fun b6976 h6978 X6979 => ?_)
  refine lpure (v := .int .i64 0) rfl (p_assign rfl) rfl rfl ?_
  refine lpure (v := .int .i64 0) rfl (p_assign rfl) rfl rfl ?_
  refine lend (nseq (dseq (dreg ?_)))
  refine lpure (v := .int .i64 0) rfl (p_assign rfl) rfl rfl ?_
  refine lend (nseq (dseq (dseq (dreg ?_))))
  refine lread (v := .agg #[.int .i64 p6968.Nodes, .slice a6969 n6969 c6969, .slice a6970 n6970 c6970]) rfl (q_load wd_25 rfl) (St.ld X6979 (j := 0) rfl rfl) rfl ?_
  refine lcall rfl rfl ca_39 rfl rfl (f39_ok X6979 p6968 H6969 H6970) rfl (fun e6980 v6981 h6982 hq6983 => ?_)
  cases hq6983
  refine lpure (v := .int .i64 e6980) rfl (p_assign rfl) rfl rfl ?_
  refine lend (nseq (dseq (dreg ?_)))
  refine lpure (v := .int .i64 e6980) rfl (p_move rfl) rfl rfl ?_
  refine lpure (v := .bool (decide (e6980 ≠ 0))) rfl (p_ne rfl) rfl rfl ?_
  refine lend (nseq ?_)
  refine dcond rfl rfl (fun k6984 => ?_) (fun k6984 => ?_)
  · refine dseq (dreg ?_)
    refine lpure (v := .int .i64 0) rfl (p_move rfl) rfl rfl ?_
    refine lpure (v := .int .i64 e6980) rfl (p_move rfl) rfl rfl ?_
    refine lpure (v := .int .i64 0) rfl (p_assign rfl) rfl rfl ?_
    refine lpure (v := .int .i64 e6980) rfl (p_assign rfl) rfl rfl ?_
    refine lend (nseq (dret (rseq ?_)))
    refine kin_r (res_2 resT resT) ?_
    refine lpure (v := .int .i64 0) rfl (p_extract rfl) rfl rfl ?_
    refine lpure (v := .int .i64 e6980) rfl (p_extract rfl) rfl rfl ?_
    refine lpure (v := .int .i64 0) rfl (p_assign rfl) rfl rfl ?_
    refine lpure (v := .int .i64 e6980) rfl (p_assign rfl) rfl rfl ?_
    refine lend (nseq (dret ?_))
    exact kcut_r (res_2 resT resT) X6979 rfl rfl
  refine dskip (nseq (dseq (dseq (dreg ?_))))
  refine lpure (v := .int .i64 p6971) rfl (p_move rfl) rfl rfl ?_
  refine lpure (v := .bool (decide (p6971 < 0))) rfl (p_lt rfl) rfl rfl ?_
  refine lpure (v := .bool (decide (p6971 < 0))) rfl (p_move rfl) rfl rfl ?_
  refine lsh (τ := Bool) (σ := Unit) (fun s6986 (_ : Unit) => [(1, .int .i64 p6971), (2, .func (.func 92) #[] #[]), (3, .pointer (some ⟨b6976, 0, none⟩)), (8, .int .i64 0), (25, .bool s6986)]) (fun s6986 (_ : Unit) hh => St φ h.n hh ([(some b6976, .cells [.int .i64 p6968.Nodes, .slice a6969 n6969 c6969, .slice a6970 n6970 c6970] 25 .exact), (some b6972, .cells [.int .i64 p6968.Nodes, .slice a6969 n6969 c6969, .slice a6970 n6970 c6970] 25 .exact)])) 7 ?_ ?_
  · rintro s6986 _ t0 h6988 X6987
    refine lend (nseq ?_)
    refine dcond rfl rfl (fun k6989 => ?_) (fun k6989 => ?_)
    · refine dseq (dreg ?_)
      refine lpure (v := .int .i64 0) rfl (p_move rfl) rfl rfl ?_
      refine lpure (v := .int .i64 0) rfl (p_assign rfl) rfl rfl ?_
      refine lpure (v := .int .i64 2) rfl (p_assign rfl) rfl rfl ?_
      refine lend (nseq (dret (rseq ?_)))
      refine kin_r (res_2 resT resT) ?_
      refine lpure (v := .int .i64 0) rfl (p_extract rfl) rfl rfl ?_
      refine lpure (v := .int .i64 2) rfl (p_extract rfl) rfl rfl ?_
      refine lpure (v := .int .i64 0) rfl (p_assign rfl) rfl rfl ?_
      refine lpure (v := .int .i64 2) rfl (p_assign rfl) rfl rfl ?_
      refine lend (nseq (dret ?_))
      exact kcut_r (res_2 resT resT) X6987 rfl rfl
    refine dskip (nseq (dseq (dreg ?_)))
    refine lpure (v := .func (.func 92) #[] #[]) rfl (p_move rfl) rfl rfl ?_
    refine lpure (v := .pointer (some ⟨b6976, 2, none⟩)) rfl (p_fa fo_25_2 rfl) rfl rfl ?_
    refine lread (v := .slice a6970 n6970 c6970) rfl (q_load wd_23 rfl) (St.ld X6987 (j := 0) rfl rfl) rfl ?_
    refine lpure (v := .int .i64 p6971) rfl (p_move rfl) rfl rfl ?_
    refine lpure (v := .int .i64 (w64 (Int.tdiv p6971 2))) rfl (p_quo rfl) rfl rfl ?_
    refine Sim.bindM fun e6990 he6991 => ?_
    obtain ⟨p6992, cs6992, hp6992, hF6992, hR6992⟩ := RSl.ia H6970 he6991 (kd := .i64) (n := 4) rfl
    obtain rfl := eApiLink_el hR6992
    refine lpure (v := p6992) rfl (p_ia rs_23 rfl) hp6992 rfl ?_
    refine lread (v := .agg #[.int .i64 e6990.A, .int .i64 e6990.B, .int .i64 e6990.Per, .int .i64 e6990.Delay]) rfl (q_load wd_65 rfl) (FP.ldw X6987 hF6992 rfl rfl) rfl ?_
    refine lpure (v := .int .i64 p6971) rfl (p_move rfl) rfl rfl ?_
    refine lpure (v := .agg #[.int .i64 e6990.A, .int .i64 e6990.B, .int .i64 e6990.Per, .int .i64 e6990.Delay, .int .i64 p6971]) rfl (p_build rfl) (build_st' tz_111 pl_111 rfl) rfl ?_
    refine lcallv rfl rfl rfl rfl ca_92 rfl rfl (f92_ok X6987 ((TopoEnd.mk e6990 p6971))) rfl (fun e6993 v6994 h6995 hq6996 => ?_)
    cases hq6996
    refine lpure (v := .int .i64 e6993) rfl (p_assign rfl) rfl rfl ?_
    refine lpure (v := .int .i64 0) rfl (p_assign rfl) rfl rfl ?_
    refine lend (nseq (dret ?_))
    refine kin_r (res_2 resT resT) ?_
    refine lpure (v := .int .i64 e6993) rfl (p_extract rfl) rfl rfl ?_
    refine lpure (v := .int .i64 0) rfl (p_extract rfl) rfl rfl ?_
    refine lpure (v := .int .i64 e6993) rfl (p_assign rfl) rfl rfl ?_
    refine lpure (v := .int .i64 0) rfl (p_assign rfl) rfl rfl ?_
    refine lend (nseq (dret ?_))
    exact kcut_r (res_2 resT resT) X6987 rfl rfl
  intro j6997 J6998
  refine lcase (i := 18) (show _ = Value.bool (decide (p6971 < 0)) from rfl) (fun k6999 => ?_) (fun k6999 => ?_)
  · refine lskip rfl rfl ?_
    refine lskip rfl rfl ?_
    refine lskip rfl rfl ?_
    refine lskip rfl rfl ?_
    refine lskip rfl rfl ?_
    refine lskip rfl rfl ?_
    refine lpure (v := .bool true) rfl (p_pick rfl) rfl rfl ?_
    refine Sim.of_eq (congrArg j6997 (show ((decide (p6971 < 0)) || (decide ((w64 (2 * (p6968.Links.length : Int))) ≤ p6971))) = true from by rw [k6999] <;> rfl)) ?_
    exact ljmpM J6998 true () (sub_cons rfl (sub_cons rfl (sub_cons rfl (sub_cons rfl (sub_cons rfl sub_nil))))) X6979
  refine lpure (v := .int .i64 p6971) rfl (p_move rfl) rfl rfl ?_
  refine lpure (v := .pointer (some ⟨b6976, 2, none⟩)) rfl (p_fa fo_25_2 rfl) rfl rfl ?_
  refine lread (v := .slice a6970 n6970 c6970) rfl (q_load wd_23 rfl) (St.ld X6979 (j := 0) rfl rfl) rfl ?_
  refine lpure (v := .int .i64 (p6968.Links.length : Int)) rfl (p_len rfl rfl rfl un_23 rfl) (RSl.lenC H6970) rfl ?_
  refine lpure (v := .int .i64 (w64 (2 * (p6968.Links.length : Int)))) rfl (p_mul rfl) rfl rfl ?_
  refine lpure (v := .bool (decide ((w64 (2 * (p6968.Links.length : Int))) ≤ p6971))) rfl (p_ge rfl) rfl rfl ?_
  refine lpure (v := .bool (decide ((w64 (2 * (p6968.Links.length : Int))) ≤ p6971))) rfl (p_pick rfl) rfl rfl ?_
  refine Sim.of_eq (congrArg j6997 (show ((decide (p6971 < 0)) || (decide ((w64 (2 * (p6968.Links.length : Int))) ≤ p6971))) = (decide ((w64 (2 * (p6968.Links.length : Int))) ≤ p6971)) from by rw [k6999] <;> rfl)) ?_
  exact ljmpM J6998 (decide ((w64 (2 * (p6968.Links.length : Int))) ≤ p6971)) () (sub_cons rfl (sub_cons rfl (sub_cons rfl (sub_cons rfl (sub_cons rfl sub_nil))))) X6979
/-! (isochron/route.walk).from -/
theorem f56_ok {n : Nat} {φ : Fz} {lo : Nat} {h : Heap} {own : OwnL}  {a6961 : Option Addr} {n6961 c6961 : Nat} {a6962 : Option Addr} {n6962 c6962 : Nat} (X : St φ lo h (own)) (p6960 : RouteWalk) (p6963 : Int) (H6961 : RSl eBool φ (.slice a6961 n6961 c6961) p6960.Topo.Station) (H6962 : RSl eApiLink φ (.slice a6962 n6962 c6962) p6960.Topo.Links) : Sim ((recN Tryz.prog LL cutF (n + 9)).call 56 #[(.agg #[.int .i64 p6960.Topo.Nodes, .slice a6961 n6961 c6961, .slice a6962 n6962 c6962]), (.int .i64 p6963)] h) (m_route_walk_from p6960 p6963) (fun (d : Int) p => p = (.int .i64 d, h)) := by
  refine fcut Tryz.func56 rfl rfl rfl rfl X ?_
  intro h0 X0
  refine dseq (dreg ?_)
  refine lbox rfl rfl rfl rfl rfl X0 (fun b6964 h6966 X6967 => ?_)
  refine lpure (v := .int .i64 0) rfl (p_assign rfl) rfl rfl ?_
  refine lend (nseq (dseq (dreg ?_)))
  refine lpure (v := .pointer (some ⟨b6964, 0, none⟩)) rfl (p_fa fo_60_0 rfl) rfl rfl ?_
  refine lread (v := .agg #[.int .i64 p6960.Topo.Nodes, .slice a6961 n6961 c6961, .slice a6962 n6962 c6962]) rfl (q_load wd_25 rfl) (St.ld X6967 (j := 0) rfl rfl) rfl ?_
  refine lpure (v := .int .i64 p6963) rfl (p_move rfl) rfl rfl ?_
  refine lcall rfl rfl ca_80 rfl rfl (f80_ok X6967 (p6960.Topo) p6963 H6961 H6962) rfl (fun e7000 v7001 h7002 hq7003 => ?_)
  cases hq7003
  refine lpure (v := .tuple #[.int .i64 e7000.1, .int .i64 e7000.2]) rfl (p_move rfl) rfl rfl ?_
  refine lpure (v := .int .i64 e7000.1) rfl (p_extract rfl) rfl rfl ?_
  refine lpure (v := .int .i64 e7000.2) rfl (p_extract rfl) rfl rfl ?_
  refine lpure (v := .int .i64 e7000.1) rfl (p_assign rfl) rfl rfl ?_
  refine lpure (v := .int .i64 e7000.2) rfl (p_assign rfl) rfl rfl ?_
  refine lend (nseq (dseq (dreg ?_)))
  refine lpure (v := .int .i64 e7000.1) rfl (p_move rfl) rfl rfl ?_
  refine lpure (v := .int .i64 e7000.1) rfl (p_assign rfl) rfl rfl ?_
  refine lend (nseq (dret ?_))
  exact kcut_r (res_1 resT) X6967 rfl rfl
/-! isochron/topo.To -/
theorem f79_ok {n : Nat} {φ : Fz} {lo : Nat} {h : Heap} {own : OwnL}  {a7054 : Option Addr} {n7054 c7054 : Nat} {a7055 : Option Addr} {n7055 c7055 : Nat} (X : St φ lo h (own)) (p7053 : ApiTopo) (p7056 : Int) (H7054 : RSl eBool φ (.slice a7054 n7054 c7054) p7053.Station) (H7055 : RSl eApiLink φ (.slice a7055 n7055 c7055) p7053.Links) : Sim ((recN Tryz.prog LL cutF (n + 8)).call 79 #[(.agg #[.int .i64 p7053.Nodes, .slice a7054 n7054 c7054, .slice a7055 n7055 c7055]), (.int .i64 p7056)] h) (m_topo_To p7053 p7056) (fun (d : (Int × Int)) p => p = (.tuple #[.int .i64 d.1, .int .i64 d.2], h)) := by
  refine fcut Tryz.func79 rfl rfl rfl rfl X ?_
  intro h0 X0
  refine dseq (dreg ?_)
  refine lbox rfl rfl rfl rfl rfl X0 (fun b7057 h7059 X7060 => ?_)
  refine lpure (v := .int .i64 0) rfl (p_assign rfl) rfl rfl ?_
  refine lpure (v := .int .i64 0) rfl (p_assign rfl) rfl rfl ?_
  refine lend (nseq (dseq (dreg ?_)))
  refine lread (v := .agg #[.int .i64 p7053.Nodes, .slice a7054 n7054 c7054, .slice a7055 n7055 c7055]) rfl (q_load wd_25 rfl) (St.ld X7060 (j := 0) rfl rfl) rfl ?_
  refine lpure (v := .int .i64 p7056) rfl (p_move rfl) rfl rfl ?_
  refine linl rfl rfl rfl rfl ca_107 rfl Tryz.func107 rfl rfl rfl rfl rfl ?_
  refine dseq (dreg ?_)
  refine lbox rfl rfl rfl rfl rfl X7060 (fun b7061 h7063 X7064 => ?_)
  refine lpure (v := .int .i64 0) rfl (p_assign rfl) rfl rfl ?_
  refine lpure (v := .int .i64 0) rfl (p_assign rfl) rfl rfl ?_
  refine lend (nseq (dseq (dreg ?_)))
  refine lpure (v := .int .i64 0) rfl (p_assign rfl) rfl rfl ?_
  refine lend (nseq (dseq (dseq (dreg ?_))))
  refine lread (v := .agg #[.int .i64 p7053.Nodes, .slice a7054 n7054 c7054, .slice a7055 n7055 c7055]) rfl (q_load wd_25 rfl) (St.ld X7064 (j := 0) rfl rfl) rfl ?_
  refine lcall rfl rfl ca_39 rfl rfl (f39_ok X7064 p7053 H7054 H7055) rfl (fun e7065 v7066 h7067 hq7068 => ?_)
  cases hq7068
  refine lpure (v := .int .i64 e7065) rfl (p_assign rfl) rfl rfl ?_
  refine lend (nseq (dseq (dreg ?_)))
  refine lpure (v := .int .i64 e7065) rfl (p_move rfl) rfl rfl ?_
  refine lpure (v := .bool (decide (e7065 ≠ 0))) rfl (p_ne rfl) rfl rfl ?_
  refine lend (nseq ?_)
  refine dcond rfl rfl (fun k7069 => ?_) (fun k7069 => ?_)
  · refine dseq (dreg ?_)
    refine lpure (v := .int .i64 0) rfl (p_move rfl) rfl rfl ?_
    refine lpure (v := .int .i64 e7065) rfl (p_move rfl) rfl rfl ?_
    refine lpure (v := .int .i64 0) rfl (p_assign rfl) rfl rfl ?_
    refine lpure (v := .int .i64 e7065) rfl (p_assign rfl) rfl rfl ?_
    refine lend (nseq (dret (rseq ?_)))
    refine kin_r (res_2 resT resT) ?_
    refine lpure (v := .int .i64 0) rfl (p_extract rfl) rfl rfl ?_
    refine lpure (v := .int .i64 e7065) rfl (p_extract rfl) rfl rfl ?_
    refine lpure (v := .int .i64 0) rfl (p_assign rfl) rfl rfl ?_
    refine lpure (v := .int .i64 e7065) rfl (p_assign rfl) rfl rfl ?_
    refine lend (nseq (dret ?_))
    exact kcut_r (res_2 resT resT) X7064 rfl rfl
  refine dskip (nseq (dseq (dseq (dreg ?_))))
  refine lpure (v := .int .i64 p7056) rfl (p_move rfl) rfl rfl ?_
  refine lpure (v := .bool (decide (p7056 < 0))) rfl (p_lt rfl) rfl rfl ?_
  refine lpure (v := .bool (decide (p7056 < 0))) rfl (p_move rfl) rfl rfl ?_
  refine lsh (τ := Bool) (σ := Unit) (fun s7071 (_ : Unit) => [(1, .int .i64 p7056), (2, .func (.func 94) #[] #[]), (3, .pointer (some ⟨b7061, 0, none⟩)), (8, .int .i64 0), (25, .bool s7071)]) (fun s7071 (_ : Unit) hh => St φ h.n hh ([(some b7061, .cells [.int .i64 p7053.Nodes, .slice a7054 n7054 c7054, .slice a7055 n7055 c7055] 25 .exact), (some b7057, .cells [.int .i64 p7053.Nodes, .slice a7054 n7054 c7054, .slice a7055 n7055 c7055] 25 .exact)])) 7 ?_ ?_
  · rintro s7071 _ t0 h7073 X7072
    refine lend (nseq ?_)
    refine dcond rfl rfl (fun k7074 => ?_) (fun k7074 => ?_)
    · refine dseq (dreg ?_)
      refine lpure (v := .int .i64 0) rfl (p_move rfl) rfl rfl ?_
      refine lpure (v := .int .i64 0) rfl (p_assign rfl) rfl rfl ?_
      refine lpure (v := .int .i64 2) rfl (p_assign rfl) rfl rfl ?_
      refine lend (nseq (dret (rseq ?_)))
      refine kin_r (res_2 resT resT) ?_
      refine lpure (v := .int .i64 0) rfl (p_extract rfl) rfl rfl ?_
      refine lpure (v := .int .i64 2) rfl (p_extract rfl) rfl rfl ?_
      refine lpure (v := .int .i64 0) rfl (p_assign rfl) rfl rfl ?_
      refine lpure (v := .int .i64 2) rfl (p_assign rfl) rfl rfl ?_
      refine lend (nseq (dret ?_))
      exact kcut_r (res_2 resT resT) X7072 rfl rfl
    refine dskip (nseq (dseq (dreg ?_)))
    refine lpure (v := .func (.func 94) #[] #[]) rfl (p_move rfl) rfl rfl ?_
    refine lpure (v := .pointer (some ⟨b7061, 2, none⟩)) rfl (p_fa fo_25_2 rfl) rfl rfl ?_
    refine lread (v := .slice a7055 n7055 c7055) rfl (q_load wd_23 rfl) (St.ld X7072 (j := 0) rfl rfl) rfl ?_
    refine lpure (v := .int .i64 p7056) rfl (p_move rfl) rfl rfl ?_
    refine lpure (v := .int .i64 (w64 (Int.tdiv p7056 2))) rfl (p_quo rfl) rfl rfl ?_
    refine Sim.bindM fun e7075 he7076 => ?_
    obtain ⟨p7077, cs7077, hp7077, hF7077, hR7077⟩ := RSl.ia H7055 he7076 (kd := .i64) (n := 4) rfl
    obtain rfl := eApiLink_el hR7077
    refine lpure (v := p7077) rfl (p_ia rs_23 rfl) hp7077 rfl ?_
    refine lread (v := .agg #[.int .i64 e7075.A, .int .i64 e7075.B, .int .i64 e7075.Per, .int .i64 e7075.Delay]) rfl (q_load wd_65 rfl) (FP.ldw X7072 hF7077 rfl rfl) rfl ?_
    refine lpure (v := .int .i64 p7056) rfl (p_move rfl) rfl rfl ?_
    refine lpure (v := .agg #[.int .i64 e7075.A, .int .i64 e7075.B, .int .i64 e7075.Per, .int .i64 e7075.Delay, .int .i64 p7056]) rfl (p_build rfl) (build_st' tz_111 pl_111 rfl) rfl ?_
    refine lcallv rfl rfl rfl rfl ca_94 rfl rfl (f94_ok X7072 ((TopoEnd.mk e7075 p7056))) rfl (fun e7078 v7079 h7080 hq7081 => ?_)
    cases hq7081
    refine lpure (v := .int .i64 e7078) rfl (p_assign rfl) rfl rfl ?_
    refine lpure (v := .int .i64 0) rfl (p_assign rfl) rfl rfl ?_
    refine lend (nseq (dret ?_))
    refine kin_r (res_2 resT resT) ?_
    refine lpure (v := .int .i64 e7078) rfl (p_extract rfl) rfl rfl ?_
    refine lpure (v := .int .i64 0) rfl (p_extract rfl) rfl rfl ?_
    refine lpure (v := .int .i64 e7078) rfl (p_assign rfl) rfl rfl ?_
    refine lpure (v := .int .i64 0) rfl (p_assign rfl) rfl rfl ?_
    refine lend (nseq (dret ?_))
    exact kcut_r (res_2 resT resT) X7072 rfl rfl
  intro j7082 J7083
  refine lcase (i := 18) (show _ = Value.bool (decide (p7056 < 0)) from rfl) (fun k7084 => ?_) (fun k7084 => ?_)
  · refine lskip rfl rfl ?_
    refine lskip rfl rfl ?_
    refine lskip rfl rfl ?_
    refine lskip rfl rfl ?_
    refine lskip rfl rfl ?_
    refine lskip rfl rfl ?_
    refine lpure (v := .bool true) rfl (p_pick rfl) rfl rfl ?_
    refine Sim.of_eq (congrArg j7082 (show ((decide (p7056 < 0)) || (decide ((w64 (2 * (p7053.Links.length : Int))) ≤ p7056))) = true from by rw [k7084] <;> rfl)) ?_
    exact ljmpM J7083 true () (sub_cons rfl (sub_cons rfl (sub_cons rfl (sub_cons rfl (sub_cons rfl sub_nil))))) X7064
  refine lpure (v := .int .i64 p7056) rfl (p_move rfl) rfl rfl ?_
  refine lpure (v := .pointer (some ⟨b7061, 2, none⟩)) rfl (p_fa fo_25_2 rfl) rfl rfl ?_
  refine lread (v := .slice a7055 n7055 c7055) rfl (q_load wd_23 rfl) (St.ld X7064 (j := 0) rfl rfl) rfl ?_
  refine lpure (v := .int .i64 (p7053.Links.length : Int)) rfl (p_len rfl rfl rfl un_23 rfl) (RSl.lenC H7055) rfl ?_
  refine lpure (v := .int .i64 (w64 (2 * (p7053.Links.length : Int)))) rfl (p_mul rfl) rfl rfl ?_
  refine lpure (v := .bool (decide ((w64 (2 * (p7053.Links.length : Int))) ≤ p7056))) rfl (p_ge rfl) rfl rfl ?_
  refine lpure (v := .bool (decide ((w64 (2 * (p7053.Links.length : Int))) ≤ p7056))) rfl (p_pick rfl) rfl rfl ?_
  refine Sim.of_eq (congrArg j7082 (show ((decide (p7056 < 0)) || (decide ((w64 (2 * (p7053.Links.length : Int))) ≤ p7056))) = (decide ((w64 (2 * (p7053.Links.length : Int))) ≤ p7056)) from by rw [k7084] <;> rfl)) ?_
  exact ljmpM J7083 (decide ((w64 (2 * (p7053.Links.length : Int))) ≤ p7056)) () (sub_cons rfl (sub_cons rfl (sub_cons rfl (sub_cons rfl (sub_cons rfl sub_nil))))) X7064
/-! (isochron/route.walk).valid -/
theorem f40_ok {n : Nat} {φ : Fz} {lo : Nat} {h : Heap} {own : OwnL}  {a6856 : Option Addr} {n6856 c6856 : Nat} {a6857 : Option Addr} {n6857 c6857 : Nat} {a6859 : Option Addr} {n6859 c6859 : Nat} (X : St φ lo h (own)) (p6855 : RouteWalk) (p6858 : (List Int)) (H6856 : RSl eBool φ (.slice a6856 n6856 c6856) p6855.Topo.Station) (H6857 : RSl eApiLink φ (.slice a6857 n6857 c6857) p6855.Topo.Links) (H6859 : RSl (eInt .i64) φ (.slice a6859 n6859 c6859) p6858) : Sim ((recN Tryz.prog LL cutF (n + 12)).call 40 #[(.agg #[.int .i64 p6855.Topo.Nodes, .slice a6856 n6856 c6856, .slice a6857 n6857 c6857]), (.slice a6859 n6859 c6859)] h) (m_route_walk_valid p6855 p6858) (fun (d : Bool) p => p = (.bool d, h)) := by
  refine fcut Tryz.func40 rfl rfl rfl rfl X ?_
  intro h0 X0
  refine dseq (dreg ?_)
  refine lbox rfl rfl rfl rfl rfl X0 (fun b6860 h6862 X6863 => ?_)
  refine lbox rfl rfl rfl rfl rfl X6863 (fun b6864 h6866 X6867 => ?_)
  refine lpure (v := .bool false) rfl (p_assign rfl) rfl rfl ?_
  refine lend (nseq (dscope (dseq (dseq (dreg ?_)))))
  refine lread (v := .slice a6859 n6859 c6859) rfl (q_load wd_27 rfl) (St.ld X6867 (j := 0) rfl rfl) rfl ?_
  refine lpure (v := .int .i64 (p6858.length : Int)) rfl (p_len rfl rfl rfl un_27 rfl) (RSl.lenC H6859) rfl ?_
  refine lpure (v := .bool (decide ((p6858.length : Int) < 1))) rfl (p_lt rfl) rfl rfl ?_
  refine lpure (v := .bool (decide ((p6858.length : Int) < 1))) rfl (p_move rfl) rfl rfl ?_
  refine lsh (τ := Bool) (σ := Unit) (fun s6869 (_ : Unit) => [(2, .pointer (some ⟨b6860, 0, none⟩)), (3, .pointer (some ⟨b6864, 0, none⟩)), (15, .bool s6869)]) (fun s6869 (_ : Unit) hh => St φ h.n hh ([(some b6864, .cells [.slice a6859 n6859 c6859] 27 .exact), (some b6860, .cells [.int .i64 p6855.Topo.Nodes, .slice a6856 n6856 c6856, .slice a6857 n6857 c6857] 60 .exact)])) 4 ?_ ?_
  · rintro s6869 _ t0 h6871 X6870
    refine lpure (v := .bool s6869) rfl (p_move rfl) rfl rfl ?_
    refine ljoinM (τ := Bool) (σ := Unit) (fun s6936 (_ : Unit) => [(2, .pointer (some ⟨b6860, 0, none⟩)), (3, .pointer (some ⟨b6864, 0, none⟩)), (20, .bool s6936)]) (fun s6936 (_ : Unit) hh => St φ h.n hh ([(some b6864, .cells [.slice a6859 n6859 c6859] 27 .exact), (some b6860, .cells [.int .i64 p6855.Topo.Nodes, .slice a6856 n6856 c6856, .slice a6857 n6857 c6857] 60 .exact)])) 4 ?_ ?_
    · rintro s6936 _ t0 h6938 X6937
      refine lend (nseq ?_)
      refine dcond rfl rfl (fun k6939 => ?_) (fun k6939 => ?_)
      · refine dseq (dreg ?_)
        refine lpure (v := .bool false) rfl (p_assign rfl) rfl rfl ?_
        refine lend (nseq (dret (rseq (rscope ?_))))
        exact kcut_r (res_1 resT) X6937 rfl rfl
      refine dskip (nseq (dseq (dreg ?_)))
      refine lalloc rfl tz_26 rfl rfl rfl X6937 (fun b6940 h6942 X6943 => ?_)
      refine lend (nseq (dseq (dlabel (nseq (dseq (dseq (dreg ?_)))))))
      refine lread (v := .agg #[.int .i64 p6855.Topo.Nodes, .slice a6856 n6856 c6856, .slice a6857 n6857 c6857]) rfl (q_load wd_60 rfl) (St.ld X6943 (j := 2) rfl rfl) rfl ?_
      refine lread (v := .slice a6859 n6859 c6859) rfl (q_load wd_27 rfl) (St.ld X6943 (j := 1) rfl rfl) rfl ?_
      refine linl rfl rfl rfl rfl ca_59 rfl Tryz.func59 rfl rfl rfl rfl rfl ?_
      refine dseq (dreg ?_)
      refine lbox rfl rfl rfl rfl rfl X6943 (fun b6944 h6946 X6947 => ?_)
      refine lbox rfl rfl rfl rfl rfl X6947 (fun b6948 h6950 X6951 => ?_)
      refine lpure (v := .nilFunc) rfl (p_assign rfl) rfl rfl ?_
      refine lend (nseq (dseq (dreg ?_)))
      refine lpure (v := .func (.func 82) #[] #[.pointer (some ⟨b6944, 0, none⟩), .pointer (some ⟨b6948, 0, none⟩)]) rfl (p_makeFunc rfl) rfl rfl ?_
      refine lpure (v := .func (.func 82) #[] #[.pointer (some ⟨b6944, 0, none⟩), .pointer (some ⟨b6948, 0, none⟩)]) rfl (p_assign rfl) rfl rfl ?_
      refine lend (nseq (dret ?_))
      refine kin_r (res_1 resT) ?_
      refine lend (nseq (dblock ?_))
      refine drange rfl rfl ca_82 Tryz.func82 rfl rfl X6951 (fun _ => rfl) ?_
      intro l6952 q6953 df6954 h6956 Q6955 X6957
      refine dseq (dreg ?_)
      refine lread (v := .agg #[.int .i64 p6855.Topo.Nodes, .slice a6856 n6856 c6856, .slice a6857 n6857 c6857]) rfl (q_load wd_60 rfl) (St.ld X6957 (j := 3) rfl rfl) rfl ?_
      refine lpure (v := .func (.func 55) #[.agg #[.int .i64 p6855.Topo.Nodes, .slice a6856 n6856 c6856, .slice a6857 n6857 c6857]] #[]) rfl (p_makeFunc rfl) rfl rfl ?_
      refine lpure (v := .func (.func 55) #[.agg #[.int .i64 p6855.Topo.Nodes, .slice a6856 n6856 c6856, .slice a6857 n6857 c6857]] #[]) rfl (p_assign rfl) rfl rfl ?_
      refine lend (nseq (dseq (dseq ?_)))
      refine dgo_start (n := 8) rfl (by kernel_rfl) ?_
      refine gpure (v := .func (.yield l6952) #[] #[]) rfl (p_move rfl) (lo_t (and_tt (lo_own X6957 (j := 0) (o := 0) (s := none) (f := 0) rfl) rfl) rfl) rfl rfl ?_
      refine gload (v := .agg #[.int .i64 p6855.Topo.Nodes, .slice a6856 n6856 c6856, .slice a6857 n6857 c6857]) rfl (q_load wd_60 rfl) (St.ld X6957 (j := 3) rfl rfl) rfl ?_
      refine gload (v := .slice a6859 n6859 c6859) rfl (q_load wd_27 rfl) (St.ld X6957 (j := 2) rfl rfl) rfl ?_
      refine Sim.bindM fun e7004 he7005 => ?_
      obtain ⟨p7006, cs7006, hp7006, hF7006, hR7006⟩ := RSl.ia H6859 he7005 (kd := .i64) (n := 1) rfl
      have hR7006 : _ = [(.int .i64 e7004 : Value)] := hR7006
      subst hR7006
      refine gpure (v := p7006) rfl (p_ia rs_27 rfl) (lo_t (lo_sl X6957 H6859) (lo_c rfl)) hp7006 rfl ?_
      refine gload (v := .int .i64 e7004) rfl (q_load wd_3 rfl) (FP.ld X6957 hF7006) rfl ?_
      refine gwait rfl (still_call rfl rfl ca_56 rfl) rfl ?_
      refine dgo_skip ?_
      refine dgo_skip ?_
      refine gcall (m := 7) [false, false, false] (rk_cons (q_load wd_3 rfl) (FP.ld X6957 hF7006) (same_self 20 rfl) (rk_cons (q_load wd_27 rfl) (St.ld X6957 (j := 2) rfl rfl) (same_self 20 rfl) (rk_cons (q_load wd_60 rfl) (St.ld X6957 (j := 3) rfl rfl) (same_self 20 rfl) rk_nil))) rfl rfl rfl rfl rfl ca_56 rfl rfl (f56_ok X6957 p6855 e7004 H6856 H6857) rfl (fun e7007 v7008 h7009 hq7010 => ?_)
      cases hq7010
      refine dgo_skip ?_
      refine dgo_skip ?_
      refine dgo_skip ?_
      refine dgo_skip ?_
      refine dgo_skip ?_
      refine dgo_skip ?_
      refine gwait rfl (still_act rfl).1 rfl ?_
      refine dgo_skip ?_
      refine ground (m := 6) [] rk_nil rfl rfl rfl rfl rfl rfl rfl rfl rfl X6957 (j := 0) rfl Q6955 rfl rfl rfl rfl rfl (fun t7011 => ?_)
      refine dreg ?_
      refine lpure (v := .int .i64 e7007) rfl (p_assign rfl) rfl rfl ?_
      refine lend ?_
      refine basg X6957 (j := 0) rfl (fun h7012 X7013 => ?_)
      refine dblock (dseq (dreg ?_))
      refine lread (v := .slice none 0 0) rfl (q_load wd_26 rfl) (St.ld X7013 (j := 4) rfl rfl) rfl ?_
      refine lpure (v := .int .i64 0) rfl (p_len rfl rfl rfl un_26 rfl) rfl rfl ?_
      refine lpure (v := .int .i64 0) rfl (p_assign rfl) rfl rfl ?_
      refine lend (nseq (dseq (dseq ?_)))
      refine ddraw 0 0 268435456 (by kernel_rfl) ?_
      refine sload (v := .slice none 0 0) rfl rfl (q_load wd_26 rfl) (St.ld X7013 (j := 4) rfl rfl) (same_self 20 rfl) rfl ?_
      refine spure (v := .int .i64 e7007) rfl (p_move rfl) (lo_t rfl rfl) rfl rfl ?_
      refine scall (en := fun d => (.bool d)) rfl rfl ca_54 rfl rfl (f54_ok X7013 ([]) e7007 (.inl ⟨rfl, rfl⟩)) rfl (fun e7014 => ?_)
      refine spure (v := .bool e7014) rfl (p_move rfl) (lo_t rfl rfl) rfl rfl ?_
      refine sjoinM (τ := Bool) (σ := Unit) (fun s7020 (_ : Unit) => [(2, .pointer (some ⟨b6860, 0, none⟩)), (3, .pointer (some ⟨b6864, 0, none⟩)), (5, .pointer (some ⟨b6940, 0, none⟩)), (6, .int .i64 e7007), (7, .int .i64 0), (48, .bool s7020)]) (fun s7020 (_ : Unit) hh => St φ h.n hh ([(some l6952, bsy q6953), (none, .dead), (some b6948, .cells [.slice a6859 n6859 c6859] 27 .exact), (some b6944, .cells [.int .i64 p6855.Topo.Nodes, .slice a6856 n6856 c6856, .slice a6857 n6857 c6857] 60 .exact), (some b6940, .cells [.slice none 0 0] 26 .exact), (some b6864, .cells [.slice a6859 n6859 c6859] 27 .exact), (some b6860, .cells [.int .i64 p6855.Topo.Nodes, .slice a6856 n6856 c6856, .slice a6857 n6857 c6857] 60 .exact)])) 18 22 ?_ ?_
      · rintro s7020 _ t0 h7022 X7021
        refine spure (v := .bool s7020) rfl (p_move rfl) (lo_t rfl rfl) rfl rfl ?_
        refine sjoinM (τ := Bool) (σ := Unit) (fun s7025 (_ : Unit) => [(5, .pointer (some ⟨b6940, 0, none⟩)), (6, .int .i64 e7007), (66, .bool s7025)]) (fun s7025 (_ : Unit) hh => St φ h.n hh ([(some l6952, bsy q6953), (none, .dead), (some b6948, .cells [.slice a6859 n6859 c6859] 27 .exact), (some b6944, .cells [.int .i64 p6855.Topo.Nodes, .slice a6856 n6856 c6856, .slice a6857 n6857 c6857] 60 .exact), (some b6940, .cells [.slice none 0 0] 26 .exact), (some b6864, .cells [.slice a6859 n6859 c6859] 27 .exact), (some b6860, .cells [.int .i64 p6855.Topo.Nodes, .slice a6856 n6856 c6856, .slice a6857 n6857 c6857] 60 .exact)])) 17 40 ?_ ?_
        · rintro s7025 _ t0 h7027 X7026
          refine send ?_
          refine nseq ?_
          refine dcond rfl rfl (fun k7028 => ?_) (fun k7028 => ?_)
          · refine dexit (eseq (eblock rfl ?_))
            refine ernd X7026 (j := 0) rfl (fun h7029 X7030 => ?_)
            refine dgo_skip ?_
            refine dgo_skip ?_
            refine dgo_skip ?_
            refine dgo_skip ?_
            refine dgo_skip ?_
            refine dgo_skip ?_
            refine dgo_skip ?_
            refine gpure (v := .bool true) rfl (p_not rfl) (lo_t rfl rfl) rfl rfl ?_
            refine gend rk_nil ?_
            refine nseq (dcondT rfl rfl (dret (rseq ?_)))
            refine kin_r res_0 ?_
            refine rend_d X7030 (j := 0) rfl (.inr ⟨_, rfl, rfl⟩) (fun h7031 X7032 => ?_)
            refine xblock (nseq (dseq (dreg ?_)))
            refine lread (v := .slice none 0 0) rfl (q_load wd_26 rfl) (St.ld X7032 (j := 4) rfl rfl) rfl ?_
            refine lpure (v := .int .i64 0) rfl (p_len rfl rfl rfl un_26 rfl) rfl rfl ?_
            refine lread (v := .slice a6859 n6859 c6859) rfl (q_load wd_27 rfl) (St.ld X7032 (j := 5) rfl rfl) rfl ?_
            refine lpure (v := .int .i64 (p6858.length : Int)) rfl (p_len rfl rfl rfl un_27 rfl) (RSl.lenC H6859) rfl ?_
            refine lpure (v := .int .i64 (w64 ((p6858.length : Int) + 1))) rfl (p_add rfl) rfl rfl ?_
            refine lpure (v := .bool (decide (0 = (w64 ((p6858.length : Int) + 1))))) rfl (p_eq rfl) rfl rfl ?_
            refine lpure (v := .bool (decide (0 = (w64 ((p6858.length : Int) + 1))))) rfl (p_assign rfl) rfl rfl ?_
            refine lend (nseq (dret (rscope ?_)))
            exact kcut_r (res_1 resT) X7032 rfl rfl
          refine dskip (nseq (dreg ?_))
          refine lread (v := .slice none 0 0) rfl (q_load wd_26 rfl) (St.ld X7026 (j := 4) rfl rfl) rfl ?_
          refine lpure (v := .int .i64 e7007) rfl (p_move rfl) rfl rfl ?_
          obtain ⟨h7033, b7033, hv7033, X7033, O7033⟩ := OSl.lay (E := (eInt .i64)) (φ := φ) (cs := [.int .i64 e7007]) (l := [e7007]) (len := 1) (parts := [(0, .int .i64 e7007)]) un_26 ts_3 rfl rfl rfl tz_3 rfl rfl (show RowD (eInt .i64) φ [.int .i64 e7007] [e7007] from ⟨[.int .i64 e7007], _, rfl, rfl, rfl⟩) rfl rfl X7026
          refine lheap rfl (h_buildSlice rfl) hv7033 rfl ?_
          have X7036 := St.pick X7033 (.none .dead (.refl _))
          obtain ⟨ws7037, hw7037⟩ := OSl.read O7033 X7036 (k := 1) rfl (n := 1) rfl
          refine Sim.mustM fun k7037 => ?_
          obtain ⟨h7037, a7037, c7037, ob7037, blk7037, hv7037, X7037, O7037⟩ := OSl.append (show OSl (eInt .i64) φ 3 none .dead (.slice none 0 0) [] from OSl.nil) X7036 (j := 0) rfl hw7037 k7037 (ts := #[26, 26]) rfl un_26 (argOk_of ax_26_26) ts_3 rfl rfl tb_3 rfl tz_3 rfl
          refine lheap rfl (h_builtin rfl rfl) hv7037 rfl ?_
          refine lstore rfl ts_26 rfl rfl (j := 6) rfl rfl rfl rfl rfl rfl X7037 (fun h7038 X7039 => ?_)
          refine lend (nblock ?_)
          refine nrnd X7039 (j := 2) rfl (fun h7040 X7041 => ?_)
          refine dgo_skip ?_
          refine dgo_skip ?_
          refine dgo_skip ?_
          refine dgo_skip ?_
          refine dgo_skip ?_
          refine dgo_skip ?_
          refine dgo_skip ?_
          refine gpure (v := .bool false) rfl (p_not rfl) (lo_t rfl rfl) rfl rfl ?_
          refine gend rk_nil ?_
          refine nseq (dcondF rfl rfl (dskip (nseq (dseq (dreg ?_)))))
          refine lread (v := .slice a6859 n6859 c6859) rfl (q_load wd_27 rfl) (St.ld X7041 (j := 4) rfl rfl) rfl ?_
          refine lpure (v := .int .i64 (p6858.length : Int)) rfl (p_len rfl rfl rfl un_27 rfl) (RSl.lenC H6859) rfl ?_
          refine lpure (v := .int .i64 0) rfl (p_move rfl) rfl rfl ?_
          refine lend (nseq (dblock ?_))
          refine dloopM (τ := Int × (List Int)) (σ := Option Addr × Nat × Nat × Option Nat × Blk) (fun s7253 (a7254, n7254, c7254, ob7254, blk7254) => [(0, .func (.yield l6952) #[] #[]), (4, .func (.func 55) #[.agg #[.int .i64 p6855.Topo.Nodes, .slice a6856 n6856 c6856, .slice a6857 n6857 c6857]] #[]), (17, .slice a6859 n6859 c6859), (18, .int .i64 (p6858.length : Int)), (19, .int .i64 s7253.1)]) (fun s7253 (a7254, n7254, c7254, ob7254, blk7254) hh => St φ h.n hh ([(ob7254, blk7254), (some b7033, (.cells [.int .i64 e7007] 3 .exact)), (some l6952, rdy q6953), (none, .dead), (some b6948, .cells [.slice a6859 n6859 c6859] 27 .exact), (some b6944, .cells [.int .i64 p6855.Topo.Nodes, .slice a6856 n6856 c6856, .slice a6857 n6857 c6857] 60 .exact), (some b6940, .cells [.slice a7254 n7254 c7254] 26 .exact), (some b6864, .cells [.slice a6859 n6859 c6859] 27 .exact), (some b6860, .cells [.int .i64 p6855.Topo.Nodes, .slice a6856 n6856 c6856, .slice a6857 n6857 c6857] 60 .exact)]) ∧ OSl (eInt .i64) φ 3 ob7254 blk7254 (.slice a7254 n7254 c7254) s7253.2) (0, (([] : List Int) ++ ([e7007]))) (a7037, (([] : List Int).length + ([e7007]).length), c7037, ob7037, blk7037) (sub_cons rfl (sub_cons rfl (sub_cons rfl (sub_cons rfl (sub_cons rfl sub_nil))))) ⟨(St.pick X7041 (.keep _ (.keep _ (.keep _ (.none _ (.skip _ (.keep _ (.keep _ (.keep _ (.keep _ (.keep _ (.nil _)))))))))))), O7037⟩ ?_
          rintro n7345 ih7344 s7253 ⟨a7254, n7254, c7254, ob7254, blk7254⟩ t0 h7347 ⟨X7346, O7254⟩
          refine dseq (dreg ?_)
          refine lpure (v := .bool (decide (s7253.1 < (p6858.length : Int)))) rfl (p_lt rfl) rfl rfl ?_
          refine lend (nseq (dseq ?_))
          refine dcond rfl rfl (fun k7348 => ?_) (fun k7348 => ?_)
          · refine dskip (nseq (dseq (dblock (dseq (dreg ?_)))))
            refine Sim.bindM fun e7349 he7350 => ?_
            obtain ⟨p7351, cs7351, hp7351, hF7351, hR7351⟩ := RSl.ia H6859 he7350 (kd := .i64) (n := 1) rfl
            have hR7351 : _ = [(.int .i64 e7349 : Value)] := hR7351
            subst hR7351
            refine lpure (v := p7351) rfl (p_ia rs_27 rfl) hp7351 rfl ?_
            refine lread (v := .int .i64 e7349) rfl (q_load wd_3 rfl) (FP.ld X7346 hF7351) rfl ?_
            refine lpure (v := .int .i64 e7349) rfl (p_assign rfl) rfl rfl ?_
            refine lend (nseq (dseq (dreg ?_)))
            refine lpure (v := .func (.yield l6952) #[] #[]) rfl (p_move rfl) rfl rfl ?_
            refine lpure (v := .func (.func 55) #[.agg #[.int .i64 p6855.Topo.Nodes, .slice a6856 n6856 c6856, .slice a6857 n6857 c6857]] #[]) rfl (p_move rfl) rfl rfl ?_
            refine lpure (v := .int .i64 e7349) rfl (p_move rfl) rfl rfl ?_
            refine linl rfl rfl rfl rfl ca_55 rfl Tryz.func55 rfl rfl rfl rfl rfl ?_
            refine dseq (dreg ?_)
            refine lbox rfl rfl rfl rfl rfl X7346 (fun b7352 h7354 X7355 => ?_)
            refine lpure (v := .int .i64 0) rfl (p_assign rfl) rfl rfl ?_
            refine lend (nseq (dseq (dreg ?_)))
            refine lpure (v := .pointer (some ⟨b7352, 0, none⟩)) rfl (p_fa fo_60_0 rfl) rfl rfl ?_
            refine lread (v := .agg #[.int .i64 p6855.Topo.Nodes, .slice a6856 n6856 c6856, .slice a6857 n6857 c6857]) rfl (q_load wd_25 rfl) (St.ld X7355 (j := 0) rfl rfl) rfl ?_
            refine lpure (v := .int .i64 e7349) rfl (p_move rfl) rfl rfl ?_
            refine lcall rfl rfl ca_79 rfl rfl (f79_ok X7355 (p6855.Topo) e7349 H6856 H6857) rfl (fun e7356 v7357 h7358 hq7359 => ?_)
            cases hq7359
            refine lpure (v := .tuple #[.int .i64 e7356.1, .int .i64 e7356.2]) rfl (p_move rfl) rfl rfl ?_
            refine lpure (v := .int .i64 e7356.1) rfl (p_extract rfl) rfl rfl ?_
            refine lpure (v := .int .i64 e7356.2) rfl (p_extract rfl) rfl rfl ?_
            refine lpure (v := .int .i64 e7356.1) rfl (p_assign rfl) rfl rfl ?_
            refine lpure (v := .int .i64 e7356.2) rfl (p_assign rfl) rfl rfl ?_
            refine lend (nseq (dseq (dreg ?_)))
            refine lpure (v := .int .i64 e7356.1) rfl (p_move rfl) rfl rfl ?_
            refine lpure (v := .int .i64 e7356.1) rfl (p_assign rfl) rfl rfl ?_
            refine lend (nseq (dret ?_))
            refine kin_r (res_1 resT) ?_
            refine lround rfl rfl rfl rfl rfl rfl X7355 (j := 3) rfl Q6955 rfl rfl rfl rfl rfl (fun t7360 => ?_)
            refine dreg ?_
            refine lpure (v := .int .i64 e7356.1) rfl (p_assign rfl) rfl rfl ?_
            refine lend ?_
            refine basg X7355 (j := 3) rfl (fun h7361 X7362 => ?_)
            refine dblock (dseq (dreg ?_))
            refine lread (v := .slice a7254 n7254 c7254) rfl (q_load wd_26 rfl) (St.ld X7362 (j := 7) rfl rfl) rfl ?_
            refine lpure (v := .int .i64 (s7253.2.length : Int)) rfl (p_len rfl rfl rfl un_26 rfl) (OSl.len O7254) rfl ?_
            refine lpure (v := .int .i64 (s7253.2.length : Int)) rfl (p_assign rfl) rfl rfl ?_
            refine lend (nseq (dseq (dseq ?_)))
            refine ddraw 0 0 268435456 (by kernel_rfl) ?_
            refine sload (v := .slice a7254 n7254 c7254) rfl rfl (q_load wd_26 rfl) (St.ld X7362 (j := 7) rfl rfl) (same_self 20 rfl) rfl ?_
            refine spure (v := .int .i64 e7356.1) rfl (p_move rfl) (lo_t rfl rfl) rfl rfl ?_
            obtain ⟨φ7363, g7364, X7365, H7366⟩ := OSl.freeze X7362 (j := 1) rfl O7254
            refine scall (en := fun d => (.bool d)) rfl rfl ca_54 rfl rfl (f54_ok X7365 (s7253.2) (e7356.1) H7366) rfl (fun e7367 => ?_)
            refine spure (v := .bool e7367) rfl (p_move rfl) (lo_t rfl rfl) rfl rfl ?_
            refine sjoinM (τ := Bool × (List Int)) (σ := Blk) (fun s7384 blk7385 => [(2, .pointer (some ⟨b6860, 0, none⟩)), (3, .pointer (some ⟨b6864, 0, none⟩)), (5, .pointer (some ⟨b6940, 0, none⟩)), (6, .int .i64 e7356.1), (7, .int .i64 (s7253.2.length : Int)), (48, .bool s7384.1)]) (fun s7384 blk7385 hh => St φ h.n hh ([(some b7352, .cells [.int .i64 p6855.Topo.Nodes, .slice a6856 n6856 c6856, .slice a6857 n6857 c6857] 60 .exact), (ob7254, blk7385), (some b7033, (.cells [.int .i64 e7007] 3 .exact)), (some l6952, bsy q6953), (none, .dead), (some b6948, .cells [.slice a6859 n6859 c6859] 27 .exact), (some b6944, .cells [.int .i64 p6855.Topo.Nodes, .slice a6856 n6856 c6856, .slice a6857 n6857 c6857] 60 .exact), (some b6940, .cells [.slice a7254 n7254 c7254] 26 .exact), (some b6864, .cells [.slice a6859 n6859 c6859] 27 .exact), (some b6860, .cells [.int .i64 p6855.Topo.Nodes, .slice a6856 n6856 c6856, .slice a6857 n6857 c6857] 60 .exact)]) ∧ OSl (eInt .i64) φ 3 ob7254 blk7385 (.slice a7254 n7254 c7254) s7384.2) 18 22 ?_ ?_
            · rintro s7384 blk7385 t0 h7387 ⟨X7386, O7385⟩
              refine spure (v := .bool s7384.1) rfl (p_move rfl) (lo_t rfl rfl) rfl rfl ?_
              refine sjoinM (τ := Bool) (σ := Unit) (fun s7395 (_ : Unit) => [(5, .pointer (some ⟨b6940, 0, none⟩)), (6, .int .i64 e7356.1), (66, .bool s7395)]) (fun s7395 (_ : Unit) hh => St φ h.n hh ([(some b7352, .cells [.int .i64 p6855.Topo.Nodes, .slice a6856 n6856 c6856, .slice a6857 n6857 c6857] 60 .exact), (ob7254, blk7385), (some b7033, (.cells [.int .i64 e7007] 3 .exact)), (some l6952, bsy q6953), (none, .dead), (some b6948, .cells [.slice a6859 n6859 c6859] 27 .exact), (some b6944, .cells [.int .i64 p6855.Topo.Nodes, .slice a6856 n6856 c6856, .slice a6857 n6857 c6857] 60 .exact), (some b6940, .cells [.slice a7254 n7254 c7254] 26 .exact), (some b6864, .cells [.slice a6859 n6859 c6859] 27 .exact), (some b6860, .cells [.int .i64 p6855.Topo.Nodes, .slice a6856 n6856 c6856, .slice a6857 n6857 c6857] 60 .exact)])) 17 40 ?_ ?_
              · rintro s7395 _ t0 h7397 X7396
                refine send ?_
                refine nseq ?_
                refine dcond rfl rfl (fun k7398 => ?_) (fun k7398 => ?_)
                · refine dexit (eseq (eblock rfl ?_))
                  refine ernd X7396 (j := 3) rfl (fun h7399 X7400 => ?_)
                  refine lpure (v := .bool true) rfl (p_not rfl) rfl rfl ?_
                  refine lend (nseq (dcondT rfl rfl (dret (rblock (rseq (rloop (rblock ?_)))))))
                  refine kin_r res_0 ?_
                  refine rend_d X7400 (j := 3) rfl (.inr ⟨_, rfl, rfl⟩) (fun h7401 X7402 => ?_)
                  refine xblock (nseq (dseq (dreg ?_)))
                  refine lread (v := .slice a7254 n7254 c7254) rfl (q_load wd_26 rfl) (St.ld X7402 (j := 7) rfl rfl) rfl ?_
                  refine lpure (v := .int .i64 (s7384.2.length : Int)) rfl (p_len rfl rfl rfl un_26 rfl) (OSl.len O7385) rfl ?_
                  refine lread (v := .slice a6859 n6859 c6859) rfl (q_load wd_27 rfl) (St.ld X7402 (j := 8) rfl rfl) rfl ?_
                  refine lpure (v := .int .i64 (p6858.length : Int)) rfl (p_len rfl rfl rfl un_27 rfl) (RSl.lenC H6859) rfl ?_
                  refine lpure (v := .int .i64 (w64 ((p6858.length : Int) + 1))) rfl (p_add rfl) rfl rfl ?_
                  refine lpure (v := .bool (decide ((s7384.2.length : Int) = (w64 ((p6858.length : Int) + 1))))) rfl (p_eq rfl) rfl rfl ?_
                  refine lpure (v := .bool (decide ((s7384.2.length : Int) = (w64 ((p6858.length : Int) + 1))))) rfl (p_assign rfl) rfl rfl ?_
                  refine lend (nseq (dret (rscope ?_)))
                  exact kcut_r (res_1 resT) X7402 rfl rfl
                refine dskip (nseq (dreg ?_))
                refine lread (v := .slice a7254 n7254 c7254) rfl (q_load wd_26 rfl) (St.ld X7396 (j := 7) rfl rfl) rfl ?_
                refine lpure (v := .int .i64 e7356.1) rfl (p_move rfl) rfl rfl ?_
                obtain ⟨h7403, b7403, hv7403, X7403, O7403⟩ := OSl.lay (E := (eInt .i64)) (φ := φ) (cs := [.int .i64 e7356.1]) (l := [e7356.1]) (len := 1) (parts := [(0, .int .i64 e7356.1)]) un_26 ts_3 rfl rfl rfl tz_3 rfl rfl (show RowD (eInt .i64) φ [.int .i64 e7356.1] [e7356.1] from ⟨[.int .i64 e7356.1], _, rfl, rfl, rfl⟩) rfl rfl X7396
                refine lheap rfl (h_buildSlice rfl) hv7403 rfl ?_
                obtain ⟨ws7405, hw7405⟩ := OSl.read O7403 X7403 (k := 0) rfl (n := 1) rfl
                refine Sim.mustM fun k7405 => ?_
                obtain ⟨h7405, a7405, c7405, ob7405, blk7405, hv7405, X7405, O7405⟩ := OSl.append O7385 X7403 (j := 2) rfl hw7405 k7405 (ts := #[26, 26]) rfl un_26 (argOk_of ax_26_26) ts_3 rfl rfl tb_3 rfl tz_3 rfl
                refine lheap rfl (h_builtin rfl rfl) hv7405 rfl ?_
                refine lstore rfl ts_26 rfl rfl (j := 8) rfl rfl rfl rfl rfl rfl X7405 (fun h7406 X7407 => ?_)
                refine lend (nblock ?_)
                refine nrnd X7407 (j := 4) rfl (fun h7408 X7409 => ?_)
                refine lpure (v := .bool false) rfl (p_not rfl) rfl rfl ?_
                refine lend (nseq (dcondF rfl rfl (dskip (nblock (nseq (dreg ?_))))))
                refine lpure (v := .int .i64 (w64 (s7253.1 + 1))) rfl (p_add rfl) rfl rfl ?_
                refine lpure (v := .int .i64 (w64 (s7253.1 + 1))) rfl (p_move rfl) rfl rfl ?_
                refine lend ?_
                exact kbackM ih7344 ((w64 (s7253.1 + 1)), (s7384.2 ++ ([e7356.1]))) (a7405, (s7384.2.length + ([e7356.1]).length), c7405, ob7405, blk7405) (sub_cons rfl (sub_cons rfl (sub_cons rfl (sub_cons rfl (sub_cons rfl sub_nil))))) ⟨(St.pick X7409 (.skip _ (.skip _ (.keep _ (.keep _ (.keep _ (.none _ (.skip _ (.keep _ (.keep _ (.keep _ (.keep _ (.keep _ (.nil _)))))))))))))), O7405⟩
              intro j7410 J7411
              refine sif (j := 49) (show _ = Value.bool s7384.1 from rfl) (fun k7412 => ?_) (fun k7412 => ?_)
              · refine sskip rfl rfl ?_
                refine sskip rfl rfl ?_
                refine sskip rfl rfl ?_
                refine sskip rfl rfl ?_
                refine sskip rfl rfl ?_
                refine sskip rfl rfl ?_
                refine sskip rfl rfl ?_
                refine sskip rfl rfl ?_
                refine sskip rfl rfl ?_
                refine sskip rfl rfl ?_
                refine sskip rfl rfl ?_
                refine sskip rfl rfl ?_
                refine sskip rfl rfl ?_
                refine sskip rfl rfl ?_
                refine sskip rfl rfl ?_
                refine sskip rfl rfl ?_
                refine spure (v := .bool true) rfl (p_pick rfl) (lo_t rfl (lo_c (lo_t rfl rfl))) rfl rfl ?_
                exact sjmpM J7411 true () (sub_cons rfl (sub_cons rfl (sub_cons rfl sub_nil))) (St.pick X7386 (.keep _ (.keep _ (.keep _ (.keep _ (.none _ (.skip _ (.keep _ (.keep _ (.keep _ (.keep _ (.keep _ (.nil _)))))))))))))
              refine spure (v := .int .i64 (s7253.2.length : Int)) rfl (p_move rfl) (lo_t rfl rfl) rfl rfl ?_
              refine spure (v := .bool (decide (0 < (s7253.2.length : Int)))) rfl (p_gt rfl) (lo_t rfl (lo_c rfl)) rfl rfl ?_
              refine spure (v := .bool (decide (0 < (s7253.2.length : Int)))) rfl (p_move rfl) (lo_t rfl rfl) rfl rfl ?_
              refine sif (j := 52) (show _ = Value.bool (decide (0 < (s7253.2.length : Int))) from rfl) (fun k7413 => ?_) (fun k7413 => ?_)
              · refine spure (v := .int .i64 (s7253.2.length : Int)) rfl (p_move rfl) (lo_t rfl rfl) rfl rfl ?_
                refine sload (v := .slice a6859 n6859 c6859) rfl rfl (q_load wd_27 rfl) (St.ld X7386 (j := 8) rfl rfl) (same_self 20 rfl) rfl ?_
                refine spure (v := .int .i64 (p6858.length : Int)) rfl (p_len rfl rfl rfl un_27 rfl) (lo_t (lo_sl X7386 H6859) rfl) (RSl.lenC H6859) rfl ?_
                refine spure (v := .bool (decide ((s7253.2.length : Int) < (p6858.length : Int)))) rfl (p_lt rfl) (lo_t rfl (lo_t rfl rfl)) rfl rfl ?_
                refine spure (v := .bool (decide ((s7253.2.length : Int) < (p6858.length : Int)))) rfl (p_pick rfl) (lo_t rfl (lo_t rfl (lo_c rfl))) rfl rfl ?_
                refine spure (v := .bool (decide ((s7253.2.length : Int) < (p6858.length : Int)))) rfl (p_move rfl) (lo_t rfl rfl) rfl rfl ?_
                refine sif (j := 58) (show _ = Value.bool (decide ((s7253.2.length : Int) < (p6858.length : Int))) from rfl) (fun k7414 => ?_) (fun k7414 => ?_)
                · refine spure (v := .pointer (some ⟨b6860, 0, none⟩)) rfl (p_fa fo_60_0 rfl) (lo_t (lo_own X7386 (j := 9) (o := 0) (s := none) (f := 0) rfl) rfl) rfl rfl ?_
                  refine spure (v := .pointer (some ⟨b6860, 1, none⟩)) rfl (p_fa fo_25_1 rfl) (lo_t (lo_own X7386 (j := 9) (o := 0) (s := none) (f := 0) rfl) rfl) rfl rfl ?_
                  refine sload (v := .slice a6856 n6856 c6856) rfl rfl (q_load wd_22 rfl) (St.ld X7386 (j := 9) rfl rfl) (same_self 20 rfl) rfl ?_
                  refine spure (v := .int .i64 e7356.1) rfl (p_move rfl) (lo_t rfl rfl) rfl rfl ?_
                  refine Sim.bindM fun e7415 he7416 => ?_
                  obtain ⟨p7417, cs7417, hp7417, hF7417, hR7417⟩ := RSl.ia H6856 he7416 (kd := .i64) (n := 1) rfl
                  have hR7417 : _ = [(.bool e7415 : Value)] := hR7417
                  subst hR7417
                  refine spure (v := p7417) rfl (p_ia rs_22 rfl) (lo_t (lo_sl X7386 H6856) (lo_t rfl rfl)) hp7417 rfl ?_
                  refine sload (v := .bool e7415) rfl rfl (q_load wd_4 rfl) (FP.ld X7386 hF7417) (same_self 20 rfl) rfl ?_
                  refine spure (v := .bool e7415) rfl (p_pick rfl) (lo_t rfl (lo_t rfl (lo_c rfl))) rfl rfl ?_
                  refine spure (v := .bool e7415) rfl (p_pick rfl) (lo_t rfl (lo_c (lo_t rfl rfl))) rfl rfl ?_
                  exact sjmpM J7411 e7415 () (sub_cons rfl (sub_cons rfl (sub_cons rfl sub_nil))) (St.pick X7386 (.keep _ (.keep _ (.keep _ (.keep _ (.none _ (.skip _ (.keep _ (.keep _ (.keep _ (.keep _ (.keep _ (.nil _)))))))))))))
                refine sskip rfl rfl ?_
                refine sskip rfl rfl ?_
                refine sskip rfl rfl ?_
                refine sskip rfl rfl ?_
                refine sskip rfl rfl ?_
                refine sskip rfl rfl ?_
                refine spure (v := .bool false) rfl (p_pick rfl) (lo_t rfl (lo_t rfl (lo_c rfl))) rfl rfl ?_
                refine spure (v := .bool false) rfl (p_pick rfl) (lo_t rfl (lo_c (lo_t rfl rfl))) rfl rfl ?_
                exact sjmpM J7411 false () (sub_cons rfl (sub_cons rfl (sub_cons rfl sub_nil))) (St.pick X7386 (.keep _ (.keep _ (.keep _ (.keep _ (.none _ (.skip _ (.keep _ (.keep _ (.keep _ (.keep _ (.keep _ (.nil _)))))))))))))
              refine sskip rfl rfl ?_
              refine sskip rfl rfl ?_
              refine sskip rfl rfl ?_
              refine sskip rfl rfl ?_
              refine spure (v := .bool false) rfl (p_pick rfl) (lo_t rfl (lo_t rfl (lo_c rfl))) rfl rfl ?_
              refine spure (v := .bool false) rfl (p_move rfl) (lo_t rfl rfl) rfl rfl ?_
              refine sskip rfl rfl ?_
              refine sskip rfl rfl ?_
              refine sskip rfl rfl ?_
              refine sskip rfl rfl ?_
              refine sskip rfl rfl ?_
              refine sskip rfl rfl ?_
              refine spure (v := .bool false) rfl (p_pick rfl) (lo_t rfl (lo_t rfl (lo_c rfl))) rfl rfl ?_
              refine spure (v := .bool false) rfl (p_pick rfl) (lo_t rfl (lo_c (lo_t rfl rfl))) rfl rfl ?_
              exact sjmpM J7411 false () (sub_cons rfl (sub_cons rfl (sub_cons rfl sub_nil))) (St.pick X7386 (.keep _ (.keep _ (.keep _ (.keep _ (.none _ (.skip _ (.keep _ (.keep _ (.keep _ (.keep _ (.keep _ (.nil _)))))))))))))
            intro j7418 J7419
            refine sif (j := 30) (show _ = Value.bool e7367 from rfl) (fun k7420 => ?_) (fun k7420 => ?_)
            · refine sskip rfl rfl ?_
              refine sskip rfl rfl ?_
              refine sskip rfl rfl ?_
              refine sskip rfl rfl ?_
              refine sskip rfl rfl ?_
              refine sskip rfl rfl ?_
              refine sskip rfl rfl ?_
              refine sskip rfl rfl ?_
              refine sskip rfl rfl ?_
              refine sskip rfl rfl ?_
              refine sskip rfl rfl ?_
              refine sskip rfl rfl ?_
              refine sskip rfl rfl ?_
              refine sskip rfl rfl ?_
              refine sskip rfl rfl ?_
              refine sskip rfl rfl ?_
              refine sskip rfl rfl ?_
              refine spure (v := .bool true) rfl (p_pick rfl) (lo_t rfl (lo_c (lo_t rfl rfl))) rfl rfl ?_
              exact sjmpM J7419 (true, s7253.2) blk7254 (sub_cons rfl (sub_cons rfl (sub_cons rfl (sub_cons rfl (sub_cons rfl (sub_cons rfl sub_nil)))))) ⟨(St.pick X7362 (.keep _ (.keep _ (.keep _ (.keep _ (.none _ (.skip _ (.keep _ (.keep _ (.keep _ (.keep _ (.keep _ (.nil _))))))))))))), O7254⟩
            refine spure (v := .int .i64 (s7253.2.length : Int)) rfl (p_move rfl) (lo_t rfl rfl) rfl rfl ?_
            refine spure (v := .bool (decide (0 < (s7253.2.length : Int)))) rfl (p_gt rfl) (lo_t rfl (lo_c rfl)) rfl rfl ?_
            refine spure (v := .bool (decide (0 < (s7253.2.length : Int)))) rfl (p_move rfl) (lo_t rfl rfl) rfl rfl ?_
            refine sif (j := 33) (show _ = Value.bool (decide (0 < (s7253.2.length : Int))) from rfl) (fun k7421 => ?_) (fun k7421 => ?_)
            · refine sload (v := .agg #[.int .i64 p6855.Topo.Nodes, .slice a6856 n6856 c6856, .slice a6857 n6857 c6857]) rfl rfl (q_load wd_60 rfl) (St.ld X7362 (j := 9) rfl rfl) (same_self 20 rfl) rfl ?_
              refine sload (v := .slice a6859 n6859 c6859) rfl rfl (q_load wd_27 rfl) (St.ld X7362 (j := 8) rfl rfl) (same_self 20 rfl) rfl ?_
              refine spure (v := .int .i64 (s7253.2.length : Int)) rfl (p_move rfl) (lo_t rfl rfl) rfl rfl ?_
              refine spure (v := .int .i64 (w64 ((s7253.2.length : Int) - 1))) rfl (p_sub rfl) (lo_t rfl (lo_c rfl)) rfl rfl ?_
              refine Sim.bindM fun e7422 he7423 => ?_
              obtain ⟨p7424, cs7424, hp7424, hF7424, hR7424⟩ := RSl.ia H6859 he7423 (kd := .i64) (n := 1) rfl
              have hR7424 : _ = [(.int .i64 e7422 : Value)] := hR7424
              subst hR7424
              refine spure (v := p7424) rfl (p_ia rs_27 rfl) (lo_t (lo_sl X7362 H6859) (lo_t rfl rfl)) hp7424 rfl ?_
              refine sload (v := .int .i64 e7422) rfl rfl (q_load wd_3 rfl) (FP.ld X7362 hF7424) (same_self 20 rfl) rfl ?_
              refine scall (en := fun d => (.int .i64 d)) rfl rfl ca_56 rfl rfl (f56_ok X7362 p6855 e7422 H6856 H6857) rfl (fun e7425 => ?_)
              refine sload (v := .slice a7254 n7254 c7254) rfl rfl (q_load wd_26 rfl) (St.ld X7362 (j := 7) rfl rfl) (same_self 20 rfl) rfl ?_
              refine spure (v := .int .i64 (s7253.2.length : Int)) rfl (p_move rfl) (lo_t rfl rfl) rfl rfl ?_
              refine spure (v := .int .i64 (w64 ((s7253.2.length : Int) - 1))) rfl (p_sub rfl) (lo_t rfl (lo_c rfl)) rfl rfl ?_
              refine Sim.bindM fun e7429 he7430 => ?_
              obtain ⟨b7431, vs7431, m7431, off7431, cs7431, rfl, rfl, hp7431, hc7431, hR7431, hl7431, hm7431, hs7431⟩ := OSl.ia O7254 he7430 (kd := .i64) (n := 1) rfl
              have hR7431 : _ = [(.int .i64 e7429 : Value)] := hR7431
              subst hR7431
              refine spure (v := .pointer (some ⟨b7431, off7431, none⟩)) rfl (p_ia rs_26 rfl) (lo_t (lo_osl X7362 (j := 1) rfl O7254) (lo_t rfl rfl)) hp7431 rfl ?_
              refine sload (v := .int .i64 e7429) rfl rfl (q_load wd_3 rfl) (St.ld X7362 (j := 1) rfl (rdE1 hc7431 (k := 0) rfl rfl)) (same_self 20 rfl) rfl ?_
              refine spure (v := .bool (decide (e7425 ≠ e7429))) rfl (p_ne rfl) (lo_t rfl (lo_t rfl rfl)) rfl rfl ?_
              refine spure (v := .bool (decide (e7425 ≠ e7429))) rfl (p_pick rfl) (lo_t rfl (lo_t rfl (lo_c rfl))) rfl rfl ?_
              refine spure (v := .bool (decide (e7425 ≠ e7429))) rfl (p_pick rfl) (lo_t rfl (lo_c (lo_t rfl rfl))) rfl rfl ?_
              exact sjmpM J7419 ((decide (e7425 ≠ e7429)), s7253.2) (.cells vs7431 3 m7431) (sub_cons rfl (sub_cons rfl (sub_cons rfl (sub_cons rfl (sub_cons rfl (sub_cons rfl sub_nil)))))) ⟨(St.pick X7362 (.keep _ (.keep _ (.keep _ (.keep _ (.none _ (.skip _ (.keep _ (.keep _ (.keep _ (.keep _ (.keep _ (.nil _))))))))))))), O7254⟩
            refine sskip rfl rfl ?_
            refine sskip rfl rfl ?_
            refine sskip rfl rfl ?_
            refine sskip rfl rfl ?_
            refine sskip rfl rfl ?_
            refine sskip rfl rfl ?_
            refine sskip rfl rfl ?_
            refine sskip rfl rfl ?_
            refine sskip rfl rfl ?_
            refine sskip rfl rfl ?_
            refine sskip rfl rfl ?_
            refine sskip rfl rfl ?_
            refine sskip rfl rfl ?_
            refine spure (v := .bool false) rfl (p_pick rfl) (lo_t rfl (lo_t rfl (lo_c rfl))) rfl rfl ?_
            refine spure (v := .bool false) rfl (p_pick rfl) (lo_t rfl (lo_c (lo_t rfl rfl))) rfl rfl ?_
            exact sjmpM J7419 (false, s7253.2) blk7254 (sub_cons rfl (sub_cons rfl (sub_cons rfl (sub_cons rfl (sub_cons rfl (sub_cons rfl sub_nil)))))) ⟨(St.pick X7362 (.keep _ (.keep _ (.keep _ (.keep _ (.none _ (.skip _ (.keep _ (.keep _ (.keep _ (.keep _ (.keep _ (.nil _))))))))))))), O7254⟩
          refine dexit (eseq (eloop (xblock ?_)))
          refine kin_n res_0 ?_
          refine rend_n X7346 (j := 2) rfl (fun h7432 X7433 => ?_)
          refine nblock (nseq (dseq (dreg ?_)))
          refine lread (v := .slice a7254 n7254 c7254) rfl (q_load wd_26 rfl) (St.ld X7433 (j := 6) rfl rfl) rfl ?_
          refine lpure (v := .int .i64 (s7253.2.length : Int)) rfl (p_len rfl rfl rfl un_26 rfl) (OSl.len O7254) rfl ?_
          refine lread (v := .slice a6859 n6859 c6859) rfl (q_load wd_27 rfl) (St.ld X7433 (j := 7) rfl rfl) rfl ?_
          refine lpure (v := .int .i64 (p6858.length : Int)) rfl (p_len rfl rfl rfl un_27 rfl) (RSl.lenC H6859) rfl ?_
          refine lpure (v := .int .i64 (w64 ((p6858.length : Int) + 1))) rfl (p_add rfl) rfl rfl ?_
          refine lpure (v := .bool (decide ((s7253.2.length : Int) = (w64 ((p6858.length : Int) + 1))))) rfl (p_eq rfl) rfl rfl ?_
          refine lpure (v := .bool (decide ((s7253.2.length : Int) = (w64 ((p6858.length : Int) + 1))))) rfl (p_assign rfl) rfl rfl ?_
          refine lend (nseq (dret (rscope ?_)))
          exact kcut_r (res_1 resT) X7433 rfl rfl
        intro j7434 J7435
        refine sif (j := 49) (show _ = Value.bool s7020 from rfl) (fun k7436 => ?_) (fun k7436 => ?_)
        · refine sskip rfl rfl ?_
          refine sskip rfl rfl ?_
          refine sskip rfl rfl ?_
          refine sskip rfl rfl ?_
          refine sskip rfl rfl ?_
          refine sskip rfl rfl ?_
          refine sskip rfl rfl ?_
          refine sskip rfl rfl ?_
          refine sskip rfl rfl ?_
          refine sskip rfl rfl ?_
          refine sskip rfl rfl ?_
          refine sskip rfl rfl ?_
          refine sskip rfl rfl ?_
          refine sskip rfl rfl ?_
          refine sskip rfl rfl ?_
          refine sskip rfl rfl ?_
          refine spure (v := .bool true) rfl (p_pick rfl) (lo_t rfl (lo_c (lo_t rfl rfl))) rfl rfl ?_
          exact sjmpM J7435 true () (sub_cons rfl (sub_cons rfl (sub_cons rfl sub_nil))) (St.pick X7021 (.keep _ (.none _ (.skip _ (.keep _ (.keep _ (.keep _ (.keep _ (.keep _ (.nil _))))))))))
        refine spure (v := .int .i64 0) rfl (p_move rfl) (lo_t rfl rfl) rfl rfl ?_
        refine spure (v := .bool false) rfl (p_gt rfl) (lo_t rfl (lo_c rfl)) rfl rfl ?_
        refine spure (v := .bool false) rfl (p_move rfl) (lo_t rfl rfl) rfl rfl ?_
        refine sskip rfl rfl ?_
        refine sskip rfl rfl ?_
        refine sskip rfl rfl ?_
        refine sskip rfl rfl ?_
        refine spure (v := .bool false) rfl (p_pick rfl) (lo_t rfl (lo_t rfl (lo_c rfl))) rfl rfl ?_
        refine spure (v := .bool false) rfl (p_move rfl) (lo_t rfl rfl) rfl rfl ?_
        refine sskip rfl rfl ?_
        refine sskip rfl rfl ?_
        refine sskip rfl rfl ?_
        refine sskip rfl rfl ?_
        refine sskip rfl rfl ?_
        refine sskip rfl rfl ?_
        refine spure (v := .bool false) rfl (p_pick rfl) (lo_t rfl (lo_t rfl (lo_c rfl))) rfl rfl ?_
        refine spure (v := .bool false) rfl (p_pick rfl) (lo_t rfl (lo_c (lo_t rfl rfl))) rfl rfl ?_
        exact sjmpM J7435 false () (sub_cons rfl (sub_cons rfl (sub_cons rfl sub_nil))) (St.pick X7021 (.keep _ (.none _ (.skip _ (.keep _ (.keep _ (.keep _ (.keep _ (.keep _ (.nil _))))))))))
      intro j7437 J7438
      refine sif (j := 30) (show _ = Value.bool e7014 from rfl) (fun k7439 => ?_) (fun k7439 => ?_)
      · refine sskip rfl rfl ?_
        refine sskip rfl rfl ?_
        refine sskip rfl rfl ?_
        refine sskip rfl rfl ?_
        refine sskip rfl rfl ?_
        refine sskip rfl rfl ?_
        refine sskip rfl rfl ?_
        refine sskip rfl rfl ?_
        refine sskip rfl rfl ?_
        refine sskip rfl rfl ?_
        refine sskip rfl rfl ?_
        refine sskip rfl rfl ?_
        refine sskip rfl rfl ?_
        refine sskip rfl rfl ?_
        refine sskip rfl rfl ?_
        refine sskip rfl rfl ?_
        refine sskip rfl rfl ?_
        refine spure (v := .bool true) rfl (p_pick rfl) (lo_t rfl (lo_c (lo_t rfl rfl))) rfl rfl ?_
        exact sjmpM J7438 true () (sub_cons rfl (sub_cons rfl (sub_cons rfl (sub_cons rfl (sub_cons rfl (sub_cons rfl sub_nil)))))) (St.pick X7013 (.keep _ (.none _ (.skip _ (.keep _ (.keep _ (.keep _ (.keep _ (.keep _ (.nil _))))))))))
      refine spure (v := .int .i64 0) rfl (p_move rfl) (lo_t rfl rfl) rfl rfl ?_
      refine spure (v := .bool false) rfl (p_gt rfl) (lo_t rfl (lo_c rfl)) rfl rfl ?_
      refine spure (v := .bool false) rfl (p_move rfl) (lo_t rfl rfl) rfl rfl ?_
      refine sskip rfl rfl ?_
      refine sskip rfl rfl ?_
      refine sskip rfl rfl ?_
      refine sskip rfl rfl ?_
      refine sskip rfl rfl ?_
      refine sskip rfl rfl ?_
      refine sskip rfl rfl ?_
      refine sskip rfl rfl ?_
      refine sskip rfl rfl ?_
      refine sskip rfl rfl ?_
      refine sskip rfl rfl ?_
      refine sskip rfl rfl ?_
      refine sskip rfl rfl ?_
      refine spure (v := .bool false) rfl (p_pick rfl) (lo_t rfl (lo_t rfl (lo_c rfl))) rfl rfl ?_
      refine spure (v := .bool false) rfl (p_pick rfl) (lo_t rfl (lo_c (lo_t rfl rfl))) rfl rfl ?_
      exact sjmpM J7438 false () (sub_cons rfl (sub_cons rfl (sub_cons rfl (sub_cons rfl (sub_cons rfl (sub_cons rfl sub_nil)))))) (St.pick X7013 (.keep _ (.none _ (.skip _ (.keep _ (.keep _ (.keep _ (.keep _ (.keep _ (.nil _))))))))))
    intro j7440 J7441
    refine lif (i := 16) (show _ = Value.bool s6869 from rfl) (fun k7442 => ?_) (fun k7442 => ?_)
    · refine lskip rfl rfl ?_
      refine lskip rfl rfl ?_
      refine lskip rfl rfl ?_
      refine lpure (v := .bool true) rfl (p_pick rfl) rfl rfl ?_
      exact ljmpM J7441 true () (sub_cons rfl (sub_cons rfl (sub_cons rfl sub_nil))) X6870
    refine lread (v := .slice a6859 n6859 c6859) rfl (q_load wd_27 rfl) (St.ld X6870 (j := 0) rfl rfl) rfl ?_
    refine lpure (v := .func (.func 72) #[] #[.pointer (some ⟨b6860, 0, none⟩)]) rfl (p_makeFunc rfl) rfl rfl ?_
    refine linl rfl rfl rfl rfl ca_46 rfl Tryz.func46 rfl rfl rfl rfl rfl ?_
    refine dseq (dreg ?_)
    refine lpure (v := .bool false) rfl (p_assign rfl) rfl rfl ?_
    refine lend (nseq (dseq (dreg ?_)))
    refine lpure (v := .slice a6859 n6859 c6859) rfl (p_move rfl) rfl rfl ?_
    refine lpure (v := .func (.func 72) #[] #[.pointer (some ⟨b6860, 0, none⟩)]) rfl (p_move rfl) rfl rfl ?_
    refine linl rfl rfl rfl rfl ca_73 rfl Tryz.func73 rfl rfl rfl rfl rfl ?_
    refine dseq (dreg ?_)
    refine lpure (v := .int .i64 0) rfl (p_assign rfl) rfl rfl ?_
    refine lend (nseq (dseq (dseq (dreg ?_))))
    refine lpure (v := .slice a6859 n6859 c6859) rfl (p_move rfl) rfl rfl ?_
    refine lpure (v := .int .i64 (p6858.length : Int)) rfl (p_len rfl rfl rfl un_27 rfl) (RSl.lenC H6859) rfl ?_
    refine lpure (v := .int .i64 0) rfl (p_move rfl) rfl rfl ?_
    refine lend (nseq (dblock ?_))
    refine dloopM (τ := Int) (σ := Unit) (fun s7473 (_ : Unit) => [(0, .slice a6859 n6859 c6859), (1, .func (.func 72) #[] #[.pointer (some ⟨b6860, 0, none⟩)]), (7, .int .i64 (p6858.length : Int)), (8, .int .i64 s7473)]) (fun s7473 (_ : Unit) hh => St φ h.n hh ([(some b6864, .cells [.slice a6859 n6859 c6859] 27 .exact), (some b6860, .cells [.int .i64 p6855.Topo.Nodes, .slice a6856 n6856 c6856, .slice a6857 n6857 c6857] 60 .exact)])) 0 () (sub_cons rfl (sub_cons rfl (sub_cons rfl (sub_cons rfl sub_nil)))) X6870 ?_
    rintro n7490 ih7489 s7473 _ t0 h7492 X7491
    refine dseq (dreg ?_)
    refine lpure (v := .bool (decide (s7473 < (p6858.length : Int)))) rfl (p_lt rfl) rfl rfl ?_
    refine lend (nseq (dseq ?_))
    refine dcond rfl rfl (fun k7493 => ?_) (fun k7493 => ?_)
    · refine dskip (nseq (dseq (dblock (dseq (dreg ?_)))))
      refine lpure (v := .int .i64 s7473) rfl (p_move rfl) rfl rfl ?_
      refine lpure (v := .int .i64 s7473) rfl (p_assign rfl) rfl rfl ?_
      refine lend (nseq (dseq (dreg ?_)))
      refine lpure (v := .func (.func 72) #[] #[.pointer (some ⟨b6860, 0, none⟩)]) rfl (p_move rfl) rfl rfl ?_
      refine lpure (v := .slice a6859 n6859 c6859) rfl (p_move rfl) rfl rfl ?_
      refine lpure (v := .int .i64 s7473) rfl (p_move rfl) rfl rfl ?_
      refine Sim.bindM fun e7494 he7495 => ?_
      obtain ⟨p7496, cs7496, hp7496, hF7496, hR7496⟩ := RSl.ia H6859 he7495 (kd := .i64) (n := 1) rfl
      have hR7496 : _ = [(.int .i64 e7494 : Value)] := hR7496
      subst hR7496
      refine lpure (v := p7496) rfl (p_ia rs_27 rfl) hp7496 rfl ?_
      refine lread (v := .int .i64 e7494) rfl (q_load wd_3 rfl) (FP.ld X7491 hF7496) rfl ?_
      refine linl rfl rfl rfl rfl ca_72 rfl Tryz.func72 rfl rfl rfl rfl rfl ?_
      refine dseq (dreg ?_)
      refine lpure (v := .bool false) rfl (p_assign rfl) rfl rfl ?_
      refine lend (nseq (dseq (dreg ?_)))
      refine lpure (v := .int .i64 e7494) rfl (p_move rfl) rfl rfl ?_
      refine lpure (v := .bool (decide (e7494 < 0))) rfl (p_lt rfl) rfl rfl ?_
      refine lpure (v := .bool (decide (e7494 < 0))) rfl (p_move rfl) rfl rfl ?_
      refine lsh (τ := Bool) (σ := Unit) (fun s7498 (_ : Unit) => [(14, .bool s7498)]) (fun s7498 (_ : Unit) hh => St φ h.n hh ([(some b6864, .cells [.slice a6859 n6859 c6859] 27 .exact), (some b6860, .cells [.int .i64 p6855.Topo.Nodes, .slice a6856 n6856 c6856, .slice a6857 n6857 c6857] 60 .exact)])) 8 ?_ ?_
      · rintro s7498 _ t0 h7500 X7499
        refine lpure (v := .bool s7498) rfl (p_assign rfl) rfl rfl ?_
        refine lend (nseq (dret ?_))
        refine kin_r (res_1 resT) ?_
        refine lend (nseq ?_)
        refine dcond rfl rfl (fun k7501 => ?_) (fun k7501 => ?_)
        · refine dseq (dreg ?_)
          refine lpure (v := .int .i64 s7473) rfl (p_move rfl) rfl rfl ?_
          refine lpure (v := .int .i64 s7473) rfl (p_assign rfl) rfl rfl ?_
          refine lend (nseq (dret (rblock (rseq (rloop (rblock (rseq ?_)))))))
          refine kin_r (res_1 resT) ?_
          refine lpure (v := .bool (decide (0 ≤ s7473))) rfl (p_ge rfl) rfl rfl ?_
          refine lpure (v := .bool (decide (0 ≤ s7473))) rfl (p_assign rfl) rfl rfl ?_
          refine lend (nseq (dret ?_))
          refine kin_r (res_1 resT) ?_
          refine lpure (v := .bool (decide (0 ≤ s7473))) rfl (p_pick rfl) rfl rfl ?_
          exact ljmpM J7441 (decide (0 ≤ s7473)) () (sub_cons rfl (sub_cons rfl (sub_cons rfl sub_nil))) X7499
        refine dskip (nblock (nseq (dreg ?_)))
        refine lpure (v := .int .i64 (w64 (s7473 + 1))) rfl (p_add rfl) rfl rfl ?_
        refine lpure (v := .int .i64 (w64 (s7473 + 1))) rfl (p_move rfl) rfl rfl ?_
        refine lend ?_
        exact kbackM ih7489 (w64 (s7473 + 1)) () (sub_cons rfl (sub_cons rfl (sub_cons rfl (sub_cons rfl sub_nil)))) X7499
      intro j7502 J7503
      refine lcase (i := 6) (show _ = Value.bool (decide (e7494 < 0)) from rfl) (fun k7504 => ?_) (fun k7504 => ?_)
      · refine lskip rfl rfl ?_
        refine lskip rfl rfl ?_
        refine lskip rfl rfl ?_
        refine lskip rfl rfl ?_
        refine lskip rfl rfl ?_
        refine lskip rfl rfl ?_
        refine lskip rfl rfl ?_
        refine lpure (v := .bool true) rfl (p_pick rfl) rfl rfl ?_
        refine Sim.of_eq (congrArg j7502 (show ((decide (e7494 < 0)) || (decide ((w64 (2 * (p6855.Topo.Links.length : Int))) ≤ e7494))) = true from by rw [k7504] <;> rfl)) ?_
        exact ljmpM J7503 true () (sub_cons rfl sub_nil) X7491
      refine lpure (v := .int .i64 e7494) rfl (p_move rfl) rfl rfl ?_
      refine lpure (v := .pointer (some ⟨b6860, 0, none⟩)) rfl (p_fa fo_60_0 rfl) rfl rfl ?_
      refine lpure (v := .pointer (some ⟨b6860, 2, none⟩)) rfl (p_fa fo_25_2 rfl) rfl rfl ?_
      refine lread (v := .slice a6857 n6857 c6857) rfl (q_load wd_23 rfl) (St.ld X7491 (j := 1) rfl rfl) rfl ?_
      refine lpure (v := .int .i64 (p6855.Topo.Links.length : Int)) rfl (p_len rfl rfl rfl un_23 rfl) (RSl.lenC H6857) rfl ?_
      refine lpure (v := .int .i64 (w64 (2 * (p6855.Topo.Links.length : Int)))) rfl (p_mul rfl) rfl rfl ?_
      refine lpure (v := .bool (decide ((w64 (2 * (p6855.Topo.Links.length : Int))) ≤ e7494))) rfl (p_ge rfl) rfl rfl ?_
      refine lpure (v := .bool (decide ((w64 (2 * (p6855.Topo.Links.length : Int))) ≤ e7494))) rfl (p_pick rfl) rfl rfl ?_
      refine Sim.of_eq (congrArg j7502 (show ((decide (e7494 < 0)) || (decide ((w64 (2 * (p6855.Topo.Links.length : Int))) ≤ e7494))) = (decide ((w64 (2 * (p6855.Topo.Links.length : Int))) ≤ e7494)) from by rw [k7504] <;> rfl)) ?_
      exact ljmpM J7503 (decide ((w64 (2 * (p6855.Topo.Links.length : Int))) ≤ e7494)) () (sub_cons rfl sub_nil) X7491
    refine dexit (eseq (eloop (xblock (nseq (dseq (dreg ?_))))))
    refine lpure (v := .int .i64 (-1)) rfl (p_assign rfl) rfl rfl ?_
    refine lend (nseq (dret ?_))
    refine kin_r (res_1 resT) ?_
    refine lpure (v := .bool false) rfl (p_ge rfl) rfl rfl ?_
    refine lpure (v := .bool false) rfl (p_assign rfl) rfl rfl ?_
    refine lend (nseq (dret ?_))
    refine kin_r (res_1 resT) ?_
    refine lpure (v := .bool false) rfl (p_pick rfl) rfl rfl ?_
    exact ljmpM J7441 false () (sub_cons rfl (sub_cons rfl (sub_cons rfl sub_nil))) X7491
  intro j7505 J7506
  refine lcase (i := 11) (show _ = Value.bool (decide ((p6858.length : Int) < 1)) from rfl) (fun k7507 => ?_) (fun k7507 => ?_)
  · refine lskip rfl rfl ?_
    refine lskip rfl rfl ?_
    refine lskip rfl rfl ?_
    refine lpure (v := .bool true) rfl (p_pick rfl) rfl rfl ?_
    refine Sim.of_eq (congrArg j7505 (show ((decide ((p6858.length : Int) < 1)) || (decide (8 < (p6858.length : Int)))) = true from by rw [k7507] <;> rfl)) ?_
    exact ljmpM J7506 true () (sub_cons rfl (sub_cons rfl (sub_cons rfl sub_nil))) X6867
  refine lread (v := .slice a6859 n6859 c6859) rfl (q_load wd_27 rfl) (St.ld X6867 (j := 0) rfl rfl) rfl ?_
  refine lpure (v := .int .i64 (p6858.length : Int)) rfl (p_len rfl rfl rfl un_27 rfl) (RSl.lenC H6859) rfl ?_
  refine lpure (v := .bool (decide (8 < (p6858.length : Int)))) rfl (p_gt rfl) rfl rfl ?_
  refine lpure (v := .bool (decide (8 < (p6858.length : Int)))) rfl (p_pick rfl) rfl rfl ?_
  refine Sim.of_eq (congrArg j7505 (show ((decide ((p6858.length : Int) < 1)) || (decide (8 < (p6858.length : Int)))) = (decide (8 < (p6858.length : Int))) from by rw [k7507] <;> rfl)) ?_
  exact ljmpM J7506 (decide (8 < (p6858.length : Int))) () (sub_cons rfl (sub_cons rfl (sub_cons rfl sub_nil))) X6867
/-! isochron/route.Check -/
theorem f15_ok {n : Nat} {φ : Fz} {lo : Nat} {h : Heap} {own : OwnL}  {a72 : Option Addr} {n72 c72 : Nat} {a73 : Option Addr} {n73 c73 : Nat} {a75 : Option Addr} {n75 c75 : Nat} (X : St φ lo h (own)) (p71 : ApiTopo) (p74 : (List Int)) (H72 : RSl eBool φ (.slice a72 n72 c72) p71.Station) (H73 : RSl eApiLink φ (.slice a73 n73 c73) p71.Links) (H75 : RSl (eInt .i64) φ (.slice a75 n75 c75) p74) : Sim ((recN Tryz.prog LL cutF (n + 13)).call 15 #[(.agg #[.int .i64 p71.Nodes, .slice a72 n72 c72, .slice a73 n73 c73]), (.slice a75 n75 c75)] h) (m_route_Check p71 p74) (fun (d : Int) p => p = (.int .i64 d, h)) := by
  refine fcut Tryz.func15 rfl rfl rfl rfl X ?_
  intro h0 X0
  refine dseq (dreg ?_)
  refine lbox rfl rfl rfl rfl rfl X0 (fun b76 h78 X79 => ?_)
  refine lpure (v := .int .i64 0) rfl (p_assign rfl) rfl rfl ?_
  refine lend (nseq (dseq (dseq (dreg ?_))))
  refine lread (v := .agg #[.int .i64 p71.Nodes, .slice a72 n72 c72, .slice a73 n73 c73]) rfl (q_load wd_25 rfl) (St.ld X79 (j := 0) rfl rfl) rfl ?_
  refine lcall rfl rfl ca_39 rfl rfl (f39_ok X79 p71 H72 H73) rfl (fun e6844 v6845 h6846 hq6847 => ?_)
  cases hq6847
  refine lpure (v := .int .i64 e6844) rfl (p_assign rfl) rfl rfl ?_
  refine lend (nseq (dseq (dreg ?_)))
  refine lpure (v := .int .i64 e6844) rfl (p_move rfl) rfl rfl ?_
  refine lpure (v := .bool (decide (e6844 ≠ 0))) rfl (p_ne rfl) rfl rfl ?_
  refine lend (nseq ?_)
  refine dcond rfl rfl (fun k6848 => ?_) (fun k6848 => ?_)
  · refine dseq (dreg ?_)
    refine lpure (v := .int .i64 e6844) rfl (p_move rfl) rfl rfl ?_
    refine lpure (v := .int .i64 e6844) rfl (p_assign rfl) rfl rfl ?_
    refine lend (nseq (dret (rseq ?_)))
    exact kcut_r (res_1 resT) X79 rfl rfl
  refine dskip (nseq (dseq (dseq (dreg ?_))))
  refine lread (v := .agg #[.int .i64 p71.Nodes, .slice a72 n72 c72, .slice a73 n73 c73]) rfl (q_load wd_25 rfl) (St.ld X79 (j := 0) rfl rfl) rfl ?_
  refine lpure (v := .agg #[.int .i64 p71.Nodes, .slice a72 n72 c72, .slice a73 n73 c73]) rfl (p_build rfl) (build_st' tz_60 pl_60 rfl) rfl ?_
  refine lalloc rfl tz_60 rfl rfl rfl X79 (fun b6849 h6851 X6852 => ?_)
  refine lstore rfl ts_60 rfl rfl (j := 0) rfl rfl rfl rfl rfl rfl X6852 (fun h6853 X6854 => ?_)
  refine lend (nseq (dseq (dreg ?_)))
  refine lread (v := .agg #[.int .i64 p71.Nodes, .slice a72 n72 c72, .slice a73 n73 c73]) rfl (q_load wd_60 rfl) (St.ld X6854 (j := 0) rfl rfl) rfl ?_
  refine lpure (v := .slice a75 n75 c75) rfl (p_move rfl) rfl rfl ?_
  refine lcall rfl rfl ca_40 rfl rfl (f40_ok X6854 ((RouteWalk.mk p71)) p74 H72 H73 H75) rfl (fun e7508 v7509 h7510 hq7511 => ?_)
  cases hq7511
  refine lpure (v := .bool (!e7508)) rfl (p_not rfl) rfl rfl ?_
  refine lend (nseq ?_)
  refine dcond rfl rfl (fun k7512 => ?_) (fun k7512 => ?_)
  · refine dseq (dreg ?_)
    refine lpure (v := .int .i64 310) rfl (p_assign rfl) rfl rfl ?_
    refine lend (nseq (dret (rseq ?_)))
    exact kcut_r (res_1 resT) X6854 rfl rfl
  refine dskip (nseq (dseq (dreg ?_)))
  refine lpure (v := .int .i64 0) rfl (p_assign rfl) rfl rfl ?_
  refine lend (nseq (dret ?_))
  exact kcut_r (res_1 resT) X6854 rfl rfl
/-! (isochron/route.walk).list -/
theorem f30_ok {n : Nat} {φ : Fz} {lo : Nat} {h : Heap} {own : OwnL}  {a7683 : Option Addr} {n7683 c7683 : Nat} {a7684 : Option Addr} {n7684 c7684 : Nat} {a7686 : Option Addr} {n7686 c7686 : Nat} (X : St φ lo h (own)) (p7682 : RouteWalk) (p7685 : (List Int)) (H7683 : RSl eBool φ (.slice a7683 n7683 c7683) p7682.Topo.Station) (H7684 : RSl eApiLink φ (.slice a7684 n7684 c7684) p7682.Topo.Links) (H7686 : RSl (eInt .i64) φ (.slice a7686 n7686 c7686) p7685) : Sim ((recN Tryz.prog LL cutF (n + 13)).call 30 #[(.agg #[.int .i64 p7682.Topo.Nodes, .slice a7683 n7683 c7683, .slice a7684 n7684 c7684]), (.slice a7686 n7686 c7686)] h) (m_route_walk_list p7682 p7685) (fun (d : (List Int)) p => ∃ φ2 : Fz, ∃ a7842 : Option Addr, ∃ n7842 : Nat, ∃ c7842 : Nat, ∃ ob7842 : Option Nat, ∃ blk7842 : Blk, Fz.le φ φ2 ∧ St φ2 lo p.2 ((ob7842, blk7842) :: own) ∧ p.1 = .slice a7842 n7842 c7842 ∧ OSl (eInt .i64) φ2 3 ob7842 blk7842 (.slice a7842 n7842 c7842) d) := by
  refine fopen Tryz.func30 rfl rfl rfl rfl ?_
  refine dseq (dreg ?_)
  refine lbox rfl rfl rfl rfl rfl X (fun b7687 h7689 X7690 => ?_)
  refine lpure (v := .slice none 0 0) rfl (p_assign rfl) rfl rfl ?_
  refine lend (nseq (dseq (dreg ?_)))
  refine lread (v := .agg #[.int .i64 p7682.Topo.Nodes, .slice a7683 n7683 c7683, .slice a7684 n7684 c7684]) rfl (q_load wd_60 rfl) (St.ld X7690 (j := 0) rfl rfl) rfl ?_
  refine lpure (v := .slice a7686 n7686 c7686) rfl (p_move rfl) rfl rfl ?_
  refine linl rfl rfl rfl rfl ca_59 rfl Tryz.func59 rfl rfl rfl rfl rfl ?_
  refine dseq (dreg ?_)
  refine lbox rfl rfl rfl rfl rfl X7690 (fun b7691 h7693 X7694 => ?_)
  refine lbox rfl rfl rfl rfl rfl X7694 (fun b7695 h7697 X7698 => ?_)
  refine lpure (v := .nilFunc) rfl (p_assign rfl) rfl rfl ?_
  refine lend (nseq (dseq (dreg ?_)))
  refine lpure (v := .func (.func 82) #[] #[.pointer (some ⟨b7691, 0, none⟩), .pointer (some ⟨b7695, 0, none⟩)]) rfl (p_makeFunc rfl) rfl rfl ?_
  refine lpure (v := .func (.func 82) #[] #[.pointer (some ⟨b7691, 0, none⟩), .pointer (some ⟨b7695, 0, none⟩)]) rfl (p_assign rfl) rfl rfl ?_
  refine lend (nseq (dret ?_))
  refine kin_r (res_1 resT) ?_
  refine linl rfl rfl rfl rfl ca_58 rfl Tryz.func58 rfl rfl rfl rfl rfl ?_
  refine dseq (dreg ?_)
  refine lpure (v := .slice none 0 0) rfl (p_assign rfl) rfl rfl ?_
  refine lend (nseq (dseq (dreg ?_)))
  refine lpure (v := .func (.func 82) #[] #[.pointer (some ⟨b7691, 0, none⟩), .pointer (some ⟨b7695, 0, none⟩)]) rfl (p_move rfl) rfl rfl ?_
  refine linl rfl rfl rfl rfl ca_81 rfl Tryz.func81 rfl rfl rfl rfl rfl ?_
  refine dseq (dreg ?_)
  refine lbox rfl rfl rfl rfl rfl X7698 (fun b7699 h7701 X7702 => ?_)
  refine lpure (v := .slice none 0 0) rfl (p_assign rfl) rfl rfl ?_
  refine lend (nseq (dseq (dseq (dreg ?_))))
  refine lpure (v := .func (.func 82) #[] #[.pointer (some ⟨b7691, 0, none⟩), .pointer (some ⟨b7695, 0, none⟩)]) rfl (p_move rfl) rfl rfl ?_
  refine lend (nseq (dblock ?_))
  refine drange rfl rfl ca_82 Tryz.func82 rfl rfl X7702 (fun _ => rfl) ?_
  intro l7703 q7704 df7705 h7707 Q7706 X7708
  refine dseq (dreg ?_)
  refine lread (v := .agg #[.int .i64 p7682.Topo.Nodes, .slice a7683 n7683 c7683, .slice a7684 n7684 c7684]) rfl (q_load wd_60 rfl) (St.ld X7708 (j := 4) rfl rfl) rfl ?_
  refine lpure (v := .func (.func 55) #[.agg #[.int .i64 p7682.Topo.Nodes, .slice a7683 n7683 c7683, .slice a7684 n7684 c7684]] #[]) rfl (p_makeFunc rfl) rfl rfl ?_
  refine lpure (v := .func (.func 55) #[.agg #[.int .i64 p7682.Topo.Nodes, .slice a7683 n7683 c7683, .slice a7684 n7684 c7684]] #[]) rfl (p_assign rfl) rfl rfl ?_
  refine lend (nseq (dseq (dseq ?_)))
  refine dgo_start (n := 8) rfl (by kernel_rfl) ?_
  refine gpure (v := .func (.yield l7703) #[] #[]) rfl (p_move rfl) (lo_t (and_tt (lo_own X7708 (j := 0) (o := 0) (s := none) (f := 0) rfl) rfl) rfl) rfl rfl ?_
  refine gload (v := .agg #[.int .i64 p7682.Topo.Nodes, .slice a7683 n7683 c7683, .slice a7684 n7684 c7684]) rfl (q_load wd_60 rfl) (St.ld X7708 (j := 4) rfl rfl) rfl ?_
  refine gload (v := .slice a7686 n7686 c7686) rfl (q_load wd_27 rfl) (St.ld X7708 (j := 3) rfl rfl) rfl ?_
  refine Sim.bindM fun e7711 he7712 => ?_
  obtain ⟨p7713, cs7713, hp7713, hF7713, hR7713⟩ := RSl.ia H7686 he7712 (kd := .i64) (n := 1) rfl
  have hR7713 : _ = [(.int .i64 e7711 : Value)] := hR7713
  subst hR7713
  refine gpure (v := p7713) rfl (p_ia rs_27 rfl) (lo_t (lo_sl X7708 H7686) (lo_c rfl)) hp7713 rfl ?_
  refine gload (v := .int .i64 e7711) rfl (q_load wd_3 rfl) (FP.ld X7708 hF7713) rfl ?_
  refine gwait rfl (still_call rfl rfl ca_56 rfl) rfl ?_
  refine dgo_skip ?_
  refine dgo_skip ?_
  refine gcall (m := 7) [false, false, false] (rk_cons (q_load wd_3 rfl) (FP.ld X7708 hF7713) (same_self 20 rfl) (rk_cons (q_load wd_27 rfl) (St.ld X7708 (j := 3) rfl rfl) (same_self 20 rfl) (rk_cons (q_load wd_60 rfl) (St.ld X7708 (j := 4) rfl rfl) (same_self 20 rfl) rk_nil))) rfl rfl rfl rfl rfl ca_56 rfl rfl (f56_ok X7708 p7682 e7711 H7683 H7684) rfl (fun e7714 v7715 h7716 hq7717 => ?_)
  cases hq7717
  refine dgo_skip ?_
  refine dgo_skip ?_
  refine dgo_skip ?_
  refine dgo_skip ?_
  refine dgo_skip ?_
  refine dgo_skip ?_
  refine gwait rfl (still_act rfl).1 rfl ?_
  refine dgo_skip ?_
  refine ground (m := 6) [] rk_nil rfl rfl rfl rfl rfl rfl rfl rfl rfl X7708 (j := 0) rfl Q7706 rfl rfl rfl rfl rfl (fun t7718 => ?_)
  refine dreg ?_
  refine lpure (v := .int .i64 e7714) rfl (p_assign rfl) rfl rfl ?_
  refine lend ?_
  refine basg X7708 (j := 0) rfl (fun h7719 X7720 => ?_)
  refine dblock (dreg ?_)
  refine lread (v := .slice none 0 0) rfl (q_load wd_26 rfl) (St.ld X7720 (j := 2) rfl rfl) rfl ?_
  refine lpure (v := .int .i64 e7714) rfl (p_move rfl) rfl rfl ?_
  obtain ⟨h7721, b7721, hv7721, X7721, O7721⟩ := OSl.lay (E := (eInt .i64)) (φ := φ) (cs := [.int .i64 e7714]) (l := [e7714]) (len := 1) (parts := [(0, .int .i64 e7714)]) un_26 ts_3 rfl rfl rfl tz_3 rfl rfl (show RowD (eInt .i64) φ [.int .i64 e7714] [e7714] from ⟨[.int .i64 e7714], _, rfl, rfl, rfl⟩) rfl rfl X7720
  refine lheap rfl (h_buildSlice rfl) hv7721 rfl ?_
  have X7724 := St.pick X7721 (.none .dead (.refl _))
  obtain ⟨ws7725, hw7725⟩ := OSl.read O7721 X7724 (k := 1) rfl (n := 1) rfl
  refine Sim.mustM fun k7725 => ?_
  obtain ⟨h7725, a7725, c7725, ob7725, blk7725, hv7725, X7725, O7725⟩ := OSl.append (show OSl (eInt .i64) φ 3 none .dead (.slice none 0 0) [] from OSl.nil) X7724 (j := 0) rfl hw7725 k7725 (ts := #[26, 26]) rfl un_26 (argOk_of ax_26_26) ts_3 rfl rfl tb_3 rfl tz_3 rfl
  refine lheap rfl (h_builtin rfl rfl) hv7725 rfl ?_
  refine lstore rfl ts_26 rfl rfl (j := 4) rfl rfl rfl rfl rfl rfl X7725 (fun h7726 X7727 => ?_)
  refine lend (nblock ?_)
  refine nrnd X7727 (j := 2) rfl (fun h7728 X7729 => ?_)
  refine dgo_skip ?_
  refine dgo_skip ?_
  refine dgo_skip ?_
  refine dgo_skip ?_
  refine dgo_skip ?_
  refine dgo_skip ?_
  refine dgo_skip ?_
  refine gpure (v := .bool false) rfl (p_not rfl) (lo_t rfl rfl) rfl rfl ?_
  refine gend rk_nil ?_
  refine nseq (dcondF rfl rfl (dskip (nseq (dseq (dreg ?_)))))
  refine lread (v := .slice a7686 n7686 c7686) rfl (q_load wd_27 rfl) (St.ld X7729 (j := 5) rfl rfl) rfl ?_
  refine lpure (v := .int .i64 (p7685.length : Int)) rfl (p_len rfl rfl rfl un_27 rfl) (RSl.lenC H7686) rfl ?_
  refine lpure (v := .int .i64 0) rfl (p_move rfl) rfl rfl ?_
  refine lend (nseq (dblock ?_))
  refine dloopM (τ := Int × (List Int)) (σ := Option Addr × Nat × Nat × Option Nat × Blk) (fun s7785 (a7786, n7786, c7786, ob7786, blk7786) => [(0, .func (.yield l7703) #[] #[]), (4, .func (.func 55) #[.agg #[.int .i64 p7682.Topo.Nodes, .slice a7683 n7683 c7683, .slice a7684 n7684 c7684]] #[]), (17, .slice a7686 n7686 c7686), (18, .int .i64 (p7685.length : Int)), (19, .int .i64 s7785.1)]) (fun s7785 (a7786, n7786, c7786, ob7786, blk7786) hh => St φ lo hh ((ob7786, blk7786) :: (some b7721, (.cells [.int .i64 e7714] 3 .exact)) :: (some l7703, rdy q7704) :: (none, .dead) :: (some b7699, .cells [.slice a7786 n7786 c7786] 26 .exact) :: (some b7695, .cells [.slice a7686 n7686 c7686] 27 .exact) :: (some b7691, .cells [.int .i64 p7682.Topo.Nodes, .slice a7683 n7683 c7683, .slice a7684 n7684 c7684] 60 .exact) :: (some b7687, .cells [.int .i64 p7682.Topo.Nodes, .slice a7683 n7683 c7683, .slice a7684 n7684 c7684] 60 .exact) :: own) ∧ OSl (eInt .i64) φ 3 ob7786 blk7786 (.slice a7786 n7786 c7786) s7785.2) (0, (([] : List Int) ++ ([e7714]))) (a7725, (([] : List Int).length + ([e7714]).length), c7725, ob7725, blk7725) (sub_cons rfl (sub_cons rfl (sub_cons rfl (sub_cons rfl (sub_cons rfl sub_nil))))) ⟨(St.pick X7729 (.keep _ (.keep _ (.keep _ (.none _ (.skip _ (.keep _ (.keep _ (.keep _ (.keep _ (.refl _))))))))))), O7725⟩ ?_
  rintro n7815 ih7814 s7785 ⟨a7786, n7786, c7786, ob7786, blk7786⟩ t0 h7817 ⟨X7816, O7786⟩
  refine dseq (dreg ?_)
  refine lpure (v := .bool (decide (s7785.1 < (p7685.length : Int)))) rfl (p_lt rfl) rfl rfl ?_
  refine lend (nseq (dseq ?_))
  refine dcond rfl rfl (fun k7818 => ?_) (fun k7818 => ?_)
  · refine dskip (nseq (dseq (dblock (dseq (dreg ?_)))))
    refine Sim.bindM fun e7819 he7820 => ?_
    obtain ⟨p7821, cs7821, hp7821, hF7821, hR7821⟩ := RSl.ia H7686 he7820 (kd := .i64) (n := 1) rfl
    have hR7821 : _ = [(.int .i64 e7819 : Value)] := hR7821
    subst hR7821
    refine lpure (v := p7821) rfl (p_ia rs_27 rfl) hp7821 rfl ?_
    refine lread (v := .int .i64 e7819) rfl (q_load wd_3 rfl) (FP.ld X7816 hF7821) rfl ?_
    refine lpure (v := .int .i64 e7819) rfl (p_assign rfl) rfl rfl ?_
    refine lend (nseq (dseq (dreg ?_)))
    refine lpure (v := .func (.yield l7703) #[] #[]) rfl (p_move rfl) rfl rfl ?_
    refine lpure (v := .func (.func 55) #[.agg #[.int .i64 p7682.Topo.Nodes, .slice a7683 n7683 c7683, .slice a7684 n7684 c7684]] #[]) rfl (p_move rfl) rfl rfl ?_
    refine lpure (v := .int .i64 e7819) rfl (p_move rfl) rfl rfl ?_
    refine linl rfl rfl rfl rfl ca_55 rfl Tryz.func55 rfl rfl rfl rfl rfl ?_
    refine dseq (dreg ?_)
    refine lbox rfl rfl rfl rfl rfl X7816 (fun b7822 h7824 X7825 => ?_)
    refine lpure (v := .int .i64 0) rfl (p_assign rfl) rfl rfl ?_
    refine lend (nseq (dseq (dreg ?_)))
    refine lpure (v := .pointer (some ⟨b7822, 0, none⟩)) rfl (p_fa fo_60_0 rfl) rfl rfl ?_
    refine lread (v := .agg #[.int .i64 p7682.Topo.Nodes, .slice a7683 n7683 c7683, .slice a7684 n7684 c7684]) rfl (q_load wd_25 rfl) (St.ld X7825 (j := 0) rfl rfl) rfl ?_
    refine lpure (v := .int .i64 e7819) rfl (p_move rfl) rfl rfl ?_
    refine lcall rfl rfl ca_79 rfl rfl (f79_ok X7825 (p7682.Topo) e7819 H7683 H7684) rfl (fun e7826 v7827 h7828 hq7829 => ?_)
    cases hq7829
    refine lpure (v := .tuple #[.int .i64 e7826.1, .int .i64 e7826.2]) rfl (p_move rfl) rfl rfl ?_
    refine lpure (v := .int .i64 e7826.1) rfl (p_extract rfl) rfl rfl ?_
    refine lpure (v := .int .i64 e7826.2) rfl (p_extract rfl) rfl rfl ?_
    refine lpure (v := .int .i64 e7826.1) rfl (p_assign rfl) rfl rfl ?_
    refine lpure (v := .int .i64 e7826.2) rfl (p_assign rfl) rfl rfl ?_
    refine lend (nseq (dseq (dreg ?_)))
    refine lpure (v := .int .i64 e7826.1) rfl (p_move rfl) rfl rfl ?_
    refine lpure (v := .int .i64 e7826.1) rfl (p_assign rfl) rfl rfl ?_
    refine lend (nseq (dret ?_))
    refine kin_r (res_1 resT) ?_
    refine lround rfl rfl rfl rfl rfl rfl X7825 (j := 3) rfl Q7706 rfl rfl rfl rfl rfl (fun t7830 => ?_)
    refine dreg ?_
    refine lpure (v := .int .i64 e7826.1) rfl (p_assign rfl) rfl rfl ?_
    refine lend ?_
    refine basg X7825 (j := 3) rfl (fun h7831 X7832 => ?_)
    refine dblock (dreg ?_)
    refine lread (v := .slice a7786 n7786 c7786) rfl (q_load wd_26 rfl) (St.ld X7832 (j := 5) rfl rfl) rfl ?_
    refine lpure (v := .int .i64 e7826.1) rfl (p_move rfl) rfl rfl ?_
    obtain ⟨h7833, b7833, hv7833, X7833, O7833⟩ := OSl.lay (E := (eInt .i64)) (φ := φ) (cs := [.int .i64 e7826.1]) (l := [e7826.1]) (len := 1) (parts := [(0, .int .i64 e7826.1)]) un_26 ts_3 rfl rfl rfl tz_3 rfl rfl (show RowD (eInt .i64) φ [.int .i64 e7826.1] [e7826.1] from ⟨[.int .i64 e7826.1], _, rfl, rfl, rfl⟩) rfl rfl X7832
    refine lheap rfl (h_buildSlice rfl) hv7833 rfl ?_
    obtain ⟨ws7835, hw7835⟩ := OSl.read O7833 X7833 (k := 0) rfl (n := 1) rfl
    refine Sim.mustM fun k7835 => ?_
    obtain ⟨h7835, a7835, c7835, ob7835, blk7835, hv7835, X7835, O7835⟩ := OSl.append O7786 X7833 (j := 2) rfl hw7835 k7835 (ts := #[26, 26]) rfl un_26 (argOk_of ax_26_26) ts_3 rfl rfl tb_3 rfl tz_3 rfl
    refine lheap rfl (h_builtin rfl rfl) hv7835 rfl ?_
    refine lstore rfl ts_26 rfl rfl (j := 6) rfl rfl rfl rfl rfl rfl X7835 (fun h7836 X7837 => ?_)
    refine lend (nblock ?_)
    refine nrnd X7837 (j := 4) rfl (fun h7838 X7839 => ?_)
    refine lpure (v := .bool false) rfl (p_not rfl) rfl rfl ?_
    refine lend (nseq (dcondF rfl rfl (dskip (nblock (nseq (dreg ?_))))))
    refine lpure (v := .int .i64 (w64 (s7785.1 + 1))) rfl (p_add rfl) rfl rfl ?_
    refine lpure (v := .int .i64 (w64 (s7785.1 + 1))) rfl (p_move rfl) rfl rfl ?_
    refine lend ?_
    exact kbackM ih7814 ((w64 (s7785.1 + 1)), (s7785.2 ++ ([e7826.1]))) (a7835, (s7785.2.length + ([e7826.1]).length), c7835, ob7835, blk7835) (sub_cons rfl (sub_cons rfl (sub_cons rfl (sub_cons rfl (sub_cons rfl sub_nil))))) ⟨(St.pick X7839 (.skip _ (.skip _ (.keep _ (.keep _ (.keep _ (.none _ (.skip _ (.keep _ (.keep _ (.keep _ (.keep _ (.refl _))))))))))))), O7835⟩
  refine dexit (eseq (eloop (xblock ?_)))
  refine kin_n res_0 ?_
  refine rend_n X7816 (j := 2) rfl (fun h7840 X7841 => ?_)
  refine nblock (nseq (dseq (dreg ?_)))
  refine lread (v := .slice a7786 n7786 c7786) rfl (q_load wd_26 rfl) (St.ld X7841 (j := 4) rfl rfl) rfl ?_
  refine lpure (v := .slice a7786 n7786 c7786) rfl (p_assign rfl) rfl rfl ?_
  refine lend (nseq (dret ?_))
  refine kin_r (res_1 resT) ?_
  refine lpure (v := .slice a7786 n7786 c7786) rfl (p_assign rfl) rfl rfl ?_
  refine lend (nseq (dret ?_))
  refine kin_r (res_1 resT) ?_
  refine lpure (v := .slice a7786 n7786 c7786) rfl (p_assign rfl) rfl rfl ?_
  refine lend (nseq (dret ?_))
  exact kopen_r (res_1 resT) ⟨φ, a7786, n7786, c7786, ob7786, blk7786, (Fz.le_refl _), St.pick X7841 (.keep _ (.skip _ (.skip _ (.skip _ (.skip _ (.skip _ (.skip _ (.skip _ (.refl _))))))))), rfl, O7786⟩
/-! isochron/route.Nodes -/
theorem f9_ok {n : Nat} {φ : Fz} {lo : Nat} {h : Heap} {own : OwnL}  {a7854 : Option Addr} {n7854 c7854 : Nat} {a7855 : Option Addr} {n7855 c7855 : Nat} {a7857 : Option Addr} {n7857 c7857 : Nat} (X : St φ lo h (own)) (p7853 : ApiTopo) (p7856 : (List Int)) (H7854 : RSl eBool φ (.slice a7854 n7854 c7854) p7853.Station) (H7855 : RSl eApiLink φ (.slice a7855 n7855 c7855) p7853.Links) (H7857 : RSl (eInt .i64) φ (.slice a7857 n7857 c7857) p7856) : Sim ((recN Tryz.prog LL cutF (n + 16)).call 9 #[(.agg #[.int .i64 p7853.Nodes, .slice a7854 n7854 c7854, .slice a7855 n7855 c7855]), (.slice a7857 n7857 c7857)] h) (m_route_Nodes p7853 p7856) (fun (d : ((List Int) × Int)) p => ∃ φ2 : Fz, ∃ a7888 : Option Addr, ∃ n7888 : Nat, ∃ c7888 : Nat, ∃ ob7888 : Option Nat, ∃ blk7888 : Blk, Fz.le φ φ2 ∧ St φ2 lo p.2 ((ob7888, blk7888) :: own) ∧ p.1 = .tuple #[.slice a7888 n7888 c7888, .int .i64 d.2] ∧ OSl (eInt .i64) φ2 3 ob7888 blk7888 (.slice a7888 n7888 c7888) d.1) := by
  refine fopen Tryz.func9 rfl rfl rfl rfl ?_
  refine dseq (dreg ?_)
  refine lbox rfl rfl rfl rfl rfl X (fun b7858 h7860 X7861 => ?_)
  refine lbox rfl rfl rfl rfl rfl X7861 (fun b7862 h7864 X7865 => ?_)
  refine lpure (v := .slice none 0 0) rfl (p_assign rfl) rfl rfl ?_
  refine lpure (v := .int .i64 0) rfl (p_assign rfl) rfl rfl ?_
  refine lend (nseq (dseq (dreg ?_)))
  refine lread (v := .agg #[.int .i64 p7853.Nodes, .slice a7854 n7854 c7854, .slice a7855 n7855 c7855]) rfl (q_load wd_25 rfl) (St.ld X7865 (j := 1) rfl rfl) rfl ?_
  refine lread (v := .slice a7857 n7857 c7857) rfl (q_load wd_27 rfl) (St.ld X7865 (j := 0) rfl rfl) rfl ?_
  refine lpure (v := .func (.func 29) #[] #[.pointer (some ⟨b7862, 0, none⟩)]) rfl (p_makeFunc rfl) rfl rfl ?_
  refine linl rfl rfl rfl rfl ca_28 rfl Tryz.func28 rfl rfl rfl rfl rfl ?_
  refine dseq (dreg ?_)
  refine lbox rfl rfl rfl rfl rfl X7865 (fun b7866 h7868 X7869 => ?_)
  refine lpure (v := .slice none 0 0) rfl (p_assign rfl) rfl rfl ?_
  refine lpure (v := .int .i64 0) rfl (p_assign rfl) rfl rfl ?_
  refine lend (nseq (dseq (dseq (dreg ?_))))
  refine lread (v := .agg #[.int .i64 p7853.Nodes, .slice a7854 n7854 c7854, .slice a7855 n7855 c7855]) rfl (q_load wd_25 rfl) (St.ld X7869 (j := 0) rfl rfl) rfl ?_
  refine lpure (v := .slice a7857 n7857 c7857) rfl (p_move rfl) rfl rfl ?_
  refine lcall rfl rfl ca_15 rfl rfl (f15_ok X7869 p7853 p7856 H7854 H7855 H7857) rfl (fun e7870 v7871 h7872 hq7873 => ?_)
  cases hq7873
  refine lpure (v := .int .i64 e7870) rfl (p_assign rfl) rfl rfl ?_
  refine lend (nseq (dseq (dreg ?_)))
  refine lpure (v := .int .i64 e7870) rfl (p_move rfl) rfl rfl ?_
  refine lpure (v := .bool (decide (e7870 ≠ 0))) rfl (p_ne rfl) rfl rfl ?_
  refine lend (nseq ?_)
  refine dcond rfl rfl (fun k7874 => ?_) (fun k7874 => ?_)
  · refine dseq (dreg ?_)
    refine lpure (v := .slice none 0 0) rfl (p_assign rfl) rfl rfl ?_
    refine lend (nseq (dseq (dreg ?_)))
    refine lpure (v := .slice none 0 0) rfl (p_move rfl) rfl rfl ?_
    refine lpure (v := .int .i64 e7870) rfl (p_move rfl) rfl rfl ?_
    refine lpure (v := .slice none 0 0) rfl (p_assign rfl) rfl rfl ?_
    refine lpure (v := .int .i64 e7870) rfl (p_assign rfl) rfl rfl ?_
    refine lend (nseq (dret (rseq ?_)))
    refine kin_r (res_2 resT resT) ?_
    refine lpure (v := .slice none 0 0) rfl (p_extract rfl) rfl rfl ?_
    refine lpure (v := .int .i64 e7870) rfl (p_extract rfl) rfl rfl ?_
    refine lpure (v := .slice none 0 0) rfl (p_assign rfl) rfl rfl ?_
    refine lpure (v := .int .i64 e7870) rfl (p_assign rfl) rfl rfl ?_
    refine lend (nseq (dret ?_))
    exact kopen_r (res_2 resT resT) ⟨φ, none, 0, 0, none, (.dead), (Fz.le_refl _), St.pick X7869 (.none _ (.skip _ (.skip _ (.skip _ (.refl _))))), rfl, OSl.nil⟩
  refine dskip (nseq (dseq (dreg ?_)))
  refine lpure (v := .func (.func 29) #[] #[.pointer (some ⟨b7862, 0, none⟩)]) rfl (p_move rfl) rfl rfl ?_
  refine lread (v := .agg #[.int .i64 p7853.Nodes, .slice a7854 n7854 c7854, .slice a7855 n7855 c7855]) rfl (q_load wd_25 rfl) (St.ld X7869 (j := 0) rfl rfl) rfl ?_
  refine lpure (v := .agg #[.int .i64 p7853.Nodes, .slice a7854 n7854 c7854, .slice a7855 n7855 c7855]) rfl (p_build rfl) (build_st' tz_60 pl_60 rfl) rfl ?_
  refine linl rfl rfl rfl rfl ca_29 rfl Tryz.func29 rfl rfl rfl rfl rfl ?_
  refine dseq (dreg ?_)
  refine lbox rfl rfl rfl rfl rfl X7869 (fun b7875 h7877 X7878 => ?_)
  refine lpure (v := .slice none 0 0) rfl (p_assign rfl) rfl rfl ?_
  refine lend (nseq (dseq (dreg ?_)))
  refine lread (v := .agg #[.int .i64 p7853.Nodes, .slice a7854 n7854 c7854, .slice a7855 n7855 c7855]) rfl (q_load wd_60 rfl) (St.ld X7878 (j := 0) rfl rfl) rfl ?_
  refine lread (v := .slice a7857 n7857 c7857) rfl (q_load wd_27 rfl) (St.ld X7878 (j := 2) rfl rfl) rfl ?_
  refine lcall rfl rfl ca_30 rfl rfl (f30_ok X7878 ((RouteWalk.mk p7853)) p7856 H7854 H7855 H7857) rfl ?_
  rintro e7879 _ h7881 ⟨φ7883, a7886, n7886, c7886, ob7886, blk7886, g7884, X7885, rfl, O7886⟩
  refine lpure (v := .slice a7886 n7886 c7886) rfl (p_assign rfl) rfl rfl ?_
  refine lend (nseq (dret ?_))
  refine kin_r (res_1 resT) ?_
  refine lpure (v := .slice a7886 n7886 c7886) rfl (p_assign rfl) rfl rfl ?_
  refine lpure (v := .int .i64 0) rfl (p_assign rfl) rfl rfl ?_
  refine lend (nseq (dret ?_))
  refine kin_r (res_2 resT resT) ?_
  refine lpure (v := .slice a7886 n7886 c7886) rfl (p_extract rfl) rfl rfl ?_
  refine lpure (v := .int .i64 0) rfl (p_extract rfl) rfl rfl ?_
  refine lpure (v := .slice a7886 n7886 c7886) rfl (p_assign rfl) rfl rfl ?_
  refine lpure (v := .int .i64 0) rfl (p_assign rfl) rfl rfl ?_
  refine lend (nseq (dret ?_))
  exact kopen_r (res_2 resT resT) ⟨φ7883, a7886, n7886, c7886, ob7886, blk7886, g7884, St.pick X7885 (.keep _ (.skip _ (.skip _ (.skip _ (.skip _ (.refl _)))))), rfl, O7886⟩
/-! isochron/route.Ends -/
theorem f10_ok {n : Nat} {φ : Fz} {lo : Nat} {h : Heap} {own : OwnL}  {a7914 : Option Addr} {n7914 c7914 : Nat} {a7915 : Option Addr} {n7915 c7915 : Nat} {a7917 : Option Addr} {n7917 c7917 : Nat} (X : St φ lo h (own)) (p7913 : ApiTopo) (p7916 : (List Int)) (H7914 : RSl eBool φ (.slice a7914 n7914 c7914) p7913.Station) (H7915 : RSl eApiLink φ (.slice a7915 n7915 c7915) p7913.Links) (H7917 : RSl (eInt .i64) φ (.slice a7917 n7917 c7917) p7916) : Sim ((recN Tryz.prog LL cutF (n + 17)).call 10 #[(.agg #[.int .i64 p7913.Nodes, .slice a7914 n7914 c7914, .slice a7915 n7915 c7915]), (.slice a7917 n7917 c7917)] h) (m_route_Ends p7913 p7916) (fun (d : (Int × Int × Int)) p => p = (.tuple #[.int .i64 d.1, .int .i64 d.2.1, .int .i64 d.2.2], h)) := by
  refine fcut Tryz.func10 rfl rfl rfl rfl X ?_
  intro h0 X0
  refine dseq (dreg ?_)
  refine lbox rfl rfl rfl rfl rfl X0 (fun b7918 h7920 X7921 => ?_)
  refine lpure (v := .int .i64 0) rfl (p_assign rfl) rfl rfl ?_
  refine lpure (v := .int .i64 0) rfl (p_assign rfl) rfl rfl ?_
  refine lpure (v := .int .i64 0) rfl (p_assign rfl) rfl rfl ?_
  refine lend (nseq (dseq (dreg ?_)))
  refine lread (v := .agg #[.int .i64 p7913.Nodes, .slice a7914 n7914 c7914, .slice a7915 n7915 c7915]) rfl (q_load wd_25 rfl) (St.ld X7921 (j := 0) rfl rfl) rfl ?_
  refine lpure (v := .slice a7917 n7917 c7917) rfl (p_move rfl) rfl rfl ?_
  refine lcall rfl rfl ca_9 rfl rfl (f9_ok X7921 p7913 p7916 H7914 H7915 H7917) rfl ?_
  rintro e7922 _ h7924 ⟨φ7926, a7929, n7929, c7929, ob7929, blk7929, g7927, X7928, rfl, O7929⟩
  refine lpure (v := .tuple #[.slice a7929 n7929 c7929, .int .i64 e7922.2]) rfl (p_move rfl) rfl rfl ?_
  refine lpure (v := .slice a7929 n7929 c7929) rfl (p_extract rfl) rfl rfl ?_
  refine lpure (v := .int .i64 e7922.2) rfl (p_extract rfl) rfl rfl ?_
  refine lpure (v := .slice a7929 n7929 c7929) rfl (p_assign rfl) rfl rfl ?_
  refine lpure (v := .int .i64 e7922.2) rfl (p_assign rfl) rfl rfl ?_
  refine lend (nseq (dseq (dseq (dreg ?_))))
  refine lpure (v := .int .i64 e7922.2) rfl (p_move rfl) rfl rfl ?_
  refine lpure (v := .bool (decide (e7922.2 ≠ 0))) rfl (p_ne rfl) rfl rfl ?_
  refine lend (nseq ?_)
  refine dcond rfl rfl (fun k7931 => ?_) (fun k7931 => ?_)
  · refine dseq (dreg ?_)
    refine lpure (v := .int .i64 e7922.2) rfl (p_move rfl) rfl rfl ?_
    refine lpure (v := .int .i64 0) rfl (p_assign rfl) rfl rfl ?_
    refine lpure (v := .int .i64 0) rfl (p_assign rfl) rfl rfl ?_
    refine lpure (v := .int .i64 e7922.2) rfl (p_assign rfl) rfl rfl ?_
    refine lend (nseq (dret (rseq ?_)))
    exact kcut_r (res_3 resT resT resT) X7928 rfl rfl
  refine dskip (nseq (dseq ?_))
  refine ddraw 0 0 32 (by kernel_rfl) ?_
  refine spure (v := .slice a7929 n7929 c7929) rfl (p_move rfl) (lo_t (lo_osl X7928 (j := 0) rfl O7929) rfl) rfl rfl ?_
  refine Sim.bindM fun e7932 he7933 => ?_
  obtain ⟨b7934, vs7934, m7934, off7934, cs7934, rfl, rfl, hp7934, hc7934, hR7934, hl7934, hm7934, hs7934⟩ := OSl.ia O7929 he7933 (kd := .i64) (n := 1) rfl
  have hR7934 : _ = [(.int .i64 e7932 : Value)] := hR7934
  subst hR7934
  refine spure (v := .pointer (some ⟨b7934, off7934, none⟩)) rfl (p_ia rs_26 rfl) (lo_t (lo_osl X7928 (j := 0) rfl O7929) (lo_c rfl)) hp7934 rfl ?_
  refine sload (v := .int .i64 e7932) rfl rfl (q_load wd_3 rfl) (St.ld X7928 (j := 0) rfl (rdE1 hc7934 (k := 0) rfl rfl)) (same_self 20 rfl) rfl ?_
  refine spure (v := .slice a7929 n7929 c7929) rfl (p_move rfl) (lo_t (lo_osl X7928 (j := 0) rfl O7929) rfl) rfl rfl ?_
  refine spure (v := .slice a7929 n7929 c7929) rfl (p_move rfl) (lo_t (lo_osl X7928 (j := 0) rfl O7929) rfl) rfl rfl ?_
  refine spure (v := .int .i64 (e7922.1.length : Int)) rfl (p_len rfl rfl rfl un_26 rfl) (lo_t (lo_osl X7928 (j := 0) rfl O7929) rfl) (OSl.len O7929) rfl ?_
  refine spure (v := .int .i64 (w64 ((e7922.1.length : Int) - 1))) rfl (p_sub rfl) (lo_t rfl (lo_c rfl)) rfl rfl ?_
  refine Sim.bindM fun e7935 he7936 => ?_
  obtain ⟨off7937, cs7937, hp7937, hc7937, hR7937, hl7937, hm7937, hs7937⟩ := OSl.iaC O7929 he7936 (kd := .i64) (n := 1) rfl
  have hR7937 : _ = [(.int .i64 e7935 : Value)] := hR7937
  subst hR7937
  refine spure (v := .pointer (some ⟨b7934, off7937, none⟩)) rfl (p_ia rs_26 rfl) (lo_t (lo_osl X7928 (j := 0) rfl O7929) (lo_t rfl rfl)) hp7937 rfl ?_
  refine sload (v := .int .i64 e7935) rfl rfl (q_load wd_3 rfl) (St.ld X7928 (j := 0) rfl (rdE1 hc7937 (k := 0) rfl rfl)) (same_self 20 rfl) rfl ?_
  refine spure (v := .int .i64 e7932) rfl (p_assign rfl) (lo_t rfl rfl) rfl rfl ?_
  refine spure (v := .int .i64 e7935) rfl (p_assign rfl) (lo_t rfl rfl) rfl rfl ?_
  refine spure (v := .int .i64 0) rfl (p_assign rfl) (lo_c rfl) rfl rfl ?_
  refine send ?_
  refine nseq (dret ?_)
  exact kcut_r (res_3 resT resT resT) X7928 rfl rfl
/-! isochron/route.Delay$1 -/
theorem f32_ok {n : Nat} {φ : Fz} {lo : Nat} {h : Heap} {own : OwnL}  (X : St φ lo h (own)) (p7992 : ApiLink) : Sim ((recN Tryz.prog LL cutF (n + 1)).call 32 #[(.agg #[.int .i64 p7992.A, .int .i64 p7992.B, .int .i64 p7992.Per, .int .i64 p7992.Delay])] h) (m_route_Delay_1 p7992) (fun (d : Int) p => p = (.int .i64 d, h)) := by
  refine fcut Tryz.func32 rfl rfl rfl rfl X ?_
  intro h0 X0
  refine dseq (dreg ?_)
  refine lbox rfl rfl rfl rfl rfl X0 (fun b7993 h7995 X7996 => ?_)
  refine lpure (v := .int .i64 0) rfl (p_assign rfl) rfl rfl ?_
  refine lend (nseq (dseq (dreg ?_)))
  refine lpure (v := .pointer (some ⟨b7993, 3, none⟩)) rfl (p_fa fo_65_3 rfl) rfl rfl ?_
  refine lread (v := .int .i64 p7992.Delay) rfl (q_load wd_3 rfl) (St.ld X7996 (j := 0) rfl rfl) rfl ?_
  refine lpure (v := .int .i64 p7992.Delay) rfl (p_assign rfl) rfl rfl ?_
  refine lend (nseq (dret ?_))
  exact kcut_r (res_1 resT) X7996 rfl rfl
/-! isochron/route.Delay -/
theorem f11_ok {n : Nat} {φ : Fz} {lo : Nat} {h : Heap} {own : OwnL}  {a7949 : Option Addr} {n7949 c7949 : Nat} {a7950 : Option Addr} {n7950 c7950 : Nat} {a7952 : Option Addr} {n7952 c7952 : Nat} (X : St φ lo h (own)) (p7948 : ApiTopo) (p7951 : (List Int)) (H7949 : RSl eBool φ (.slice a7949 n7949 c7949) p7948.Station) (H7950 : RSl eApiLink φ (.slice a7950 n7950 c7950) p7948.Links) (H7952 : RSl (eInt .i64) φ (.slice a7952 n7952 c7952) p7951) : Sim ((recN Tryz.prog LL cutF (n + 16)).call 11 #[(.agg #[.int .i64 p7948.Nodes, .slice a7949 n7949 c7949, .slice a7950 n7950 c7950]), (.slice a7952 n7952 c7952)] h) (m_route_Delay p7948 p7951) (fun (d : (Int × Int)) p => p = (.tuple #[.int .i64 d.1, .int .i64 d.2], h)) := by
  refine fcut Tryz.func11 rfl rfl rfl rfl X ?_
  intro h0 X0
  refine dseq (dreg ?_)
  refine lbox rfl rfl rfl rfl rfl X0 (fun b7953 h7955 X7956 => ?_)
  refine lpure (v := .int .i64 0) rfl (p_assign rfl) rfl rfl ?_
  refine lpure (v := .int .i64 0) rfl (p_assign rfl) rfl rfl ?_
  refine lend (nseq (dseq (dreg ?_)))
  refine lread (v := .agg #[.int .i64 p7948.Nodes, .slice a7949 n7949 c7949, .slice a7950 n7950 c7950]) rfl (q_load wd_25 rfl) (St.ld X7956 (j := 0) rfl rfl) rfl ?_
  refine lpure (v := .slice a7952 n7952 c7952) rfl (p_move rfl) rfl rfl ?_
  refine linl rfl rfl rfl rfl ca_31 rfl Tryz.func31 rfl rfl rfl rfl rfl ?_
  refine dseq (dreg ?_)
  refine lbox rfl rfl rfl rfl rfl X7956 (fun b7957 h7959 X7960 => ?_)
  refine lbox rfl rfl rfl rfl rfl X7960 (fun b7961 h7963 X7964 => ?_)
  refine lbox rfl rfl rfl rfl rfl X7964 (fun b7965 h7967 X7968 => ?_)
  refine lpure (v := .int .i64 0) rfl (p_assign rfl) rfl rfl ?_
  refine lpure (v := .int .i64 0) rfl (p_assign rfl) rfl rfl ?_
  refine lend (nseq (dseq (dreg ?_)))
  refine lread (v := .agg #[.int .i64 p7948.Nodes, .slice a7949 n7949 c7949, .slice a7950 n7950 c7950]) rfl (q_load wd_25 rfl) (St.ld X7968 (j := 2) rfl rfl) rfl ?_
  refine lread (v := .slice a7952 n7952 c7952) rfl (q_load wd_27 rfl) (St.ld X7968 (j := 1) rfl rfl) rfl ?_
  refine lpure (v := .func (.func 61) #[] #[.pointer (some ⟨b7961, 0, none⟩), .pointer (some ⟨b7965, 0, none⟩)]) rfl (p_makeFunc rfl) rfl rfl ?_
  refine linl rfl rfl rfl rfl ca_60 rfl Tryz.func60 rfl rfl rfl rfl rfl ?_
  refine dseq (dreg ?_)
  refine lbox rfl rfl rfl rfl rfl X7968 (fun b7969 h7971 X7972 => ?_)
  refine lpure (v := .int .i64 0) rfl (p_assign rfl) rfl rfl ?_
  refine lpure (v := .int .i64 0) rfl (p_assign rfl) rfl rfl ?_
  refine lend (nseq (dseq (dseq (dreg ?_))))
  refine lread (v := .agg #[.int .i64 p7948.Nodes, .slice a7949 n7949 c7949, .slice a7950 n7950 c7950]) rfl (q_load wd_25 rfl) (St.ld X7972 (j := 0) rfl rfl) rfl ?_
  refine lpure (v := .slice a7952 n7952 c7952) rfl (p_move rfl) rfl rfl ?_
  refine lcall rfl rfl ca_15 rfl rfl (f15_ok X7972 p7948 p7951 H7949 H7950 H7952) rfl (fun e7973 v7974 h7975 hq7976 => ?_)
  cases hq7976
  refine lpure (v := .int .i64 e7973) rfl (p_assign rfl) rfl rfl ?_
  refine lend (nseq (dseq (dreg ?_)))
  refine lpure (v := .int .i64 e7973) rfl (p_move rfl) rfl rfl ?_
  refine lpure (v := .bool (decide (e7973 ≠ 0))) rfl (p_ne rfl) rfl rfl ?_
  refine lend (nseq ?_)
  refine dcond rfl rfl (fun k7977 => ?_) (fun k7977 => ?_)
  · refine dseq (dreg ?_)
    refine lpure (v := .int .i64 0) rfl (p_assign rfl) rfl rfl ?_
    refine lend (nseq (dseq (dreg ?_)))
    refine lpure (v := .int .i64 0) rfl (p_move rfl) rfl rfl ?_
    refine lpure (v := .int .i64 e7973) rfl (p_move rfl) rfl rfl ?_
    refine lpure (v := .int .i64 0) rfl (p_assign rfl) rfl rfl ?_
    refine lpure (v := .int .i64 e7973) rfl (p_assign rfl) rfl rfl ?_
    refine lend (nseq (dret (rseq ?_)))
    refine kin_r (res_2 resT resT) ?_
    refine lpure (v := .int .i64 0) rfl (p_extract rfl) rfl rfl ?_
    refine lpure (v := .int .i64 e7973) rfl (p_extract rfl) rfl rfl ?_
    refine lpure (v := .int .i64 0) rfl (p_assign rfl) rfl rfl ?_
    refine lpure (v := .int .i64 e7973) rfl (p_assign rfl) rfl rfl ?_
    refine lend (nseq (dret ?_))
    refine kin_r (res_2 resT resT) ?_
    refine lpure (v := .int .i64 0) rfl (p_extract rfl) rfl rfl ?_
    refine lpure (v := .int .i64 e7973) rfl (p_extract rfl) rfl rfl ?_
    refine lpure (v := .int .i64 0) rfl (p_assign rfl) rfl rfl ?_
    refine lpure (v := .int .i64 e7973) rfl (p_assign rfl) rfl rfl ?_
    refine lend (nseq (dret ?_))
    exact kcut_r (res_2 resT resT) X7972 rfl rfl
  refine dskip (nseq (dseq (dreg ?_)))
  refine lpure (v := .func (.func 61) #[] #[.pointer (some ⟨b7961, 0, none⟩), .pointer (some ⟨b7965, 0, none⟩)]) rfl (p_move rfl) rfl rfl ?_
  refine lread (v := .agg #[.int .i64 p7948.Nodes, .slice a7949 n7949 c7949, .slice a7950 n7950 c7950]) rfl (q_load wd_25 rfl) (St.ld X7972 (j := 0) rfl rfl) rfl ?_
  refine lpure (v := .agg #[.int .i64 p7948.Nodes, .slice a7949 n7949 c7949, .slice a7950 n7950 c7950]) rfl (p_build rfl) (build_st' tz_60 pl_60 rfl) rfl ?_
  refine linl rfl rfl rfl rfl ca_61 rfl Tryz.func61 rfl rfl rfl rfl rfl ?_
  refine dseq (dreg ?_)
  refine lbox rfl rfl rfl rfl rfl X7972 (fun b7978 h7980 X7981 => ?_)
  refine lpure (v := .int .i64 0) rfl (p_assign rfl) rfl rfl ?_
  refine lend (nseq (dseq (dreg ?_)))
  refine lpure (v := .int .i64 0) rfl (p_assign rfl) rfl rfl ?_
  refine lend (nseq (dseq (dseq (dreg ?_))))
  refine lread (v := .slice a7952 n7952 c7952) rfl (q_load wd_27 rfl) (St.ld X7981 (j := 3) rfl rfl) rfl ?_
  refine lpure (v := .int .i64 (p7951.length : Int)) rfl (p_len rfl rfl rfl un_27 rfl) (RSl.lenC H7952) rfl ?_
  refine lpure (v := .int .i64 0) rfl (p_move rfl) rfl rfl ?_
  refine lend (nseq (dblock ?_))
  refine dloopM (τ := Int × Int) (σ := Unit) (fun s8015 (_ : Unit) => [(2, .pointer (some ⟨b7965, 0, none⟩)), (3, .pointer (some ⟨b7978, 0, none⟩)), (5, .int .i64 s8015.1), (8, .slice a7952 n7952 c7952), (9, .int .i64 (p7951.length : Int)), (10, .int .i64 s8015.2)]) (fun s8015 (_ : Unit) hh => St φ h.n hh ([(some b7978, .cells [.int .i64 p7948.Nodes, .slice a7949 n7949 c7949, .slice a7950 n7950 c7950] 60 .exact), (some b7969, .cells [.int .i64 p7948.Nodes, .slice a7949 n7949 c7949, .slice a7950 n7950 c7950] 25 .exact), (some b7965, .cells [.func (.func 32) #[] #[]] 66 .exact), (some b7961, .cells [.slice a7952 n7952 c7952] 27 .exact), (some b7957, .cells [.int .i64 p7948.Nodes, .slice a7949 n7949 c7949, .slice a7950 n7950 c7950] 25 .exact), (some b7953, .cells [.int .i64 p7948.Nodes, .slice a7949 n7949 c7949, .slice a7950 n7950 c7950] 25 .exact)])) (0, 0) () (sub_cons rfl (sub_cons rfl (sub_cons rfl (sub_cons rfl (sub_cons rfl (sub_cons rfl sub_nil)))))) X7981 ?_
  rintro n8031 ih8030 s8015 _ t0 h8033 X8032
  refine dseq (dreg ?_)
  refine lpure (v := .bool (decide (s8015.2 < (p7951.length : Int)))) rfl (p_lt rfl) rfl rfl ?_
  refine lend (nseq (dseq ?_))
  refine dcond rfl rfl (fun k8034 => ?_) (fun k8034 => ?_)
  · refine dskip (nseq (dseq (dblock (dseq (dreg ?_)))))
    refine Sim.bindM fun e8035 he8036 => ?_
    obtain ⟨p8037, cs8037, hp8037, hF8037, hR8037⟩ := RSl.ia H7952 he8036 (kd := .i64) (n := 1) rfl
    have hR8037 : _ = [(.int .i64 e8035 : Value)] := hR8037
    subst hR8037
    refine lpure (v := p8037) rfl (p_ia rs_27 rfl) hp8037 rfl ?_
    refine lread (v := .int .i64 e8035) rfl (q_load wd_3 rfl) (FP.ld X8032 hF8037) rfl ?_
    refine lpure (v := .int .i64 e8035) rfl (p_assign rfl) rfl rfl ?_
    refine lend (nseq ?_)
    refine dgo_start (n := 12) rfl (by kernel_rfl) ?_
    refine gpure (v := .int .i64 s8015.1) rfl (p_move rfl) (lo_t rfl rfl) rfl rfl ?_
    refine gload (v := .func (.func 32) #[] #[]) rfl (q_load wd_66 rfl) (St.ld X8032 (j := 2) rfl rfl) rfl ?_
    refine gpure (v := .pointer (some ⟨b7978, 0, none⟩)) rfl (p_fa fo_60_0 rfl) (lo_t (lo_own X8032 (j := 0) (o := 0) (s := none) (f := 0) rfl) rfl) rfl rfl ?_
    refine gpure (v := .pointer (some ⟨b7978, 2, none⟩)) rfl (p_fa fo_25_2 rfl) (lo_t (lo_own X8032 (j := 0) (o := 0) (s := none) (f := 0) rfl) rfl) rfl rfl ?_
    refine gload (v := .slice a7950 n7950 c7950) rfl (q_load wd_23 rfl) (St.ld X8032 (j := 0) rfl rfl) rfl ?_
    refine gpure (v := .int .i64 e8035) rfl (p_move rfl) (lo_t rfl rfl) rfl rfl ?_
    refine gpure (v := .int .i64 (w64 (Int.tdiv e8035 2))) rfl (p_quo rfl) (lo_t rfl (lo_c rfl)) rfl rfl ?_
    refine Sim.bindM fun e8038 he8039 => ?_
    obtain ⟨p8040, cs8040, hp8040, hF8040, hR8040⟩ := RSl.ia H7950 he8039 (kd := .i64) (n := 4) rfl
    obtain rfl := eApiLink_el hR8040
    refine gpure (v := p8040) rfl (p_ia rs_23 rfl) (lo_t (lo_sl X8032 H7950) (lo_t rfl rfl)) hp8040 rfl ?_
    refine gload (v := .agg #[.int .i64 e8038.A, .int .i64 e8038.B, .int .i64 e8038.Per, .int .i64 e8038.Delay]) rfl (q_load wd_65 rfl) (FP.ldw X8032 hF8040 rfl rfl) rfl ?_
    refine gwait rfl (still_act rfl).1 rfl ?_
    refine dgo_skip ?_
    refine dgo_skip ?_
    refine gcallv (m := 11) [false, false, false] (rk_cons (q_load wd_65 rfl) (FP.ldw X8032 hF8040 rfl rfl) (same_self 20 rfl) (rk_cons (q_load wd_23 rfl) (St.ld X8032 (j := 0) rfl rfl) (same_self 20 rfl) (rk_cons (q_load wd_66 rfl) (St.ld X8032 (j := 2) rfl rfl) (same_self 20 rfl) rk_nil))) rfl rfl rfl rfl rfl rfl rfl ca_32 rfl rfl (f32_ok X8032 e8038) rfl (fun e8041 v8042 h8043 hq8044 => ?_)
    cases hq8044
    refine dgo_skip ?_
    refine dgo_skip ?_
    refine dgo_skip ?_
    refine dgo_skip ?_
    refine dgo_skip ?_
    refine dgo_skip ?_
    refine dgo_skip ?_
    refine dgo_skip ?_
    refine dgo_skip ?_
    refine dgo_skip ?_
    refine gpure (v := .int .i64 (w64 (s8015.1 + e8041))) rfl (p_add rfl) (lo_t rfl (lo_t rfl rfl)) rfl rfl ?_
    refine gpure (v := .int .i64 (w64 (s8015.1 + e8041))) rfl (p_assign rfl) (lo_t rfl rfl) rfl rfl ?_
    refine gend rk_nil ?_
    refine nblock (nseq (dreg ?_))
    refine lpure (v := .int .i64 (w64 (s8015.2 + 1))) rfl (p_add rfl) rfl rfl ?_
    refine lpure (v := .int .i64 (w64 (s8015.2 + 1))) rfl (p_move rfl) rfl rfl ?_
    refine lend ?_
    exact kbackM ih8030 ((w64 (s8015.1 + e8041)), (w64 (s8015.2 + 1))) () (sub_cons rfl (sub_cons rfl (sub_cons rfl (sub_cons rfl (sub_cons rfl (sub_cons rfl sub_nil)))))) X8032
  refine dexit (eseq (eloop (xblock (nseq (dseq (dreg ?_))))))
  refine lpure (v := .int .i64 s8015.1) rfl (p_move rfl) rfl rfl ?_
  refine lpure (v := .int .i64 s8015.1) rfl (p_assign rfl) rfl rfl ?_
  refine lend (nseq (dret ?_))
  refine kin_r (res_1 resT) ?_
  refine lpure (v := .int .i64 s8015.1) rfl (p_assign rfl) rfl rfl ?_
  refine lpure (v := .int .i64 0) rfl (p_assign rfl) rfl rfl ?_
  refine lend (nseq (dret ?_))
  refine kin_r (res_2 resT resT) ?_
  refine lpure (v := .int .i64 s8015.1) rfl (p_extract rfl) rfl rfl ?_
  refine lpure (v := .int .i64 0) rfl (p_extract rfl) rfl rfl ?_
  refine lpure (v := .int .i64 s8015.1) rfl (p_assign rfl) rfl rfl ?_
  refine lpure (v := .int .i64 0) rfl (p_assign rfl) rfl rfl ?_
  refine lend (nseq (dret ?_))
  refine kin_r (res_2 resT resT) ?_
  refine lpure (v := .int .i64 s8015.1) rfl (p_extract rfl) rfl rfl ?_
  refine lpure (v := .int .i64 0) rfl (p_extract rfl) rfl rfl ?_
  refine lpure (v := .int .i64 s8015.1) rfl (p_assign rfl) rfl rfl ?_
  refine lpure (v := .int .i64 0) rfl (p_assign rfl) rfl rfl ?_
  refine lend (nseq (dret ?_))
  exact kcut_r (res_2 resT resT) X8032 rfl rfl
end Go.AM
