/- Printed: functions of the given program as functions over plain data, and that the machine does what they say; no claim of its own; no condition. -/
import Derived.Test.YtjemelnmlbcmeaaGFacts
set_option maxRecDepth 100000
set_option maxHeartbeats 4000000
set_option linter.unusedVariables false
set_option linter.unusedSimpArgs false
namespace Go.AM
open Go Go.Proofs

/-! isochron/isochronlaw16.line -/
theorem f38_ok {n : Nat} {φ : Fz} {lo : Nat} {h : Heap} {own : OwnL} (X : St φ lo h own) : Sim ((recN Try.prog LL cutF (n + 1)).call 38 #[] h) (m_isochronlaw16_line) (fun (d : ApiTopo) p => ∃ φ2 : Fz, ∃ a29 : Option Addr, ∃ n29 : Nat, ∃ c29 : Nat, ∃ ob29 : Option Nat, ∃ blk29 : Blk, ∃ a31 : Option Addr, ∃ n31 : Nat, ∃ c31 : Nat, ∃ ob31 : Option Nat, ∃ blk31 : Blk, Fz.le φ φ2 ∧ St φ2 lo p.2 ((ob29, blk29) :: (ob31, blk31) :: own) ∧ p.1 = .agg #[.int .i64 d.Nodes, .slice a29 n29 c29, .slice a31 n31 c31] ∧ OSl eBool φ2 4 ob29 blk29 (.slice a29 n29 c29) d.Station ∧ OSl eApiLink φ2 50 ob31 blk31 (.slice a31 n31 c31) d.Links) := by
  refine fopen Try.func38 rfl rfl rfl rfl ?_
  refine dseq ?_
  refine dreg ?_
  refine lalloc rfl tz_25 rfl rfl rfl X (fun b19 h21 X22 => ?_)
  refine lend ?_
  refine nseq ?_
  refine dseq ?_
  refine dreg ?_
  obtain ⟨h23, b23, hv23, X23, O23⟩ := OSl.lay (E := eBool) (φ := φ) (cs := [.bool true, .bool false, .bool false, .bool true]) (l := [true, false, false, true]) (len := 4) (parts := [(0, .bool true), (1, .bool false), (2, .bool false), (3, .bool true)]) un_22 ts_4 rfl rfl rfl tz_4 rfl rfl (show RowD eBool φ [.bool true, .bool false, .bool false, .bool true] [true, false, false, true] from ⟨[.bool true], _, rfl, rfl, ⟨[.bool false], _, rfl, rfl, ⟨[.bool false], _, rfl, rfl, ⟨[.bool true], _, rfl, rfl, rfl⟩⟩⟩⟩) rfl rfl X22
  refine lheap rfl (h_buildSlice rfl) hv23 rfl ?_
  refine lpure (v := .agg #[.int .i64 0, .int .i64 1, .int .i64 8, .int .i64 50]) rfl (p_build rfl) (build_st' tz_50 pl_50 rfl) rfl ?_
  refine lpure (v := .agg #[.int .i64 1, .int .i64 2, .int .i64 8, .int .i64 0]) rfl (p_build rfl) (build_st' tz_50 pl_50 rfl) rfl ?_
  refine lpure (v := .agg #[.int .i64 2, .int .i64 3, .int .i64 80, .int .i64 7]) rfl (p_build rfl) (build_st' tz_50 pl_50 rfl) rfl ?_
  obtain ⟨h25, b25, hv25, X25, O25⟩ := OSl.lay (E := eApiLink) (φ := φ) (cs := [.int .i64 0, .int .i64 1, .int .i64 8, .int .i64 50, .int .i64 1, .int .i64 2, .int .i64 8, .int .i64 0, .int .i64 2, .int .i64 3, .int .i64 80, .int .i64 7]) (l := [(ApiLink.mk 0 1 8 50), (ApiLink.mk 1 2 8 0), (ApiLink.mk 2 3 80 7)]) (len := 3) (parts := [(0, .agg #[.int .i64 0, .int .i64 1, .int .i64 8, .int .i64 50]), (1, .agg #[.int .i64 1, .int .i64 2, .int .i64 8, .int .i64 0]), (2, .agg #[.int .i64 2, .int .i64 3, .int .i64 80, .int .i64 7])]) un_23 ts_50 rfl rfl rfl tz_50 rfl rfl (show RowD eApiLink φ [.int .i64 0, .int .i64 1, .int .i64 8, .int .i64 50, .int .i64 1, .int .i64 2, .int .i64 8, .int .i64 0, .int .i64 2, .int .i64 3, .int .i64 80, .int .i64 7] [(ApiLink.mk 0 1 8 50), (ApiLink.mk 1 2 8 0), (ApiLink.mk 2 3 80 7)] from ⟨[.int .i64 0, .int .i64 1, .int .i64 8, .int .i64 50], _, rfl, ⟨_, _, rfl, rfl, ⟨_, _, rfl, rfl, ⟨_, _, rfl, rfl, ⟨_, _, rfl, rfl, rfl⟩⟩⟩⟩, ⟨[.int .i64 1, .int .i64 2, .int .i64 8, .int .i64 0], _, rfl, ⟨_, _, rfl, rfl, ⟨_, _, rfl, rfl, ⟨_, _, rfl, rfl, ⟨_, _, rfl, rfl, rfl⟩⟩⟩⟩, ⟨[.int .i64 2, .int .i64 3, .int .i64 80, .int .i64 7], _, rfl, ⟨_, _, rfl, rfl, ⟨_, _, rfl, rfl, ⟨_, _, rfl, rfl, ⟨_, _, rfl, rfl, rfl⟩⟩⟩⟩, rfl⟩⟩⟩) rfl rfl X23
  refine lheap rfl (h_buildSlice rfl) hv25 rfl ?_
  refine lpure (v := .agg #[.int .i64 4, .slice (some ⟨b23, 0, none⟩) 4 4, .slice (some ⟨b25, 0, none⟩) 3 3]) rfl (p_build rfl) (build_st' tz_25 pl_25 rfl) rfl ?_
  refine lstore rfl ts_25 rfl rfl (j := 2) rfl rfl rfl rfl rfl rfl X25 (fun h27 X28 => ?_)
  refine lend ?_
  refine nseq ?_
  refine dret ?_
  exact kopen_r (res_1 (resC wd_25 (St.ld X28 (j := 2) rfl rfl))) ⟨φ, ((some ⟨b23, 0, none⟩)), 4, 4, (some b23), ((.cells [.bool true, .bool false, .bool false, .bool true] 4 .exact)), ((some ⟨b25, 0, none⟩)), 3, 3, (some b25), ((.cells [.int .i64 0, .int .i64 1, .int .i64 8, .int .i64 50, .int .i64 1, .int .i64 2, .int .i64 8, .int .i64 0, .int .i64 2, .int .i64 3, .int .i64 80, .int .i64 7] 50 .exact)), (Fz.le_refl _), St.pick (St.front X28 (j := 1) rfl) (.keep _ (.keep _ (.skip _ (.refl _)))), rfl, O23, O25⟩
/-! isochron/topo.isNode -/
theorem f39_ok {n : Nat} {φ : Fz} {lo : Nat} {h : Heap} {own : OwnL} (X : St φ lo h own) (p113 : ApiTopo) (p116 : Int) {a114 : Option Addr} {n114 c114 : Nat} {a115 : Option Addr} {n115 c115 : Nat} (H114 : RSl eBool φ (.slice a114 n114 c114) p113.Station) (H115 : RSl eApiLink φ (.slice a115 n115 c115) p113.Links) : Sim ((recN Try.prog LL cutF (n + 1)).call 39 #[(.agg #[.int .i64 p113.Nodes, .slice a114 n114 c114, .slice a115 n115 c115]), (.int .i64 p116)] h) (m_topo_isNode p113 p116) (fun (d : Bool) p => p = (.bool d, h)) := by
  refine fcut Try.func39 rfl rfl rfl rfl X ?_
  intro h0 X0
  refine dseq ?_
  refine dreg ?_
  refine lbox rfl rfl rfl rfl rfl X0 (fun b117 h119 X120 => ?_)
  refine lpure (v := .bool false) rfl (p_assign rfl) rfl rfl ?_
  refine lend ?_
  refine nseq ?_
  refine dseq ?_
  refine dreg ?_
  refine lpure (v := .int .i64 p116) rfl (p_move rfl) rfl rfl ?_
  refine lpure (v := .bool (decide (0 ≤ p116))) rfl (p_ge rfl) rfl rfl ?_
  refine lpure (v := .bool (decide (0 ≤ p116))) rfl (p_move rfl) rfl rfl ?_
  refine lsh (τ := Bool) (σ := Unit) (fun s122 (_ : Unit) => [(12, .bool s122)]) (fun s122 (_ : Unit) hh => St φ h.n hh ([(some b117, .cells [.int .i64 p113.Nodes, .slice a114 n114 c114, .slice a115 n115 c115] 25 .exact)])) 5 ?_ ?_
  · rintro s122 _ t0 h124 X123
    refine lpure (v := .bool s122) rfl (p_assign rfl) rfl rfl ?_
    refine lend ?_
    refine nseq ?_
    refine dret ?_
    exact kcut_r (res_1 resT) X123 rfl rfl
  · intro j125 J126
    refine lcase (i := 7) (show _ = Value.bool (decide (0 ≤ p116)) from rfl) (fun k127 => ?_) (fun k127 => ?_)
    · refine lpure (v := .int .i64 p116) rfl (p_move rfl) rfl rfl ?_
      refine lpure (v := .pointer (some ⟨b117, 0, none⟩)) rfl (p_fa fo_25_0 rfl) rfl rfl ?_
      refine lread (v := .int .i64 p113.Nodes) rfl (q_load wd_3 rfl) (St.ld X120 (j := 0) rfl rfl) rfl ?_
      refine lpure (v := .bool (decide (p116 < p113.Nodes))) rfl (p_lt rfl) rfl rfl ?_
      refine lpure (v := .bool (decide (p116 < p113.Nodes))) rfl (p_pick rfl) rfl rfl ?_
      refine Sim.of_eq (congrArg j125 (show ((decide (0 ≤ p116)) && (decide (p116 < p113.Nodes))) = (decide (p116 < p113.Nodes)) from by rw [k127] <;> rfl)) ?_
      exact ljmpM J126 (decide (p116 < p113.Nodes)) () (sub_cons rfl sub_nil) X120
    · refine lskip rfl rfl ?_
      refine lskip rfl rfl ?_
      refine lskip rfl rfl ?_
      refine lskip rfl rfl ?_
      refine lpure (v := .bool false) rfl (p_pick rfl) rfl rfl ?_
      refine Sim.of_eq (congrArg j125 (show ((decide (0 ≤ p116)) && (decide (p116 < p113.Nodes))) = false from by rw [k127] <;> rfl)) ?_
      exact ljmpM J126 false () (sub_cons rfl sub_nil) X120
/-! isochron/topo.validLink -/
theorem f57_ok {n : Nat} {φ : Fz} {lo : Nat} {h : Heap} {own : OwnL} (X : St φ lo h own) (p86 : ApiTopo) (p89 : Int) {a87 : Option Addr} {n87 c87 : Nat} {a88 : Option Addr} {n88 c88 : Nat} (H87 : RSl eBool φ (.slice a87 n87 c87) p86.Station) (H88 : RSl eApiLink φ (.slice a88 n88 c88) p86.Links) : Sim ((recN Try.prog LL cutF (n + 5)).call 57 #[(.agg #[.int .i64 p86.Nodes, .slice a87 n87 c87, .slice a88 n88 c88]), (.int .i64 p89)] h) (m_topo_validLink p86 p89) (fun (d : Bool) p => p = (.bool d, h)) := by
  refine fcut Try.func57 rfl rfl rfl rfl X ?_
  intro h0 X0
  refine dseq ?_
  refine dreg ?_
  refine lbox rfl rfl rfl rfl rfl X0 (fun b90 h92 X93 => ?_)
  refine lbox rfl rfl rfl rfl rfl X93 (fun b94 h96 X97 => ?_)
  refine lpure (v := .bool false) rfl (p_assign rfl) rfl rfl ?_
  refine lend ?_
  refine nseq ?_
  refine dseq ?_
  refine dreg ?_
  refine lpure (v := .pointer (some ⟨b90, 2, none⟩)) rfl (p_fa fo_25_2 rfl) rfl rfl ?_
  refine lread (v := .slice a88 n88 c88) rfl (q_load wd_23 rfl) (St.ld X97 (j := 1) rfl rfl) rfl ?_
  refine lread (v := .int .i64 p89) rfl (q_load wd_3 rfl) (St.ld X97 (j := 0) rfl rfl) rfl ?_
  refine Sim.bindM fun e98 he99 => ?_
  obtain ⟨p100, cs100, hp100, hF100, hR100⟩ := RSl.ia H88 he99 (kd := .i64) (n := 4) rfl
  obtain rfl := eApiLink_el hR100
  refine lpure (v := p100) rfl (p_ia rs_23 rfl) hp100 rfl ?_
  refine lread (v := .agg #[.int .i64 e98.A, .int .i64 e98.B, .int .i64 e98.Per, .int .i64 e98.Delay]) rfl (q_load wd_50 rfl) (FP.ldw X97 hF100 rfl rfl) rfl ?_
  refine lalloc rfl tz_50 rfl rfl rfl X97 (fun b101 h103 X104 => ?_)
  refine lstore rfl ts_50 rfl rfl (j := 0) rfl rfl rfl rfl rfl rfl X104 (fun h105 X106 => ?_)
  refine lend ?_
  refine nseq ?_
  refine dseq ?_
  refine dreg ?_
  refine lpure (v := .func (.func 65) #[] #[.pointer (some ⟨b90, 0, none⟩), .pointer (some ⟨b101, 0, none⟩)]) rfl (p_makeFunc rfl) rfl rfl ?_
  refine lpure (v := .func (.func 66) #[] #[.pointer (some ⟨b90, 0, none⟩), .pointer (some ⟨b101, 0, none⟩)]) rfl (p_makeFunc rfl) rfl rfl ?_
  refine lpure (v := .func (.func 67) #[] #[.pointer (some ⟨b101, 0, none⟩)]) rfl (p_makeFunc rfl) rfl rfl ?_
  refine lpure (v := .func (.func 68) #[] #[.pointer (some ⟨b90, 0, none⟩), .pointer (some ⟨b94, 0, none⟩), .pointer (some ⟨b101, 0, none⟩)]) rfl (p_makeFunc rfl) rfl rfl ?_
  refine lpure (v := .agg #[.func (.func 65) #[] #[.pointer (some ⟨b90, 0, none⟩), .pointer (some ⟨b101, 0, none⟩)], .func (.func 66) #[] #[.pointer (some ⟨b90, 0, none⟩), .pointer (some ⟨b101, 0, none⟩)], .func (.func 67) #[] #[.pointer (some ⟨b101, 0, none⟩)], .func (.func 68) #[] #[.pointer (some ⟨b90, 0, none⟩), .pointer (some ⟨b94, 0, none⟩), .pointer (some ⟨b101, 0, none⟩)]]) rfl (p_build rfl) (build_ar' tz_85 ae_85 rfl) rfl ?_
  refine lalloc rfl tz_85 rfl rfl rfl X106 (fun b107 h109 X110 => ?_)
  refine lstore rfl ts_85 rfl rfl (j := 0) rfl rfl rfl rfl rfl rfl X110 (fun h111 X112 => ?_)
  refine lend ?_
  refine nseq ?_
  refine dseq ?_
  refine dseq ?_
  refine dreg ?_
  refine lread (v := .agg #[.func (.func 65) #[] #[.pointer (some ⟨b90, 0, none⟩), .pointer (some ⟨b101, 0, none⟩)], .func (.func 66) #[] #[.pointer (some ⟨b90, 0, none⟩), .pointer (some ⟨b101, 0, none⟩)], .func (.func 67) #[] #[.pointer (some ⟨b101, 0, none⟩)], .func (.func 68) #[] #[.pointer (some ⟨b90, 0, none⟩), .pointer (some ⟨b94, 0, none⟩), .pointer (some ⟨b101, 0, none⟩)]]) rfl (q_load wd_85 rfl) (St.ld X112 (j := 0) rfl rfl) rfl ?_
  refine lpure (v := .int .i64 0) rfl (p_move rfl) rfl rfl ?_
  refine lend ?_
  refine nseq ?_
  refine dblock ?_
  refine dunroll 999999 rfl ?_
  refine dseq ?_
  refine dreg ?_
  refine lpure (v := .bool true) rfl (p_lt rfl) rfl rfl ?_
  refine lend ?_
  refine nseq ?_
  refine dseq ?_
  refine dcondT rfl rfl ?_
  refine dskip ?_
  refine nseq ?_
  refine dseq ?_
  refine dblock ?_
  refine dseq ?_
  refine dreg ?_
  refine lpure (v := .func (.func 65) #[] #[.pointer (some ⟨b90, 0, none⟩), .pointer (some ⟨b101, 0, none⟩)]) rfl (p_index as_85 rfl) rfl rfl ?_
  refine lpure (v := .func (.func 65) #[] #[.pointer (some ⟨b90, 0, none⟩), .pointer (some ⟨b101, 0, none⟩)]) rfl (p_assign rfl) rfl rfl ?_
  refine lend ?_
  refine nseq ?_
  refine dseq ?_
  refine dreg ?_
  refine lpure (v := .func (.func 65) #[] #[.pointer (some ⟨b90, 0, none⟩), .pointer (some ⟨b101, 0, none⟩)]) rfl (p_move rfl) rfl rfl ?_
  refine linl rfl rfl rfl rfl ca_65 rfl Try.func65 rfl rfl rfl rfl rfl ?_
  refine dseq ?_
  refine dreg ?_
  refine lpure (v := .bool false) rfl (p_assign rfl) rfl rfl ?_
  refine lend ?_
  refine nseq ?_
  refine dseq ?_
  refine dreg ?_
  refine lread (v := .agg #[.int .i64 p86.Nodes, .slice a87 n87 c87, .slice a88 n88 c88]) rfl (q_load wd_25 rfl) (St.ld X112 (j := 3) rfl rfl) rfl ?_
  refine lpure (v := .pointer (some ⟨b101, 0, none⟩)) rfl (p_fa fo_50_0 rfl) rfl rfl ?_
  refine lread (v := .int .i64 e98.A) rfl (q_load wd_3 rfl) (St.ld X112 (j := 1) rfl rfl) rfl ?_
  refine lcall rfl rfl ca_39 rfl rfl (f39_ok X112 p86 (e98.A) H87 H88) rfl (fun e128 v129 h130 hq131 => ?_)
  cases hq131
  refine lpure (v := .bool e128) rfl (p_move rfl) rfl rfl ?_
  refine ljoinM (τ := Bool) (σ := Unit) (fun s138 (_ : Unit) => [(1, .pointer (some ⟨b101, 0, none⟩)), (12, .bool s138)]) (fun s138 (_ : Unit) hh => St φ h.n hh ([(some b107, .cells [.func (.func 65) #[] #[.pointer (some ⟨b90, 0, none⟩), .pointer (some ⟨b101, 0, none⟩)], .func (.func 66) #[] #[.pointer (some ⟨b90, 0, none⟩), .pointer (some ⟨b101, 0, none⟩)], .func (.func 67) #[] #[.pointer (some ⟨b101, 0, none⟩)], .func (.func 68) #[] #[.pointer (some ⟨b90, 0, none⟩), .pointer (some ⟨b94, 0, none⟩), .pointer (some ⟨b101, 0, none⟩)]] 85 .exact), (some b101, .cells [.int .i64 e98.A, .int .i64 e98.B, .int .i64 e98.Per, .int .i64 e98.Delay] 50 .exact), (some b94, .cells [.int .i64 p89] 3 .exact), (some b90, .cells [.int .i64 p86.Nodes, .slice a87 n87 c87, .slice a88 n88 c88] 25 .exact)])) 5 ?_ ?_
  · rintro s138 _ t0 h140 X139
    refine lpure (v := .bool s138) rfl (p_move rfl) rfl rfl ?_
    refine lsh (τ := Bool) (σ := Unit) (fun s142 (_ : Unit) => [(19, .bool s142)]) (fun s142 (_ : Unit) hh => St φ h.n hh ([(some b107, .cells [.func (.func 65) #[] #[.pointer (some ⟨b90, 0, none⟩), .pointer (some ⟨b101, 0, none⟩)], .func (.func 66) #[] #[.pointer (some ⟨b90, 0, none⟩), .pointer (some ⟨b101, 0, none⟩)], .func (.func 67) #[] #[.pointer (some ⟨b101, 0, none⟩)], .func (.func 68) #[] #[.pointer (some ⟨b90, 0, none⟩), .pointer (some ⟨b94, 0, none⟩), .pointer (some ⟨b101, 0, none⟩)]] 85 .exact), (some b101, .cells [.int .i64 e98.A, .int .i64 e98.B, .int .i64 e98.Per, .int .i64 e98.Delay] 50 .exact), (some b94, .cells [.int .i64 p89] 3 .exact), (some b90, .cells [.int .i64 p86.Nodes, .slice a87 n87 c87, .slice a88 n88 c88] 25 .exact)])) 6 ?_ ?_
    · rintro s142 _ t0 h144 X143
      refine lpure (v := .bool s142) rfl (p_assign rfl) rfl rfl ?_
      refine lend ?_
      refine nseq ?_
      refine dret ?_
      refine kin_r (res_1 resT) ?_
      refine lpure (v := .bool (!s142)) rfl (p_not rfl) rfl rfl ?_
      refine lend ?_
      refine nseq ?_
      refine dcond rfl rfl (fun k145 => ?_) (fun k145 => ?_)
      · refine dseq ?_
        refine dreg ?_
        refine lpure (v := .bool false) rfl (p_assign rfl) rfl rfl ?_
        refine lend ?_
        refine nseq ?_
        refine dret ?_
        refine rblock ?_
        refine rseq ?_
        refine rloop ?_
        refine rblock ?_
        refine rseq ?_
        exact kcut_r (res_1 resT) X143 rfl rfl
      · refine dskip ?_
        refine nblock ?_
        refine nseq ?_
        refine dreg ?_
        refine lpure (v := .int .i64 1) rfl (p_add rfl) rfl rfl ?_
        refine lpure (v := .int .i64 1) rfl (p_move rfl) rfl rfl ?_
        refine lend ?_
        refine nunroll 999998 rfl ?_
        refine dseq ?_
        refine dreg ?_
        refine lpure (v := .bool true) rfl (p_lt rfl) rfl rfl ?_
        refine lend ?_
        refine nseq ?_
        refine dseq ?_
        refine dcondT rfl rfl ?_
        refine dskip ?_
        refine nseq ?_
        refine dseq ?_
        refine dblock ?_
        refine dseq ?_
        refine dreg ?_
        refine lpure (v := .func (.func 66) #[] #[.pointer (some ⟨b90, 0, none⟩), .pointer (some ⟨b101, 0, none⟩)]) rfl (p_index as_85 rfl) rfl rfl ?_
        refine lpure (v := .func (.func 66) #[] #[.pointer (some ⟨b90, 0, none⟩), .pointer (some ⟨b101, 0, none⟩)]) rfl (p_assign rfl) rfl rfl ?_
        refine lend ?_
        refine nseq ?_
        refine dseq ?_
        refine dreg ?_
        refine lpure (v := .func (.func 66) #[] #[.pointer (some ⟨b90, 0, none⟩), .pointer (some ⟨b101, 0, none⟩)]) rfl (p_move rfl) rfl rfl ?_
        refine linl rfl rfl rfl rfl ca_66 rfl Try.func66 rfl rfl rfl rfl rfl ?_
        refine dseq ?_
        refine dreg ?_
        refine lpure (v := .bool false) rfl (p_assign rfl) rfl rfl ?_
        refine lend ?_
        refine nseq ?_
        refine dseq ?_
        refine dreg ?_
        refine lpure (v := .pointer (some ⟨b90, 1, none⟩)) rfl (p_fa fo_25_1 rfl) rfl rfl ?_
        refine lread (v := .slice a87 n87 c87) rfl (q_load wd_22 rfl) (St.ld X143 (j := 3) rfl rfl) rfl ?_
        refine lpure (v := .pointer (some ⟨b101, 0, none⟩)) rfl (p_fa fo_50_0 rfl) rfl rfl ?_
        refine lread (v := .int .i64 e98.A) rfl (q_load wd_3 rfl) (St.ld X143 (j := 1) rfl rfl) rfl ?_
        refine Sim.bindM fun e146 he147 => ?_
        obtain ⟨p148, cs148, hp148, hF148, hR148⟩ := RSl.ia H87 he147 (kd := .i64) (n := 1) rfl
        have hR148 : _ = [(.bool e146 : Value)] := hR148
        subst hR148
        refine lpure (v := p148) rfl (p_ia rs_22 rfl) hp148 rfl ?_
        refine lread (v := .bool e146) rfl (q_load wd_4 rfl) (FP.ld X143 hF148) rfl ?_
        refine lpure (v := .bool (!e146)) rfl (p_not rfl) rfl rfl ?_
        refine lpure (v := .bool (!e146)) rfl (p_move rfl) rfl rfl ?_
        refine ljoinM (τ := Bool) (σ := Unit) (fun s154 (_ : Unit) => [(18, .bool s154)]) (fun s154 (_ : Unit) hh => St φ h.n hh ([(some b107, .cells [.func (.func 65) #[] #[.pointer (some ⟨b90, 0, none⟩), .pointer (some ⟨b101, 0, none⟩)], .func (.func 66) #[] #[.pointer (some ⟨b90, 0, none⟩), .pointer (some ⟨b101, 0, none⟩)], .func (.func 67) #[] #[.pointer (some ⟨b101, 0, none⟩)], .func (.func 68) #[] #[.pointer (some ⟨b90, 0, none⟩), .pointer (some ⟨b94, 0, none⟩), .pointer (some ⟨b101, 0, none⟩)]] 85 .exact), (some b101, .cells [.int .i64 e98.A, .int .i64 e98.B, .int .i64 e98.Per, .int .i64 e98.Delay] 50 .exact), (some b94, .cells [.int .i64 p89] 3 .exact), (some b90, .cells [.int .i64 p86.Nodes, .slice a87 n87 c87, .slice a88 n88 c88] 25 .exact)])) 8 ?_ ?_
        · rintro s154 _ t0 h156 X155
          refine lpure (v := .bool s154) rfl (p_assign rfl) rfl rfl ?_
          refine lend ?_
          refine nseq ?_
          refine dret ?_
          refine kin_r (res_1 resT) ?_
          refine lpure (v := .bool (!s154)) rfl (p_not rfl) rfl rfl ?_
          refine lend ?_
          refine nseq ?_
          refine dcond rfl rfl (fun k157 => ?_) (fun k157 => ?_)
          · refine dseq ?_
            refine dreg ?_
            refine lpure (v := .bool false) rfl (p_assign rfl) rfl rfl ?_
            refine lend ?_
            refine nseq ?_
            refine dret ?_
            refine rblock ?_
            refine rseq ?_
            refine rloop ?_
            refine rblock ?_
            refine rseq ?_
            exact kcut_r (res_1 resT) X155 rfl rfl
          · refine dskip ?_
            refine nblock ?_
            refine nseq ?_
            refine dreg ?_
            refine lpure (v := .int .i64 2) rfl (p_add rfl) rfl rfl ?_
            refine lpure (v := .int .i64 2) rfl (p_move rfl) rfl rfl ?_
            refine lend ?_
            refine nunroll 999997 rfl ?_
            refine dseq ?_
            refine dreg ?_
            refine lpure (v := .bool true) rfl (p_lt rfl) rfl rfl ?_
            refine lend ?_
            refine nseq ?_
            refine dseq ?_
            refine dcondT rfl rfl ?_
            refine dskip ?_
            refine nseq ?_
            refine dseq ?_
            refine dblock ?_
            refine dseq ?_
            refine dreg ?_
            refine lpure (v := .func (.func 67) #[] #[.pointer (some ⟨b101, 0, none⟩)]) rfl (p_index as_85 rfl) rfl rfl ?_
            refine lpure (v := .func (.func 67) #[] #[.pointer (some ⟨b101, 0, none⟩)]) rfl (p_assign rfl) rfl rfl ?_
            refine lend ?_
            refine nseq ?_
            refine dseq ?_
            refine dreg ?_
            refine lpure (v := .func (.func 67) #[] #[.pointer (some ⟨b101, 0, none⟩)]) rfl (p_move rfl) rfl rfl ?_
            refine linl rfl rfl rfl rfl ca_67 rfl Try.func67 rfl rfl rfl rfl rfl ?_
            refine dseq ?_
            refine dreg ?_
            refine lpure (v := .bool false) rfl (p_assign rfl) rfl rfl ?_
            refine lend ?_
            refine nseq ?_
            refine dseq ?_
            refine dreg ?_
            refine lpure (v := .pointer (some ⟨b101, 2, none⟩)) rfl (p_fa fo_50_2 rfl) rfl rfl ?_
            refine lread (v := .int .i64 e98.Per) rfl (q_load wd_3 rfl) (St.ld X155 (j := 1) rfl rfl) rfl ?_
            refine lpure (v := .bool (decide (1 ≤ e98.Per))) rfl (p_ge rfl) rfl rfl ?_
            refine lpure (v := .bool (decide (1 ≤ e98.Per))) rfl (p_move rfl) rfl rfl ?_
            refine lsh (τ := Bool) (σ := Unit) (fun s159 (_ : Unit) => [(0, .pointer (some ⟨b101, 0, none⟩)), (9, .bool s159)]) (fun s159 (_ : Unit) hh => St φ h.n hh ([(some b107, .cells [.func (.func 65) #[] #[.pointer (some ⟨b90, 0, none⟩), .pointer (some ⟨b101, 0, none⟩)], .func (.func 66) #[] #[.pointer (some ⟨b90, 0, none⟩), .pointer (some ⟨b101, 0, none⟩)], .func (.func 67) #[] #[.pointer (some ⟨b101, 0, none⟩)], .func (.func 68) #[] #[.pointer (some ⟨b90, 0, none⟩), .pointer (some ⟨b94, 0, none⟩), .pointer (some ⟨b101, 0, none⟩)]] 85 .exact), (some b101, .cells [.int .i64 e98.A, .int .i64 e98.B, .int .i64 e98.Per, .int .i64 e98.Delay] 50 .exact), (some b94, .cells [.int .i64 p89] 3 .exact), (some b90, .cells [.int .i64 p86.Nodes, .slice a87 n87 c87, .slice a88 n88 c88] 25 .exact)])) 4 ?_ ?_
            · rintro s159 _ t0 h161 X160
              refine lpure (v := .bool s159) rfl (p_move rfl) rfl rfl ?_
              refine lsh (τ := Bool) (σ := Unit) (fun s163 (_ : Unit) => [(0, .pointer (some ⟨b101, 0, none⟩)), (14, .bool s163)]) (fun s163 (_ : Unit) hh => St φ h.n hh ([(some b107, .cells [.func (.func 65) #[] #[.pointer (some ⟨b90, 0, none⟩), .pointer (some ⟨b101, 0, none⟩)], .func (.func 66) #[] #[.pointer (some ⟨b90, 0, none⟩), .pointer (some ⟨b101, 0, none⟩)], .func (.func 67) #[] #[.pointer (some ⟨b101, 0, none⟩)], .func (.func 68) #[] #[.pointer (some ⟨b90, 0, none⟩), .pointer (some ⟨b94, 0, none⟩), .pointer (some ⟨b101, 0, none⟩)]] 85 .exact), (some b101, .cells [.int .i64 e98.A, .int .i64 e98.B, .int .i64 e98.Per, .int .i64 e98.Delay] 50 .exact), (some b94, .cells [.int .i64 p89] 3 .exact), (some b90, .cells [.int .i64 p86.Nodes, .slice a87 n87 c87, .slice a88 n88 c88] 25 .exact)])) 4 ?_ ?_
              · rintro s163 _ t0 h165 X164
                refine lpure (v := .bool s163) rfl (p_move rfl) rfl rfl ?_
                refine lsh (τ := Bool) (σ := Unit) (fun s167 (_ : Unit) => [(19, .bool s167)]) (fun s167 (_ : Unit) hh => St φ h.n hh ([(some b107, .cells [.func (.func 65) #[] #[.pointer (some ⟨b90, 0, none⟩), .pointer (some ⟨b101, 0, none⟩)], .func (.func 66) #[] #[.pointer (some ⟨b90, 0, none⟩), .pointer (some ⟨b101, 0, none⟩)], .func (.func 67) #[] #[.pointer (some ⟨b101, 0, none⟩)], .func (.func 68) #[] #[.pointer (some ⟨b90, 0, none⟩), .pointer (some ⟨b94, 0, none⟩), .pointer (some ⟨b101, 0, none⟩)]] 85 .exact), (some b101, .cells [.int .i64 e98.A, .int .i64 e98.B, .int .i64 e98.Per, .int .i64 e98.Delay] 50 .exact), (some b94, .cells [.int .i64 p89] 3 .exact), (some b90, .cells [.int .i64 p86.Nodes, .slice a87 n87 c87, .slice a88 n88 c88] 25 .exact)])) 4 ?_ ?_
                · rintro s167 _ t0 h169 X168
                  refine lpure (v := .bool s167) rfl (p_assign rfl) rfl rfl ?_
                  refine lend ?_
                  refine nseq ?_
                  refine dret ?_
                  refine kin_r (res_1 resT) ?_
                  refine lpure (v := .bool (!s167)) rfl (p_not rfl) rfl rfl ?_
                  refine lend ?_
                  refine nseq ?_
                  refine dcond rfl rfl (fun k170 => ?_) (fun k170 => ?_)
                  · refine dseq ?_
                    refine dreg ?_
                    refine lpure (v := .bool false) rfl (p_assign rfl) rfl rfl ?_
                    refine lend ?_
                    refine nseq ?_
                    refine dret ?_
                    refine rblock ?_
                    refine rseq ?_
                    refine rloop ?_
                    refine rblock ?_
                    refine rseq ?_
                    exact kcut_r (res_1 resT) X168 rfl rfl
                  · refine dskip ?_
                    refine nblock ?_
                    refine nseq ?_
                    refine dreg ?_
                    refine lpure (v := .int .i64 3) rfl (p_add rfl) rfl rfl ?_
                    refine lpure (v := .int .i64 3) rfl (p_move rfl) rfl rfl ?_
                    refine lend ?_
                    refine nunroll 999996 rfl ?_
                    refine dseq ?_
                    refine dreg ?_
                    refine lpure (v := .bool true) rfl (p_lt rfl) rfl rfl ?_
                    refine lend ?_
                    refine nseq ?_
                    refine dseq ?_
                    refine dcondT rfl rfl ?_
                    refine dskip ?_
                    refine nseq ?_
                    refine dseq ?_
                    refine dblock ?_
                    refine dseq ?_
                    refine dreg ?_
                    refine lpure (v := .func (.func 68) #[] #[.pointer (some ⟨b90, 0, none⟩), .pointer (some ⟨b94, 0, none⟩), .pointer (some ⟨b101, 0, none⟩)]) rfl (p_index as_85 rfl) rfl rfl ?_
                    refine lpure (v := .func (.func 68) #[] #[.pointer (some ⟨b90, 0, none⟩), .pointer (some ⟨b94, 0, none⟩), .pointer (some ⟨b101, 0, none⟩)]) rfl (p_assign rfl) rfl rfl ?_
                    refine lend ?_
                    refine nseq ?_
                    refine dseq ?_
                    refine dreg ?_
                    refine lpure (v := .func (.func 68) #[] #[.pointer (some ⟨b90, 0, none⟩), .pointer (some ⟨b94, 0, none⟩), .pointer (some ⟨b101, 0, none⟩)]) rfl (p_move rfl) rfl rfl ?_
                    refine linl rfl rfl rfl rfl ca_68 rfl Try.func68 rfl rfl rfl rfl rfl ?_
                    refine dseq ?_
                    refine dreg ?_
                    refine lpure (v := .bool false) rfl (p_assign rfl) rfl rfl ?_
                    refine lend ?_
                    refine nseq ?_
                    refine dseq ?_
                    refine dreg ?_
                    refine lpure (v := .pointer (some ⟨b90, 2, none⟩)) rfl (p_fa fo_25_2 rfl) rfl rfl ?_
                    refine lread (v := .slice a88 n88 c88) rfl (q_load wd_23 rfl) (St.ld X168 (j := 3) rfl rfl) rfl ?_
                    refine lread (v := .int .i64 p89) rfl (q_load wd_3 rfl) (St.ld X168 (j := 2) rfl rfl) rfl ?_
                    refine Sim.mustM fun k171 => ?_
                    have k171 := of_decide_eq_true k171
                    obtain ⟨a171, n171, c171, hv171, H171⟩ := RSl.slice H88 X168 un_23 ts_50 rfl bnd_none (bnd_int (show 0 ≤ p89 from by omega)) (by omega) (by omega)
                    refine lread rfl (q_slice rfl (evo_ok rfl) (evo_ok rfl) (evo_ok rfl)) hv171 rfl ?_
                    refine lpure (v := .func (.func 70) #[] #[.pointer (some ⟨b101, 0, none⟩)]) rfl (p_makeFunc rfl) rfl rfl ?_
                    refine linl rfl rfl rfl rfl ca_69 rfl Try.func69 rfl rfl rfl rfl rfl ?_
                    refine dseq ?_
                    refine dreg ?_
                    refine lpure (v := .bool false) rfl (p_assign rfl) rfl rfl ?_
                    refine lend ?_
                    refine nseq ?_
                    refine dseq ?_
                    refine dreg ?_
                    refine lpure (v := .slice a171 n171 c171) rfl (p_move rfl) rfl rfl ?_
                    refine lpure (v := .func (.func 70) #[] #[.pointer (some ⟨b101, 0, none⟩)]) rfl (p_move rfl) rfl rfl ?_
                    refine linl rfl rfl rfl rfl ca_82 rfl Try.func82 rfl rfl rfl rfl rfl ?_
                    refine dseq ?_
                    refine dreg ?_
                    refine lpure (v := .int .i64 0) rfl (p_assign rfl) rfl rfl ?_
                    refine lend ?_
                    refine nseq ?_
                    refine dseq ?_
                    refine dseq ?_
                    refine dreg ?_
                    refine lpure (v := .slice a171 n171 c171) rfl (p_move rfl) rfl rfl ?_
                    refine lpure (v := .int .i64 ((p86.Links.take (p89).toNat).length : Int)) rfl (p_len rfl rfl rfl un_23 rfl) (RSl.lenC H171) rfl ?_
                    refine lpure (v := .int .i64 0) rfl (p_move rfl) rfl rfl ?_
                    refine lend ?_
                    refine nseq ?_
                    refine dblock ?_
                    refine dloopM (τ := Int) (σ := Unit) (fun s227 (_ : Unit) => [(0, .slice a171 n171 c171), (1, .func (.func 70) #[] #[.pointer (some ⟨b101, 0, none⟩)]), (7, .int .i64 ((p86.Links.take (p89).toNat).length : Int)), (8, .int .i64 s227)]) (fun s227 (_ : Unit) hh => St φ h.n hh ([(some b107, .cells [.func (.func 65) #[] #[.pointer (some ⟨b90, 0, none⟩), .pointer (some ⟨b101, 0, none⟩)], .func (.func 66) #[] #[.pointer (some ⟨b90, 0, none⟩), .pointer (some ⟨b101, 0, none⟩)], .func (.func 67) #[] #[.pointer (some ⟨b101, 0, none⟩)], .func (.func 68) #[] #[.pointer (some ⟨b90, 0, none⟩), .pointer (some ⟨b94, 0, none⟩), .pointer (some ⟨b101, 0, none⟩)]] 85 .exact), (some b101, .cells [.int .i64 e98.A, .int .i64 e98.B, .int .i64 e98.Per, .int .i64 e98.Delay] 50 .exact), (some b94, .cells [.int .i64 p89] 3 .exact), (some b90, .cells [.int .i64 p86.Nodes, .slice a87 n87 c87, .slice a88 n88 c88] 25 .exact)])) 0 () (sub_cons rfl (sub_cons rfl (sub_cons rfl (sub_cons rfl sub_nil)))) X168 ?_
                    rintro n257 ih256 s227 _ t0 h259 X258
                    refine dseq ?_
                    refine dreg ?_
                    refine lpure (v := .bool (decide (s227 < ((p86.Links.take (p89).toNat).length : Int)))) rfl (p_lt rfl) rfl rfl ?_
                    refine lend ?_
                    refine nseq ?_
                    refine dseq ?_
                    refine dcond rfl rfl (fun k260 => ?_) (fun k260 => ?_)
                    · refine dskip ?_
                      refine nseq ?_
                      refine dseq ?_
                      refine dblock ?_
                      refine dseq ?_
                      refine dreg ?_
                      refine lpure (v := .int .i64 s227) rfl (p_move rfl) rfl rfl ?_
                      refine lpure (v := .int .i64 s227) rfl (p_assign rfl) rfl rfl ?_
                      refine lend ?_
                      refine nseq ?_
                      refine dseq ?_
                      refine dreg ?_
                      refine lpure (v := .func (.func 70) #[] #[.pointer (some ⟨b101, 0, none⟩)]) rfl (p_move rfl) rfl rfl ?_
                      refine lpure (v := .slice a171 n171 c171) rfl (p_move rfl) rfl rfl ?_
                      refine lpure (v := .int .i64 s227) rfl (p_move rfl) rfl rfl ?_
                      refine Sim.bindM fun e261 he262 => ?_
                      obtain ⟨p263, cs263, hp263, hF263, hR263⟩ := RSl.ia H171 he262 (kd := .i64) (n := 4) rfl
                      obtain rfl := eApiLink_el hR263
                      refine lpure (v := p263) rfl (p_ia rs_23 rfl) hp263 rfl ?_
                      refine lread (v := .agg #[.int .i64 e261.A, .int .i64 e261.B, .int .i64 e261.Per, .int .i64 e261.Delay]) rfl (q_load wd_50 rfl) (FP.ldw X258 hF263 rfl rfl) rfl ?_
                      refine linl rfl rfl rfl rfl ca_70 rfl Try.func70 rfl rfl rfl rfl rfl ?_
                      refine dseq ?_
                      refine dreg ?_
                      refine lbox rfl rfl rfl rfl rfl X258 (fun b264 h266 X267 => ?_)
                      refine lpure (v := .bool false) rfl (p_assign rfl) rfl rfl ?_
                      refine lend ?_
                      refine nseq ?_
                      refine dseq ?_
                      refine dreg ?_
                      refine lpure (v := .pointer (some ⟨b264, 0, none⟩)) rfl (p_fa fo_50_0 rfl) rfl rfl ?_
                      refine lread (v := .int .i64 e261.A) rfl (q_load wd_3 rfl) (St.ld X267 (j := 0) rfl rfl) rfl ?_
                      refine lpure (v := .pointer (some ⟨b101, 0, none⟩)) rfl (p_fa fo_50_0 rfl) rfl rfl ?_
                      refine lread (v := .int .i64 e98.A) rfl (q_load wd_3 rfl) (St.ld X267 (j := 2) rfl rfl) rfl ?_
                      refine lpure (v := .bool (decide (e261.A = e98.A))) rfl (p_eq rfl) rfl rfl ?_
                      refine lpure (v := .bool (decide (e261.A = e98.A))) rfl (p_move rfl) rfl rfl ?_
                      refine lsh (τ := Bool) (σ := Unit) (fun s269 (_ : Unit) => [(1, .pointer (some ⟨b101, 0, none⟩)), (2, .pointer (some ⟨b264, 0, none⟩)), (15, .bool s269)]) (fun s269 (_ : Unit) hh => St φ h.n hh ([(some b264, .cells [.int .i64 e261.A, .int .i64 e261.B, .int .i64 e261.Per, .int .i64 e261.Delay] 50 .exact), (some b107, .cells [.func (.func 65) #[] #[.pointer (some ⟨b90, 0, none⟩), .pointer (some ⟨b101, 0, none⟩)], .func (.func 66) #[] #[.pointer (some ⟨b90, 0, none⟩), .pointer (some ⟨b101, 0, none⟩)], .func (.func 67) #[] #[.pointer (some ⟨b101, 0, none⟩)], .func (.func 68) #[] #[.pointer (some ⟨b90, 0, none⟩), .pointer (some ⟨b94, 0, none⟩), .pointer (some ⟨b101, 0, none⟩)]] 85 .exact), (some b101, .cells [.int .i64 e98.A, .int .i64 e98.B, .int .i64 e98.Per, .int .i64 e98.Delay] 50 .exact), (some b94, .cells [.int .i64 p89] 3 .exact), (some b90, .cells [.int .i64 p86.Nodes, .slice a87 n87 c87, .slice a88 n88 c88] 25 .exact)])) 6 ?_ ?_
                      · rintro s269 _ t0 h271 X270
                        refine lpure (v := .bool s269) rfl (p_move rfl) rfl rfl ?_
                        refine lsh (τ := Bool) (σ := Unit) (fun s273 (_ : Unit) => [(29, .bool s273)]) (fun s273 (_ : Unit) hh => St φ h.n hh ([(some b264, .cells [.int .i64 e261.A, .int .i64 e261.B, .int .i64 e261.Per, .int .i64 e261.Delay] 50 .exact), (some b107, .cells [.func (.func 65) #[] #[.pointer (some ⟨b90, 0, none⟩), .pointer (some ⟨b101, 0, none⟩)], .func (.func 66) #[] #[.pointer (some ⟨b90, 0, none⟩), .pointer (some ⟨b101, 0, none⟩)], .func (.func 67) #[] #[.pointer (some ⟨b101, 0, none⟩)], .func (.func 68) #[] #[.pointer (some ⟨b90, 0, none⟩), .pointer (some ⟨b94, 0, none⟩), .pointer (some ⟨b101, 0, none⟩)]] 85 .exact), (some b101, .cells [.int .i64 e98.A, .int .i64 e98.B, .int .i64 e98.Per, .int .i64 e98.Delay] 50 .exact), (some b94, .cells [.int .i64 p89] 3 .exact), (some b90, .cells [.int .i64 p86.Nodes, .slice a87 n87 c87, .slice a88 n88 c88] 25 .exact)])) 13 ?_ ?_
                        · rintro s273 _ t0 h275 X274
                          refine lpure (v := .bool s273) rfl (p_assign rfl) rfl rfl ?_
                          refine lend ?_
                          refine nseq ?_
                          refine dret ?_
                          refine kin_r (res_1 resT) ?_
                          refine lend ?_
                          refine nseq ?_
                          refine dcond rfl rfl (fun k276 => ?_) (fun k276 => ?_)
                          · refine dseq ?_
                            refine dreg ?_
                            refine lpure (v := .int .i64 s227) rfl (p_move rfl) rfl rfl ?_
                            refine lpure (v := .int .i64 s227) rfl (p_assign rfl) rfl rfl ?_
                            refine lend ?_
                            refine nseq ?_
                            refine dret ?_
                            refine rblock ?_
                            refine rseq ?_
                            refine rloop ?_
                            refine rblock ?_
                            refine rseq ?_
                            refine kin_r (res_1 resT) ?_
                            refine lpure (v := .bool (decide (0 ≤ s227))) rfl (p_ge rfl) rfl rfl ?_
                            refine lpure (v := .bool (decide (0 ≤ s227))) rfl (p_assign rfl) rfl rfl ?_
                            refine lend ?_
                            refine nseq ?_
                            refine dret ?_
                            refine kin_r (res_1 resT) ?_
                            refine lpure (v := .bool (!(decide (0 ≤ s227)))) rfl (p_not rfl) rfl rfl ?_
                            refine lpure (v := .bool (!(decide (0 ≤ s227)))) rfl (p_assign rfl) rfl rfl ?_
                            refine lend ?_
                            refine nseq ?_
                            refine dret ?_
                            refine kin_r (res_1 resT) ?_
                            refine lpure (v := .bool (!(!(decide (0 ≤ s227))))) rfl (p_not rfl) rfl rfl ?_
                            refine lend ?_
                            refine nseq ?_
                            refine dcond rfl rfl (fun k277 => ?_) (fun k277 => ?_)
                            · refine dseq ?_
                              refine dreg ?_
                              refine lpure (v := .bool false) rfl (p_assign rfl) rfl rfl ?_
                              refine lend ?_
                              refine nseq ?_
                              refine dret ?_
                              refine rblock ?_
                              refine rseq ?_
                              refine rloop ?_
                              refine rblock ?_
                              refine rseq ?_
                              exact kcut_r (res_1 resT) X274 rfl rfl
                            · refine dskip ?_
                              refine nblock ?_
                              refine nseq ?_
                              refine dreg ?_
                              refine lpure (v := .int .i64 4) rfl (p_add rfl) rfl rfl ?_
                              refine lpure (v := .int .i64 4) rfl (p_move rfl) rfl rfl ?_
                              refine lend ?_
                              refine nunroll 999995 rfl ?_
                              refine dseq ?_
                              refine dreg ?_
                              refine lpure (v := .bool false) rfl (p_lt rfl) rfl rfl ?_
                              refine lend ?_
                              refine nseq ?_
                              refine dseq ?_
                              refine dcondF rfl rfl ?_
                              refine dexit ?_
                              refine eseq ?_
                              refine eloop ?_
                              refine xblock ?_
                              refine nseq ?_
                              refine dseq ?_
                              refine dreg ?_
                              refine lpure (v := .bool true) rfl (p_assign rfl) rfl rfl ?_
                              refine lend ?_
                              refine nseq ?_
                              refine dret ?_
                              exact kcut_r (res_1 resT) X274 rfl rfl
                          · refine dskip ?_
                            refine nblock ?_
                            refine nseq ?_
                            refine dreg ?_
                            refine lpure (v := .int .i64 (w64 (s227 + 1))) rfl (p_add rfl) rfl rfl ?_
                            refine lpure (v := .int .i64 (w64 (s227 + 1))) rfl (p_move rfl) rfl rfl ?_
                            refine lend ?_
                            exact kbackM ih256 (w64 (s227 + 1)) () (sub_cons rfl (sub_cons rfl (sub_cons rfl (sub_cons rfl sub_nil)))) (St.pick X274 (.skip _ (.keep _ (.keep _ (.keep _ (.keep _ (.nil _)))))))
                        · intro j278 J279
                          refine lcase (i := 16) (show _ = Value.bool s269 from rfl) (fun k280 => ?_) (fun k280 => ?_)
                          · refine lskip rfl rfl ?_
                            refine lskip rfl rfl ?_
                            refine lskip rfl rfl ?_
                            refine lskip rfl rfl ?_
                            refine lskip rfl rfl ?_
                            refine lskip rfl rfl ?_
                            refine lskip rfl rfl ?_
                            refine lskip rfl rfl ?_
                            refine lskip rfl rfl ?_
                            refine lskip rfl rfl ?_
                            refine lskip rfl rfl ?_
                            refine lskip rfl rfl ?_
                            refine lpure (v := .bool true) rfl (p_pick rfl) rfl rfl ?_
                            refine Sim.of_eq (congrArg j278 (show (s269 || ((decide (e261.A = e98.B)) && (decide (e261.B = e98.A)))) = true from by rw [k280] <;> rfl)) ?_
                            exact ljmpM J279 true () (sub_cons rfl sub_nil) X270
                          · refine lpure (v := .pointer (some ⟨b264, 0, none⟩)) rfl (p_fa fo_50_0 rfl) rfl rfl ?_
                            refine lread (v := .int .i64 e261.A) rfl (q_load wd_3 rfl) (St.ld X270 (j := 0) rfl rfl) rfl ?_
                            refine lpure (v := .pointer (some ⟨b101, 1, none⟩)) rfl (p_fa fo_50_1 rfl) rfl rfl ?_
                            refine lread (v := .int .i64 e98.B) rfl (q_load wd_3 rfl) (St.ld X270 (j := 2) rfl rfl) rfl ?_
                            refine lpure (v := .bool (decide (e261.A = e98.B))) rfl (p_eq rfl) rfl rfl ?_
                            refine lpure (v := .bool (decide (e261.A = e98.B))) rfl (p_move rfl) rfl rfl ?_
                            refine lcase (i := 22) (show _ = Value.bool (decide (e261.A = e98.B)) from rfl) (fun k281 => ?_) (fun k281 => ?_)
                            · refine lpure (v := .pointer (some ⟨b264, 1, none⟩)) rfl (p_fa fo_50_1 rfl) rfl rfl ?_
                              refine lread (v := .int .i64 e261.B) rfl (q_load wd_3 rfl) (St.ld X270 (j := 0) rfl rfl) rfl ?_
                              refine lpure (v := .pointer (some ⟨b101, 0, none⟩)) rfl (p_fa fo_50_0 rfl) rfl rfl ?_
                              refine lread (v := .int .i64 e98.A) rfl (q_load wd_3 rfl) (St.ld X270 (j := 2) rfl rfl) rfl ?_
                              refine lpure (v := .bool (decide (e261.B = e98.A))) rfl (p_eq rfl) rfl rfl ?_
                              refine lpure (v := .bool (decide (e261.B = e98.A))) rfl (p_pick rfl) rfl rfl ?_
                              refine lpure (v := .bool (decide (e261.B = e98.A))) rfl (p_pick rfl) rfl rfl ?_
                              refine Sim.of_eq (congrArg j278 (show (s269 || ((decide (e261.A = e98.B)) && (decide (e261.B = e98.A)))) = (decide (e261.B = e98.A)) from by rw [k280, k281] <;> rfl)) ?_
                              exact ljmpM J279 (decide (e261.B = e98.A)) () (sub_cons rfl sub_nil) X270
                            · refine lskip rfl rfl ?_
                              refine lskip rfl rfl ?_
                              refine lskip rfl rfl ?_
                              refine lskip rfl rfl ?_
                              refine lskip rfl rfl ?_
                              refine lpure (v := .bool false) rfl (p_pick rfl) rfl rfl ?_
                              refine lpure (v := .bool false) rfl (p_pick rfl) rfl rfl ?_
                              refine Sim.of_eq (congrArg j278 (show (s269 || ((decide (e261.A = e98.B)) && (decide (e261.B = e98.A)))) = false from by rw [k280, k281] <;> rfl)) ?_
                              exact ljmpM J279 false () (sub_cons rfl sub_nil) X270
                      · intro j282 J283
                        refine lcase (i := 9) (show _ = Value.bool (decide (e261.A = e98.A)) from rfl) (fun k284 => ?_) (fun k284 => ?_)
                        · refine lpure (v := .pointer (some ⟨b264, 1, none⟩)) rfl (p_fa fo_50_1 rfl) rfl rfl ?_
                          refine lread (v := .int .i64 e261.B) rfl (q_load wd_3 rfl) (St.ld X267 (j := 0) rfl rfl) rfl ?_
                          refine lpure (v := .pointer (some ⟨b101, 1, none⟩)) rfl (p_fa fo_50_1 rfl) rfl rfl ?_
                          refine lread (v := .int .i64 e98.B) rfl (q_load wd_3 rfl) (St.ld X267 (j := 2) rfl rfl) rfl ?_
                          refine lpure (v := .bool (decide (e261.B = e98.B))) rfl (p_eq rfl) rfl rfl ?_
                          refine lpure (v := .bool (decide (e261.B = e98.B))) rfl (p_pick rfl) rfl rfl ?_
                          refine Sim.of_eq (congrArg j282 (show ((decide (e261.A = e98.A)) && (decide (e261.B = e98.B))) = (decide (e261.B = e98.B)) from by rw [k284] <;> rfl)) ?_
                          exact ljmpM J283 (decide (e261.B = e98.B)) () (sub_cons rfl (sub_cons rfl (sub_cons rfl sub_nil))) X267
                        · refine lskip rfl rfl ?_
                          refine lskip rfl rfl ?_
                          refine lskip rfl rfl ?_
                          refine lskip rfl rfl ?_
                          refine lskip rfl rfl ?_
                          refine lpure (v := .bool false) rfl (p_pick rfl) rfl rfl ?_
                          refine Sim.of_eq (congrArg j282 (show ((decide (e261.A = e98.A)) && (decide (e261.B = e98.B))) = false from by rw [k284] <;> rfl)) ?_
                          exact ljmpM J283 false () (sub_cons rfl (sub_cons rfl (sub_cons rfl sub_nil))) X267
                    · refine dexit ?_
                      refine eseq ?_
                      refine eloop ?_
                      refine xblock ?_
                      refine nseq ?_
                      refine dseq ?_
                      refine dreg ?_
                      refine lpure (v := .int .i64 (-1)) rfl (p_assign rfl) rfl rfl ?_
                      refine lend ?_
                      refine nseq ?_
                      refine dret ?_
                      refine kin_r (res_1 resT) ?_
                      refine lpure (v := .bool false) rfl (p_ge rfl) rfl rfl ?_
                      refine lpure (v := .bool false) rfl (p_assign rfl) rfl rfl ?_
                      refine lend ?_
                      refine nseq ?_
                      refine dret ?_
                      refine kin_r (res_1 resT) ?_
                      refine lpure (v := .bool true) rfl (p_not rfl) rfl rfl ?_
                      refine lpure (v := .bool true) rfl (p_assign rfl) rfl rfl ?_
                      refine lend ?_
                      refine nseq ?_
                      refine dret ?_
                      refine kin_r (res_1 resT) ?_
                      refine lpure (v := .bool false) rfl (p_not rfl) rfl rfl ?_
                      refine lend ?_
                      refine nseq ?_
                      refine dcondF rfl rfl ?_
                      refine dskip ?_
                      refine nblock ?_
                      refine nseq ?_
                      refine dreg ?_
                      refine lpure (v := .int .i64 4) rfl (p_add rfl) rfl rfl ?_
                      refine lpure (v := .int .i64 4) rfl (p_move rfl) rfl rfl ?_
                      refine lend ?_
                      refine nunroll 999995 rfl ?_
                      refine dseq ?_
                      refine dreg ?_
                      refine lpure (v := .bool false) rfl (p_lt rfl) rfl rfl ?_
                      refine lend ?_
                      refine nseq ?_
                      refine dseq ?_
                      refine dcondF rfl rfl ?_
                      refine dexit ?_
                      refine eseq ?_
                      refine eloop ?_
                      refine xblock ?_
                      refine nseq ?_
                      refine dseq ?_
                      refine dreg ?_
                      refine lpure (v := .bool true) rfl (p_assign rfl) rfl rfl ?_
                      refine lend ?_
                      refine nseq ?_
                      refine dret ?_
                      exact kcut_r (res_1 resT) X258 rfl rfl
                · intro j285 J286
                  refine lcase (i := 15) (show _ = Value.bool s163 from rfl) (fun k287 => ?_) (fun k287 => ?_)
                  · refine lpure (v := .pointer (some ⟨b101, 3, none⟩)) rfl (p_fa fo_50_3 rfl) rfl rfl ?_
                    refine lread (v := .int .i64 e98.Delay) rfl (q_load wd_3 rfl) (St.ld X164 (j := 1) rfl rfl) rfl ?_
                    refine lpure (v := .bool (decide (e98.Delay ≤ 10000))) rfl (p_le rfl) rfl rfl ?_
                    refine lpure (v := .bool (decide (e98.Delay ≤ 10000))) rfl (p_pick rfl) rfl rfl ?_
                    refine Sim.of_eq (congrArg j285 (show (s163 && (decide (e98.Delay ≤ 10000))) = (decide (e98.Delay ≤ 10000)) from by rw [k287] <;> rfl)) ?_
                    exact ljmpM J286 (decide (e98.Delay ≤ 10000)) () (sub_cons rfl sub_nil) X164
                  · refine lskip rfl rfl ?_
                    refine lskip rfl rfl ?_
                    refine lskip rfl rfl ?_
                    refine lpure (v := .bool false) rfl (p_pick rfl) rfl rfl ?_
                    refine Sim.of_eq (congrArg j285 (show (s163 && (decide (e98.Delay ≤ 10000))) = false from by rw [k287] <;> rfl)) ?_
                    exact ljmpM J286 false () (sub_cons rfl sub_nil) X164
              · intro j288 J289
                refine lcase (i := 10) (show _ = Value.bool s159 from rfl) (fun k290 => ?_) (fun k290 => ?_)
                · refine lpure (v := .pointer (some ⟨b101, 3, none⟩)) rfl (p_fa fo_50_3 rfl) rfl rfl ?_
                  refine lread (v := .int .i64 e98.Delay) rfl (q_load wd_3 rfl) (St.ld X160 (j := 1) rfl rfl) rfl ?_
                  refine lpure (v := .bool (decide (0 ≤ e98.Delay))) rfl (p_ge rfl) rfl rfl ?_
                  refine lpure (v := .bool (decide (0 ≤ e98.Delay))) rfl (p_pick rfl) rfl rfl ?_
                  refine Sim.of_eq (congrArg j288 (show (s159 && (decide (0 ≤ e98.Delay))) = (decide (0 ≤ e98.Delay)) from by rw [k290] <;> rfl)) ?_
                  exact ljmpM J289 (decide (0 ≤ e98.Delay)) () (sub_cons rfl (sub_cons rfl sub_nil)) X160
                · refine lskip rfl rfl ?_
                  refine lskip rfl rfl ?_
                  refine lskip rfl rfl ?_
                  refine lpure (v := .bool false) rfl (p_pick rfl) rfl rfl ?_
                  refine Sim.of_eq (congrArg j288 (show (s159 && (decide (0 ≤ e98.Delay))) = false from by rw [k290] <;> rfl)) ?_
                  exact ljmpM J289 false () (sub_cons rfl (sub_cons rfl sub_nil)) X160
            · intro j291 J292
              refine lcase (i := 5) (show _ = Value.bool (decide (1 ≤ e98.Per)) from rfl) (fun k293 => ?_) (fun k293 => ?_)
              · refine lpure (v := .pointer (some ⟨b101, 2, none⟩)) rfl (p_fa fo_50_2 rfl) rfl rfl ?_
                refine lread (v := .int .i64 e98.Per) rfl (q_load wd_3 rfl) (St.ld X155 (j := 1) rfl rfl) rfl ?_
                refine lpure (v := .bool (decide (e98.Per ≤ 1000))) rfl (p_le rfl) rfl rfl ?_
                refine lpure (v := .bool (decide (e98.Per ≤ 1000))) rfl (p_pick rfl) rfl rfl ?_
                refine Sim.of_eq (congrArg j291 (show ((decide (1 ≤ e98.Per)) && (decide (e98.Per ≤ 1000))) = (decide (e98.Per ≤ 1000)) from by rw [k293] <;> rfl)) ?_
                exact ljmpM J292 (decide (e98.Per ≤ 1000)) () (sub_cons rfl (sub_cons rfl sub_nil)) X155
              · refine lskip rfl rfl ?_
                refine lskip rfl rfl ?_
                refine lskip rfl rfl ?_
                refine lpure (v := .bool false) rfl (p_pick rfl) rfl rfl ?_
                refine Sim.of_eq (congrArg j291 (show ((decide (1 ≤ e98.Per)) && (decide (e98.Per ≤ 1000))) = false from by rw [k293] <;> rfl)) ?_
                exact ljmpM J292 false () (sub_cons rfl (sub_cons rfl sub_nil)) X155
        · intro j294 J295
          refine lif (i := 10) (show _ = Value.bool (!e146) from rfl) (fun k296 => ?_) (fun k296 => ?_)
          · refine lskip rfl rfl ?_
            refine lskip rfl rfl ?_
            refine lskip rfl rfl ?_
            refine lskip rfl rfl ?_
            refine lskip rfl rfl ?_
            refine lskip rfl rfl ?_
            refine lskip rfl rfl ?_
            refine lpure (v := .bool true) rfl (p_pick rfl) rfl rfl ?_
            exact ljmpM J295 true () (sub_cons rfl sub_nil) X143
          · refine lpure (v := .pointer (some ⟨b90, 1, none⟩)) rfl (p_fa fo_25_1 rfl) rfl rfl ?_
            refine lread (v := .slice a87 n87 c87) rfl (q_load wd_22 rfl) (St.ld X143 (j := 3) rfl rfl) rfl ?_
            refine lpure (v := .pointer (some ⟨b101, 1, none⟩)) rfl (p_fa fo_50_1 rfl) rfl rfl ?_
            refine lread (v := .int .i64 e98.B) rfl (q_load wd_3 rfl) (St.ld X143 (j := 1) rfl rfl) rfl ?_
            refine Sim.bindM fun e297 he298 => ?_
            obtain ⟨p299, cs299, hp299, hF299, hR299⟩ := RSl.ia H87 he298 (kd := .i64) (n := 1) rfl
            have hR299 : _ = [(.bool e297 : Value)] := hR299
            subst hR299
            refine lpure (v := p299) rfl (p_ia rs_22 rfl) hp299 rfl ?_
            refine lread (v := .bool e297) rfl (q_load wd_4 rfl) (FP.ld X143 hF299) rfl ?_
            refine lpure (v := .bool (!e297)) rfl (p_not rfl) rfl rfl ?_
            refine lpure (v := .bool (!e297)) rfl (p_pick rfl) rfl rfl ?_
            exact ljmpM J295 (!e297) () (sub_cons rfl sub_nil) X143
    · intro j300 J301
      refine lcase (i := 13) (show _ = Value.bool s138 from rfl) (fun k302 => ?_) (fun k302 => ?_)
      · refine lpure (v := .pointer (some ⟨b101, 0, none⟩)) rfl (p_fa fo_50_0 rfl) rfl rfl ?_
        refine lread (v := .int .i64 e98.A) rfl (q_load wd_3 rfl) (St.ld X139 (j := 1) rfl rfl) rfl ?_
        refine lpure (v := .pointer (some ⟨b101, 1, none⟩)) rfl (p_fa fo_50_1 rfl) rfl rfl ?_
        refine lread (v := .int .i64 e98.B) rfl (q_load wd_3 rfl) (St.ld X139 (j := 1) rfl rfl) rfl ?_
        refine lpure (v := .bool (decide (e98.A ≠ e98.B))) rfl (p_ne rfl) rfl rfl ?_
        refine lpure (v := .bool (decide (e98.A ≠ e98.B))) rfl (p_pick rfl) rfl rfl ?_
        refine Sim.of_eq (congrArg j300 (show (s138 && (decide (e98.A ≠ e98.B))) = (decide (e98.A ≠ e98.B)) from by rw [k302] <;> rfl)) ?_
        exact ljmpM J301 (decide (e98.A ≠ e98.B)) () (sub_cons rfl sub_nil) X139
      · refine lskip rfl rfl ?_
        refine lskip rfl rfl ?_
        refine lskip rfl rfl ?_
        refine lskip rfl rfl ?_
        refine lskip rfl rfl ?_
        refine lpure (v := .bool false) rfl (p_pick rfl) rfl rfl ?_
        refine Sim.of_eq (congrArg j300 (show (s138 && (decide (e98.A ≠ e98.B))) = false from by rw [k302] <;> rfl)) ?_
        exact ljmpM J301 false () (sub_cons rfl sub_nil) X139
  · intro j303 J304
    refine lif (i := 7) (show _ = Value.bool e128 from rfl) (fun k305 => ?_) (fun k305 => ?_)
    · refine lread (v := .agg #[.int .i64 p86.Nodes, .slice a87 n87 c87, .slice a88 n88 c88]) rfl (q_load wd_25 rfl) (St.ld X112 (j := 3) rfl rfl) rfl ?_
      refine lpure (v := .pointer (some ⟨b101, 1, none⟩)) rfl (p_fa fo_50_1 rfl) rfl rfl ?_
      refine lread (v := .int .i64 e98.B) rfl (q_load wd_3 rfl) (St.ld X112 (j := 1) rfl rfl) rfl ?_
      refine lcall rfl rfl ca_39 rfl rfl (f39_ok X112 p86 (e98.B) H87 H88) rfl (fun e306 v307 h308 hq309 => ?_)
      cases hq309
      refine lpure (v := .bool e306) rfl (p_pick rfl) rfl rfl ?_
      exact ljmpM J304 e306 () (sub_cons rfl (sub_cons rfl sub_nil)) X112
    · refine lskip rfl rfl ?_
      refine lskip rfl rfl ?_
      refine lskip rfl rfl ?_
      refine lskip rfl rfl ?_
      refine lpure (v := .bool false) rfl (p_pick rfl) rfl rfl ?_
      exact ljmpM J304 false () (sub_cons rfl (sub_cons rfl sub_nil)) X112
/-! (isochron/topo.end).from -/
theorem f41_ok {n : Nat} {φ : Fz} {lo : Nat} {h : Heap} {own : OwnL} (X : St φ lo h own) (p376 : TopoEnd) : Sim ((recN Try.prog LL cutF (n + 1)).call 41 #[(.agg #[.int .i64 p376.Link.A, .int .i64 p376.Link.B, .int .i64 p376.Link.Per, .int .i64 p376.Link.Delay, .int .i64 p376.port])] h) (m_topo_end_from p376) (fun (d : Int) p => p = (.int .i64 d, h)) := by
  refine fcut Try.func41 rfl rfl rfl rfl X ?_
  intro h0 X0
  refine dseq ?_
  refine dreg ?_
  refine lbox rfl rfl rfl rfl rfl X0 (fun b377 h379 X380 => ?_)
  refine lpure (v := .int .i64 0) rfl (p_assign rfl) rfl rfl ?_
  refine lend ?_
  refine nseq ?_
  refine dseq ?_
  refine dseq ?_
  refine dreg ?_
  refine lpure (v := .pointer (some ⟨b377, 4, none⟩)) rfl (p_fa fo_65_1 rfl) rfl rfl ?_
  refine lread (v := .int .i64 p376.port) rfl (q_load wd_3 rfl) (St.ld X380 (j := 0) rfl rfl) rfl ?_
  refine lpure (v := .int .i64 (Int.tmod p376.port 2)) rfl (p_rem rfl) rfl rfl ?_
  refine lpure (v := .bool (decide ((Int.tmod p376.port 2) = 0))) rfl (p_eq rfl) rfl rfl ?_
  refine lend ?_
  refine nseq ?_
  refine dcond rfl rfl (fun k381 => ?_) (fun k381 => ?_)
  · refine dseq ?_
    refine dreg ?_
    refine lpure (v := .pointer (some ⟨b377, 0, none⟩)) rfl (p_fa fo_65_0 rfl) rfl rfl ?_
    refine lpure (v := .pointer (some ⟨b377, 0, none⟩)) rfl (p_fa fo_50_0 rfl) rfl rfl ?_
    refine lread (v := .int .i64 p376.Link.A) rfl (q_load wd_3 rfl) (St.ld X380 (j := 0) rfl rfl) rfl ?_
    refine lpure (v := .int .i64 p376.Link.A) rfl (p_assign rfl) rfl rfl ?_
    refine lend ?_
    refine nseq ?_
    refine dret ?_
    refine rseq ?_
    exact kcut_r (res_1 resT) X380 rfl rfl
  · refine dskip ?_
    refine nseq ?_
    refine dseq ?_
    refine dreg ?_
    refine lpure (v := .pointer (some ⟨b377, 0, none⟩)) rfl (p_fa fo_65_0 rfl) rfl rfl ?_
    refine lpure (v := .pointer (some ⟨b377, 1, none⟩)) rfl (p_fa fo_50_1 rfl) rfl rfl ?_
    refine lread (v := .int .i64 p376.Link.B) rfl (q_load wd_3 rfl) (St.ld X380 (j := 0) rfl rfl) rfl ?_
    refine lpure (v := .int .i64 p376.Link.B) rfl (p_assign rfl) rfl rfl ?_
    refine lend ?_
    refine nseq ?_
    refine dret ?_
    exact kcut_r (res_1 resT) X380 rfl rfl
/-! isochron/topo.degree -/
theorem f58_ok {n : Nat} {φ : Fz} {lo : Nat} {h : Heap} {own : OwnL} (X : St φ lo h own) (p324 : ApiTopo) (p327 : Int) {a325 : Option Addr} {n325 c325 : Nat} {a326 : Option Addr} {n326 c326 : Nat} (H325 : RSl eBool φ (.slice a325 n325 c325) p324.Station) (H326 : RSl eApiLink φ (.slice a326 n326 c326) p324.Links) : Sim ((recN Try.prog LL cutF (n + 4)).call 58 #[(.agg #[.int .i64 p324.Nodes, .slice a325 n325 c325, .slice a326 n326 c326]), (.int .i64 p327)] h) (m_topo_degree p324 p327) (fun (d : Int) p => p = (.int .i64 d, h)) := by
  refine fcut Try.func58 rfl rfl rfl rfl X ?_
  intro h0 X0
  refine dseq ?_
  refine dreg ?_
  refine lbox rfl rfl rfl rfl rfl X0 (fun b328 h330 X331 => ?_)
  refine lbox rfl rfl rfl rfl rfl X331 (fun b332 h334 X335 => ?_)
  refine lpure (v := .int .i64 0) rfl (p_assign rfl) rfl rfl ?_
  refine lend ?_
  refine nseq ?_
  refine dseq ?_
  refine dreg ?_
  refine lalloc rfl tz_3 rfl rfl rfl X335 (fun b336 h338 X339 => ?_)
  refine lstore rfl ts_3 rfl rfl (j := 0) rfl rfl rfl rfl rfl rfl X339 (fun h340 X341 => ?_)
  refine lend ?_
  refine nseq ?_
  refine dseq ?_
  refine dseq ?_
  refine dreg ?_
  refine lread (v := .agg #[.int .i64 p324.Nodes, .slice a325 n325 c325, .slice a326 n326 c326]) rfl (q_load wd_25 rfl) (St.ld X341 (j := 2) rfl rfl) rfl ?_
  refine linl rfl rfl rfl rfl ca_40 rfl Try.func40 rfl rfl rfl rfl rfl ?_
  refine dseq ?_
  refine dreg ?_
  refine lbox rfl rfl rfl rfl rfl X341 (fun b342 h344 X345 => ?_)
  refine lpure (v := .nilFunc) rfl (p_assign rfl) rfl rfl ?_
  refine lend ?_
  refine nseq ?_
  refine dseq ?_
  refine dreg ?_
  refine lpure (v := .func (.func 62) #[] #[.pointer (some ⟨b342, 0, none⟩)]) rfl (p_makeFunc rfl) rfl rfl ?_
  refine lpure (v := .func (.func 62) #[] #[.pointer (some ⟨b342, 0, none⟩)]) rfl (p_assign rfl) rfl rfl ?_
  refine lend ?_
  refine nseq ?_
  refine dret ?_
  refine kin_r (res_1 resT) ?_
  refine lend ?_
  refine nseq ?_
  refine dblock ?_
  refine drange rfl rfl ca_62 Try.func62 rfl rfl X345 (fun _ => rfl) ?_
  intro l346 q347 df348 h350 Q349 X351
  refine dseq ?_
  refine dreg ?_
  refine lpure (v := .pointer (some ⟨b342, 2, none⟩)) rfl (p_fa fo_25_2 rfl) rfl rfl ?_
  refine lread (v := .slice a326 n326 c326) rfl (q_load wd_23 rfl) (St.ld X351 (j := 2) rfl rfl) rfl ?_
  refine lpure (v := .int .i64 (p324.Links.length : Int)) rfl (p_len rfl rfl rfl un_23 rfl) (RSl.lenC H326) rfl ?_
  refine lpure (v := .int .i64 0) rfl (p_move rfl) rfl rfl ?_
  refine lend ?_
  refine nseq ?_
  refine dblock ?_
  refine dloopM (τ := Int × Int) (σ := Unit) (fun s490 (_ : Unit) => [(0, .func (.yield l346) #[] #[]), (6, .slice a326 n326 c326), (7, .int .i64 (p324.Links.length : Int)), (8, .int .i64 s490.1)]) (fun s490 (_ : Unit) hh => St φ h.n hh ([(some l346, rdy q347), (none, .dead), (some b342, .cells [.int .i64 p324.Nodes, .slice a325 n325 c325, .slice a326 n326 c326] 25 .exact), (some b336, .cells [.int .i64 s490.2] 3 .exact), (some b332, .cells [.int .i64 p327] 3 .exact), (some b328, .cells [.int .i64 p324.Nodes, .slice a325 n325 c325, .slice a326 n326 c326] 25 .exact)])) (0, 0) () (sub_cons rfl (sub_cons rfl (sub_cons rfl (sub_cons rfl sub_nil)))) (St.pick X351 (.keep _ (.none _ (.skip _ (.keep _ (.keep _ (.keep _ (.keep _ (.nil _))))))))) ?_
  rintro n557 ih556 s490 _ t0 h559 X558
  refine dseq ?_
  refine dreg ?_
  refine lpure (v := .bool (decide (s490.1 < (p324.Links.length : Int)))) rfl (p_lt rfl) rfl rfl ?_
  refine lend ?_
  refine nseq ?_
  refine dseq ?_
  refine dcond rfl rfl (fun k560 => ?_) (fun k560 => ?_)
  · refine dskip ?_
    refine nseq ?_
    refine dseq ?_
    refine dblock ?_
    refine dseq ?_
    refine dreg ?_
    refine lpure (v := .int .i64 s490.1) rfl (p_move rfl) rfl rfl ?_
    refine Sim.bindM fun e561 he562 => ?_
    obtain ⟨p563, cs563, hp563, hF563, hR563⟩ := RSl.ia H326 he562 (kd := .i64) (n := 4) rfl
    obtain rfl := eApiLink_el hR563
    refine lpure (v := p563) rfl (p_ia rs_23 rfl) hp563 rfl ?_
    refine lread (v := .agg #[.int .i64 e561.A, .int .i64 e561.B, .int .i64 e561.Per, .int .i64 e561.Delay]) rfl (q_load wd_50 rfl) (FP.ldw X558 hF563 rfl rfl) rfl ?_
    refine lalloc rfl tz_50 rfl rfl rfl X558 (fun b564 h566 X567 => ?_)
    refine lpure (v := .int .i64 s490.1) rfl (p_assign rfl) rfl rfl ?_
    refine lstore rfl ts_50 rfl rfl (j := 0) rfl rfl rfl rfl rfl rfl X567 (fun h568 X569 => ?_)
    refine lend ?_
    refine nseq ?_
    refine dseq ?_
    refine dreg ?_
    refine lpure (v := .func (.yield l346) #[] #[]) rfl (p_move rfl) rfl rfl ?_
    refine lread (v := .agg #[.int .i64 e561.A, .int .i64 e561.B, .int .i64 e561.Per, .int .i64 e561.Delay]) rfl (q_load wd_50 rfl) (St.ld X569 (j := 0) rfl rfl) rfl ?_
    refine lpure (v := .int .i64 s490.1) rfl (p_move rfl) rfl rfl ?_
    refine lpure (v := .int .i64 (w64 (2 * s490.1))) rfl (p_mul rfl) rfl rfl ?_
    refine lpure (v := .agg #[.int .i64 e561.A, .int .i64 e561.B, .int .i64 e561.Per, .int .i64 e561.Delay, .int .i64 (w64 (2 * s490.1))]) rfl (p_build rfl) (build_st' tz_65 pl_65 rfl) rfl ?_
    refine lround rfl rfl rfl rfl rfl rfl X569 (j := 1) rfl Q349 rfl rfl rfl rfl rfl (fun t570 => ?_)
    refine dreg ?_
    refine lalloc rfl tz_65 rfl rfl rfl X569 (fun b571 h573 X574 => ?_)
    refine lstore rfl ts_65 rfl rfl (j := 0) rfl rfl rfl rfl rfl rfl X574 (fun h575 X576 => ?_)
    refine lend ?_
    refine basg X576 (j := 2) rfl (fun h577 X578 => ?_)
    refine dblock ?_
    refine dseq ?_
    refine ddraw 0 0 0 (by kernel_rfl) ?_
    refine sload (v := .agg #[.int .i64 e561.A, .int .i64 e561.B, .int .i64 e561.Per, .int .i64 e561.Delay, .int .i64 (w64 (2 * s490.1))]) rfl rfl (q_load wd_65 rfl) (St.ld X578 (j := 0) rfl rfl) (same_self 20 rfl) rfl ?_
    refine scall (en := fun d => (.int .i64 d)) rfl rfl ca_41 rfl rfl (f41_ok X578 ((TopoEnd.mk e561 (w64 (2 * s490.1))))) rfl (fun e579 => ?_)
    refine sload (v := .int .i64 p327) rfl rfl (q_load wd_3 rfl) (St.ld X578 (j := 6) rfl rfl) (same_self 20 rfl) rfl ?_
    refine spure (v := .bool (decide (e579 = p327))) rfl (p_eq rfl) (lo_t rfl (lo_t rfl rfl)) rfl rfl ?_
    refine send ?_
    refine nseq ?_
    refine djoinM (τ := Int) (σ := Unit) (fun s586 (_ : Unit) => []) (fun s586 (_ : Unit) hh => St φ h.n hh ([(some b571, .cells [.int .i64 e561.A, .int .i64 e561.B, .int .i64 e561.Per, .int .i64 e561.Delay, .int .i64 (w64 (2 * s490.1))] 65 .exact), (some b564, .cells [.int .i64 e561.A, .int .i64 e561.B, .int .i64 e561.Per, .int .i64 e561.Delay] 50 .exact), (some l346, bsy q347), (none, .dead), (some b342, .cells [.int .i64 p324.Nodes, .slice a325 n325 c325, .slice a326 n326 c326] 25 .exact), (some b336, .cells [.int .i64 s586] 3 .exact), (some b332, .cells [.int .i64 p327] 3 .exact), (some b328, .cells [.int .i64 p324.Nodes, .slice a325 n325 c325, .slice a326 n326 c326] 25 .exact)])) ?_ ?_
    · rintro s586 _ t0 h588 X587
      refine nblock ?_
      refine nrnd X587 (j := 2) rfl (fun h591 X592 => ?_)
      refine lpure (v := .bool false) rfl (p_not rfl) rfl rfl ?_
      refine lpure (v := .bool false) rfl (p_move rfl) rfl rfl ?_
      refine lpure (v := .func (.yield l346) #[] #[]) rfl (p_move rfl) rfl rfl ?_
      refine lread (v := .agg #[.int .i64 e561.A, .int .i64 e561.B, .int .i64 e561.Per, .int .i64 e561.Delay]) rfl (q_load wd_50 rfl) (St.ld X592 (j := 1) rfl rfl) rfl ?_
      refine lpure (v := .int .i64 s490.1) rfl (p_move rfl) rfl rfl ?_
      refine lpure (v := .int .i64 (w64 (2 * s490.1))) rfl (p_mul rfl) rfl rfl ?_
      refine lpure (v := .int .i64 (w64 ((w64 (2 * s490.1)) + 1))) rfl (p_add rfl) rfl rfl ?_
      refine lpure (v := .agg #[.int .i64 e561.A, .int .i64 e561.B, .int .i64 e561.Per, .int .i64 e561.Delay, .int .i64 (w64 ((w64 (2 * s490.1)) + 1))]) rfl (p_build rfl) (build_st' tz_65 pl_65 rfl) rfl ?_
      refine lround rfl rfl rfl rfl rfl rfl X592 (j := 2) rfl Q349 rfl rfl rfl rfl rfl (fun t593 => ?_)
      refine dreg ?_
      refine lalloc rfl tz_65 rfl rfl rfl X592 (fun b594 h596 X597 => ?_)
      refine lstore rfl ts_65 rfl rfl (j := 0) rfl rfl rfl rfl rfl rfl X597 (fun h598 X599 => ?_)
      refine lend ?_
      refine basg X599 (j := 3) rfl (fun h600 X601 => ?_)
      refine dblock ?_
      refine dseq ?_
      refine ddraw 0 0 0 (by kernel_rfl) ?_
      refine sload (v := .agg #[.int .i64 e561.A, .int .i64 e561.B, .int .i64 e561.Per, .int .i64 e561.Delay, .int .i64 (w64 ((w64 (2 * s490.1)) + 1))]) rfl rfl (q_load wd_65 rfl) (St.ld X601 (j := 0) rfl rfl) (same_self 20 rfl) rfl ?_
      refine scall (en := fun d => (.int .i64 d)) rfl rfl ca_41 rfl rfl (f41_ok X601 ((TopoEnd.mk e561 (w64 ((w64 (2 * s490.1)) + 1))))) rfl (fun e602 => ?_)
      refine sload (v := .int .i64 p327) rfl rfl (q_load wd_3 rfl) (St.ld X601 (j := 7) rfl rfl) (same_self 20 rfl) rfl ?_
      refine spure (v := .bool (decide (e602 = p327))) rfl (p_eq rfl) (lo_t rfl (lo_t rfl rfl)) rfl rfl ?_
      refine send ?_
      refine nseq ?_
      refine djoinM (τ := Int) (σ := Unit) (fun s609 (_ : Unit) => []) (fun s609 (_ : Unit) hh => St φ h.n hh ([(some b594, .cells [.int .i64 e561.A, .int .i64 e561.B, .int .i64 e561.Per, .int .i64 e561.Delay, .int .i64 (w64 ((w64 (2 * s490.1)) + 1))] 65 .exact), (some b571, .cells [.int .i64 e561.A, .int .i64 e561.B, .int .i64 e561.Per, .int .i64 e561.Delay, .int .i64 (w64 (2 * s490.1))] 65 .exact), (some b564, .cells [.int .i64 e561.A, .int .i64 e561.B, .int .i64 e561.Per, .int .i64 e561.Delay] 50 .exact), (some l346, bsy q347), (none, .dead), (some b342, .cells [.int .i64 p324.Nodes, .slice a325 n325 c325, .slice a326 n326 c326] 25 .exact), (some b336, .cells [.int .i64 s609] 3 .exact), (some b332, .cells [.int .i64 p327] 3 .exact), (some b328, .cells [.int .i64 p324.Nodes, .slice a325 n325 c325, .slice a326 n326 c326] 25 .exact)])) ?_ ?_
      · rintro s609 _ t0 h611 X610
        refine nblock ?_
        refine nrnd X610 (j := 3) rfl (fun h614 X615 => ?_)
        refine lpure (v := .bool false) rfl (p_not rfl) rfl rfl ?_
        refine lpure (v := .bool false) rfl (p_pick rfl) rfl rfl ?_
        refine lend ?_
        refine nseq ?_
        refine dcondF rfl rfl ?_
        refine dskip ?_
        refine nblock ?_
        refine nseq ?_
        refine dreg ?_
        refine lpure (v := .int .i64 (w64 (s490.1 + 1))) rfl (p_add rfl) rfl rfl ?_
        refine lpure (v := .int .i64 (w64 (s490.1 + 1))) rfl (p_move rfl) rfl rfl ?_
        refine lend ?_
        exact kbackM ih556 ((w64 (s490.1 + 1)), s609) () (sub_cons rfl (sub_cons rfl (sub_cons rfl (sub_cons rfl sub_nil)))) (St.pick X615 (.skip _ (.skip _ (.skip _ (.keep _ (.none _ (.skip _ (.keep _ (.keep _ (.keep _ (.keep _ (.nil _))))))))))))
      · intro j612 J613
        refine dcond rfl rfl (fun k606 => ?_) (fun k606 => ?_)
        · refine dreg ?_
          refine lread (v := .int .i64 s586) rfl (q_load wd_3 rfl) (St.ld X601 (j := 6) rfl rfl) rfl ?_
          refine lpure (v := .int .i64 (w64 (s586 + 1))) rfl (p_add rfl) rfl rfl ?_
          refine lstore rfl ts_3 rfl rfl (j := 6) rfl rfl rfl rfl rfl rfl X601 (fun h616 X617 => ?_)
          refine lend ?_
          exact jmpM J613 (w64 (s586 + 1)) () sub_nil (St.pick X617 (.keep _ (.keep _ (.keep _ (.keep _ (.none _ (.skip _ (.keep _ (.keep _ (.keep _ (.keep _ (.nil _))))))))))))
        · refine dskip ?_
          exact jmpM J613 s586 () sub_nil (St.pick X601 (.keep _ (.keep _ (.keep _ (.keep _ (.none _ (.skip _ (.keep _ (.keep _ (.keep _ (.keep _ (.nil _))))))))))))
    · intro j589 J590
      refine dcond rfl rfl (fun k583 => ?_) (fun k583 => ?_)
      · refine dreg ?_
        refine lread (v := .int .i64 s490.2) rfl (q_load wd_3 rfl) (St.ld X578 (j := 5) rfl rfl) rfl ?_
        refine lpure (v := .int .i64 (w64 (s490.2 + 1))) rfl (p_add rfl) rfl rfl ?_
        refine lstore rfl ts_3 rfl rfl (j := 5) rfl rfl rfl rfl rfl rfl X578 (fun h618 X619 => ?_)
        refine lend ?_
        exact jmpM J590 (w64 (s490.2 + 1)) () sub_nil (St.pick X619 (.keep _ (.keep _ (.keep _ (.none _ (.skip _ (.keep _ (.keep _ (.keep _ (.keep _ (.nil _)))))))))))
      · refine dskip ?_
        exact jmpM J590 s490.2 () sub_nil (St.pick X578 (.keep _ (.keep _ (.keep _ (.none _ (.skip _ (.keep _ (.keep _ (.keep _ (.keep _ (.nil _)))))))))))
  · refine dexit ?_
    refine eseq ?_
    refine eloop ?_
    refine xblock ?_
    refine kin_n res_0 ?_
    refine rend_n X558 (j := 0) rfl (fun h620 X621 => ?_)
    refine nblock ?_
    refine nseq ?_
    refine dseq ?_
    refine dreg ?_
    refine lread (v := .int .i64 s490.2) rfl (q_load wd_3 rfl) (St.ld X621 (j := 3) rfl rfl) rfl ?_
    refine lpure (v := .int .i64 s490.2) rfl (p_assign rfl) rfl rfl ?_
    refine lend ?_
    refine nseq ?_
    refine dret ?_
    exact kcut_r (res_1 resT) X621 rfl rfl
/-! (isochron/topo.end).to -/
theorem f42_ok {n : Nat} {φ : Fz} {lo : Nat} {h : Heap} {own : OwnL} (X : St φ lo h own) (p721 : TopoEnd) : Sim ((recN Try.prog LL cutF (n + 2)).call 42 #[(.agg #[.int .i64 p721.Link.A, .int .i64 p721.Link.B, .int .i64 p721.Link.Per, .int .i64 p721.Link.Delay, .int .i64 p721.port])] h) (m_topo_end_to p721) (fun (d : Int) p => p = (.int .i64 d, h)) := by
  refine fcut Try.func42 rfl rfl rfl rfl X ?_
  intro h0 X0
  refine dseq ?_
  refine dreg ?_
  refine lbox rfl rfl rfl rfl rfl X0 (fun b722 h724 X725 => ?_)
  refine lpure (v := .int .i64 0) rfl (p_assign rfl) rfl rfl ?_
  refine lend ?_
  refine nseq ?_
  refine dseq ?_
  refine ddraw 0 0 0 (by kernel_rfl) ?_
  refine spure (v := .pointer (some ⟨b722, 0, none⟩)) rfl (p_fa fo_65_0 rfl) (lo_t (lo_own X725 (j := 0) (o := 0) (s := none) (f := 0) rfl) rfl) rfl rfl ?_
  refine spure (v := .pointer (some ⟨b722, 0, none⟩)) rfl (p_fa fo_50_0 rfl) (lo_t (lo_own X725 (j := 0) (o := 0) (s := none) (f := 0) rfl) rfl) rfl rfl ?_
  refine sload (v := .int .i64 p721.Link.A) rfl rfl (q_load wd_3 rfl) (St.ld X725 (j := 0) rfl rfl) (same_self 20 rfl) rfl ?_
  refine spure (v := .pointer (some ⟨b722, 0, none⟩)) rfl (p_fa fo_65_0 rfl) (lo_t (lo_own X725 (j := 0) (o := 0) (s := none) (f := 0) rfl) rfl) rfl rfl ?_
  refine spure (v := .pointer (some ⟨b722, 1, none⟩)) rfl (p_fa fo_50_1 rfl) (lo_t (lo_own X725 (j := 0) (o := 0) (s := none) (f := 0) rfl) rfl) rfl rfl ?_
  refine sload (v := .int .i64 p721.Link.B) rfl rfl (q_load wd_3 rfl) (St.ld X725 (j := 0) rfl rfl) (same_self 20 rfl) rfl ?_
  refine spure (v := .int .i64 (w64 (p721.Link.A + p721.Link.B))) rfl (p_add rfl) (lo_t rfl (lo_t rfl rfl)) rfl rfl ?_
  refine sload (v := .agg #[.int .i64 p721.Link.A, .int .i64 p721.Link.B, .int .i64 p721.Link.Per, .int .i64 p721.Link.Delay, .int .i64 p721.port]) rfl rfl (q_load wd_65 rfl) (St.ld X725 (j := 0) rfl rfl) (same_self 20 rfl) rfl ?_
  refine scall (en := fun d => (.int .i64 d)) rfl rfl ca_41 rfl rfl (f41_ok X725 p721) rfl (fun e726 => ?_)
  refine spure (v := .int .i64 (w64 ((w64 (p721.Link.A + p721.Link.B)) - e726))) rfl (p_sub rfl) (lo_t rfl (lo_t rfl rfl)) rfl rfl ?_
  refine spure (v := .int .i64 (w64 ((w64 (p721.Link.A + p721.Link.B)) - e726))) rfl (p_assign rfl) (lo_t rfl rfl) rfl rfl ?_
  refine send ?_
  refine nseq ?_
  refine dret ?_
  exact kcut_r (res_1 resT) X725 rfl rfl
/-! slices.Index[[]int,int] -/
theorem f52_ok {n : Nat} {φ : Fz} {lo : Nat} {h : Heap} {own : OwnL} (X : St φ lo h own) (p745 : (List Int)) (p747 : Int) {a746 : Option Addr} {n746 c746 : Nat} (H746 : RSl (eInt .i64) φ (.slice a746 n746 c746) p745) : Sim ((recN Try.prog LL cutF (n + 1)).call 52 #[(.slice a746 n746 c746), (.int .i64 p747)] h) (m_slices_Index_int_int p745 p747) (fun (d : Int) p => p = (.int .i64 d, h)) := by
  refine fcut Try.func52 rfl rfl rfl rfl X ?_
  intro h0 X0
  refine dseq ?_
  refine dreg ?_
  refine lpure (v := .int .i64 0) rfl (p_assign rfl) rfl rfl ?_
  refine lend ?_
  refine nseq ?_
  refine dseq ?_
  refine dseq ?_
  refine dreg ?_
  refine lpure (v := .slice a746 n746 c746) rfl (p_move rfl) rfl rfl ?_
  refine lpure (v := .int .i64 (p745.length : Int)) rfl (p_len rfl rfl rfl un_28 rfl) (RSl.lenC H746) rfl ?_
  refine lpure (v := .int .i64 0) rfl (p_move rfl) rfl rfl ?_
  refine lend ?_
  refine nseq ?_
  refine dblock ?_
  refine dloopM (τ := Int) (σ := Unit) (fun s764 (_ : Unit) => [(0, .slice a746 n746 c746), (1, .int .i64 p747), (7, .int .i64 (p745.length : Int)), (8, .int .i64 s764)]) (fun s764 (_ : Unit) hh => St φ h.n hh ([])) 0 () (sub_cons rfl (sub_cons rfl (sub_cons rfl (sub_cons rfl sub_nil)))) X0 ?_
  rintro n774 ih773 s764 _ t0 h776 X775
  refine dseq ?_
  refine dreg ?_
  refine lpure (v := .bool (decide (s764 < (p745.length : Int)))) rfl (p_lt rfl) rfl rfl ?_
  refine lend ?_
  refine nseq ?_
  refine dseq ?_
  refine dcond rfl rfl (fun k777 => ?_) (fun k777 => ?_)
  · refine dskip ?_
    refine nseq ?_
    refine dseq ?_
    refine dblock ?_
    refine dseq ?_
    refine dreg ?_
    refine lpure (v := .int .i64 s764) rfl (p_move rfl) rfl rfl ?_
    refine lpure (v := .int .i64 s764) rfl (p_assign rfl) rfl rfl ?_
    refine lend ?_
    refine nseq ?_
    refine dseq ?_
    refine dreg ?_
    refine lpure (v := .int .i64 p747) rfl (p_move rfl) rfl rfl ?_
    refine lpure (v := .slice a746 n746 c746) rfl (p_move rfl) rfl rfl ?_
    refine lpure (v := .int .i64 s764) rfl (p_move rfl) rfl rfl ?_
    refine Sim.bindM fun e778 he779 => ?_
    obtain ⟨p780, cs780, hp780, hF780, hR780⟩ := RSl.ia H746 he779 (kd := .i64) (n := 1) rfl
    have hR780 : _ = [(.int .i64 e778 : Value)] := hR780
    subst hR780
    refine lpure (v := p780) rfl (p_ia rs_28 rfl) hp780 rfl ?_
    refine lread (v := .int .i64 e778) rfl (q_load wd_3 rfl) (FP.ld X775 hF780) rfl ?_
    refine lpure (v := .bool (decide (p747 = e778))) rfl (p_eq rfl) rfl rfl ?_
    refine lend ?_
    refine nseq ?_
    refine dcond rfl rfl (fun k781 => ?_) (fun k781 => ?_)
    · refine dseq ?_
      refine dreg ?_
      refine lpure (v := .int .i64 s764) rfl (p_move rfl) rfl rfl ?_
      refine lpure (v := .int .i64 s764) rfl (p_assign rfl) rfl rfl ?_
      refine lend ?_
      refine nseq ?_
      refine dret ?_
      refine rblock ?_
      refine rseq ?_
      refine rloop ?_
      refine rblock ?_
      refine rseq ?_
      exact kcut_r (res_1 resT) X775 rfl rfl
    · refine dskip ?_
      refine nblock ?_
      refine nseq ?_
      refine dreg ?_
      refine lpure (v := .int .i64 (w64 (s764 + 1))) rfl (p_add rfl) rfl rfl ?_
      refine lpure (v := .int .i64 (w64 (s764 + 1))) rfl (p_move rfl) rfl rfl ?_
      refine lend ?_
      exact kbackM ih773 (w64 (s764 + 1)) () (sub_cons rfl (sub_cons rfl (sub_cons rfl (sub_cons rfl sub_nil)))) X775
  · refine dexit ?_
    refine eseq ?_
    refine eloop ?_
    refine xblock ?_
    refine nseq ?_
    refine dseq ?_
    refine dreg ?_
    refine lpure (v := .int .i64 (-1)) rfl (p_assign rfl) rfl rfl ?_
    refine lend ?_
    refine nseq ?_
    refine dret ?_
    exact kcut_r (res_1 resT) X775 rfl rfl
/-! slices.Contains[[]int,int] -/
theorem f22_ok {n : Nat} {φ : Fz} {lo : Nat} {h : Heap} {own : OwnL} (X : St φ lo h own) (p742 : (List Int)) (p744 : Int) {a743 : Option Addr} {n743 c743 : Nat} (H743 : RSl (eInt .i64) φ (.slice a743 n743 c743) p742) : Sim ((recN Try.prog LL cutF (n + 2)).call 22 #[(.slice a743 n743 c743), (.int .i64 p744)] h) (m_slices_Contains_int_int p742 p744) (fun (d : Bool) p => p = (.bool d, h)) := by
  refine fcut Try.func22 rfl rfl rfl rfl X ?_
  intro h0 X0
  refine dseq ?_
  refine dreg ?_
  refine lpure (v := .bool false) rfl (p_assign rfl) rfl rfl ?_
  refine lend ?_
  refine nseq ?_
  refine dseq ?_
  refine dreg ?_
  refine lpure (v := .slice a743 n743 c743) rfl (p_move rfl) rfl rfl ?_
  refine lpure (v := .int .i64 p744) rfl (p_move rfl) rfl rfl ?_
  refine lcall rfl rfl ca_52 rfl rfl (f52_ok X0 p742 p744 H743) rfl (fun e782 v783 h784 hq785 => ?_)
  cases hq785
  refine lpure (v := .bool (decide (0 ≤ e782))) rfl (p_ge rfl) rfl rfl ?_
  refine lpure (v := .bool (decide (0 ≤ e782))) rfl (p_assign rfl) rfl rfl ?_
  refine lend ?_
  refine nseq ?_
  refine dret ?_
  exact kcut_r (res_1 resT) X0 rfl rfl
/-! isochron/topo.reach -/
theorem f47_ok {n : Nat} {φ : Fz} {lo : Nat} {h : Heap} {own : OwnL} (X : St φ lo h own) (p3318 : ApiTopo) (p3321 : Int) (p3322 : (List Int)) {a3319 : Option Addr} {n3319 c3319 : Nat} {a3320 : Option Addr} {n3320 c3320 : Nat} {a3323 : Option Addr} {n3323 c3323 : Nat} (H3319 : RSl eBool φ (.slice a3319 n3319 c3319) p3318.Station) (H3320 : RSl eApiLink φ (.slice a3320 n3320 c3320) p3318.Links) (H3323 : RSl (eInt .i64) φ (.slice a3323 n3323 c3323) p3322) : Sim ((recN Try.prog LL cutF (n + 5)).call 47 #[(.agg #[.int .i64 p3318.Nodes, .slice a3319 n3319 c3319, .slice a3320 n3320 c3320]), (.int .i64 p3321), (.slice a3323 n3323 c3323)] h) (m_topo_reach p3318 p3321 p3322) (fun (d : (List Bool)) p => ∃ φ2 : Fz, ∃ a5936 : Option Addr, ∃ n5936 : Nat, ∃ c5936 : Nat, ∃ ob5936 : Option Nat, ∃ blk5936 : Blk, Fz.le φ φ2 ∧ St φ2 lo p.2 ((ob5936, blk5936) :: own) ∧ p.1 = .slice a5936 n5936 c5936 ∧ OSl eBool φ2 4 ob5936 blk5936 (.slice a5936 n5936 c5936) d) := by
  refine fopen Try.func47 rfl rfl rfl rfl ?_
  refine dseq ?_
  refine dreg ?_
  refine lbox rfl rfl rfl rfl rfl X (fun b3324 h3326 X3327 => ?_)
  refine lbox rfl rfl rfl rfl rfl X3327 (fun b3328 h3330 X3331 => ?_)
  refine lpure (v := .slice none 0 0) rfl (p_assign rfl) rfl rfl ?_
  refine lend ?_
  refine nseq ?_
  refine dscope ?_
  refine dseq ?_
  refine dreg ?_
  refine lpure (v := .pointer (some ⟨b3324, 0, none⟩)) rfl (p_fa fo_25_0 rfl) rfl rfl ?_
  refine lread (v := .int .i64 p3318.Nodes) rfl (q_load wd_3 rfl) (St.ld X3331 (j := 1) rfl rfl) rfl ?_
  refine Sim.mustM fun k3332 => ?_
  have k3332 := of_decide_eq_true k3332
  obtain ⟨h3332, b3332, vs3332, hv3332, X3332, O3332⟩ := OSl.mk (E := eBool) (φ := φ) (a0 := false) (k := .i64) (k' := .i64) (l := p3318.Nodes) (c := p3318.Nodes) un_22 tb_4 rfl ts_4 rfl rfl tz_4 rfl rfl rfl (by omega) (by omega) (by omega) X3331
  refine lheap rfl (h_makeSlice rfl) hv3332 rfl ?_
  refine lalloc rfl tz_22 rfl rfl rfl X3332 (fun b3334 h3336 X3337 => ?_)
  refine lstore rfl ts_22 rfl rfl (j := 0) rfl rfl rfl rfl rfl rfl X3337 (fun h3338 X3339 => ?_)
  refine lend ?_
  refine nseq ?_
  refine dseq ?_
  refine dreg ?_
  refine lread (v := .slice (some ⟨b3332, 0, none⟩) (p3318.Nodes).toNat (p3318.Nodes).toNat) rfl (q_load wd_22 rfl) (St.ld X3339 (j := 0) rfl rfl) rfl ?_
  refine lpure (v := .int .i64 p3321) rfl (p_move rfl) rfl rfl ?_
  refine Sim.bindM fun e3340 he3341 => ?_
  obtain ⟨off3342, cs3342, hp3342, hc3342, hR3342, hl3342, hm3342, hs3342⟩ := OSl.iaC O3332 he3341 (kd := .i64) (n := 1) rfl
  have hR3342 : _ = [(.bool e3340 : Value)] := hR3342
  subst hR3342
  refine lpure (v := .pointer (some ⟨b3332, off3342, none⟩)) rfl (p_ia rs_22 rfl) hp3342 rfl ?_
  have O3345 := hs3342 [.bool true] (true) rfl
  refine lstore rfl ts_4 rfl rfl (j := 1) rfl hm3342 rfl rfl (ble_iff.2 hl3342) rfl X3339 (fun h3343 X3344 => ?_)
  refine lend ?_
  refine nseq ?_
  refine dseq ?_
  refine dlabel ?_
  refine nseq ?_
  refine dseq ?_
  refine dblock ?_
  refine dloopM (τ := (List Bool)) (σ := Option Addr × Nat × Nat × Option Nat × Blk) (fun s4639 (a4640, n4640, c4640, ob4640, blk4640) => [(3, .pointer (some ⟨b3324, 0, none⟩)), (5, .pointer (some ⟨b3328, 0, none⟩)), (7, .pointer (some ⟨b3334, 0, none⟩))]) (fun s4639 (a4640, n4640, c4640, ob4640, blk4640) hh => St φ lo hh ((some b3334, .cells [.slice a4640 n4640 c4640] 22 .exact) :: (ob4640, blk4640) :: (some b3328, .cells [.slice a3323 n3323 c3323] 28 .exact) :: (some b3324, .cells [.int .i64 p3318.Nodes, .slice a3319 n3319 c3319, .slice a3320 n3320 c3320] 25 .exact) :: own) ∧ OSl eBool φ 4 ob4640 blk4640 (.slice a4640 n4640 c4640) s4639) ((List.replicate (p3318.Nodes).toNat false).set (p3321).toNat true) ((some ⟨b3332, 0, none⟩), (p3318.Nodes).toNat, (p3318.Nodes).toNat, some b3332, (.cells (setAt vs3332 off3342 [.bool true]) 4 .exact)) (sub_cons rfl (sub_cons rfl (sub_cons rfl sub_nil))) ⟨X3344, O3345⟩ ?_
  rintro n5289 ih5288 s4639 ⟨a4640, n4640, c4640, ob4640, blk4640⟩ t0 h5291 ⟨X5290, O4640⟩
  refine dblock ?_
  refine dseq ?_
  refine dseq ?_
  refine dreg ?_
  refine lread (v := .agg #[.int .i64 p3318.Nodes, .slice a3319 n3319 c3319, .slice a3320 n3320 c3320]) rfl (q_load wd_25 rfl) (St.ld X5290 (j := 3) rfl rfl) rfl ?_
  refine linl rfl rfl rfl rfl ca_40 rfl Try.func40 rfl rfl rfl rfl rfl ?_
  refine dseq ?_
  refine dreg ?_
  refine lbox rfl rfl rfl rfl rfl X5290 (fun b5292 h5294 X5295 => ?_)
  refine lpure (v := .nilFunc) rfl (p_assign rfl) rfl rfl ?_
  refine lend ?_
  refine nseq ?_
  refine dseq ?_
  refine dreg ?_
  refine lpure (v := .func (.func 62) #[] #[.pointer (some ⟨b5292, 0, none⟩)]) rfl (p_makeFunc rfl) rfl rfl ?_
  refine lpure (v := .func (.func 62) #[] #[.pointer (some ⟨b5292, 0, none⟩)]) rfl (p_assign rfl) rfl rfl ?_
  refine lend ?_
  refine nseq ?_
  refine dret ?_
  refine kin_r (res_1 resT) ?_
  refine lend ?_
  refine nseq ?_
  refine dblock ?_
  refine drange rfl rfl ca_62 Try.func62 rfl rfl X5295 (fun _ => rfl) ?_
  intro l5296 q5297 df5298 h5300 Q5299 X5301
  refine dseq ?_
  refine dreg ?_
  refine lpure (v := .pointer (some ⟨b5292, 2, none⟩)) rfl (p_fa fo_25_2 rfl) rfl rfl ?_
  refine lread (v := .slice a3320 n3320 c3320) rfl (q_load wd_23 rfl) (St.ld X5301 (j := 2) rfl rfl) rfl ?_
  refine lpure (v := .int .i64 (p3318.Links.length : Int)) rfl (p_len rfl rfl rfl un_23 rfl) (RSl.lenC H3320) rfl ?_
  refine lpure (v := .int .i64 0) rfl (p_move rfl) rfl rfl ?_
  refine lend ?_
  refine nseq ?_
  refine dblock ?_
  refine dloopM (τ := Int × (List Bool)) (σ := Option Addr × Nat × Nat × Option Nat × Blk) (fun s5619 (a5620, n5620, c5620, ob5620, blk5620) => [(0, .func (.yield l5296) #[] #[]), (6, .slice a3320 n3320 c3320), (7, .int .i64 (p3318.Links.length : Int)), (8, .int .i64 s5619.1)]) (fun s5619 (a5620, n5620, c5620, ob5620, blk5620) hh => St φ lo hh ((some l5296, rdy q5297) :: (none, .dead) :: (some b5292, .cells [.int .i64 p3318.Nodes, .slice a3319 n3319 c3319, .slice a3320 n3320 c3320] 25 .exact) :: (some b3334, .cells [.slice a5620 n5620 c5620] 22 .exact) :: (ob5620, blk5620) :: (some b3328, .cells [.slice a3323 n3323 c3323] 28 .exact) :: (some b3324, .cells [.int .i64 p3318.Nodes, .slice a3319 n3319 c3319, .slice a3320 n3320 c3320] 25 .exact) :: own) ∧ OSl eBool φ 4 ob5620 blk5620 (.slice a5620 n5620 c5620) s5619.2) (0, s4639) (a4640, n4640, c4640, ob4640, blk4640) (sub_cons rfl (sub_cons rfl (sub_cons rfl (sub_cons rfl sub_nil)))) ⟨(St.pick X5301 (.keep _ (.none _ (.skip _ (.keep _ (.keep _ (.keep _ (.keep _ (.keep _ (.refl _)))))))))), O4640⟩ ?_
  rintro n5779 ih5778 s5619 ⟨a5620, n5620, c5620, ob5620, blk5620⟩ t0 h5781 ⟨X5780, O5620⟩
  refine dseq ?_
  refine dreg ?_
  refine lpure (v := .bool (decide (s5619.1 < (p3318.Links.length : Int)))) rfl (p_lt rfl) rfl rfl ?_
  refine lend ?_
  refine nseq ?_
  refine dseq ?_
  refine dcond rfl rfl (fun k5782 => ?_) (fun k5782 => ?_)
  · refine dskip ?_
    refine nseq ?_
    refine dseq ?_
    refine dblock ?_
    refine dseq ?_
    refine dreg ?_
    refine lpure (v := .int .i64 s5619.1) rfl (p_move rfl) rfl rfl ?_
    refine Sim.bindM fun e5783 he5784 => ?_
    obtain ⟨p5785, cs5785, hp5785, hF5785, hR5785⟩ := RSl.ia H3320 he5784 (kd := .i64) (n := 4) rfl
    obtain rfl := eApiLink_el hR5785
    refine lpure (v := p5785) rfl (p_ia rs_23 rfl) hp5785 rfl ?_
    refine lread (v := .agg #[.int .i64 e5783.A, .int .i64 e5783.B, .int .i64 e5783.Per, .int .i64 e5783.Delay]) rfl (q_load wd_50 rfl) (FP.ldw X5780 hF5785 rfl rfl) rfl ?_
    refine lalloc rfl tz_50 rfl rfl rfl X5780 (fun b5786 h5788 X5789 => ?_)
    refine lpure (v := .int .i64 s5619.1) rfl (p_assign rfl) rfl rfl ?_
    refine lstore rfl ts_50 rfl rfl (j := 0) rfl rfl rfl rfl rfl rfl X5789 (fun h5790 X5791 => ?_)
    refine lend ?_
    refine nseq ?_
    refine dseq ?_
    refine dreg ?_
    refine lpure (v := .func (.yield l5296) #[] #[]) rfl (p_move rfl) rfl rfl ?_
    refine lread (v := .agg #[.int .i64 e5783.A, .int .i64 e5783.B, .int .i64 e5783.Per, .int .i64 e5783.Delay]) rfl (q_load wd_50 rfl) (St.ld X5791 (j := 0) rfl rfl) rfl ?_
    refine lpure (v := .int .i64 s5619.1) rfl (p_move rfl) rfl rfl ?_
    refine lpure (v := .int .i64 (w64 (2 * s5619.1))) rfl (p_mul rfl) rfl rfl ?_
    refine lpure (v := .agg #[.int .i64 e5783.A, .int .i64 e5783.B, .int .i64 e5783.Per, .int .i64 e5783.Delay, .int .i64 (w64 (2 * s5619.1))]) rfl (p_build rfl) (build_st' tz_65 pl_65 rfl) rfl ?_
    refine lround rfl rfl rfl rfl rfl rfl X5791 (j := 1) rfl Q5299 rfl rfl rfl rfl rfl (fun t5792 => ?_)
    refine dreg ?_
    refine lalloc rfl tz_65 rfl rfl rfl X5791 (fun b5793 h5795 X5796 => ?_)
    refine lstore rfl ts_65 rfl rfl (j := 0) rfl rfl rfl rfl rfl rfl X5796 (fun h5797 X5798 => ?_)
    refine lend ?_
    refine basg X5798 (j := 2) rfl (fun h5799 X5800 => ?_)
    refine dblock ?_
    refine dseq ?_
    refine ddraw 0 0 0 (by kernel_rfl) ?_
    refine sload (v := .slice a5620 n5620 c5620) rfl rfl (q_load wd_22 rfl) (St.ld X5800 (j := 5) rfl rfl) (same_self 20 rfl) rfl ?_
    refine sload (v := .agg #[.int .i64 e5783.A, .int .i64 e5783.B, .int .i64 e5783.Per, .int .i64 e5783.Delay, .int .i64 (w64 (2 * s5619.1))]) rfl rfl (q_load wd_65 rfl) (St.ld X5800 (j := 0) rfl rfl) (same_self 20 rfl) rfl ?_
    refine scall (en := fun d => (.int .i64 d)) rfl rfl ca_41 rfl rfl (f41_ok X5800 ((TopoEnd.mk e5783 (w64 (2 * s5619.1))))) rfl (fun e5801 => ?_)
    refine Sim.bindM fun e5805 he5806 => ?_
    obtain ⟨b5807, vs5807, m5807, off5807, cs5807, rfl, rfl, hp5807, hc5807, hR5807, hl5807, hm5807, hs5807⟩ := OSl.ia O5620 he5806 (kd := .i64) (n := 1) rfl
    have hR5807 : _ = [(.bool e5805 : Value)] := hR5807
    subst hR5807
    refine spure (v := .pointer (some ⟨b5807, off5807, none⟩)) rfl (p_ia rs_22 rfl) (lo_t (lo_osl X5800 (j := 6) rfl O5620) (lo_t rfl rfl)) hp5807 rfl ?_
    refine sload (v := .bool e5805) rfl rfl (q_load wd_4 rfl) (St.ld X5800 (j := 6) rfl (rdE1 hc5807 (k := 0) rfl rfl)) (same_self 20 rfl) rfl ?_
    refine spure (v := .bool e5805) rfl (p_move rfl) (lo_t rfl rfl) rfl rfl ?_
    refine sjoinM (τ := Bool) (σ := Unit) (fun s5817 (_ : Unit) => [(5, .pointer (some ⟨b3328, 0, none⟩)), (7, .pointer (some ⟨b3334, 0, none⟩)), (8, .pointer (some ⟨b5793, 0, none⟩)), (30, .bool s5817)]) (fun s5817 (_ : Unit) hh => St φ lo hh ((some b5793, .cells [.int .i64 e5783.A, .int .i64 e5783.B, .int .i64 e5783.Per, .int .i64 e5783.Delay, .int .i64 (w64 (2 * s5619.1))] 65 .exact) :: (some b5786, .cells [.int .i64 e5783.A, .int .i64 e5783.B, .int .i64 e5783.Per, .int .i64 e5783.Delay] 50 .exact) :: (some l5296, bsy q5297) :: (none, .dead) :: (some b5292, .cells [.int .i64 p3318.Nodes, .slice a3319 n3319 c3319, .slice a3320 n3320 c3320] 25 .exact) :: (some b3334, .cells [.slice a5620 n5620 c5620] 22 .exact) :: (some b5807, .cells vs5807 4 m5807) :: (some b3328, .cells [.slice a3323 n3323 c3323] 28 .exact) :: (some b3324, .cells [.int .i64 p3318.Nodes, .slice a3319 n3319 c3319, .slice a3320 n3320 c3320] 25 .exact) :: own)) 7 13 ?_ ?_
    · rintro s5817 _ t0 h5819 X5818
      refine spure (v := .bool s5817) rfl (p_move rfl) (lo_t rfl rfl) rfl rfl ?_
      refine sjoinM (τ := Bool) (σ := Unit) (fun s5826 (_ : Unit) => [(7, .pointer (some ⟨b3334, 0, none⟩)), (8, .pointer (some ⟨b5793, 0, none⟩)), (38, .bool s5826)]) (fun s5826 (_ : Unit) hh => St φ lo hh ((some b5793, .cells [.int .i64 e5783.A, .int .i64 e5783.B, .int .i64 e5783.Per, .int .i64 e5783.Delay, .int .i64 (w64 (2 * s5619.1))] 65 .exact) :: (some b5786, .cells [.int .i64 e5783.A, .int .i64 e5783.B, .int .i64 e5783.Per, .int .i64 e5783.Delay] 50 .exact) :: (some l5296, bsy q5297) :: (none, .dead) :: (some b5292, .cells [.int .i64 p3318.Nodes, .slice a3319 n3319 c3319, .slice a3320 n3320 c3320] 25 .exact) :: (some b3334, .cells [.slice a5620 n5620 c5620] 22 .exact) :: (some b5807, .cells vs5807 4 m5807) :: (some b3328, .cells [.slice a3323 n3323 c3323] 28 .exact) :: (some b3324, .cells [.int .i64 p3318.Nodes, .slice a3319 n3319 c3319, .slice a3320 n3320 c3320] 25 .exact) :: own)) 7 21 ?_ ?_
      · rintro s5826 _ t0 h5828 X5827
        refine send ?_
        refine nseq ?_
        refine dcond rfl rfl (fun k5829 => ?_) (fun k5829 => ?_)
        · refine dseq ?_
          refine ddraw 16 16 0 (by kernel_rfl) ?_
          refine sload (v := .slice a5620 n5620 c5620) rfl rfl (q_load wd_22 rfl) (St.ld X5827 (j := 5) rfl rfl) (same_self 20 rfl) rfl ?_
          refine sload (v := .agg #[.int .i64 e5783.A, .int .i64 e5783.B, .int .i64 e5783.Per, .int .i64 e5783.Delay, .int .i64 (w64 (2 * s5619.1))]) rfl rfl (q_load wd_65 rfl) (St.ld X5827 (j := 0) rfl rfl) (same_self 20 rfl) rfl ?_
          refine scall (en := fun d => (.int .i64 d)) rfl rfl ca_42 rfl rfl (f42_ok X5827 ((TopoEnd.mk e5783 (w64 (2 * s5619.1))))) rfl (fun e5830 => ?_)
          refine Sim.bindM fun e5834 he5835 => ?_
          obtain ⟨off5836, cs5836, hp5836, hc5836, hR5836, hl5836, hm5836, hs5836⟩ := OSl.iaC O5620 he5835 (kd := .i64) (n := 1) rfl
          have hR5836 : _ = [(.bool e5834 : Value)] := hR5836
          subst hR5836
          refine spure (v := .pointer (some ⟨b5807, off5836, none⟩)) rfl (p_ia rs_22 rfl) (lo_t (lo_osl X5827 (j := 6) rfl O5620) (lo_t rfl rfl)) hp5836 rfl ?_
          have O5839 := hs5836 [.bool true] (true) rfl
          refine sstore rfl rfl ts_4 rfl rfl (j := 6) rfl hm5836 rfl rfl (ble_iff.2 hl5836) rfl X5827 (fun h5837 X5838 => ?_)
          refine send ?_
          refine nseq ?_
          refine dexit ?_
          refine eblock rfl ?_
          refine ernd X5838 (j := 2) rfl (fun h5840 X5841 => ?_)
          refine lpure (v := .bool true) rfl (p_not rfl) rfl rfl ?_
          refine lpure (v := .bool true) rfl (p_move rfl) rfl rfl ?_
          refine lskip rfl rfl ?_
          refine lskip rfl rfl ?_
          refine lskip rfl rfl ?_
          refine lskip rfl rfl ?_
          refine lskip rfl rfl ?_
          refine lskip rfl rfl ?_
          refine lskip rfl rfl ?_
          refine lskip rfl rfl ?_
          refine lpure (v := .bool true) rfl (p_pick rfl) rfl rfl ?_
          refine lend ?_
          refine nseq ?_
          refine dcondT rfl rfl ?_
          refine dret ?_
          refine rblock ?_
          refine rseq ?_
          refine rloop ?_
          refine rblock ?_
          refine kin_r res_0 ?_
          refine rend_d X5841 (j := 2) rfl (.inr ⟨_, rfl, rfl⟩) (fun h5842 X5843 => ?_)
          refine eblock rfl ?_
          refine eseq ?_
          refine xblock ?_
          exact kbackM ih5288 (s5619.2.set (e5830).toNat true) (a5620, n5620, c5620, some b5807, (.cells (setAt vs5807 off5836 [.bool true]) 4 m5807)) (sub_cons rfl (sub_cons rfl (sub_cons rfl sub_nil))) ⟨(St.pick X5843 (.skip _ (.skip _ (.skip _ (.skip _ (.skip _ (.keep _ (.keep _ (.keep _ (.keep _ (.refl _))))))))))), O5839⟩
        · refine dskip ?_
          refine nblock ?_
          refine nrnd X5827 (j := 2) rfl (fun h5844 X5845 => ?_)
          refine lpure (v := .bool false) rfl (p_not rfl) rfl rfl ?_
          refine lpure (v := .bool false) rfl (p_move rfl) rfl rfl ?_
          refine lpure (v := .func (.yield l5296) #[] #[]) rfl (p_move rfl) rfl rfl ?_
          refine lread (v := .agg #[.int .i64 e5783.A, .int .i64 e5783.B, .int .i64 e5783.Per, .int .i64 e5783.Delay]) rfl (q_load wd_50 rfl) (St.ld X5845 (j := 1) rfl rfl) rfl ?_
          refine lpure (v := .int .i64 s5619.1) rfl (p_move rfl) rfl rfl ?_
          refine lpure (v := .int .i64 (w64 (2 * s5619.1))) rfl (p_mul rfl) rfl rfl ?_
          refine lpure (v := .int .i64 (w64 ((w64 (2 * s5619.1)) + 1))) rfl (p_add rfl) rfl rfl ?_
          refine lpure (v := .agg #[.int .i64 e5783.A, .int .i64 e5783.B, .int .i64 e5783.Per, .int .i64 e5783.Delay, .int .i64 (w64 ((w64 (2 * s5619.1)) + 1))]) rfl (p_build rfl) (build_st' tz_65 pl_65 rfl) rfl ?_
          refine lround rfl rfl rfl rfl rfl rfl X5845 (j := 2) rfl Q5299 rfl rfl rfl rfl rfl (fun t5846 => ?_)
          refine dreg ?_
          refine lalloc rfl tz_65 rfl rfl rfl X5845 (fun b5847 h5849 X5850 => ?_)
          refine lstore rfl ts_65 rfl rfl (j := 0) rfl rfl rfl rfl rfl rfl X5850 (fun h5851 X5852 => ?_)
          refine lend ?_
          refine basg X5852 (j := 3) rfl (fun h5853 X5854 => ?_)
          refine dblock ?_
          refine dseq ?_
          refine ddraw 0 0 0 (by kernel_rfl) ?_
          refine sload (v := .slice a5620 n5620 c5620) rfl rfl (q_load wd_22 rfl) (St.ld X5854 (j := 6) rfl rfl) (same_self 20 rfl) rfl ?_
          refine sload (v := .agg #[.int .i64 e5783.A, .int .i64 e5783.B, .int .i64 e5783.Per, .int .i64 e5783.Delay, .int .i64 (w64 ((w64 (2 * s5619.1)) + 1))]) rfl rfl (q_load wd_65 rfl) (St.ld X5854 (j := 0) rfl rfl) (same_self 20 rfl) rfl ?_
          refine scall (en := fun d => (.int .i64 d)) rfl rfl ca_41 rfl rfl (f41_ok X5854 ((TopoEnd.mk e5783 (w64 ((w64 (2 * s5619.1)) + 1))))) rfl (fun e5855 => ?_)
          refine Sim.bindM fun e5859 he5860 => ?_
          obtain ⟨off5861, cs5861, hp5861, hc5861, hR5861, hl5861, hm5861, hs5861⟩ := OSl.iaC O5620 he5860 (kd := .i64) (n := 1) rfl
          have hR5861 : _ = [(.bool e5859 : Value)] := hR5861
          subst hR5861
          refine spure (v := .pointer (some ⟨b5807, off5861, none⟩)) rfl (p_ia rs_22 rfl) (lo_t (lo_osl X5854 (j := 7) rfl O5620) (lo_t rfl rfl)) hp5861 rfl ?_
          refine sload (v := .bool e5859) rfl rfl (q_load wd_4 rfl) (St.ld X5854 (j := 7) rfl (rdE1 hc5861 (k := 0) rfl rfl)) (same_self 20 rfl) rfl ?_
          refine spure (v := .bool e5859) rfl (p_move rfl) (lo_t rfl rfl) rfl rfl ?_
          refine sjoinM (τ := Bool) (σ := Unit) (fun s5871 (_ : Unit) => [(5, .pointer (some ⟨b3328, 0, none⟩)), (7, .pointer (some ⟨b3334, 0, none⟩)), (8, .pointer (some ⟨b5847, 0, none⟩)), (30, .bool s5871)]) (fun s5871 (_ : Unit) hh => St φ lo hh ((some b5847, .cells [.int .i64 e5783.A, .int .i64 e5783.B, .int .i64 e5783.Per, .int .i64 e5783.Delay, .int .i64 (w64 ((w64 (2 * s5619.1)) + 1))] 65 .exact) :: (some b5793, .cells [.int .i64 e5783.A, .int .i64 e5783.B, .int .i64 e5783.Per, .int .i64 e5783.Delay, .int .i64 (w64 (2 * s5619.1))] 65 .exact) :: (some b5786, .cells [.int .i64 e5783.A, .int .i64 e5783.B, .int .i64 e5783.Per, .int .i64 e5783.Delay] 50 .exact) :: (some l5296, bsy q5297) :: (none, .dead) :: (some b5292, .cells [.int .i64 p3318.Nodes, .slice a3319 n3319 c3319, .slice a3320 n3320 c3320] 25 .exact) :: (some b3334, .cells [.slice a5620 n5620 c5620] 22 .exact) :: (some b5807, .cells vs5807 4 m5807) :: (some b3328, .cells [.slice a3323 n3323 c3323] 28 .exact) :: (some b3324, .cells [.int .i64 p3318.Nodes, .slice a3319 n3319 c3319, .slice a3320 n3320 c3320] 25 .exact) :: own)) 7 13 ?_ ?_
          · rintro s5871 _ t0 h5873 X5872
            refine spure (v := .bool s5871) rfl (p_move rfl) (lo_t rfl rfl) rfl rfl ?_
            refine sjoinM (τ := Bool) (σ := Unit) (fun s5880 (_ : Unit) => [(7, .pointer (some ⟨b3334, 0, none⟩)), (8, .pointer (some ⟨b5847, 0, none⟩)), (38, .bool s5880)]) (fun s5880 (_ : Unit) hh => St φ lo hh ((some b5847, .cells [.int .i64 e5783.A, .int .i64 e5783.B, .int .i64 e5783.Per, .int .i64 e5783.Delay, .int .i64 (w64 ((w64 (2 * s5619.1)) + 1))] 65 .exact) :: (some b5793, .cells [.int .i64 e5783.A, .int .i64 e5783.B, .int .i64 e5783.Per, .int .i64 e5783.Delay, .int .i64 (w64 (2 * s5619.1))] 65 .exact) :: (some b5786, .cells [.int .i64 e5783.A, .int .i64 e5783.B, .int .i64 e5783.Per, .int .i64 e5783.Delay] 50 .exact) :: (some l5296, bsy q5297) :: (none, .dead) :: (some b5292, .cells [.int .i64 p3318.Nodes, .slice a3319 n3319 c3319, .slice a3320 n3320 c3320] 25 .exact) :: (some b3334, .cells [.slice a5620 n5620 c5620] 22 .exact) :: (some b5807, .cells vs5807 4 m5807) :: (some b3328, .cells [.slice a3323 n3323 c3323] 28 .exact) :: (some b3324, .cells [.int .i64 p3318.Nodes, .slice a3319 n3319 c3319, .slice a3320 n3320 c3320] 25 .exact) :: own)) 7 21 ?_ ?_
            · rintro s5880 _ t0 h5882 X5881
              refine send ?_
              refine nseq ?_
              refine dcond rfl rfl (fun k5883 => ?_) (fun k5883 => ?_)
              · refine dseq ?_
                refine ddraw 16 16 0 (by kernel_rfl) ?_
                refine sload (v := .slice a5620 n5620 c5620) rfl rfl (q_load wd_22 rfl) (St.ld X5881 (j := 6) rfl rfl) (same_self 20 rfl) rfl ?_
                refine sload (v := .agg #[.int .i64 e5783.A, .int .i64 e5783.B, .int .i64 e5783.Per, .int .i64 e5783.Delay, .int .i64 (w64 ((w64 (2 * s5619.1)) + 1))]) rfl rfl (q_load wd_65 rfl) (St.ld X5881 (j := 0) rfl rfl) (same_self 20 rfl) rfl ?_
                refine scall (en := fun d => (.int .i64 d)) rfl rfl ca_42 rfl rfl (f42_ok X5881 ((TopoEnd.mk e5783 (w64 ((w64 (2 * s5619.1)) + 1))))) rfl (fun e5884 => ?_)
                refine Sim.bindM fun e5888 he5889 => ?_
                obtain ⟨off5890, cs5890, hp5890, hc5890, hR5890, hl5890, hm5890, hs5890⟩ := OSl.iaC O5620 he5889 (kd := .i64) (n := 1) rfl
                have hR5890 : _ = [(.bool e5888 : Value)] := hR5890
                subst hR5890
                refine spure (v := .pointer (some ⟨b5807, off5890, none⟩)) rfl (p_ia rs_22 rfl) (lo_t (lo_osl X5881 (j := 7) rfl O5620) (lo_t rfl rfl)) hp5890 rfl ?_
                have O5893 := hs5890 [.bool true] (true) rfl
                refine sstore rfl rfl ts_4 rfl rfl (j := 7) rfl hm5890 rfl rfl (ble_iff.2 hl5890) rfl X5881 (fun h5891 X5892 => ?_)
                refine send ?_
                refine nseq ?_
                refine dexit ?_
                refine eblock rfl ?_
                refine ernd X5892 (j := 3) rfl (fun h5894 X5895 => ?_)
                refine lpure (v := .bool true) rfl (p_not rfl) rfl rfl ?_
                refine lpure (v := .bool true) rfl (p_pick rfl) rfl rfl ?_
                refine lend ?_
                refine nseq ?_
                refine dcondT rfl rfl ?_
                refine dret ?_
                refine rblock ?_
                refine rseq ?_
                refine rloop ?_
                refine rblock ?_
                refine kin_r res_0 ?_
                refine rend_d X5895 (j := 3) rfl (.inr ⟨_, rfl, rfl⟩) (fun h5896 X5897 => ?_)
                refine eblock rfl ?_
                refine eseq ?_
                refine xblock ?_
                exact kbackM ih5288 (s5619.2.set (e5884).toNat true) (a5620, n5620, c5620, some b5807, (.cells (setAt vs5807 off5890 [.bool true]) 4 m5807)) (sub_cons rfl (sub_cons rfl (sub_cons rfl sub_nil))) ⟨(St.pick X5897 (.skip _ (.skip _ (.skip _ (.skip _ (.skip _ (.skip _ (.keep _ (.keep _ (.keep _ (.keep _ (.refl _)))))))))))), O5893⟩
              · refine dskip ?_
                refine nblock ?_
                refine nrnd X5881 (j := 3) rfl (fun h5898 X5899 => ?_)
                refine lpure (v := .bool false) rfl (p_not rfl) rfl rfl ?_
                refine lpure (v := .bool false) rfl (p_pick rfl) rfl rfl ?_
                refine lend ?_
                refine nseq ?_
                refine dcondF rfl rfl ?_
                refine dskip ?_
                refine nblock ?_
                refine nseq ?_
                refine dreg ?_
                refine lpure (v := .int .i64 (w64 (s5619.1 + 1))) rfl (p_add rfl) rfl rfl ?_
                refine lpure (v := .int .i64 (w64 (s5619.1 + 1))) rfl (p_move rfl) rfl rfl ?_
                refine lend ?_
                exact kbackM ih5778 ((w64 (s5619.1 + 1)), s5619.2) (a5620, n5620, c5620, some b5807, .cells vs5807 4 m5807) (sub_cons rfl (sub_cons rfl (sub_cons rfl (sub_cons rfl sub_nil)))) ⟨(St.pick X5899 (.skip _ (.skip _ (.skip _ (.keep _ (.none _ (.skip _ (.keep _ (.keep _ (.keep _ (.keep _ (.keep _ (.refl _))))))))))))), O5620⟩
            · intro j5900 J5901
              refine sif (j := 31) (show _ = Value.bool s5871 from rfl) (fun k5902 => ?_) (fun k5902 => ?_)
              · refine sload (v := .slice a3323 n3323 c3323) rfl rfl (q_load wd_28 rfl) (St.ld X5872 (j := 8) rfl rfl) (same_self 20 rfl) rfl ?_
                refine spure (v := .pointer (some ⟨b5847, 4, none⟩)) rfl (p_fa fo_65_1 rfl) (lo_t (lo_own X5872 (j := 0) (o := 0) (s := none) (f := 0) rfl) rfl) rfl rfl ?_
                refine sload (v := .int .i64 (w64 ((w64 (2 * s5619.1)) + 1))) rfl rfl (q_load wd_3 rfl) (St.ld X5872 (j := 0) rfl rfl) (same_self 20 rfl) rfl ?_
                refine spure (v := .int .i64 (w64 (Int.tdiv (w64 ((w64 (2 * s5619.1)) + 1)) 2))) rfl (p_quo rfl) (lo_t rfl (lo_c rfl)) rfl rfl ?_
                refine scall (en := fun d => (.bool d)) rfl rfl ca_22 rfl rfl (f22_ok X5872 p3322 ((w64 (Int.tdiv (w64 ((w64 (2 * s5619.1)) + 1)) 2))) H3323) rfl (fun e5903 => ?_)
                refine spure (v := .bool (!e5903)) rfl (p_not rfl) (lo_t rfl rfl) rfl rfl ?_
                refine spure (v := .bool (!e5903)) rfl (p_pick rfl) (lo_t rfl (lo_t rfl (lo_c rfl))) rfl rfl ?_
                exact sjmpM J5901 (!e5903) () (sub_cons rfl (sub_cons rfl (sub_cons rfl sub_nil))) (St.pick X5872 (.keep _ (.keep _ (.keep _ (.keep _ (.none _ (.skip _ (.keep _ (.keep _ (.keep _ (.keep _ (.keep _ (.refl _)))))))))))))
              · refine sskip rfl rfl ?_
                refine sskip rfl rfl ?_
                refine sskip rfl rfl ?_
                refine sskip rfl rfl ?_
                refine sskip rfl rfl ?_
                refine sskip rfl rfl ?_
                refine spure (v := .bool false) rfl (p_pick rfl) (lo_t rfl (lo_t rfl (lo_c rfl))) rfl rfl ?_
                exact sjmpM J5901 false () (sub_cons rfl (sub_cons rfl (sub_cons rfl sub_nil))) (St.pick X5872 (.keep _ (.keep _ (.keep _ (.keep _ (.none _ (.skip _ (.keep _ (.keep _ (.keep _ (.keep _ (.keep _ (.refl _)))))))))))))
          · intro j5907 J5908
            refine sif (j := 23) (show _ = Value.bool e5859 from rfl) (fun k5909 => ?_) (fun k5909 => ?_)
            · refine sload (v := .slice a5620 n5620 c5620) rfl rfl (q_load wd_22 rfl) (St.ld X5854 (j := 6) rfl rfl) (same_self 20 rfl) rfl ?_
              refine sload (v := .agg #[.int .i64 e5783.A, .int .i64 e5783.B, .int .i64 e5783.Per, .int .i64 e5783.Delay, .int .i64 (w64 ((w64 (2 * s5619.1)) + 1))]) rfl rfl (q_load wd_65 rfl) (St.ld X5854 (j := 0) rfl rfl) (same_self 20 rfl) rfl ?_
              refine scall (en := fun d => (.int .i64 d)) rfl rfl ca_42 rfl rfl (f42_ok X5854 ((TopoEnd.mk e5783 (w64 ((w64 (2 * s5619.1)) + 1))))) rfl (fun e5910 => ?_)
              refine Sim.bindM fun e5914 he5915 => ?_
              obtain ⟨off5916, cs5916, hp5916, hc5916, hR5916, hl5916, hm5916, hs5916⟩ := OSl.iaC O5620 he5915 (kd := .i64) (n := 1) rfl
              have hR5916 : _ = [(.bool e5914 : Value)] := hR5916
              subst hR5916
              refine spure (v := .pointer (some ⟨b5807, off5916, none⟩)) rfl (p_ia rs_22 rfl) (lo_t (lo_osl X5854 (j := 7) rfl O5620) (lo_t rfl rfl)) hp5916 rfl ?_
              refine sload (v := .bool e5914) rfl rfl (q_load wd_4 rfl) (St.ld X5854 (j := 7) rfl (rdE1 hc5916 (k := 0) rfl rfl)) (same_self 20 rfl) rfl ?_
              refine spure (v := .bool (!e5914)) rfl (p_not rfl) (lo_t rfl rfl) rfl rfl ?_
              refine spure (v := .bool (!e5914)) rfl (p_pick rfl) (lo_t rfl (lo_t rfl (lo_c rfl))) rfl rfl ?_
              exact sjmpM J5908 (!e5914) () (sub_cons rfl (sub_cons rfl (sub_cons rfl (sub_cons rfl sub_nil)))) (St.pick X5854 (.keep _ (.keep _ (.keep _ (.keep _ (.none _ (.skip _ (.keep _ (.keep _ (.keep _ (.keep _ (.keep _ (.refl _)))))))))))))
            · refine sskip rfl rfl ?_
              refine sskip rfl rfl ?_
              refine sskip rfl rfl ?_
              refine sskip rfl rfl ?_
              refine sskip rfl rfl ?_
              refine sskip rfl rfl ?_
              refine spure (v := .bool false) rfl (p_pick rfl) (lo_t rfl (lo_t rfl (lo_c rfl))) rfl rfl ?_
              exact sjmpM J5908 false () (sub_cons rfl (sub_cons rfl (sub_cons rfl (sub_cons rfl sub_nil)))) (St.pick X5854 (.keep _ (.keep _ (.keep _ (.keep _ (.none _ (.skip _ (.keep _ (.keep _ (.keep _ (.keep _ (.keep _ (.refl _)))))))))))))
      · intro j5917 J5918
        refine sif (j := 31) (show _ = Value.bool s5817 from rfl) (fun k5919 => ?_) (fun k5919 => ?_)
        · refine sload (v := .slice a3323 n3323 c3323) rfl rfl (q_load wd_28 rfl) (St.ld X5818 (j := 7) rfl rfl) (same_self 20 rfl) rfl ?_
          refine spure (v := .pointer (some ⟨b5793, 4, none⟩)) rfl (p_fa fo_65_1 rfl) (lo_t (lo_own X5818 (j := 0) (o := 0) (s := none) (f := 0) rfl) rfl) rfl rfl ?_
          refine sload (v := .int .i64 (w64 (2 * s5619.1))) rfl rfl (q_load wd_3 rfl) (St.ld X5818 (j := 0) rfl rfl) (same_self 20 rfl) rfl ?_
          refine spure (v := .int .i64 (w64 (Int.tdiv (w64 (2 * s5619.1)) 2))) rfl (p_quo rfl) (lo_t rfl (lo_c rfl)) rfl rfl ?_
          refine scall (en := fun d => (.bool d)) rfl rfl ca_22 rfl rfl (f22_ok X5818 p3322 ((w64 (Int.tdiv (w64 (2 * s5619.1)) 2))) H3323) rfl (fun e5920 => ?_)
          refine spure (v := .bool (!e5920)) rfl (p_not rfl) (lo_t rfl rfl) rfl rfl ?_
          refine spure (v := .bool (!e5920)) rfl (p_pick rfl) (lo_t rfl (lo_t rfl (lo_c rfl))) rfl rfl ?_
          exact sjmpM J5918 (!e5920) () (sub_cons rfl (sub_cons rfl (sub_cons rfl sub_nil))) (St.pick X5818 (.keep _ (.keep _ (.keep _ (.none _ (.skip _ (.keep _ (.keep _ (.keep _ (.keep _ (.keep _ (.refl _))))))))))))
        · refine sskip rfl rfl ?_
          refine sskip rfl rfl ?_
          refine sskip rfl rfl ?_
          refine sskip rfl rfl ?_
          refine sskip rfl rfl ?_
          refine sskip rfl rfl ?_
          refine spure (v := .bool false) rfl (p_pick rfl) (lo_t rfl (lo_t rfl (lo_c rfl))) rfl rfl ?_
          exact sjmpM J5918 false () (sub_cons rfl (sub_cons rfl (sub_cons rfl sub_nil))) (St.pick X5818 (.keep _ (.keep _ (.keep _ (.none _ (.skip _ (.keep _ (.keep _ (.keep _ (.keep _ (.keep _ (.refl _))))))))))))
    · intro j5924 J5925
      refine sif (j := 23) (show _ = Value.bool e5805 from rfl) (fun k5926 => ?_) (fun k5926 => ?_)
      · refine sload (v := .slice a5620 n5620 c5620) rfl rfl (q_load wd_22 rfl) (St.ld X5800 (j := 5) rfl rfl) (same_self 20 rfl) rfl ?_
        refine sload (v := .agg #[.int .i64 e5783.A, .int .i64 e5783.B, .int .i64 e5783.Per, .int .i64 e5783.Delay, .int .i64 (w64 (2 * s5619.1))]) rfl rfl (q_load wd_65 rfl) (St.ld X5800 (j := 0) rfl rfl) (same_self 20 rfl) rfl ?_
        refine scall (en := fun d => (.int .i64 d)) rfl rfl ca_42 rfl rfl (f42_ok X5800 ((TopoEnd.mk e5783 (w64 (2 * s5619.1))))) rfl (fun e5927 => ?_)
        refine Sim.bindM fun e5931 he5932 => ?_
        obtain ⟨off5933, cs5933, hp5933, hc5933, hR5933, hl5933, hm5933, hs5933⟩ := OSl.iaC O5620 he5932 (kd := .i64) (n := 1) rfl
        have hR5933 : _ = [(.bool e5931 : Value)] := hR5933
        subst hR5933
        refine spure (v := .pointer (some ⟨b5807, off5933, none⟩)) rfl (p_ia rs_22 rfl) (lo_t (lo_osl X5800 (j := 6) rfl O5620) (lo_t rfl rfl)) hp5933 rfl ?_
        refine sload (v := .bool e5931) rfl rfl (q_load wd_4 rfl) (St.ld X5800 (j := 6) rfl (rdE1 hc5933 (k := 0) rfl rfl)) (same_self 20 rfl) rfl ?_
        refine spure (v := .bool (!e5931)) rfl (p_not rfl) (lo_t rfl rfl) rfl rfl ?_
        refine spure (v := .bool (!e5931)) rfl (p_pick rfl) (lo_t rfl (lo_t rfl (lo_c rfl))) rfl rfl ?_
        exact sjmpM J5925 (!e5931) () (sub_cons rfl (sub_cons rfl (sub_cons rfl (sub_cons rfl sub_nil)))) (St.pick X5800 (.keep _ (.keep _ (.keep _ (.none _ (.skip _ (.keep _ (.keep _ (.keep _ (.keep _ (.keep _ (.refl _))))))))))))
      · refine sskip rfl rfl ?_
        refine sskip rfl rfl ?_
        refine sskip rfl rfl ?_
        refine sskip rfl rfl ?_
        refine sskip rfl rfl ?_
        refine sskip rfl rfl ?_
        refine spure (v := .bool false) rfl (p_pick rfl) (lo_t rfl (lo_t rfl (lo_c rfl))) rfl rfl ?_
        exact sjmpM J5925 false () (sub_cons rfl (sub_cons rfl (sub_cons rfl (sub_cons rfl sub_nil)))) (St.pick X5800 (.keep _ (.keep _ (.keep _ (.none _ (.skip _ (.keep _ (.keep _ (.keep _ (.keep _ (.keep _ (.refl _))))))))))))
  · refine dexit ?_
    refine eseq ?_
    refine eloop ?_
    refine xblock ?_
    refine kin_n res_0 ?_
    refine rend_n X5780 (j := 0) rfl (fun h5934 X5935 => ?_)
    refine nblock ?_
    refine nseq ?_
    refine dexit ?_
    refine eblock rfl ?_
    refine eloop ?_
    refine xblock ?_
    refine nseq ?_
    refine dseq ?_
    refine dreg ?_
    refine lread (v := .slice a5620 n5620 c5620) rfl (q_load wd_22 rfl) (St.ld X5935 (j := 3) rfl rfl) rfl ?_
    refine lpure (v := .slice a5620 n5620 c5620) rfl (p_assign rfl) rfl rfl ?_
    refine lend ?_
    refine nseq ?_
    refine dret ?_
    refine rscope ?_
    exact kopen_r (res_1 resT) ⟨φ, a5620, n5620, c5620, ob5620, blk5620, (Fz.le_refl _), St.pick (St.front X5935 (j := 4) rfl) (.keep _ (.skip _ (.skip _ (.skip _ (.skip _ (.skip _ (.skip _ (.refl _)))))))), rfl, O5620⟩
/-! slices.Index[[]bool,bool] -/
theorem f51_ok {n : Nat} {φ : Fz} {lo : Nat} {h : Heap} {own : OwnL} (X : St φ lo h own) (p5950 : (List Bool)) (p5952 : Bool) {a5951 : Option Addr} {n5951 c5951 : Nat} (H5951 : RSl eBool φ (.slice a5951 n5951 c5951) p5950) : Sim ((recN Try.prog LL cutF (n + 1)).call 51 #[(.slice a5951 n5951 c5951), (.bool p5952)] h) (m_slices_Index_bool_bool p5950 p5952) (fun (d : Int) p => p = (.int .i64 d, h)) := by
  refine fcut Try.func51 rfl rfl rfl rfl X ?_
  intro h0 X0
  refine dseq ?_
  refine dreg ?_
  refine lpure (v := .int .i64 0) rfl (p_assign rfl) rfl rfl ?_
  refine lend ?_
  refine nseq ?_
  refine dseq ?_
  refine dseq ?_
  refine dreg ?_
  refine lpure (v := .slice a5951 n5951 c5951) rfl (p_move rfl) rfl rfl ?_
  refine lpure (v := .int .i64 (p5950.length : Int)) rfl (p_len rfl rfl rfl un_22 rfl) (RSl.lenC H5951) rfl ?_
  refine lpure (v := .int .i64 0) rfl (p_move rfl) rfl rfl ?_
  refine lend ?_
  refine nseq ?_
  refine dblock ?_
  refine dloopM (τ := Int) (σ := Unit) (fun s5969 (_ : Unit) => [(0, .slice a5951 n5951 c5951), (1, .bool p5952), (7, .int .i64 (p5950.length : Int)), (8, .int .i64 s5969)]) (fun s5969 (_ : Unit) hh => St φ h.n hh ([])) 0 () (sub_cons rfl (sub_cons rfl (sub_cons rfl (sub_cons rfl sub_nil)))) X0 ?_
  rintro n5979 ih5978 s5969 _ t0 h5981 X5980
  refine dseq ?_
  refine dreg ?_
  refine lpure (v := .bool (decide (s5969 < (p5950.length : Int)))) rfl (p_lt rfl) rfl rfl ?_
  refine lend ?_
  refine nseq ?_
  refine dseq ?_
  refine dcond rfl rfl (fun k5982 => ?_) (fun k5982 => ?_)
  · refine dskip ?_
    refine nseq ?_
    refine dseq ?_
    refine dblock ?_
    refine dseq ?_
    refine dreg ?_
    refine lpure (v := .int .i64 s5969) rfl (p_move rfl) rfl rfl ?_
    refine lpure (v := .int .i64 s5969) rfl (p_assign rfl) rfl rfl ?_
    refine lend ?_
    refine nseq ?_
    refine dseq ?_
    refine dreg ?_
    refine lpure (v := .bool p5952) rfl (p_move rfl) rfl rfl ?_
    refine lpure (v := .slice a5951 n5951 c5951) rfl (p_move rfl) rfl rfl ?_
    refine lpure (v := .int .i64 s5969) rfl (p_move rfl) rfl rfl ?_
    refine Sim.bindM fun e5983 he5984 => ?_
    obtain ⟨p5985, cs5985, hp5985, hF5985, hR5985⟩ := RSl.ia H5951 he5984 (kd := .i64) (n := 1) rfl
    have hR5985 : _ = [(.bool e5983 : Value)] := hR5985
    subst hR5985
    refine lpure (v := p5985) rfl (p_ia rs_22 rfl) hp5985 rfl ?_
    refine lread (v := .bool e5983) rfl (q_load wd_4 rfl) (FP.ld X5980 hF5985) rfl ?_
    refine lpure (v := .bool (p5952 == e5983)) rfl (p_bin rfl) (bin_eqB un_4) rfl ?_
    refine lend ?_
    refine nseq ?_
    refine dcond rfl rfl (fun k5986 => ?_) (fun k5986 => ?_)
    · refine dseq ?_
      refine dreg ?_
      refine lpure (v := .int .i64 s5969) rfl (p_move rfl) rfl rfl ?_
      refine lpure (v := .int .i64 s5969) rfl (p_assign rfl) rfl rfl ?_
      refine lend ?_
      refine nseq ?_
      refine dret ?_
      refine rblock ?_
      refine rseq ?_
      refine rloop ?_
      refine rblock ?_
      refine rseq ?_
      exact kcut_r (res_1 resT) X5980 rfl rfl
    · refine dskip ?_
      refine nblock ?_
      refine nseq ?_
      refine dreg ?_
      refine lpure (v := .int .i64 (w64 (s5969 + 1))) rfl (p_add rfl) rfl rfl ?_
      refine lpure (v := .int .i64 (w64 (s5969 + 1))) rfl (p_move rfl) rfl rfl ?_
      refine lend ?_
      exact kbackM ih5978 (w64 (s5969 + 1)) () (sub_cons rfl (sub_cons rfl (sub_cons rfl (sub_cons rfl sub_nil)))) X5980
  · refine dexit ?_
    refine eseq ?_
    refine eloop ?_
    refine xblock ?_
    refine nseq ?_
    refine dseq ?_
    refine dreg ?_
    refine lpure (v := .int .i64 (-1)) rfl (p_assign rfl) rfl rfl ?_
    refine lend ?_
    refine nseq ?_
    refine dret ?_
    exact kcut_r (res_1 resT) X5980 rfl rfl
/-! slices.Contains[[]bool,bool] -/
theorem f21_ok {n : Nat} {φ : Fz} {lo : Nat} {h : Heap} {own : OwnL} (X : St φ lo h own) (p5947 : (List Bool)) (p5949 : Bool) {a5948 : Option Addr} {n5948 c5948 : Nat} (H5948 : RSl eBool φ (.slice a5948 n5948 c5948) p5947) : Sim ((recN Try.prog LL cutF (n + 2)).call 21 #[(.slice a5948 n5948 c5948), (.bool p5949)] h) (m_slices_Contains_bool_bool p5947 p5949) (fun (d : Bool) p => p = (.bool d, h)) := by
  refine fcut Try.func21 rfl rfl rfl rfl X ?_
  intro h0 X0
  refine dseq ?_
  refine dreg ?_
  refine lpure (v := .bool false) rfl (p_assign rfl) rfl rfl ?_
  refine lend ?_
  refine nseq ?_
  refine dseq ?_
  refine dreg ?_
  refine lpure (v := .slice a5948 n5948 c5948) rfl (p_move rfl) rfl rfl ?_
  refine lpure (v := .bool p5949) rfl (p_move rfl) rfl rfl ?_
  refine lcall rfl rfl ca_51 rfl rfl (f51_ok X0 p5947 p5949 H5948) rfl (fun e5987 v5988 h5989 hq5990 => ?_)
  cases hq5990
  refine lpure (v := .bool (decide (0 ≤ e5987))) rfl (p_ge rfl) rfl rfl ?_
  refine lpure (v := .bool (decide (0 ≤ e5987))) rfl (p_assign rfl) rfl rfl ?_
  refine lend ?_
  refine nseq ?_
  refine dret ?_
  exact kcut_r (res_1 resT) X0 rfl rfl
/-! isochron/topo.Check -/
theorem f34_ok {n : Nat} {φ : Fz} {lo : Nat} {h : Heap} {own : OwnL} (X : St φ lo h own) (p62 : ApiTopo) {a63 : Option Addr} {n63 c63 : Nat} {a64 : Option Addr} {n64 c64 : Nat} (H63 : RSl eBool φ (.slice a63 n63 c63) p62.Station) (H64 : RSl eApiLink φ (.slice a64 n64 c64) p62.Links) : Sim ((recN Try.prog LL cutF (n + 6)).call 34 #[(.agg #[.int .i64 p62.Nodes, .slice a63 n63 c63, .slice a64 n64 c64])] h) (m_topo_Check p62) (fun (d : Int) p => p = (.int .i64 d, h)) := by
  refine fcut Try.func34 rfl rfl rfl rfl X ?_
  intro h0 X0
  refine dseq ?_
  refine dreg ?_
  refine lbox rfl rfl rfl rfl rfl X0 (fun b65 h67 X68 => ?_)
  refine lpure (v := .int .i64 0) rfl (p_assign rfl) rfl rfl ?_
  refine lend ?_
  refine nseq ?_
  refine dseq ?_
  refine dseq ?_
  refine dreg ?_
  refine lpure (v := .pointer (some ⟨b65, 0, none⟩)) rfl (p_fa fo_25_0 rfl) rfl rfl ?_
  refine lread (v := .int .i64 p62.Nodes) rfl (q_load wd_3 rfl) (St.ld X68 (j := 0) rfl rfl) rfl ?_
  refine lpure (v := .bool (decide (p62.Nodes < 2))) rfl (p_lt rfl) rfl rfl ?_
  refine lpure (v := .bool (decide (p62.Nodes < 2))) rfl (p_move rfl) rfl rfl ?_
  refine lsh (τ := Bool) (σ := Unit) (fun s70 (_ : Unit) => [(1, .pointer (some ⟨b65, 0, none⟩)), (13, .bool s70)]) (fun s70 (_ : Unit) hh => St φ h.n hh ([(some b65, .cells [.int .i64 p62.Nodes, .slice a63 n63 c63, .slice a64 n64 c64] 25 .exact)])) 4 ?_ ?_
  · rintro s70 _ t0 h72 X71
    refine lpure (v := .bool s70) rfl (p_move rfl) rfl rfl ?_
    refine lsh (τ := Bool) (σ := Unit) (fun s74 (_ : Unit) => [(1, .pointer (some ⟨b65, 0, none⟩)), (21, .bool s74)]) (fun s74 (_ : Unit) hh => St φ h.n hh ([(some b65, .cells [.int .i64 p62.Nodes, .slice a63 n63 c63, .slice a64 n64 c64] 25 .exact)])) 7 ?_ ?_
    · rintro s74 _ t0 h76 X75
      refine lpure (v := .bool s74) rfl (p_move rfl) rfl rfl ?_
      refine lsh (τ := Bool) (σ := Unit) (fun s78 (_ : Unit) => [(1, .pointer (some ⟨b65, 0, none⟩)), (27, .bool s78)]) (fun s78 (_ : Unit) hh => St φ h.n hh ([(some b65, .cells [.int .i64 p62.Nodes, .slice a63 n63 c63, .slice a64 n64 c64] 25 .exact)])) 5 ?_ ?_
      · rintro s78 _ t0 h80 X79
        refine lend ?_
        refine nseq ?_
        refine dcond rfl rfl (fun k81 => ?_) (fun k81 => ?_)
        · refine dseq ?_
          refine dreg ?_
          refine lpure (v := .int .i64 260) rfl (p_assign rfl) rfl rfl ?_
          refine lend ?_
          refine nseq ?_
          refine dret ?_
          refine rseq ?_
          exact kcut_r (res_1 resT) X79 rfl rfl
        · refine dskip ?_
          refine nseq ?_
          refine dseq ?_
          refine dseq ?_
          refine dreg ?_
          refine lpure (v := .pointer (some ⟨b65, 2, none⟩)) rfl (p_fa fo_25_2 rfl) rfl rfl ?_
          refine lread (v := .slice a64 n64 c64) rfl (q_load wd_23 rfl) (St.ld X79 (j := 0) rfl rfl) rfl ?_
          refine lpure (v := .int .i64 (p62.Links.length : Int)) rfl (p_len rfl rfl rfl un_23 rfl) (RSl.lenC H64) rfl ?_
          refine lpure (v := .int .i64 0) rfl (p_move rfl) rfl rfl ?_
          refine lend ?_
          refine nseq ?_
          refine dblock ?_
          refine dloopM (τ := Int) (σ := Unit) (fun s6377 (_ : Unit) => [(1, .pointer (some ⟨b65, 0, none⟩)), (30, .int .i64 (p62.Links.length : Int)), (31, .int .i64 s6377)]) (fun s6377 (_ : Unit) hh => St φ h.n hh ([(some b65, .cells [.int .i64 p62.Nodes, .slice a63 n63 c63, .slice a64 n64 c64] 25 .exact)])) 0 () (sub_cons rfl (sub_cons rfl (sub_cons rfl sub_nil))) X79 ?_
          rintro n6598 ih6597 s6377 _ t0 h6600 X6599
          refine dseq ?_
          refine dreg ?_
          refine lpure (v := .bool (decide (s6377 < (p62.Links.length : Int)))) rfl (p_lt rfl) rfl rfl ?_
          refine lend ?_
          refine nseq ?_
          refine dseq ?_
          refine dcond rfl rfl (fun k6601 => ?_) (fun k6601 => ?_)
          · refine dskip ?_
            refine nseq ?_
            refine dseq ?_
            refine dblock ?_
            refine dseq ?_
            refine dreg ?_
            refine lpure (v := .int .i64 s6377) rfl (p_move rfl) rfl rfl ?_
            refine lpure (v := .int .i64 s6377) rfl (p_assign rfl) rfl rfl ?_
            refine lend ?_
            refine nseq ?_
            refine dseq ?_
            refine dreg ?_
            refine lread (v := .agg #[.int .i64 p62.Nodes, .slice a63 n63 c63, .slice a64 n64 c64]) rfl (q_load wd_25 rfl) (St.ld X6599 (j := 0) rfl rfl) rfl ?_
            refine lpure (v := .int .i64 s6377) rfl (p_move rfl) rfl rfl ?_
            refine lcall rfl rfl ca_57 rfl rfl (f57_ok X6599 p62 s6377 H63 H64) rfl (fun e6602 v6603 h6604 hq6605 => ?_)
            cases hq6605
            refine lpure (v := .bool (!e6602)) rfl (p_not rfl) rfl rfl ?_
            refine lend ?_
            refine nseq ?_
            refine dcond rfl rfl (fun k6606 => ?_) (fun k6606 => ?_)
            · refine dseq ?_
              refine dreg ?_
              refine lpure (v := .int .i64 260) rfl (p_assign rfl) rfl rfl ?_
              refine lend ?_
              refine nseq ?_
              refine dret ?_
              refine rblock ?_
              refine rseq ?_
              refine rloop ?_
              refine rblock ?_
              refine rseq ?_
              exact kcut_r (res_1 resT) X6599 rfl rfl
            · refine dskip ?_
              refine nblock ?_
              refine nseq ?_
              refine dreg ?_
              refine lpure (v := .int .i64 (w64 (s6377 + 1))) rfl (p_add rfl) rfl rfl ?_
              refine lpure (v := .int .i64 (w64 (s6377 + 1))) rfl (p_move rfl) rfl rfl ?_
              refine lend ?_
              exact kbackM ih6597 (w64 (s6377 + 1)) () (sub_cons rfl (sub_cons rfl (sub_cons rfl sub_nil))) X6599
          · refine dexit ?_
            refine eseq ?_
            refine eloop ?_
            refine xblock ?_
            refine nseq ?_
            refine dseq ?_
            refine dseq ?_
            refine dreg ?_
            refine lpure (v := .pointer (some ⟨b65, 1, none⟩)) rfl (p_fa fo_25_1 rfl) rfl rfl ?_
            refine lread (v := .slice a63 n63 c63) rfl (q_load wd_22 rfl) (St.ld X6599 (j := 0) rfl rfl) rfl ?_
            refine lpure (v := .int .i64 (p62.Station.length : Int)) rfl (p_len rfl rfl rfl un_22 rfl) (RSl.lenC H63) rfl ?_
            refine lpure (v := .int .i64 0) rfl (p_move rfl) rfl rfl ?_
            refine lend ?_
            refine nseq ?_
            refine dblock ?_
            refine dloopM (τ := Int) (σ := Unit) (fun s6711 (_ : Unit) => [(1, .pointer (some ⟨b65, 0, none⟩)), (40, .slice a63 n63 c63), (41, .int .i64 (p62.Station.length : Int)), (42, .int .i64 s6711)]) (fun s6711 (_ : Unit) hh => St φ h.n hh ([(some b65, .cells [.int .i64 p62.Nodes, .slice a63 n63 c63, .slice a64 n64 c64] 25 .exact)])) 0 () (sub_cons rfl (sub_cons rfl (sub_cons rfl (sub_cons rfl sub_nil)))) X6599 ?_
            rintro n6765 ih6764 s6711 _ t0 h6767 X6766
            refine dseq ?_
            refine dreg ?_
            refine lpure (v := .bool (decide (s6711 < (p62.Station.length : Int)))) rfl (p_lt rfl) rfl rfl ?_
            refine lend ?_
            refine nseq ?_
            refine dseq ?_
            refine dcond rfl rfl (fun k6768 => ?_) (fun k6768 => ?_)
            · refine dskip ?_
              refine nseq ?_
              refine dseq ?_
              refine dblock ?_
              refine dseq ?_
              refine dreg ?_
              refine lpure (v := .int .i64 s6711) rfl (p_move rfl) rfl rfl ?_
              refine Sim.bindM fun e6769 he6770 => ?_
              obtain ⟨p6771, cs6771, hp6771, hF6771, hR6771⟩ := RSl.ia H63 he6770 (kd := .i64) (n := 1) rfl
              have hR6771 : _ = [(.bool e6769 : Value)] := hR6771
              subst hR6771
              refine lpure (v := p6771) rfl (p_ia rs_22 rfl) hp6771 rfl ?_
              refine lread (v := .bool e6769) rfl (q_load wd_4 rfl) (FP.ld X6766 hF6771) rfl ?_
              refine lpure (v := .int .i64 s6711) rfl (p_assign rfl) rfl rfl ?_
              refine lpure (v := .bool e6769) rfl (p_assign rfl) rfl rfl ?_
              refine lend ?_
              refine nseq ?_
              refine dseq ?_
              refine dreg ?_
              refine lpure (v := .bool e6769) rfl (p_move rfl) rfl rfl ?_
              refine lpure (v := .bool e6769) rfl (p_move rfl) rfl rfl ?_
              refine ljoinM (τ := Bool) (σ := Unit) (fun s6783 (_ : Unit) => [(1, .pointer (some ⟨b65, 0, none⟩)), (40, .slice a63 n63 c63), (41, .int .i64 (p62.Station.length : Int)), (42, .int .i64 s6711), (59, .bool s6783)]) (fun s6783 (_ : Unit) hh => St φ h.n hh ([(some b65, .cells [.int .i64 p62.Nodes, .slice a63 n63 c63, .slice a64 n64 c64] 25 .exact)])) 11 ?_ ?_
              · rintro s6783 _ t0 h6785 X6784
                refine lend ?_
                refine nseq ?_
                refine dcond rfl rfl (fun k6786 => ?_) (fun k6786 => ?_)
                · refine dseq ?_
                  refine dreg ?_
                  refine lpure (v := .int .i64 260) rfl (p_assign rfl) rfl rfl ?_
                  refine lend ?_
                  refine nseq ?_
                  refine dret ?_
                  refine rblock ?_
                  refine rseq ?_
                  refine rloop ?_
                  refine rblock ?_
                  refine rseq ?_
                  exact kcut_r (res_1 resT) X6784 rfl rfl
                · refine dskip ?_
                  refine nblock ?_
                  refine nseq ?_
                  refine dreg ?_
                  refine lpure (v := .int .i64 (w64 (s6711 + 1))) rfl (p_add rfl) rfl rfl ?_
                  refine lpure (v := .int .i64 (w64 (s6711 + 1))) rfl (p_move rfl) rfl rfl ?_
                  refine lend ?_
                  exact kbackM ih6764 (w64 (s6711 + 1)) () (sub_cons rfl (sub_cons rfl (sub_cons rfl (sub_cons rfl sub_nil)))) X6784
              · intro j6787 J6788
                refine lif (i := 48) (show _ = Value.bool e6769 from rfl) (fun k6789 => ?_) (fun k6789 => ?_)
                · refine lread (v := .agg #[.int .i64 p62.Nodes, .slice a63 n63 c63, .slice a64 n64 c64]) rfl (q_load wd_25 rfl) (St.ld X6766 (j := 0) rfl rfl) rfl ?_
                  refine lpure (v := .int .i64 s6711) rfl (p_move rfl) rfl rfl ?_
                  refine lcall rfl rfl ca_58 rfl rfl (f58_ok X6766 p62 s6711 H63 H64) rfl (fun e6790 v6791 h6792 hq6793 => ?_)
                  cases hq6793
                  refine lpure (v := .bool (decide (e6790 < 1))) rfl (p_lt rfl) rfl rfl ?_
                  refine lpure (v := .bool (decide (e6790 < 1))) rfl (p_move rfl) rfl rfl ?_
                  refine lif (i := 53) (show _ = Value.bool (decide (e6790 < 1)) from rfl) (fun k6794 => ?_) (fun k6794 => ?_)
                  · refine lskip rfl rfl ?_
                    refine lskip rfl rfl ?_
                    refine lskip rfl rfl ?_
                    refine lskip rfl rfl ?_
                    refine lpure (v := .bool true) rfl (p_pick rfl) rfl rfl ?_
                    refine lpure (v := .bool true) rfl (p_pick rfl) rfl rfl ?_
                    exact ljmpM J6788 true () (sub_cons rfl (sub_cons rfl (sub_cons rfl (sub_cons rfl (sub_cons rfl sub_nil))))) X6766
                  · refine lread (v := .agg #[.int .i64 p62.Nodes, .slice a63 n63 c63, .slice a64 n64 c64]) rfl (q_load wd_25 rfl) (St.ld X6766 (j := 0) rfl rfl) rfl ?_
                    refine lpure (v := .int .i64 s6711) rfl (p_move rfl) rfl rfl ?_
                    refine lcall rfl rfl ca_58 rfl rfl (f58_ok X6766 p62 s6711 H63 H64) rfl (fun e6795 v6796 h6797 hq6798 => ?_)
                    cases hq6798
                    refine lpure (v := .bool (decide (2 < e6795))) rfl (p_gt rfl) rfl rfl ?_
                    refine lpure (v := .bool (decide (2 < e6795))) rfl (p_pick rfl) rfl rfl ?_
                    refine lpure (v := .bool (decide (2 < e6795))) rfl (p_pick rfl) rfl rfl ?_
                    exact ljmpM J6788 (decide (2 < e6795)) () (sub_cons rfl (sub_cons rfl (sub_cons rfl (sub_cons rfl (sub_cons rfl sub_nil))))) X6766
                · refine lskip rfl rfl ?_
                  refine lskip rfl rfl ?_
                  refine lskip rfl rfl ?_
                  refine lskip rfl rfl ?_
                  refine lskip rfl rfl ?_
                  refine lskip rfl rfl ?_
                  refine lskip rfl rfl ?_
                  refine lskip rfl rfl ?_
                  refine lskip rfl rfl ?_
                  refine lskip rfl rfl ?_
                  refine lpure (v := .bool false) rfl (p_pick rfl) rfl rfl ?_
                  exact ljmpM J6788 false () (sub_cons rfl (sub_cons rfl (sub_cons rfl (sub_cons rfl (sub_cons rfl sub_nil))))) X6766
            · refine dexit ?_
              refine eseq ?_
              refine eloop ?_
              refine xblock ?_
              refine nseq ?_
              refine dseq ?_
              refine dseq ?_
              refine dreg ?_
              refine lread (v := .agg #[.int .i64 p62.Nodes, .slice a63 n63 c63, .slice a64 n64 c64]) rfl (q_load wd_25 rfl) (St.ld X6766 (j := 0) rfl rfl) rfl ?_
              refine lcall rfl rfl ca_47 rfl rfl (f47_ok X6766 p62 0 ([]) H63 H64 (.inl ⟨rfl, rfl⟩)) rfl ?_
              rintro e6799 _ h6801 ⟨φ6803, a6806, n6806, c6806, ob6806, blk6806, g6804, X6805, rfl, O6806⟩
              obtain ⟨φ6808, g6809, X6810, H6811⟩ := OSl.freeze X6805 (j := 0) rfl O6806
              refine lcall rfl rfl ca_21 rfl rfl (f21_ok X6810 e6799 false H6811) rfl (fun e6812 v6813 h6814 hq6815 => ?_)
              cases hq6815
              refine lend ?_
              refine nseq ?_
              refine dcond rfl rfl (fun k6816 => ?_) (fun k6816 => ?_)
              · refine dseq ?_
                refine dreg ?_
                refine lpure (v := .int .i64 260) rfl (p_assign rfl) rfl rfl ?_
                refine lend ?_
                refine nseq ?_
                refine dret ?_
                refine rseq ?_
                exact kcut_r (res_1 resT) X6805 rfl rfl
              · refine dskip ?_
                refine nseq ?_
                refine dseq ?_
                refine dreg ?_
                refine lpure (v := .int .i64 0) rfl (p_assign rfl) rfl rfl ?_
                refine lend ?_
                refine nseq ?_
                refine dret ?_
                exact kcut_r (res_1 resT) X6805 rfl rfl
      · intro j6817 J6818
        refine lcase (i := 22) (show _ = Value.bool s74 from rfl) (fun k6819 => ?_) (fun k6819 => ?_)
        · refine lskip rfl rfl ?_
          refine lskip rfl rfl ?_
          refine lskip rfl rfl ?_
          refine lskip rfl rfl ?_
          refine lpure (v := .bool true) rfl (p_pick rfl) rfl rfl ?_
          refine Sim.of_eq (congrArg j6817 (show (s74 || (decide (24 < (p62.Links.length : Int)))) = true from by rw [k6819] <;> rfl)) ?_
          exact ljmpM J6818 true () (sub_cons rfl (sub_cons rfl sub_nil)) X75
        · refine lpure (v := .pointer (some ⟨b65, 2, none⟩)) rfl (p_fa fo_25_2 rfl) rfl rfl ?_
          refine lread (v := .slice a64 n64 c64) rfl (q_load wd_23 rfl) (St.ld X75 (j := 0) rfl rfl) rfl ?_
          refine lpure (v := .int .i64 (p62.Links.length : Int)) rfl (p_len rfl rfl rfl un_23 rfl) (RSl.lenC H64) rfl ?_
          refine lpure (v := .bool (decide (24 < (p62.Links.length : Int)))) rfl (p_gt rfl) rfl rfl ?_
          refine lpure (v := .bool (decide (24 < (p62.Links.length : Int)))) rfl (p_pick rfl) rfl rfl ?_
          refine Sim.of_eq (congrArg j6817 (show (s74 || (decide (24 < (p62.Links.length : Int)))) = (decide (24 < (p62.Links.length : Int))) from by rw [k6819] <;> rfl)) ?_
          exact ljmpM J6818 (decide (24 < (p62.Links.length : Int))) () (sub_cons rfl (sub_cons rfl sub_nil)) X75
    · intro j6820 J6821
      refine lcase (i := 14) (show _ = Value.bool s70 from rfl) (fun k6822 => ?_) (fun k6822 => ?_)
      · refine lskip rfl rfl ?_
        refine lskip rfl rfl ?_
        refine lskip rfl rfl ?_
        refine lskip rfl rfl ?_
        refine lskip rfl rfl ?_
        refine lskip rfl rfl ?_
        refine lpure (v := .bool true) rfl (p_pick rfl) rfl rfl ?_
        refine Sim.of_eq (congrArg j6820 (show (s70 || (decide ((p62.Station.length : Int) ≠ p62.Nodes))) = true from by rw [k6822] <;> rfl)) ?_
        exact ljmpM J6821 true () (sub_cons rfl (sub_cons rfl sub_nil)) X71
      · refine lpure (v := .pointer (some ⟨b65, 1, none⟩)) rfl (p_fa fo_25_1 rfl) rfl rfl ?_
        refine lread (v := .slice a63 n63 c63) rfl (q_load wd_22 rfl) (St.ld X71 (j := 0) rfl rfl) rfl ?_
        refine lpure (v := .int .i64 (p62.Station.length : Int)) rfl (p_len rfl rfl rfl un_22 rfl) (RSl.lenC H63) rfl ?_
        refine lpure (v := .pointer (some ⟨b65, 0, none⟩)) rfl (p_fa fo_25_0 rfl) rfl rfl ?_
        refine lread (v := .int .i64 p62.Nodes) rfl (q_load wd_3 rfl) (St.ld X71 (j := 0) rfl rfl) rfl ?_
        refine lpure (v := .bool (decide ((p62.Station.length : Int) ≠ p62.Nodes))) rfl (p_ne rfl) rfl rfl ?_
        refine lpure (v := .bool (decide ((p62.Station.length : Int) ≠ p62.Nodes))) rfl (p_pick rfl) rfl rfl ?_
        refine Sim.of_eq (congrArg j6820 (show (s70 || (decide ((p62.Station.length : Int) ≠ p62.Nodes))) = (decide ((p62.Station.length : Int) ≠ p62.Nodes)) from by rw [k6822] <;> rfl)) ?_
        exact ljmpM J6821 (decide ((p62.Station.length : Int) ≠ p62.Nodes)) () (sub_cons rfl (sub_cons rfl sub_nil)) X71
  · intro j6823 J6824
    refine lcase (i := 9) (show _ = Value.bool (decide (p62.Nodes < 2)) from rfl) (fun k6825 => ?_) (fun k6825 => ?_)
    · refine lskip rfl rfl ?_
      refine lskip rfl rfl ?_
      refine lskip rfl rfl ?_
      refine lpure (v := .bool true) rfl (p_pick rfl) rfl rfl ?_
      refine Sim.of_eq (congrArg j6823 (show ((decide (p62.Nodes < 2)) || (decide (12 < p62.Nodes))) = true from by rw [k6825] <;> rfl)) ?_
      exact ljmpM J6824 true () (sub_cons rfl (sub_cons rfl sub_nil)) X68
    · refine lpure (v := .pointer (some ⟨b65, 0, none⟩)) rfl (p_fa fo_25_0 rfl) rfl rfl ?_
      refine lread (v := .int .i64 p62.Nodes) rfl (q_load wd_3 rfl) (St.ld X68 (j := 0) rfl rfl) rfl ?_
      refine lpure (v := .bool (decide (12 < p62.Nodes))) rfl (p_gt rfl) rfl rfl ?_
      refine lpure (v := .bool (decide (12 < p62.Nodes))) rfl (p_pick rfl) rfl rfl ?_
      refine Sim.of_eq (congrArg j6823 (show ((decide (p62.Nodes < 2)) || (decide (12 < p62.Nodes))) = (decide (12 < p62.Nodes)) from by rw [k6825] <;> rfl)) ?_
      exact ljmpM J6824 (decide (12 < p62.Nodes)) () (sub_cons rfl (sub_cons rfl sub_nil)) X68
/-! isochron/topo.From -/
theorem f23_ok {n : Nat} {φ : Fz} {lo : Nat} {h : Heap} {own : OwnL} (X : St φ lo h own) (p50 : ApiTopo) (p53 : Int) {a51 : Option Addr} {n51 c51 : Nat} {a52 : Option Addr} {n52 c52 : Nat} (H51 : RSl eBool φ (.slice a51 n51 c51) p50.Station) (H52 : RSl eApiLink φ (.slice a52 n52 c52) p50.Links) : Sim ((recN Try.prog LL cutF (n + 8)).call 23 #[(.agg #[.int .i64 p50.Nodes, .slice a51 n51 c51, .slice a52 n52 c52]), (.int .i64 p53)] h) (m_topo_From p50 p53) (fun (d : (Int × Int)) p => p = (.tuple #[.int .i64 d.1, .int .i64 d.2], h)) := by
  refine fcut Try.func23 rfl rfl rfl rfl X ?_
  intro h0 X0
  refine dseq ?_
  refine dreg ?_
  refine lbox rfl rfl rfl rfl rfl X0 (fun b54 h56 X57 => ?_)
  refine lpure (v := .int .i64 0) rfl (p_assign rfl) rfl rfl ?_
  refine lpure (v := .int .i64 0) rfl (p_assign rfl) rfl rfl ?_
  refine lend ?_
  refine nseq ?_
  refine dseq ?_
  refine dreg ?_
  refine lread (v := .agg #[.int .i64 p50.Nodes, .slice a51 n51 c51, .slice a52 n52 c52]) rfl (q_load wd_25 rfl) (St.ld X57 (j := 0) rfl rfl) rfl ?_
  refine lpure (v := .int .i64 p53) rfl (p_move rfl) rfl rfl ?_
  refine linl rfl rfl rfl rfl ca_53 rfl Try.func53 rfl rfl rfl rfl rfl ?_
  refine dseq ?_
  refine dreg ?_
  refine lbox rfl rfl rfl rfl rfl X57 (fun b58 h60 X61 => ?_)
  refine lpure (v := .int .i64 0) rfl (p_assign rfl) rfl rfl ?_
  refine lpure (v := .int .i64 0) rfl (p_assign rfl) rfl rfl ?_
  refine lend ?_
  refine nseq ?_
  refine dseq ?_
  refine dreg ?_
  refine lpure (v := .int .i64 0) rfl (p_assign rfl) rfl rfl ?_
  refine lend ?_
  refine nseq ?_
  refine dseq ?_
  refine dseq ?_
  refine dreg ?_
  refine lread (v := .agg #[.int .i64 p50.Nodes, .slice a51 n51 c51, .slice a52 n52 c52]) rfl (q_load wd_25 rfl) (St.ld X61 (j := 0) rfl rfl) rfl ?_
  refine lcall rfl rfl ca_34 rfl rfl (f34_ok X61 p50 H51 H52) rfl (fun e6826 v6827 h6828 hq6829 => ?_)
  cases hq6829
  refine lpure (v := .int .i64 e6826) rfl (p_assign rfl) rfl rfl ?_
  refine lend ?_
  refine nseq ?_
  refine dseq ?_
  refine dreg ?_
  refine lpure (v := .int .i64 e6826) rfl (p_move rfl) rfl rfl ?_
  refine lpure (v := .bool (decide (e6826 ≠ 0))) rfl (p_ne rfl) rfl rfl ?_
  refine lend ?_
  refine nseq ?_
  refine dcond rfl rfl (fun k6830 => ?_) (fun k6830 => ?_)
  · refine dseq ?_
    refine dreg ?_
    refine lpure (v := .int .i64 0) rfl (p_move rfl) rfl rfl ?_
    refine lpure (v := .int .i64 e6826) rfl (p_move rfl) rfl rfl ?_
    refine lpure (v := .int .i64 0) rfl (p_assign rfl) rfl rfl ?_
    refine lpure (v := .int .i64 e6826) rfl (p_assign rfl) rfl rfl ?_
    refine lend ?_
    refine nseq ?_
    refine dret ?_
    refine rseq ?_
    refine kin_r (res_2 resT resT) ?_
    refine lpure (v := .int .i64 0) rfl (p_extract rfl) rfl rfl ?_
    refine lpure (v := .int .i64 e6826) rfl (p_extract rfl) rfl rfl ?_
    refine lpure (v := .int .i64 0) rfl (p_assign rfl) rfl rfl ?_
    refine lpure (v := .int .i64 e6826) rfl (p_assign rfl) rfl rfl ?_
    refine lend ?_
    refine nseq ?_
    refine dret ?_
    exact kcut_r (res_2 resT resT) X61 rfl rfl
  · refine dskip ?_
    refine nseq ?_
    refine dseq ?_
    refine dseq ?_
    refine dreg ?_
    refine lpure (v := .int .i64 p53) rfl (p_move rfl) rfl rfl ?_
    refine lpure (v := .bool (decide (p53 < 0))) rfl (p_lt rfl) rfl rfl ?_
    refine lpure (v := .bool (decide (p53 < 0))) rfl (p_move rfl) rfl rfl ?_
    refine lsh (τ := Bool) (σ := Unit) (fun s6832 (_ : Unit) => [(1, .int .i64 p53), (2, .func (.func 41) #[] #[]), (3, .pointer (some ⟨b58, 0, none⟩)), (8, .int .i64 0), (25, .bool s6832)]) (fun s6832 (_ : Unit) hh => St φ h.n hh ([(some b58, .cells [.int .i64 p50.Nodes, .slice a51 n51 c51, .slice a52 n52 c52] 25 .exact), (some b54, .cells [.int .i64 p50.Nodes, .slice a51 n51 c51, .slice a52 n52 c52] 25 .exact)])) 7 ?_ ?_
    · rintro s6832 _ t0 h6834 X6833
      refine lend ?_
      refine nseq ?_
      refine dcond rfl rfl (fun k6835 => ?_) (fun k6835 => ?_)
      · refine dseq ?_
        refine dreg ?_
        refine lpure (v := .int .i64 0) rfl (p_move rfl) rfl rfl ?_
        refine lpure (v := .int .i64 0) rfl (p_assign rfl) rfl rfl ?_
        refine lpure (v := .int .i64 2) rfl (p_assign rfl) rfl rfl ?_
        refine lend ?_
        refine nseq ?_
        refine dret ?_
        refine rseq ?_
        refine kin_r (res_2 resT resT) ?_
        refine lpure (v := .int .i64 0) rfl (p_extract rfl) rfl rfl ?_
        refine lpure (v := .int .i64 2) rfl (p_extract rfl) rfl rfl ?_
        refine lpure (v := .int .i64 0) rfl (p_assign rfl) rfl rfl ?_
        refine lpure (v := .int .i64 2) rfl (p_assign rfl) rfl rfl ?_
        refine lend ?_
        refine nseq ?_
        refine dret ?_
        exact kcut_r (res_2 resT resT) X6833 rfl rfl
      · refine dskip ?_
        refine nseq ?_
        refine dseq ?_
        refine dreg ?_
        refine lpure (v := .func (.func 41) #[] #[]) rfl (p_move rfl) rfl rfl ?_
        refine lpure (v := .pointer (some ⟨b58, 2, none⟩)) rfl (p_fa fo_25_2 rfl) rfl rfl ?_
        refine lread (v := .slice a52 n52 c52) rfl (q_load wd_23 rfl) (St.ld X6833 (j := 0) rfl rfl) rfl ?_
        refine lpure (v := .int .i64 p53) rfl (p_move rfl) rfl rfl ?_
        refine lpure (v := .int .i64 (w64 (Int.tdiv p53 2))) rfl (p_quo rfl) rfl rfl ?_
        refine Sim.bindM fun e6836 he6837 => ?_
        obtain ⟨p6838, cs6838, hp6838, hF6838, hR6838⟩ := RSl.ia H52 he6837 (kd := .i64) (n := 4) rfl
        obtain rfl := eApiLink_el hR6838
        refine lpure (v := p6838) rfl (p_ia rs_23 rfl) hp6838 rfl ?_
        refine lread (v := .agg #[.int .i64 e6836.A, .int .i64 e6836.B, .int .i64 e6836.Per, .int .i64 e6836.Delay]) rfl (q_load wd_50 rfl) (FP.ldw X6833 hF6838 rfl rfl) rfl ?_
        refine lpure (v := .int .i64 p53) rfl (p_move rfl) rfl rfl ?_
        refine lpure (v := .agg #[.int .i64 e6836.A, .int .i64 e6836.B, .int .i64 e6836.Per, .int .i64 e6836.Delay, .int .i64 p53]) rfl (p_build rfl) (build_st' tz_65 pl_65 rfl) rfl ?_
        refine lcallv rfl rfl rfl rfl ca_41 rfl rfl (f41_ok X6833 ((TopoEnd.mk e6836 p53))) rfl (fun e6839 v6840 h6841 hq6842 => ?_)
        cases hq6842
        refine lpure (v := .int .i64 e6839) rfl (p_assign rfl) rfl rfl ?_
        refine lpure (v := .int .i64 0) rfl (p_assign rfl) rfl rfl ?_
        refine lend ?_
        refine nseq ?_
        refine dret ?_
        refine kin_r (res_2 resT resT) ?_
        refine lpure (v := .int .i64 e6839) rfl (p_extract rfl) rfl rfl ?_
        refine lpure (v := .int .i64 0) rfl (p_extract rfl) rfl rfl ?_
        refine lpure (v := .int .i64 e6839) rfl (p_assign rfl) rfl rfl ?_
        refine lpure (v := .int .i64 0) rfl (p_assign rfl) rfl rfl ?_
        refine lend ?_
        refine nseq ?_
        refine dret ?_
        exact kcut_r (res_2 resT resT) X6833 rfl rfl
    · intro j6843 J6844
      refine lcase (i := 18) (show _ = Value.bool (decide (p53 < 0)) from rfl) (fun k6845 => ?_) (fun k6845 => ?_)
      · refine lskip rfl rfl ?_
        refine lskip rfl rfl ?_
        refine lskip rfl rfl ?_
        refine lskip rfl rfl ?_
        refine lskip rfl rfl ?_
        refine lskip rfl rfl ?_
        refine lpure (v := .bool true) rfl (p_pick rfl) rfl rfl ?_
        refine Sim.of_eq (congrArg j6843 (show ((decide (p53 < 0)) || (decide ((w64 (2 * (p50.Links.length : Int))) ≤ p53))) = true from by rw [k6845] <;> rfl)) ?_
        exact ljmpM J6844 true () (sub_cons rfl (sub_cons rfl (sub_cons rfl (sub_cons rfl (sub_cons rfl sub_nil))))) X61
      · refine lpure (v := .int .i64 p53) rfl (p_move rfl) rfl rfl ?_
        refine lpure (v := .pointer (some ⟨b58, 2, none⟩)) rfl (p_fa fo_25_2 rfl) rfl rfl ?_
        refine lread (v := .slice a52 n52 c52) rfl (q_load wd_23 rfl) (St.ld X61 (j := 0) rfl rfl) rfl ?_
        refine lpure (v := .int .i64 (p50.Links.length : Int)) rfl (p_len rfl rfl rfl un_23 rfl) (RSl.lenC H52) rfl ?_
        refine lpure (v := .int .i64 (w64 (2 * (p50.Links.length : Int)))) rfl (p_mul rfl) rfl rfl ?_
        refine lpure (v := .bool (decide ((w64 (2 * (p50.Links.length : Int))) ≤ p53))) rfl (p_ge rfl) rfl rfl ?_
        refine lpure (v := .bool (decide ((w64 (2 * (p50.Links.length : Int))) ≤ p53))) rfl (p_pick rfl) rfl rfl ?_
        refine Sim.of_eq (congrArg j6843 (show ((decide (p53 < 0)) || (decide ((w64 (2 * (p50.Links.length : Int))) ≤ p53))) = (decide ((w64 (2 * (p50.Links.length : Int))) ≤ p53)) from by rw [k6845] <;> rfl)) ?_
        exact ljmpM J6844 (decide ((w64 (2 * (p50.Links.length : Int))) ≤ p53)) () (sub_cons rfl (sub_cons rfl (sub_cons rfl (sub_cons rfl (sub_cons rfl sub_nil))))) X61
/-! isochron/topo.To -/
theorem f24_ok {n : Nat} {φ : Fz} {lo : Nat} {h : Heap} {own : OwnL} (X : St φ lo h own) (p6858 : ApiTopo) (p6861 : Int) {a6859 : Option Addr} {n6859 c6859 : Nat} {a6860 : Option Addr} {n6860 c6860 : Nat} (H6859 : RSl eBool φ (.slice a6859 n6859 c6859) p6858.Station) (H6860 : RSl eApiLink φ (.slice a6860 n6860 c6860) p6858.Links) : Sim ((recN Try.prog LL cutF (n + 8)).call 24 #[(.agg #[.int .i64 p6858.Nodes, .slice a6859 n6859 c6859, .slice a6860 n6860 c6860]), (.int .i64 p6861)] h) (m_topo_To p6858 p6861) (fun (d : (Int × Int)) p => p = (.tuple #[.int .i64 d.1, .int .i64 d.2], h)) := by
  refine fcut Try.func24 rfl rfl rfl rfl X ?_
  intro h0 X0
  refine dseq ?_
  refine dreg ?_
  refine lbox rfl rfl rfl rfl rfl X0 (fun b6862 h6864 X6865 => ?_)
  refine lpure (v := .int .i64 0) rfl (p_assign rfl) rfl rfl ?_
  refine lpure (v := .int .i64 0) rfl (p_assign rfl) rfl rfl ?_
  refine lend ?_
  refine nseq ?_
  refine dseq ?_
  refine dreg ?_
  refine lread (v := .agg #[.int .i64 p6858.Nodes, .slice a6859 n6859 c6859, .slice a6860 n6860 c6860]) rfl (q_load wd_25 rfl) (St.ld X6865 (j := 0) rfl rfl) rfl ?_
  refine lpure (v := .int .i64 p6861) rfl (p_move rfl) rfl rfl ?_
  refine linl rfl rfl rfl rfl ca_53 rfl Try.func53 rfl rfl rfl rfl rfl ?_
  refine dseq ?_
  refine dreg ?_
  refine lbox rfl rfl rfl rfl rfl X6865 (fun b6866 h6868 X6869 => ?_)
  refine lpure (v := .int .i64 0) rfl (p_assign rfl) rfl rfl ?_
  refine lpure (v := .int .i64 0) rfl (p_assign rfl) rfl rfl ?_
  refine lend ?_
  refine nseq ?_
  refine dseq ?_
  refine dreg ?_
  refine lpure (v := .int .i64 0) rfl (p_assign rfl) rfl rfl ?_
  refine lend ?_
  refine nseq ?_
  refine dseq ?_
  refine dseq ?_
  refine dreg ?_
  refine lread (v := .agg #[.int .i64 p6858.Nodes, .slice a6859 n6859 c6859, .slice a6860 n6860 c6860]) rfl (q_load wd_25 rfl) (St.ld X6869 (j := 0) rfl rfl) rfl ?_
  refine lcall rfl rfl ca_34 rfl rfl (f34_ok X6869 p6858 H6859 H6860) rfl (fun e6870 v6871 h6872 hq6873 => ?_)
  cases hq6873
  refine lpure (v := .int .i64 e6870) rfl (p_assign rfl) rfl rfl ?_
  refine lend ?_
  refine nseq ?_
  refine dseq ?_
  refine dreg ?_
  refine lpure (v := .int .i64 e6870) rfl (p_move rfl) rfl rfl ?_
  refine lpure (v := .bool (decide (e6870 ≠ 0))) rfl (p_ne rfl) rfl rfl ?_
  refine lend ?_
  refine nseq ?_
  refine dcond rfl rfl (fun k6874 => ?_) (fun k6874 => ?_)
  · refine dseq ?_
    refine dreg ?_
    refine lpure (v := .int .i64 0) rfl (p_move rfl) rfl rfl ?_
    refine lpure (v := .int .i64 e6870) rfl (p_move rfl) rfl rfl ?_
    refine lpure (v := .int .i64 0) rfl (p_assign rfl) rfl rfl ?_
    refine lpure (v := .int .i64 e6870) rfl (p_assign rfl) rfl rfl ?_
    refine lend ?_
    refine nseq ?_
    refine dret ?_
    refine rseq ?_
    refine kin_r (res_2 resT resT) ?_
    refine lpure (v := .int .i64 0) rfl (p_extract rfl) rfl rfl ?_
    refine lpure (v := .int .i64 e6870) rfl (p_extract rfl) rfl rfl ?_
    refine lpure (v := .int .i64 0) rfl (p_assign rfl) rfl rfl ?_
    refine lpure (v := .int .i64 e6870) rfl (p_assign rfl) rfl rfl ?_
    refine lend ?_
    refine nseq ?_
    refine dret ?_
    exact kcut_r (res_2 resT resT) X6869 rfl rfl
  · refine dskip ?_
    refine nseq ?_
    refine dseq ?_
    refine dseq ?_
    refine dreg ?_
    refine lpure (v := .int .i64 p6861) rfl (p_move rfl) rfl rfl ?_
    refine lpure (v := .bool (decide (p6861 < 0))) rfl (p_lt rfl) rfl rfl ?_
    refine lpure (v := .bool (decide (p6861 < 0))) rfl (p_move rfl) rfl rfl ?_
    refine lsh (τ := Bool) (σ := Unit) (fun s6876 (_ : Unit) => [(1, .int .i64 p6861), (2, .func (.func 42) #[] #[]), (3, .pointer (some ⟨b6866, 0, none⟩)), (8, .int .i64 0), (25, .bool s6876)]) (fun s6876 (_ : Unit) hh => St φ h.n hh ([(some b6866, .cells [.int .i64 p6858.Nodes, .slice a6859 n6859 c6859, .slice a6860 n6860 c6860] 25 .exact), (some b6862, .cells [.int .i64 p6858.Nodes, .slice a6859 n6859 c6859, .slice a6860 n6860 c6860] 25 .exact)])) 7 ?_ ?_
    · rintro s6876 _ t0 h6878 X6877
      refine lend ?_
      refine nseq ?_
      refine dcond rfl rfl (fun k6879 => ?_) (fun k6879 => ?_)
      · refine dseq ?_
        refine dreg ?_
        refine lpure (v := .int .i64 0) rfl (p_move rfl) rfl rfl ?_
        refine lpure (v := .int .i64 0) rfl (p_assign rfl) rfl rfl ?_
        refine lpure (v := .int .i64 2) rfl (p_assign rfl) rfl rfl ?_
        refine lend ?_
        refine nseq ?_
        refine dret ?_
        refine rseq ?_
        refine kin_r (res_2 resT resT) ?_
        refine lpure (v := .int .i64 0) rfl (p_extract rfl) rfl rfl ?_
        refine lpure (v := .int .i64 2) rfl (p_extract rfl) rfl rfl ?_
        refine lpure (v := .int .i64 0) rfl (p_assign rfl) rfl rfl ?_
        refine lpure (v := .int .i64 2) rfl (p_assign rfl) rfl rfl ?_
        refine lend ?_
        refine nseq ?_
        refine dret ?_
        exact kcut_r (res_2 resT resT) X6877 rfl rfl
      · refine dskip ?_
        refine nseq ?_
        refine dseq ?_
        refine dreg ?_
        refine lpure (v := .func (.func 42) #[] #[]) rfl (p_move rfl) rfl rfl ?_
        refine lpure (v := .pointer (some ⟨b6866, 2, none⟩)) rfl (p_fa fo_25_2 rfl) rfl rfl ?_
        refine lread (v := .slice a6860 n6860 c6860) rfl (q_load wd_23 rfl) (St.ld X6877 (j := 0) rfl rfl) rfl ?_
        refine lpure (v := .int .i64 p6861) rfl (p_move rfl) rfl rfl ?_
        refine lpure (v := .int .i64 (w64 (Int.tdiv p6861 2))) rfl (p_quo rfl) rfl rfl ?_
        refine Sim.bindM fun e6880 he6881 => ?_
        obtain ⟨p6882, cs6882, hp6882, hF6882, hR6882⟩ := RSl.ia H6860 he6881 (kd := .i64) (n := 4) rfl
        obtain rfl := eApiLink_el hR6882
        refine lpure (v := p6882) rfl (p_ia rs_23 rfl) hp6882 rfl ?_
        refine lread (v := .agg #[.int .i64 e6880.A, .int .i64 e6880.B, .int .i64 e6880.Per, .int .i64 e6880.Delay]) rfl (q_load wd_50 rfl) (FP.ldw X6877 hF6882 rfl rfl) rfl ?_
        refine lpure (v := .int .i64 p6861) rfl (p_move rfl) rfl rfl ?_
        refine lpure (v := .agg #[.int .i64 e6880.A, .int .i64 e6880.B, .int .i64 e6880.Per, .int .i64 e6880.Delay, .int .i64 p6861]) rfl (p_build rfl) (build_st' tz_65 pl_65 rfl) rfl ?_
        refine lcallv rfl rfl rfl rfl ca_42 rfl rfl (f42_ok X6877 ((TopoEnd.mk e6880 p6861))) rfl (fun e6883 v6884 h6885 hq6886 => ?_)
        cases hq6886
        refine lpure (v := .int .i64 e6883) rfl (p_assign rfl) rfl rfl ?_
        refine lpure (v := .int .i64 0) rfl (p_assign rfl) rfl rfl ?_
        refine lend ?_
        refine nseq ?_
        refine dret ?_
        refine kin_r (res_2 resT resT) ?_
        refine lpure (v := .int .i64 e6883) rfl (p_extract rfl) rfl rfl ?_
        refine lpure (v := .int .i64 0) rfl (p_extract rfl) rfl rfl ?_
        refine lpure (v := .int .i64 e6883) rfl (p_assign rfl) rfl rfl ?_
        refine lpure (v := .int .i64 0) rfl (p_assign rfl) rfl rfl ?_
        refine lend ?_
        refine nseq ?_
        refine dret ?_
        exact kcut_r (res_2 resT resT) X6877 rfl rfl
    · intro j6887 J6888
      refine lcase (i := 18) (show _ = Value.bool (decide (p6861 < 0)) from rfl) (fun k6889 => ?_) (fun k6889 => ?_)
      · refine lskip rfl rfl ?_
        refine lskip rfl rfl ?_
        refine lskip rfl rfl ?_
        refine lskip rfl rfl ?_
        refine lskip rfl rfl ?_
        refine lskip rfl rfl ?_
        refine lpure (v := .bool true) rfl (p_pick rfl) rfl rfl ?_
        refine Sim.of_eq (congrArg j6887 (show ((decide (p6861 < 0)) || (decide ((w64 (2 * (p6858.Links.length : Int))) ≤ p6861))) = true from by rw [k6889] <;> rfl)) ?_
        exact ljmpM J6888 true () (sub_cons rfl (sub_cons rfl (sub_cons rfl (sub_cons rfl (sub_cons rfl sub_nil))))) X6869
      · refine lpure (v := .int .i64 p6861) rfl (p_move rfl) rfl rfl ?_
        refine lpure (v := .pointer (some ⟨b6866, 2, none⟩)) rfl (p_fa fo_25_2 rfl) rfl rfl ?_
        refine lread (v := .slice a6860 n6860 c6860) rfl (q_load wd_23 rfl) (St.ld X6869 (j := 0) rfl rfl) rfl ?_
        refine lpure (v := .int .i64 (p6858.Links.length : Int)) rfl (p_len rfl rfl rfl un_23 rfl) (RSl.lenC H6860) rfl ?_
        refine lpure (v := .int .i64 (w64 (2 * (p6858.Links.length : Int)))) rfl (p_mul rfl) rfl rfl ?_
        refine lpure (v := .bool (decide ((w64 (2 * (p6858.Links.length : Int))) ≤ p6861))) rfl (p_ge rfl) rfl rfl ?_
        refine lpure (v := .bool (decide ((w64 (2 * (p6858.Links.length : Int))) ≤ p6861))) rfl (p_pick rfl) rfl rfl ?_
        refine Sim.of_eq (congrArg j6887 (show ((decide (p6861 < 0)) || (decide ((w64 (2 * (p6858.Links.length : Int))) ≤ p6861))) = (decide ((w64 (2 * (p6858.Links.length : Int))) ≤ p6861)) from by rw [k6889] <;> rfl)) ?_
        exact ljmpM J6888 (decide ((w64 (2 * (p6858.Links.length : Int))) ≤ p6861)) () (sub_cons rfl (sub_cons rfl (sub_cons rfl (sub_cons rfl (sub_cons rfl sub_nil))))) X6869
/-! (isochron/topo.end).per -/
theorem f54_ok {n : Nat} {φ : Fz} {lo : Nat} {h : Heap} {own : OwnL} (X : St φ lo h own) (p6927 : TopoEnd) : Sim ((recN Try.prog LL cutF (n + 1)).call 54 #[(.agg #[.int .i64 p6927.Link.A, .int .i64 p6927.Link.B, .int .i64 p6927.Link.Per, .int .i64 p6927.Link.Delay, .int .i64 p6927.port])] h) (m_topo_end_per p6927) (fun (d : Int) p => p = (.int .i64 d, h)) := by
  refine fcut Try.func54 rfl rfl rfl rfl X ?_
  intro h0 X0
  refine dseq ?_
  refine dreg ?_
  refine lbox rfl rfl rfl rfl rfl X0 (fun b6928 h6930 X6931 => ?_)
  refine lpure (v := .int .i64 0) rfl (p_assign rfl) rfl rfl ?_
  refine lend ?_
  refine nseq ?_
  refine dseq ?_
  refine dreg ?_
  refine lpure (v := .pointer (some ⟨b6928, 0, none⟩)) rfl (p_fa fo_65_0 rfl) rfl rfl ?_
  refine lpure (v := .pointer (some ⟨b6928, 2, none⟩)) rfl (p_fa fo_50_2 rfl) rfl rfl ?_
  refine lread (v := .int .i64 p6927.Link.Per) rfl (q_load wd_3 rfl) (St.ld X6931 (j := 0) rfl rfl) rfl ?_
  refine lpure (v := .int .i64 p6927.Link.Per) rfl (p_assign rfl) rfl rfl ?_
  refine lend ?_
  refine nseq ?_
  refine dret ?_
  exact kcut_r (res_1 resT) X6931 rfl rfl
/-! isochron/topo.Per -/
theorem f25_ok {n : Nat} {φ : Fz} {lo : Nat} {h : Heap} {own : OwnL} (X : St φ lo h own) (p6902 : ApiTopo) (p6905 : Int) {a6903 : Option Addr} {n6903 c6903 : Nat} {a6904 : Option Addr} {n6904 c6904 : Nat} (H6903 : RSl eBool φ (.slice a6903 n6903 c6903) p6902.Station) (H6904 : RSl eApiLink φ (.slice a6904 n6904 c6904) p6902.Links) : Sim ((recN Try.prog LL cutF (n + 8)).call 25 #[(.agg #[.int .i64 p6902.Nodes, .slice a6903 n6903 c6903, .slice a6904 n6904 c6904]), (.int .i64 p6905)] h) (m_topo_Per p6902 p6905) (fun (d : (Int × Int)) p => p = (.tuple #[.int .i64 d.1, .int .i64 d.2], h)) := by
  refine fcut Try.func25 rfl rfl rfl rfl X ?_
  intro h0 X0
  refine dseq ?_
  refine dreg ?_
  refine lbox rfl rfl rfl rfl rfl X0 (fun b6906 h6908 X6909 => ?_)
  refine lpure (v := .int .i64 0) rfl (p_assign rfl) rfl rfl ?_
  refine lpure (v := .int .i64 0) rfl (p_assign rfl) rfl rfl ?_
  refine lend ?_
  refine nseq ?_
  refine dseq ?_
  refine dreg ?_
  refine lread (v := .agg #[.int .i64 p6902.Nodes, .slice a6903 n6903 c6903, .slice a6904 n6904 c6904]) rfl (q_load wd_25 rfl) (St.ld X6909 (j := 0) rfl rfl) rfl ?_
  refine lpure (v := .int .i64 p6905) rfl (p_move rfl) rfl rfl ?_
  refine linl rfl rfl rfl rfl ca_53 rfl Try.func53 rfl rfl rfl rfl rfl ?_
  refine dseq ?_
  refine dreg ?_
  refine lbox rfl rfl rfl rfl rfl X6909 (fun b6910 h6912 X6913 => ?_)
  refine lpure (v := .int .i64 0) rfl (p_assign rfl) rfl rfl ?_
  refine lpure (v := .int .i64 0) rfl (p_assign rfl) rfl rfl ?_
  refine lend ?_
  refine nseq ?_
  refine dseq ?_
  refine dreg ?_
  refine lpure (v := .int .i64 0) rfl (p_assign rfl) rfl rfl ?_
  refine lend ?_
  refine nseq ?_
  refine dseq ?_
  refine dseq ?_
  refine dreg ?_
  refine lread (v := .agg #[.int .i64 p6902.Nodes, .slice a6903 n6903 c6903, .slice a6904 n6904 c6904]) rfl (q_load wd_25 rfl) (St.ld X6913 (j := 0) rfl rfl) rfl ?_
  refine lcall rfl rfl ca_34 rfl rfl (f34_ok X6913 p6902 H6903 H6904) rfl (fun e6914 v6915 h6916 hq6917 => ?_)
  cases hq6917
  refine lpure (v := .int .i64 e6914) rfl (p_assign rfl) rfl rfl ?_
  refine lend ?_
  refine nseq ?_
  refine dseq ?_
  refine dreg ?_
  refine lpure (v := .int .i64 e6914) rfl (p_move rfl) rfl rfl ?_
  refine lpure (v := .bool (decide (e6914 ≠ 0))) rfl (p_ne rfl) rfl rfl ?_
  refine lend ?_
  refine nseq ?_
  refine dcond rfl rfl (fun k6918 => ?_) (fun k6918 => ?_)
  · refine dseq ?_
    refine dreg ?_
    refine lpure (v := .int .i64 0) rfl (p_move rfl) rfl rfl ?_
    refine lpure (v := .int .i64 e6914) rfl (p_move rfl) rfl rfl ?_
    refine lpure (v := .int .i64 0) rfl (p_assign rfl) rfl rfl ?_
    refine lpure (v := .int .i64 e6914) rfl (p_assign rfl) rfl rfl ?_
    refine lend ?_
    refine nseq ?_
    refine dret ?_
    refine rseq ?_
    refine kin_r (res_2 resT resT) ?_
    refine lpure (v := .int .i64 0) rfl (p_extract rfl) rfl rfl ?_
    refine lpure (v := .int .i64 e6914) rfl (p_extract rfl) rfl rfl ?_
    refine lpure (v := .int .i64 0) rfl (p_assign rfl) rfl rfl ?_
    refine lpure (v := .int .i64 e6914) rfl (p_assign rfl) rfl rfl ?_
    refine lend ?_
    refine nseq ?_
    refine dret ?_
    exact kcut_r (res_2 resT resT) X6913 rfl rfl
  · refine dskip ?_
    refine nseq ?_
    refine dseq ?_
    refine dseq ?_
    refine dreg ?_
    refine lpure (v := .int .i64 p6905) rfl (p_move rfl) rfl rfl ?_
    refine lpure (v := .bool (decide (p6905 < 0))) rfl (p_lt rfl) rfl rfl ?_
    refine lpure (v := .bool (decide (p6905 < 0))) rfl (p_move rfl) rfl rfl ?_
    refine lsh (τ := Bool) (σ := Unit) (fun s6920 (_ : Unit) => [(1, .int .i64 p6905), (2, .func (.func 54) #[] #[]), (3, .pointer (some ⟨b6910, 0, none⟩)), (8, .int .i64 0), (25, .bool s6920)]) (fun s6920 (_ : Unit) hh => St φ h.n hh ([(some b6910, .cells [.int .i64 p6902.Nodes, .slice a6903 n6903 c6903, .slice a6904 n6904 c6904] 25 .exact), (some b6906, .cells [.int .i64 p6902.Nodes, .slice a6903 n6903 c6903, .slice a6904 n6904 c6904] 25 .exact)])) 7 ?_ ?_
    · rintro s6920 _ t0 h6922 X6921
      refine lend ?_
      refine nseq ?_
      refine dcond rfl rfl (fun k6923 => ?_) (fun k6923 => ?_)
      · refine dseq ?_
        refine dreg ?_
        refine lpure (v := .int .i64 0) rfl (p_move rfl) rfl rfl ?_
        refine lpure (v := .int .i64 0) rfl (p_assign rfl) rfl rfl ?_
        refine lpure (v := .int .i64 2) rfl (p_assign rfl) rfl rfl ?_
        refine lend ?_
        refine nseq ?_
        refine dret ?_
        refine rseq ?_
        refine kin_r (res_2 resT resT) ?_
        refine lpure (v := .int .i64 0) rfl (p_extract rfl) rfl rfl ?_
        refine lpure (v := .int .i64 2) rfl (p_extract rfl) rfl rfl ?_
        refine lpure (v := .int .i64 0) rfl (p_assign rfl) rfl rfl ?_
        refine lpure (v := .int .i64 2) rfl (p_assign rfl) rfl rfl ?_
        refine lend ?_
        refine nseq ?_
        refine dret ?_
        exact kcut_r (res_2 resT resT) X6921 rfl rfl
      · refine dskip ?_
        refine nseq ?_
        refine dseq ?_
        refine dreg ?_
        refine lpure (v := .func (.func 54) #[] #[]) rfl (p_move rfl) rfl rfl ?_
        refine lpure (v := .pointer (some ⟨b6910, 2, none⟩)) rfl (p_fa fo_25_2 rfl) rfl rfl ?_
        refine lread (v := .slice a6904 n6904 c6904) rfl (q_load wd_23 rfl) (St.ld X6921 (j := 0) rfl rfl) rfl ?_
        refine lpure (v := .int .i64 p6905) rfl (p_move rfl) rfl rfl ?_
        refine lpure (v := .int .i64 (w64 (Int.tdiv p6905 2))) rfl (p_quo rfl) rfl rfl ?_
        refine Sim.bindM fun e6924 he6925 => ?_
        obtain ⟨p6926, cs6926, hp6926, hF6926, hR6926⟩ := RSl.ia H6904 he6925 (kd := .i64) (n := 4) rfl
        obtain rfl := eApiLink_el hR6926
        refine lpure (v := p6926) rfl (p_ia rs_23 rfl) hp6926 rfl ?_
        refine lread (v := .agg #[.int .i64 e6924.A, .int .i64 e6924.B, .int .i64 e6924.Per, .int .i64 e6924.Delay]) rfl (q_load wd_50 rfl) (FP.ldw X6921 hF6926 rfl rfl) rfl ?_
        refine lpure (v := .int .i64 p6905) rfl (p_move rfl) rfl rfl ?_
        refine lpure (v := .agg #[.int .i64 e6924.A, .int .i64 e6924.B, .int .i64 e6924.Per, .int .i64 e6924.Delay, .int .i64 p6905]) rfl (p_build rfl) (build_st' tz_65 pl_65 rfl) rfl ?_
        refine lcallv rfl rfl rfl rfl ca_54 rfl rfl (f54_ok X6921 ((TopoEnd.mk e6924 p6905))) rfl (fun e6932 v6933 h6934 hq6935 => ?_)
        cases hq6935
        refine lpure (v := .int .i64 e6932) rfl (p_assign rfl) rfl rfl ?_
        refine lpure (v := .int .i64 0) rfl (p_assign rfl) rfl rfl ?_
        refine lend ?_
        refine nseq ?_
        refine dret ?_
        refine kin_r (res_2 resT resT) ?_
        refine lpure (v := .int .i64 e6932) rfl (p_extract rfl) rfl rfl ?_
        refine lpure (v := .int .i64 0) rfl (p_extract rfl) rfl rfl ?_
        refine lpure (v := .int .i64 e6932) rfl (p_assign rfl) rfl rfl ?_
        refine lpure (v := .int .i64 0) rfl (p_assign rfl) rfl rfl ?_
        refine lend ?_
        refine nseq ?_
        refine dret ?_
        exact kcut_r (res_2 resT resT) X6921 rfl rfl
    · intro j6936 J6937
      refine lcase (i := 18) (show _ = Value.bool (decide (p6905 < 0)) from rfl) (fun k6938 => ?_) (fun k6938 => ?_)
      · refine lskip rfl rfl ?_
        refine lskip rfl rfl ?_
        refine lskip rfl rfl ?_
        refine lskip rfl rfl ?_
        refine lskip rfl rfl ?_
        refine lskip rfl rfl ?_
        refine lpure (v := .bool true) rfl (p_pick rfl) rfl rfl ?_
        refine Sim.of_eq (congrArg j6936 (show ((decide (p6905 < 0)) || (decide ((w64 (2 * (p6902.Links.length : Int))) ≤ p6905))) = true from by rw [k6938] <;> rfl)) ?_
        exact ljmpM J6937 true () (sub_cons rfl (sub_cons rfl (sub_cons rfl (sub_cons rfl (sub_cons rfl sub_nil))))) X6913
      · refine lpure (v := .int .i64 p6905) rfl (p_move rfl) rfl rfl ?_
        refine lpure (v := .pointer (some ⟨b6910, 2, none⟩)) rfl (p_fa fo_25_2 rfl) rfl rfl ?_
        refine lread (v := .slice a6904 n6904 c6904) rfl (q_load wd_23 rfl) (St.ld X6913 (j := 0) rfl rfl) rfl ?_
        refine lpure (v := .int .i64 (p6902.Links.length : Int)) rfl (p_len rfl rfl rfl un_23 rfl) (RSl.lenC H6904) rfl ?_
        refine lpure (v := .int .i64 (w64 (2 * (p6902.Links.length : Int)))) rfl (p_mul rfl) rfl rfl ?_
        refine lpure (v := .bool (decide ((w64 (2 * (p6902.Links.length : Int))) ≤ p6905))) rfl (p_ge rfl) rfl rfl ?_
        refine lpure (v := .bool (decide ((w64 (2 * (p6902.Links.length : Int))) ≤ p6905))) rfl (p_pick rfl) rfl rfl ?_
        refine Sim.of_eq (congrArg j6936 (show ((decide (p6905 < 0)) || (decide ((w64 (2 * (p6902.Links.length : Int))) ≤ p6905))) = (decide ((w64 (2 * (p6902.Links.length : Int))) ≤ p6905)) from by rw [k6938] <;> rfl)) ?_
        exact ljmpM J6937 (decide ((w64 (2 * (p6902.Links.length : Int))) ≤ p6905)) () (sub_cons rfl (sub_cons rfl (sub_cons rfl (sub_cons rfl (sub_cons rfl sub_nil))))) X6913
/-! (isochron/topo.end).delay -/
theorem f55_ok {n : Nat} {φ : Fz} {lo : Nat} {h : Heap} {own : OwnL} (X : St φ lo h own) (p6976 : TopoEnd) : Sim ((recN Try.prog LL cutF (n + 1)).call 55 #[(.agg #[.int .i64 p6976.Link.A, .int .i64 p6976.Link.B, .int .i64 p6976.Link.Per, .int .i64 p6976.Link.Delay, .int .i64 p6976.port])] h) (m_topo_end_delay p6976) (fun (d : Int) p => p = (.int .i64 d, h)) := by
  refine fcut Try.func55 rfl rfl rfl rfl X ?_
  intro h0 X0
  refine dseq ?_
  refine dreg ?_
  refine lbox rfl rfl rfl rfl rfl X0 (fun b6977 h6979 X6980 => ?_)
  refine lpure (v := .int .i64 0) rfl (p_assign rfl) rfl rfl ?_
  refine lend ?_
  refine nseq ?_
  refine dseq ?_
  refine dreg ?_
  refine lpure (v := .pointer (some ⟨b6977, 0, none⟩)) rfl (p_fa fo_65_0 rfl) rfl rfl ?_
  refine lpure (v := .pointer (some ⟨b6977, 3, none⟩)) rfl (p_fa fo_50_3 rfl) rfl rfl ?_
  refine lread (v := .int .i64 p6976.Link.Delay) rfl (q_load wd_3 rfl) (St.ld X6980 (j := 0) rfl rfl) rfl ?_
  refine lpure (v := .int .i64 p6976.Link.Delay) rfl (p_assign rfl) rfl rfl ?_
  refine lend ?_
  refine nseq ?_
  refine dret ?_
  exact kcut_r (res_1 resT) X6980 rfl rfl
/-! isochron/topo.Delay -/
theorem f26_ok {n : Nat} {φ : Fz} {lo : Nat} {h : Heap} {own : OwnL} (X : St φ lo h own) (p6951 : ApiTopo) (p6954 : Int) {a6952 : Option Addr} {n6952 c6952 : Nat} {a6953 : Option Addr} {n6953 c6953 : Nat} (H6952 : RSl eBool φ (.slice a6952 n6952 c6952) p6951.Station) (H6953 : RSl eApiLink φ (.slice a6953 n6953 c6953) p6951.Links) : Sim ((recN Try.prog LL cutF (n + 8)).call 26 #[(.agg #[.int .i64 p6951.Nodes, .slice a6952 n6952 c6952, .slice a6953 n6953 c6953]), (.int .i64 p6954)] h) (m_topo_Delay p6951 p6954) (fun (d : (Int × Int)) p => p = (.tuple #[.int .i64 d.1, .int .i64 d.2], h)) := by
  refine fcut Try.func26 rfl rfl rfl rfl X ?_
  intro h0 X0
  refine dseq ?_
  refine dreg ?_
  refine lbox rfl rfl rfl rfl rfl X0 (fun b6955 h6957 X6958 => ?_)
  refine lpure (v := .int .i64 0) rfl (p_assign rfl) rfl rfl ?_
  refine lpure (v := .int .i64 0) rfl (p_assign rfl) rfl rfl ?_
  refine lend ?_
  refine nseq ?_
  refine dseq ?_
  refine dreg ?_
  refine lread (v := .agg #[.int .i64 p6951.Nodes, .slice a6952 n6952 c6952, .slice a6953 n6953 c6953]) rfl (q_load wd_25 rfl) (St.ld X6958 (j := 0) rfl rfl) rfl ?_
  refine lpure (v := .int .i64 p6954) rfl (p_move rfl) rfl rfl ?_
  refine linl rfl rfl rfl rfl ca_53 rfl Try.func53 rfl rfl rfl rfl rfl ?_
  refine dseq ?_
  refine dreg ?_
  refine lbox rfl rfl rfl rfl rfl X6958 (fun b6959 h6961 X6962 => ?_)
  refine lpure (v := .int .i64 0) rfl (p_assign rfl) rfl rfl ?_
  refine lpure (v := .int .i64 0) rfl (p_assign rfl) rfl rfl ?_
  refine lend ?_
  refine nseq ?_
  refine dseq ?_
  refine dreg ?_
  refine lpure (v := .int .i64 0) rfl (p_assign rfl) rfl rfl ?_
  refine lend ?_
  refine nseq ?_
  refine dseq ?_
  refine dseq ?_
  refine dreg ?_
  refine lread (v := .agg #[.int .i64 p6951.Nodes, .slice a6952 n6952 c6952, .slice a6953 n6953 c6953]) rfl (q_load wd_25 rfl) (St.ld X6962 (j := 0) rfl rfl) rfl ?_
  refine lcall rfl rfl ca_34 rfl rfl (f34_ok X6962 p6951 H6952 H6953) rfl (fun e6963 v6964 h6965 hq6966 => ?_)
  cases hq6966
  refine lpure (v := .int .i64 e6963) rfl (p_assign rfl) rfl rfl ?_
  refine lend ?_
  refine nseq ?_
  refine dseq ?_
  refine dreg ?_
  refine lpure (v := .int .i64 e6963) rfl (p_move rfl) rfl rfl ?_
  refine lpure (v := .bool (decide (e6963 ≠ 0))) rfl (p_ne rfl) rfl rfl ?_
  refine lend ?_
  refine nseq ?_
  refine dcond rfl rfl (fun k6967 => ?_) (fun k6967 => ?_)
  · refine dseq ?_
    refine dreg ?_
    refine lpure (v := .int .i64 0) rfl (p_move rfl) rfl rfl ?_
    refine lpure (v := .int .i64 e6963) rfl (p_move rfl) rfl rfl ?_
    refine lpure (v := .int .i64 0) rfl (p_assign rfl) rfl rfl ?_
    refine lpure (v := .int .i64 e6963) rfl (p_assign rfl) rfl rfl ?_
    refine lend ?_
    refine nseq ?_
    refine dret ?_
    refine rseq ?_
    refine kin_r (res_2 resT resT) ?_
    refine lpure (v := .int .i64 0) rfl (p_extract rfl) rfl rfl ?_
    refine lpure (v := .int .i64 e6963) rfl (p_extract rfl) rfl rfl ?_
    refine lpure (v := .int .i64 0) rfl (p_assign rfl) rfl rfl ?_
    refine lpure (v := .int .i64 e6963) rfl (p_assign rfl) rfl rfl ?_
    refine lend ?_
    refine nseq ?_
    refine dret ?_
    exact kcut_r (res_2 resT resT) X6962 rfl rfl
  · refine dskip ?_
    refine nseq ?_
    refine dseq ?_
    refine dseq ?_
    refine dreg ?_
    refine lpure (v := .int .i64 p6954) rfl (p_move rfl) rfl rfl ?_
    refine lpure (v := .bool (decide (p6954 < 0))) rfl (p_lt rfl) rfl rfl ?_
    refine lpure (v := .bool (decide (p6954 < 0))) rfl (p_move rfl) rfl rfl ?_
    refine lsh (τ := Bool) (σ := Unit) (fun s6969 (_ : Unit) => [(1, .int .i64 p6954), (2, .func (.func 55) #[] #[]), (3, .pointer (some ⟨b6959, 0, none⟩)), (8, .int .i64 0), (25, .bool s6969)]) (fun s6969 (_ : Unit) hh => St φ h.n hh ([(some b6959, .cells [.int .i64 p6951.Nodes, .slice a6952 n6952 c6952, .slice a6953 n6953 c6953] 25 .exact), (some b6955, .cells [.int .i64 p6951.Nodes, .slice a6952 n6952 c6952, .slice a6953 n6953 c6953] 25 .exact)])) 7 ?_ ?_
    · rintro s6969 _ t0 h6971 X6970
      refine lend ?_
      refine nseq ?_
      refine dcond rfl rfl (fun k6972 => ?_) (fun k6972 => ?_)
      · refine dseq ?_
        refine dreg ?_
        refine lpure (v := .int .i64 0) rfl (p_move rfl) rfl rfl ?_
        refine lpure (v := .int .i64 0) rfl (p_assign rfl) rfl rfl ?_
        refine lpure (v := .int .i64 2) rfl (p_assign rfl) rfl rfl ?_
        refine lend ?_
        refine nseq ?_
        refine dret ?_
        refine rseq ?_
        refine kin_r (res_2 resT resT) ?_
        refine lpure (v := .int .i64 0) rfl (p_extract rfl) rfl rfl ?_
        refine lpure (v := .int .i64 2) rfl (p_extract rfl) rfl rfl ?_
        refine lpure (v := .int .i64 0) rfl (p_assign rfl) rfl rfl ?_
        refine lpure (v := .int .i64 2) rfl (p_assign rfl) rfl rfl ?_
        refine lend ?_
        refine nseq ?_
        refine dret ?_
        exact kcut_r (res_2 resT resT) X6970 rfl rfl
      · refine dskip ?_
        refine nseq ?_
        refine dseq ?_
        refine dreg ?_
        refine lpure (v := .func (.func 55) #[] #[]) rfl (p_move rfl) rfl rfl ?_
        refine lpure (v := .pointer (some ⟨b6959, 2, none⟩)) rfl (p_fa fo_25_2 rfl) rfl rfl ?_
        refine lread (v := .slice a6953 n6953 c6953) rfl (q_load wd_23 rfl) (St.ld X6970 (j := 0) rfl rfl) rfl ?_
        refine lpure (v := .int .i64 p6954) rfl (p_move rfl) rfl rfl ?_
        refine lpure (v := .int .i64 (w64 (Int.tdiv p6954 2))) rfl (p_quo rfl) rfl rfl ?_
        refine Sim.bindM fun e6973 he6974 => ?_
        obtain ⟨p6975, cs6975, hp6975, hF6975, hR6975⟩ := RSl.ia H6953 he6974 (kd := .i64) (n := 4) rfl
        obtain rfl := eApiLink_el hR6975
        refine lpure (v := p6975) rfl (p_ia rs_23 rfl) hp6975 rfl ?_
        refine lread (v := .agg #[.int .i64 e6973.A, .int .i64 e6973.B, .int .i64 e6973.Per, .int .i64 e6973.Delay]) rfl (q_load wd_50 rfl) (FP.ldw X6970 hF6975 rfl rfl) rfl ?_
        refine lpure (v := .int .i64 p6954) rfl (p_move rfl) rfl rfl ?_
        refine lpure (v := .agg #[.int .i64 e6973.A, .int .i64 e6973.B, .int .i64 e6973.Per, .int .i64 e6973.Delay, .int .i64 p6954]) rfl (p_build rfl) (build_st' tz_65 pl_65 rfl) rfl ?_
        refine lcallv rfl rfl rfl rfl ca_55 rfl rfl (f55_ok X6970 ((TopoEnd.mk e6973 p6954))) rfl (fun e6981 v6982 h6983 hq6984 => ?_)
        cases hq6984
        refine lpure (v := .int .i64 e6981) rfl (p_assign rfl) rfl rfl ?_
        refine lpure (v := .int .i64 0) rfl (p_assign rfl) rfl rfl ?_
        refine lend ?_
        refine nseq ?_
        refine dret ?_
        refine kin_r (res_2 resT resT) ?_
        refine lpure (v := .int .i64 e6981) rfl (p_extract rfl) rfl rfl ?_
        refine lpure (v := .int .i64 0) rfl (p_extract rfl) rfl rfl ?_
        refine lpure (v := .int .i64 e6981) rfl (p_assign rfl) rfl rfl ?_
        refine lpure (v := .int .i64 0) rfl (p_assign rfl) rfl rfl ?_
        refine lend ?_
        refine nseq ?_
        refine dret ?_
        exact kcut_r (res_2 resT resT) X6970 rfl rfl
    · intro j6985 J6986
      refine lcase (i := 18) (show _ = Value.bool (decide (p6954 < 0)) from rfl) (fun k6987 => ?_) (fun k6987 => ?_)
      · refine lskip rfl rfl ?_
        refine lskip rfl rfl ?_
        refine lskip rfl rfl ?_
        refine lskip rfl rfl ?_
        refine lskip rfl rfl ?_
        refine lskip rfl rfl ?_
        refine lpure (v := .bool true) rfl (p_pick rfl) rfl rfl ?_
        refine Sim.of_eq (congrArg j6985 (show ((decide (p6954 < 0)) || (decide ((w64 (2 * (p6951.Links.length : Int))) ≤ p6954))) = true from by rw [k6987] <;> rfl)) ?_
        exact ljmpM J6986 true () (sub_cons rfl (sub_cons rfl (sub_cons rfl (sub_cons rfl (sub_cons rfl sub_nil))))) X6962
      · refine lpure (v := .int .i64 p6954) rfl (p_move rfl) rfl rfl ?_
        refine lpure (v := .pointer (some ⟨b6959, 2, none⟩)) rfl (p_fa fo_25_2 rfl) rfl rfl ?_
        refine lread (v := .slice a6953 n6953 c6953) rfl (q_load wd_23 rfl) (St.ld X6962 (j := 0) rfl rfl) rfl ?_
        refine lpure (v := .int .i64 (p6951.Links.length : Int)) rfl (p_len rfl rfl rfl un_23 rfl) (RSl.lenC H6953) rfl ?_
        refine lpure (v := .int .i64 (w64 (2 * (p6951.Links.length : Int)))) rfl (p_mul rfl) rfl rfl ?_
        refine lpure (v := .bool (decide ((w64 (2 * (p6951.Links.length : Int))) ≤ p6954))) rfl (p_ge rfl) rfl rfl ?_
        refine lpure (v := .bool (decide ((w64 (2 * (p6951.Links.length : Int))) ≤ p6954))) rfl (p_pick rfl) rfl rfl ?_
        refine Sim.of_eq (congrArg j6985 (show ((decide (p6954 < 0)) || (decide ((w64 (2 * (p6951.Links.length : Int))) ≤ p6954))) = (decide ((w64 (2 * (p6951.Links.length : Int))) ≤ p6954)) from by rw [k6987] <;> rfl)) ?_
        exact ljmpM J6986 (decide ((w64 (2 * (p6951.Links.length : Int))) ≤ p6954)) () (sub_cons rfl (sub_cons rfl (sub_cons rfl (sub_cons rfl (sub_cons rfl sub_nil))))) X6962
/-! isochron/topo.Ports -/
theorem f11_ok {n : Nat} {φ : Fz} {lo : Nat} {h : Heap} {own : OwnL} (X : St φ lo h own) (p7365 : ApiTopo) (p7368 : Int) {a7366 : Option Addr} {n7366 c7366 : Nat} {a7367 : Option Addr} {n7367 c7367 : Nat} (H7366 : RSl eBool φ (.slice a7366 n7366 c7366) p7365.Station) (H7367 : RSl eApiLink φ (.slice a7367 n7367 c7367) p7365.Links) : Sim ((recN Try.prog LL cutF (n + 7)).call 11 #[(.agg #[.int .i64 p7365.Nodes, .slice a7366 n7366 c7366, .slice a7367 n7367 c7367]), (.int .i64 p7368)] h) (m_topo_Ports p7365 p7368) (fun (d : ((List Int) × Int)) p => ∃ φ2 : Fz, ∃ a7730 : Option Addr, ∃ n7730 : Nat, ∃ c7730 : Nat, ∃ ob7730 : Option Nat, ∃ blk7730 : Blk, Fz.le φ φ2 ∧ St φ2 lo p.2 ((ob7730, blk7730) :: own) ∧ p.1 = .tuple #[.slice a7730 n7730 c7730, .int .i64 d.2] ∧ OSl (eInt .i64) φ2 3 ob7730 blk7730 (.slice a7730 n7730 c7730) d.1) := by
  refine fopen Try.func11 rfl rfl rfl rfl ?_
  refine dseq ?_
  refine dreg ?_
  refine lbox rfl rfl rfl rfl rfl X (fun b7369 h7371 X7372 => ?_)
  refine lbox rfl rfl rfl rfl rfl X7372 (fun b7373 h7375 X7376 => ?_)
  refine lpure (v := .slice none 0 0) rfl (p_assign rfl) rfl rfl ?_
  refine lpure (v := .int .i64 0) rfl (p_assign rfl) rfl rfl ?_
  refine lend ?_
  refine nseq ?_
  refine dseq ?_
  refine dseq ?_
  refine dreg ?_
  refine lread (v := .agg #[.int .i64 p7365.Nodes, .slice a7366 n7366 c7366, .slice a7367 n7367 c7367]) rfl (q_load wd_25 rfl) (St.ld X7376 (j := 1) rfl rfl) rfl ?_
  refine lcall rfl rfl ca_34 rfl rfl (f34_ok X7376 p7365 H7366 H7367) rfl (fun e7377 v7378 h7379 hq7380 => ?_)
  cases hq7380
  refine lpure (v := .int .i64 e7377) rfl (p_assign rfl) rfl rfl ?_
  refine lend ?_
  refine nseq ?_
  refine dseq ?_
  refine dreg ?_
  refine lpure (v := .int .i64 e7377) rfl (p_move rfl) rfl rfl ?_
  refine lpure (v := .bool (decide (e7377 ≠ 0))) rfl (p_ne rfl) rfl rfl ?_
  refine lend ?_
  refine nseq ?_
  refine dcond rfl rfl (fun k7381 => ?_) (fun k7381 => ?_)
  · refine dseq ?_
    refine dreg ?_
    refine lpure (v := .int .i64 e7377) rfl (p_move rfl) rfl rfl ?_
    refine lpure (v := .slice none 0 0) rfl (p_assign rfl) rfl rfl ?_
    refine lpure (v := .int .i64 e7377) rfl (p_assign rfl) rfl rfl ?_
    refine lend ?_
    refine nseq ?_
    refine dret ?_
    refine rseq ?_
    exact kopen_r (res_2 resT resT) ⟨φ, none, 0, 0, none, (.dead), (Fz.le_refl _), St.pick X7376 (.none _ (.skip _ (.skip _ (.refl _)))), rfl, OSl.nil⟩
  · refine dskip ?_
    refine nseq ?_
    refine dseq ?_
    refine dseq ?_
    refine dreg ?_
    refine lread (v := .agg #[.int .i64 p7365.Nodes, .slice a7366 n7366 c7366, .slice a7367 n7367 c7367]) rfl (q_load wd_25 rfl) (St.ld X7376 (j := 1) rfl rfl) rfl ?_
    refine lread (v := .int .i64 p7368) rfl (q_load wd_3 rfl) (St.ld X7376 (j := 0) rfl rfl) rfl ?_
    refine lcall rfl rfl ca_39 rfl rfl (f39_ok X7376 p7365 p7368 H7366 H7367) rfl (fun e7382 v7383 h7384 hq7385 => ?_)
    cases hq7385
    refine lpure (v := .bool (!e7382)) rfl (p_not rfl) rfl rfl ?_
    refine lend ?_
    refine nseq ?_
    refine dcond rfl rfl (fun k7386 => ?_) (fun k7386 => ?_)
    · refine dseq ?_
      refine dreg ?_
      refine lpure (v := .slice none 0 0) rfl (p_assign rfl) rfl rfl ?_
      refine lpure (v := .int .i64 2) rfl (p_assign rfl) rfl rfl ?_
      refine lend ?_
      refine nseq ?_
      refine dret ?_
      refine rseq ?_
      exact kopen_r (res_2 resT resT) ⟨φ, none, 0, 0, none, (.dead), (Fz.le_refl _), St.pick X7376 (.none _ (.skip _ (.skip _ (.refl _)))), rfl, OSl.nil⟩
    · refine dskip ?_
      refine nseq ?_
      refine dseq ?_
      refine dreg ?_
      refine lalloc rfl tz_28 rfl rfl rfl X7376 (fun b7387 h7389 X7390 => ?_)
      refine lend ?_
      refine nseq ?_
      refine dseq ?_
      refine dseq ?_
      refine dreg ?_
      refine lread (v := .agg #[.int .i64 p7365.Nodes, .slice a7366 n7366 c7366, .slice a7367 n7367 c7367]) rfl (q_load wd_25 rfl) (St.ld X7390 (j := 2) rfl rfl) rfl ?_
      refine linl rfl rfl rfl rfl ca_40 rfl Try.func40 rfl rfl rfl rfl rfl ?_
      refine dseq ?_
      refine dreg ?_
      refine lbox rfl rfl rfl rfl rfl X7390 (fun b7391 h7393 X7394 => ?_)
      refine lpure (v := .nilFunc) rfl (p_assign rfl) rfl rfl ?_
      refine lend ?_
      refine nseq ?_
      refine dseq ?_
      refine dreg ?_
      refine lpure (v := .func (.func 62) #[] #[.pointer (some ⟨b7391, 0, none⟩)]) rfl (p_makeFunc rfl) rfl rfl ?_
      refine lpure (v := .func (.func 62) #[] #[.pointer (some ⟨b7391, 0, none⟩)]) rfl (p_assign rfl) rfl rfl ?_
      refine lend ?_
      refine nseq ?_
      refine dret ?_
      refine kin_r (res_1 resT) ?_
      refine lend ?_
      refine nseq ?_
      refine dblock ?_
      refine drange rfl rfl ca_62 Try.func62 rfl rfl X7394 (fun _ => rfl) ?_
      intro l7395 q7396 df7397 h7399 Q7398 X7400
      refine dseq ?_
      refine dreg ?_
      refine lpure (v := .pointer (some ⟨b7391, 2, none⟩)) rfl (p_fa fo_25_2 rfl) rfl rfl ?_
      refine lread (v := .slice a7367 n7367 c7367) rfl (q_load wd_23 rfl) (St.ld X7400 (j := 2) rfl rfl) rfl ?_
      refine lpure (v := .int .i64 (p7365.Links.length : Int)) rfl (p_len rfl rfl rfl un_23 rfl) (RSl.lenC H7367) rfl ?_
      refine lpure (v := .int .i64 0) rfl (p_move rfl) rfl rfl ?_
      refine lend ?_
      refine nseq ?_
      refine dblock ?_
      refine dloopM (τ := Int × (List Int)) (σ := Option Addr × Nat × Nat × Option Nat × Blk) (fun s7568 (a7570, n7570, c7570, ob7570, blk7570) => [(0, .func (.yield l7395) #[] #[]), (6, .slice a7367 n7367 c7367), (7, .int .i64 (p7365.Links.length : Int)), (8, .int .i64 s7568.1)]) (fun s7568 (a7570, n7570, c7570, ob7570, blk7570) hh => St φ lo hh ((ob7570, blk7570) :: (some l7395, rdy q7396) :: (none, .dead) :: (some b7391, .cells [.int .i64 p7365.Nodes, .slice a7366 n7366 c7366, .slice a7367 n7367 c7367] 25 .exact) :: (some b7387, .cells [.slice a7570 n7570 c7570] 28 .exact) :: (some b7373, .cells [.int .i64 p7368] 3 .exact) :: (some b7369, .cells [.int .i64 p7365.Nodes, .slice a7366 n7366 c7366, .slice a7367 n7367 c7367] 25 .exact) :: own) ∧ OSl (eInt .i64) φ 3 ob7570 blk7570 (.slice a7570 n7570 c7570) s7568.2) (0, []) (none, 0, 0, none, .dead) (sub_cons rfl (sub_cons rfl (sub_cons rfl (sub_cons rfl sub_nil)))) ⟨(St.pick X7400 (.none _ (.keep _ (.none _ (.skip _ (.keep _ (.keep _ (.keep _ (.keep _ (.refl _)))))))))), OSl.nil⟩ ?_
      rintro n7651 ih7650 s7568 ⟨a7570, n7570, c7570, ob7570, blk7570⟩ t0 h7653 ⟨X7652, O7570⟩
      refine dseq ?_
      refine dreg ?_
      refine lpure (v := .bool (decide (s7568.1 < (p7365.Links.length : Int)))) rfl (p_lt rfl) rfl rfl ?_
      refine lend ?_
      refine nseq ?_
      refine dseq ?_
      refine dcond rfl rfl (fun k7654 => ?_) (fun k7654 => ?_)
      · refine dskip ?_
        refine nseq ?_
        refine dseq ?_
        refine dblock ?_
        refine dseq ?_
        refine dreg ?_
        refine lpure (v := .int .i64 s7568.1) rfl (p_move rfl) rfl rfl ?_
        refine Sim.bindM fun e7655 he7656 => ?_
        obtain ⟨p7657, cs7657, hp7657, hF7657, hR7657⟩ := RSl.ia H7367 he7656 (kd := .i64) (n := 4) rfl
        obtain rfl := eApiLink_el hR7657
        refine lpure (v := p7657) rfl (p_ia rs_23 rfl) hp7657 rfl ?_
        refine lread (v := .agg #[.int .i64 e7655.A, .int .i64 e7655.B, .int .i64 e7655.Per, .int .i64 e7655.Delay]) rfl (q_load wd_50 rfl) (FP.ldw X7652 hF7657 rfl rfl) rfl ?_
        refine lalloc rfl tz_50 rfl rfl rfl X7652 (fun b7658 h7660 X7661 => ?_)
        refine lpure (v := .int .i64 s7568.1) rfl (p_assign rfl) rfl rfl ?_
        refine lstore rfl ts_50 rfl rfl (j := 0) rfl rfl rfl rfl rfl rfl X7661 (fun h7662 X7663 => ?_)
        refine lend ?_
        refine nseq ?_
        refine dseq ?_
        refine dreg ?_
        refine lpure (v := .func (.yield l7395) #[] #[]) rfl (p_move rfl) rfl rfl ?_
        refine lread (v := .agg #[.int .i64 e7655.A, .int .i64 e7655.B, .int .i64 e7655.Per, .int .i64 e7655.Delay]) rfl (q_load wd_50 rfl) (St.ld X7663 (j := 0) rfl rfl) rfl ?_
        refine lpure (v := .int .i64 s7568.1) rfl (p_move rfl) rfl rfl ?_
        refine lpure (v := .int .i64 (w64 (2 * s7568.1))) rfl (p_mul rfl) rfl rfl ?_
        refine lpure (v := .agg #[.int .i64 e7655.A, .int .i64 e7655.B, .int .i64 e7655.Per, .int .i64 e7655.Delay, .int .i64 (w64 (2 * s7568.1))]) rfl (p_build rfl) (build_st' tz_65 pl_65 rfl) rfl ?_
        refine lround rfl rfl rfl rfl rfl rfl X7663 (j := 2) rfl Q7398 rfl rfl rfl rfl rfl (fun t7664 => ?_)
        refine dreg ?_
        refine lalloc rfl tz_65 rfl rfl rfl X7663 (fun b7665 h7667 X7668 => ?_)
        refine lstore rfl ts_65 rfl rfl (j := 0) rfl rfl rfl rfl rfl rfl X7668 (fun h7669 X7670 => ?_)
        refine lend ?_
        refine basg X7670 (j := 3) rfl (fun h7671 X7672 => ?_)
        refine dblock ?_
        refine dseq ?_
        refine ddraw 0 0 0 (by kernel_rfl) ?_
        refine sload (v := .agg #[.int .i64 e7655.A, .int .i64 e7655.B, .int .i64 e7655.Per, .int .i64 e7655.Delay, .int .i64 (w64 (2 * s7568.1))]) rfl rfl (q_load wd_65 rfl) (St.ld X7672 (j := 0) rfl rfl) (same_self 20 rfl) rfl ?_
        refine scall (en := fun d => (.int .i64 d)) rfl rfl ca_41 rfl rfl (f41_ok X7672 ((TopoEnd.mk e7655 (w64 (2 * s7568.1))))) rfl (fun e7673 => ?_)
        refine sload (v := .int .i64 p7368) rfl rfl (q_load wd_3 rfl) (St.ld X7672 (j := 7) rfl rfl) (same_self 20 rfl) rfl ?_
        refine spure (v := .bool (decide (e7673 = p7368))) rfl (p_eq rfl) (lo_t rfl (lo_t rfl rfl)) rfl rfl ?_
        refine send ?_
        refine nseq ?_
        refine djoinM (τ := (List Int)) (σ := Option Addr × Nat × Nat × Option Nat × Blk) (fun s7683 (a7684, n7684, c7684, ob7684, blk7684) => []) (fun s7683 (a7684, n7684, c7684, ob7684, blk7684) hh => St φ lo hh ((some b7665, .cells [.int .i64 e7655.A, .int .i64 e7655.B, .int .i64 e7655.Per, .int .i64 e7655.Delay, .int .i64 (w64 (2 * s7568.1))] 65 .exact) :: (some b7658, .cells [.int .i64 e7655.A, .int .i64 e7655.B, .int .i64 e7655.Per, .int .i64 e7655.Delay] 50 .exact) :: (ob7684, blk7684) :: (some l7395, bsy q7396) :: (none, .dead) :: (some b7391, .cells [.int .i64 p7365.Nodes, .slice a7366 n7366 c7366, .slice a7367 n7367 c7367] 25 .exact) :: (some b7387, .cells [.slice a7684 n7684 c7684] 28 .exact) :: (some b7373, .cells [.int .i64 p7368] 3 .exact) :: (some b7369, .cells [.int .i64 p7365.Nodes, .slice a7366 n7366 c7366, .slice a7367 n7367 c7367] 25 .exact) :: own) ∧ OSl (eInt .i64) φ 3 ob7684 blk7684 (.slice a7684 n7684 c7684) s7683) ?_ ?_
        · rintro s7683 ⟨a7684, n7684, c7684, ob7684, blk7684⟩ t0 h7686 ⟨X7685, O7684⟩
          refine nblock ?_
          refine nrnd X7685 (j := 3) rfl (fun h7689 X7690 => ?_)
          refine lpure (v := .bool false) rfl (p_not rfl) rfl rfl ?_
          refine lpure (v := .bool false) rfl (p_move rfl) rfl rfl ?_
          refine lpure (v := .func (.yield l7395) #[] #[]) rfl (p_move rfl) rfl rfl ?_
          refine lread (v := .agg #[.int .i64 e7655.A, .int .i64 e7655.B, .int .i64 e7655.Per, .int .i64 e7655.Delay]) rfl (q_load wd_50 rfl) (St.ld X7690 (j := 1) rfl rfl) rfl ?_
          refine lpure (v := .int .i64 s7568.1) rfl (p_move rfl) rfl rfl ?_
          refine lpure (v := .int .i64 (w64 (2 * s7568.1))) rfl (p_mul rfl) rfl rfl ?_
          refine lpure (v := .int .i64 (w64 ((w64 (2 * s7568.1)) + 1))) rfl (p_add rfl) rfl rfl ?_
          refine lpure (v := .agg #[.int .i64 e7655.A, .int .i64 e7655.B, .int .i64 e7655.Per, .int .i64 e7655.Delay, .int .i64 (w64 ((w64 (2 * s7568.1)) + 1))]) rfl (p_build rfl) (build_st' tz_65 pl_65 rfl) rfl ?_
          refine lround rfl rfl rfl rfl rfl rfl X7690 (j := 3) rfl Q7398 rfl rfl rfl rfl rfl (fun t7691 => ?_)
          refine dreg ?_
          refine lalloc rfl tz_65 rfl rfl rfl X7690 (fun b7692 h7694 X7695 => ?_)
          refine lstore rfl ts_65 rfl rfl (j := 0) rfl rfl rfl rfl rfl rfl X7695 (fun h7696 X7697 => ?_)
          refine lend ?_
          refine basg X7697 (j := 4) rfl (fun h7698 X7699 => ?_)
          refine dblock ?_
          refine dseq ?_
          refine ddraw 0 0 0 (by kernel_rfl) ?_
          refine sload (v := .agg #[.int .i64 e7655.A, .int .i64 e7655.B, .int .i64 e7655.Per, .int .i64 e7655.Delay, .int .i64 (w64 ((w64 (2 * s7568.1)) + 1))]) rfl rfl (q_load wd_65 rfl) (St.ld X7699 (j := 0) rfl rfl) (same_self 20 rfl) rfl ?_
          refine scall (en := fun d => (.int .i64 d)) rfl rfl ca_41 rfl rfl (f41_ok X7699 ((TopoEnd.mk e7655 (w64 ((w64 (2 * s7568.1)) + 1))))) rfl (fun e7700 => ?_)
          refine sload (v := .int .i64 p7368) rfl rfl (q_load wd_3 rfl) (St.ld X7699 (j := 8) rfl rfl) (same_self 20 rfl) rfl ?_
          refine spure (v := .bool (decide (e7700 = p7368))) rfl (p_eq rfl) (lo_t rfl (lo_t rfl rfl)) rfl rfl ?_
          refine send ?_
          refine nseq ?_
          refine djoinM (τ := (List Int)) (σ := Option Addr × Nat × Nat × Option Nat × Blk) (fun s7710 (a7711, n7711, c7711, ob7711, blk7711) => []) (fun s7710 (a7711, n7711, c7711, ob7711, blk7711) hh => St φ lo hh ((some b7692, .cells [.int .i64 e7655.A, .int .i64 e7655.B, .int .i64 e7655.Per, .int .i64 e7655.Delay, .int .i64 (w64 ((w64 (2 * s7568.1)) + 1))] 65 .exact) :: (some b7665, .cells [.int .i64 e7655.A, .int .i64 e7655.B, .int .i64 e7655.Per, .int .i64 e7655.Delay, .int .i64 (w64 (2 * s7568.1))] 65 .exact) :: (some b7658, .cells [.int .i64 e7655.A, .int .i64 e7655.B, .int .i64 e7655.Per, .int .i64 e7655.Delay] 50 .exact) :: (ob7711, blk7711) :: (some l7395, bsy q7396) :: (none, .dead) :: (some b7391, .cells [.int .i64 p7365.Nodes, .slice a7366 n7366 c7366, .slice a7367 n7367 c7367] 25 .exact) :: (some b7387, .cells [.slice a7711 n7711 c7711] 28 .exact) :: (some b7373, .cells [.int .i64 p7368] 3 .exact) :: (some b7369, .cells [.int .i64 p7365.Nodes, .slice a7366 n7366 c7366, .slice a7367 n7367 c7367] 25 .exact) :: own) ∧ OSl (eInt .i64) φ 3 ob7711 blk7711 (.slice a7711 n7711 c7711) s7710) ?_ ?_
          · rintro s7710 ⟨a7711, n7711, c7711, ob7711, blk7711⟩ t0 h7713 ⟨X7712, O7711⟩
            refine nblock ?_
            refine nrnd X7712 (j := 4) rfl (fun h7716 X7717 => ?_)
            refine lpure (v := .bool false) rfl (p_not rfl) rfl rfl ?_
            refine lpure (v := .bool false) rfl (p_pick rfl) rfl rfl ?_
            refine lend ?_
            refine nseq ?_
            refine dcondF rfl rfl ?_
            refine dskip ?_
            refine nblock ?_
            refine nseq ?_
            refine dreg ?_
            refine lpure (v := .int .i64 (w64 (s7568.1 + 1))) rfl (p_add rfl) rfl rfl ?_
            refine lpure (v := .int .i64 (w64 (s7568.1 + 1))) rfl (p_move rfl) rfl rfl ?_
            refine lend ?_
            exact kbackM ih7650 ((w64 (s7568.1 + 1)), s7710) (a7711, n7711, c7711, ob7711, blk7711) (sub_cons rfl (sub_cons rfl (sub_cons rfl (sub_cons rfl sub_nil)))) ⟨(St.pick X7717 (.skip _ (.skip _ (.skip _ (.keep _ (.keep _ (.none _ (.skip _ (.keep _ (.keep _ (.keep _ (.keep _ (.refl _))))))))))))), O7711⟩
          · intro j7714 J7715
            refine dcond rfl rfl (fun k7704 => ?_) (fun k7704 => ?_)
            · refine dreg ?_
              refine lread (v := .slice a7684 n7684 c7684) rfl (q_load wd_28 rfl) (St.ld X7699 (j := 7) rfl rfl) rfl ?_
              refine lpure (v := .pointer (some ⟨b7692, 4, none⟩)) rfl (p_fa fo_65_1 rfl) rfl rfl ?_
              refine lread (v := .int .i64 (w64 ((w64 (2 * s7568.1)) + 1))) rfl (q_load wd_3 rfl) (St.ld X7699 (j := 0) rfl rfl) rfl ?_
              obtain ⟨h7718, b7718, hv7718, X7718, O7718⟩ := OSl.lay (E := (eInt .i64)) (φ := φ) (cs := [.int .i64 (w64 ((w64 (2 * s7568.1)) + 1))]) (l := [(w64 ((w64 (2 * s7568.1)) + 1))]) (len := 1) (parts := [(0, .int .i64 (w64 ((w64 (2 * s7568.1)) + 1)))]) un_28 ts_3 rfl rfl rfl tz_3 rfl rfl (show RowD (eInt .i64) φ [.int .i64 (w64 ((w64 (2 * s7568.1)) + 1))] [(w64 ((w64 (2 * s7568.1)) + 1))] from ⟨[.int .i64 (w64 ((w64 (2 * s7568.1)) + 1))], _, rfl, rfl, rfl⟩) rfl rfl X7699
              refine lheap rfl (h_buildSlice rfl) hv7718 rfl ?_
              obtain ⟨ws7720, hw7720⟩ := OSl.read O7718 X7718 (k := 0) rfl (n := 1) rfl
              refine Sim.mustM fun k7720 => ?_
              obtain ⟨h7720, a7720, c7720, ob7720, blk7720, hv7720, X7720, O7720⟩ := OSl.append O7684 X7718 (j := 4) rfl hw7720 k7720 (ts := #[28, 28]) rfl un_28 (argOk_of ax_28_28) ts_3 rfl rfl tb_3 rfl tz_3 rfl
              refine lheap rfl (h_builtin rfl rfl) hv7720 rfl ?_
              refine lstore rfl ts_28 rfl rfl (j := 8) rfl rfl rfl rfl rfl rfl X7720 (fun h7721 X7722 => ?_)
              refine lend ?_
              exact jmpM J7715 (s7683 ++ ([(w64 ((w64 (2 * s7568.1)) + 1))])) (a7720, (s7683.length + ([(w64 ((w64 (2 * s7568.1)) + 1))]).length), c7720, ob7720, blk7720) sub_nil ⟨(St.pick X7722 (.skip _ (.keep _ (.keep _ (.keep _ (.keep _ (.keep _ (.none _ (.skip _ (.keep _ (.keep _ (.keep _ (.keep _ (.refl _)))))))))))))), O7720⟩
            · refine dskip ?_
              exact jmpM J7715 s7683 (a7684, n7684, c7684, ob7684, blk7684) sub_nil ⟨(St.pick X7699 (.keep _ (.keep _ (.keep _ (.keep _ (.keep _ (.none _ (.skip _ (.keep _ (.keep _ (.keep _ (.keep _ (.refl _))))))))))))), O7684⟩
        · intro j7687 J7688
          refine dcond rfl rfl (fun k7677 => ?_) (fun k7677 => ?_)
          · refine dreg ?_
            refine lread (v := .slice a7570 n7570 c7570) rfl (q_load wd_28 rfl) (St.ld X7672 (j := 6) rfl rfl) rfl ?_
            refine lpure (v := .pointer (some ⟨b7665, 4, none⟩)) rfl (p_fa fo_65_1 rfl) rfl rfl ?_
            refine lread (v := .int .i64 (w64 (2 * s7568.1))) rfl (q_load wd_3 rfl) (St.ld X7672 (j := 0) rfl rfl) rfl ?_
            obtain ⟨h7723, b7723, hv7723, X7723, O7723⟩ := OSl.lay (E := (eInt .i64)) (φ := φ) (cs := [.int .i64 (w64 (2 * s7568.1))]) (l := [(w64 (2 * s7568.1))]) (len := 1) (parts := [(0, .int .i64 (w64 (2 * s7568.1)))]) un_28 ts_3 rfl rfl rfl tz_3 rfl rfl (show RowD (eInt .i64) φ [.int .i64 (w64 (2 * s7568.1))] [(w64 (2 * s7568.1))] from ⟨[.int .i64 (w64 (2 * s7568.1))], _, rfl, rfl, rfl⟩) rfl rfl X7672
            refine lheap rfl (h_buildSlice rfl) hv7723 rfl ?_
            obtain ⟨ws7725, hw7725⟩ := OSl.read O7723 X7723 (k := 0) rfl (n := 1) rfl
            refine Sim.mustM fun k7725 => ?_
            obtain ⟨h7725, a7725, c7725, ob7725, blk7725, hv7725, X7725, O7725⟩ := OSl.append O7570 X7723 (j := 3) rfl hw7725 k7725 (ts := #[28, 28]) rfl un_28 (argOk_of ax_28_28) ts_3 rfl rfl tb_3 rfl tz_3 rfl
            refine lheap rfl (h_builtin rfl rfl) hv7725 rfl ?_
            refine lstore rfl ts_28 rfl rfl (j := 7) rfl rfl rfl rfl rfl rfl X7725 (fun h7726 X7727 => ?_)
            refine lend ?_
            exact jmpM J7688 (s7568.2 ++ ([(w64 (2 * s7568.1))])) (a7725, (s7568.2.length + ([(w64 (2 * s7568.1))]).length), c7725, ob7725, blk7725) sub_nil ⟨(St.pick X7727 (.skip _ (.keep _ (.keep _ (.keep _ (.keep _ (.none _ (.skip _ (.keep _ (.keep _ (.keep _ (.keep _ (.refl _))))))))))))), O7725⟩
          · refine dskip ?_
            exact jmpM J7688 s7568.2 (a7570, n7570, c7570, ob7570, blk7570) sub_nil ⟨(St.pick X7672 (.keep _ (.keep _ (.keep _ (.keep _ (.none _ (.skip _ (.keep _ (.keep _ (.keep _ (.keep _ (.refl _)))))))))))), O7570⟩
      · refine dexit ?_
        refine eseq ?_
        refine eloop ?_
        refine xblock ?_
        refine kin_n res_0 ?_
        refine rend_n X7652 (j := 1) rfl (fun h7728 X7729 => ?_)
        refine nblock ?_
        refine nseq ?_
        refine dseq ?_
        refine dreg ?_
        refine lread (v := .slice a7570 n7570 c7570) rfl (q_load wd_28 rfl) (St.ld X7729 (j := 4) rfl rfl) rfl ?_
        refine lpure (v := .slice a7570 n7570 c7570) rfl (p_assign rfl) rfl rfl ?_
        refine lpure (v := .int .i64 0) rfl (p_assign rfl) rfl rfl ?_
        refine lend ?_
        refine nseq ?_
        refine dret ?_
        exact kopen_r (res_2 resT resT) ⟨φ, a7570, n7570, c7570, ob7570, blk7570, (Fz.le_refl _), St.pick X7729 (.keep _ (.skip _ (.skip _ (.skip _ (.skip _ (.skip _ (.skip _ (.refl _)))))))), rfl, O7570⟩
/-! isochron/topo.Find -/
theorem f12_ok {n : Nat} {φ : Fz} {lo : Nat} {h : Heap} {own : OwnL} (X : St φ lo h own) (p7749 : ApiTopo) (p7752 : Int) (p7753 : Int) {a7750 : Option Addr} {n7750 c7750 : Nat} {a7751 : Option Addr} {n7751 c7751 : Nat} (H7750 : RSl eBool φ (.slice a7750 n7750 c7750) p7749.Station) (H7751 : RSl eApiLink φ (.slice a7751 n7751 c7751) p7749.Links) : Sim ((recN Try.prog LL cutF (n + 7)).call 12 #[(.agg #[.int .i64 p7749.Nodes, .slice a7750 n7750 c7750, .slice a7751 n7751 c7751]), (.int .i64 p7752), (.int .i64 p7753)] h) (m_topo_Find p7749 p7752 p7753) (fun (d : (Int × Int)) p => p = (.tuple #[.int .i64 d.1, .int .i64 d.2], h)) := by
  refine fcut Try.func12 rfl rfl rfl rfl X ?_
  intro h0 X0
  refine dseq ?_
  refine dreg ?_
  refine lbox rfl rfl rfl rfl rfl X0 (fun b7754 h7756 X7757 => ?_)
  refine lbox rfl rfl rfl rfl rfl X7757 (fun b7758 h7760 X7761 => ?_)
  refine lbox rfl rfl rfl rfl rfl X7761 (fun b7762 h7764 X7765 => ?_)
  refine lalloc rfl tz_3 rfl rfl rfl X7765 (fun b7766 h7768 X7769 => ?_)
  refine lalloc rfl tz_29 rfl rfl rfl X7769 (fun b7770 h7772 X7773 => ?_)
  refine lend ?_
  refine nseq ?_
  refine dseq ?_
  refine dseq ?_
  refine dreg ?_
  refine lread (v := .agg #[.int .i64 p7749.Nodes, .slice a7750 n7750 c7750, .slice a7751 n7751 c7751]) rfl (q_load wd_25 rfl) (St.ld X7773 (j := 4) rfl rfl) rfl ?_
  refine lcall rfl rfl ca_34 rfl rfl (f34_ok X7773 p7749 H7750 H7751) rfl (fun e7774 v7775 h7776 hq7777 => ?_)
  cases hq7777
  refine lpure (v := .int .i64 e7774) rfl (p_assign rfl) rfl rfl ?_
  refine lend ?_
  refine nseq ?_
  refine dseq ?_
  refine dreg ?_
  refine lpure (v := .int .i64 e7774) rfl (p_move rfl) rfl rfl ?_
  refine lpure (v := .bool (decide (e7774 ≠ 0))) rfl (p_ne rfl) rfl rfl ?_
  refine lend ?_
  refine nseq ?_
  refine dcond rfl rfl (fun k7778 => ?_) (fun k7778 => ?_)
  · refine dseq ?_
    refine dreg ?_
    refine lpure (v := .int .i64 e7774) rfl (p_move rfl) rfl rfl ?_
    refine lstore rfl ts_3 rfl rfl (j := 1) rfl rfl rfl rfl rfl rfl X7773 (fun h7779 X7780 => ?_)
    refine lstore rfl ts_29 rfl rfl (j := 0) rfl rfl rfl rfl rfl rfl X7780 (fun h7781 X7782 => ?_)
    refine lend ?_
    refine nseq ?_
    refine dret ?_
    refine rseq ?_
    exact kcut_r (res_2 (resC wd_3 (St.ld X7782 (j := 1) rfl rfl)) (resC wd_29 (St.ld X7782 (j := 0) rfl rfl))) X7782 rfl rfl
  · refine dskip ?_
    refine nseq ?_
    refine dseq ?_
    refine dseq ?_
    refine dreg ?_
    refine lread (v := .agg #[.int .i64 p7749.Nodes, .slice a7750 n7750 c7750, .slice a7751 n7751 c7751]) rfl (q_load wd_25 rfl) (St.ld X7773 (j := 4) rfl rfl) rfl ?_
    refine lread (v := .int .i64 p7752) rfl (q_load wd_3 rfl) (St.ld X7773 (j := 3) rfl rfl) rfl ?_
    refine lcall rfl rfl ca_39 rfl rfl (f39_ok X7773 p7749 p7752 H7750 H7751) rfl (fun e7783 v7784 h7785 hq7786 => ?_)
    cases hq7786
    refine lpure (v := .bool (!e7783)) rfl (p_not rfl) rfl rfl ?_
    refine lpure (v := .bool (!e7783)) rfl (p_move rfl) rfl rfl ?_
    refine ljoinM (τ := Bool) (σ := Unit) (fun s7793 (_ : Unit) => [(3, .pointer (some ⟨b7754, 0, none⟩)), (4, .pointer (some ⟨b7758, 0, none⟩)), (5, .pointer (some ⟨b7762, 0, none⟩)), (6, .pointer (some ⟨b7766, 0, none⟩)), (7, .pointer (some ⟨b7770, 0, none⟩)), (24, .bool s7793)]) (fun s7793 (_ : Unit) hh => St φ h.n hh ([(some b7770, .cells [.int .i64 0] 29 .exact), (some b7766, .cells [.int .i64 0] 3 .exact), (some b7762, .cells [.int .i64 p7753] 3 .exact), (some b7758, .cells [.int .i64 p7752] 3 .exact), (some b7754, .cells [.int .i64 p7749.Nodes, .slice a7750 n7750 c7750, .slice a7751 n7751 c7751] 25 .exact)])) 5 ?_ ?_
    · rintro s7793 _ t0 h7795 X7794
      refine lend ?_
      refine nseq ?_
      refine dcond rfl rfl (fun k7796 => ?_) (fun k7796 => ?_)
      · refine dseq ?_
        refine dreg ?_
        refine lstore rfl ts_3 rfl rfl (j := 1) rfl rfl rfl rfl rfl rfl X7794 (fun h7797 X7798 => ?_)
        refine lstore rfl ts_29 rfl rfl (j := 0) rfl rfl rfl rfl rfl rfl X7798 (fun h7799 X7800 => ?_)
        refine lend ?_
        refine nseq ?_
        refine dret ?_
        refine rseq ?_
        exact kcut_r (res_2 (resC wd_3 (St.ld X7800 (j := 1) rfl rfl)) (resC wd_29 (St.ld X7800 (j := 0) rfl rfl))) X7800 rfl rfl
      · refine dskip ?_
        refine nseq ?_
        refine dseq ?_
        refine dseq ?_
        refine dreg ?_
        refine lread (v := .agg #[.int .i64 p7749.Nodes, .slice a7750 n7750 c7750, .slice a7751 n7751 c7751]) rfl (q_load wd_25 rfl) (St.ld X7794 (j := 4) rfl rfl) rfl ?_
        refine linl rfl rfl rfl rfl ca_40 rfl Try.func40 rfl rfl rfl rfl rfl ?_
        refine dseq ?_
        refine dreg ?_
        refine lbox rfl rfl rfl rfl rfl X7794 (fun b7801 h7803 X7804 => ?_)
        refine lpure (v := .nilFunc) rfl (p_assign rfl) rfl rfl ?_
        refine lend ?_
        refine nseq ?_
        refine dseq ?_
        refine dreg ?_
        refine lpure (v := .func (.func 62) #[] #[.pointer (some ⟨b7801, 0, none⟩)]) rfl (p_makeFunc rfl) rfl rfl ?_
        refine lpure (v := .func (.func 62) #[] #[.pointer (some ⟨b7801, 0, none⟩)]) rfl (p_assign rfl) rfl rfl ?_
        refine lend ?_
        refine nseq ?_
        refine dret ?_
        refine kin_r (res_1 resT) ?_
        refine lend ?_
        refine nseq ?_
        refine dblock ?_
        refine drange rfl rfl ca_62 Try.func62 rfl rfl X7804 (fun _ => rfl) ?_
        intro l7805 q7806 df7807 h7809 Q7808 X7810
        refine dseq ?_
        refine dreg ?_
        refine lpure (v := .pointer (some ⟨b7801, 2, none⟩)) rfl (p_fa fo_25_2 rfl) rfl rfl ?_
        refine lread (v := .slice a7751 n7751 c7751) rfl (q_load wd_23 rfl) (St.ld X7810 (j := 2) rfl rfl) rfl ?_
        refine lpure (v := .int .i64 (p7749.Links.length : Int)) rfl (p_len rfl rfl rfl un_23 rfl) (RSl.lenC H7751) rfl ?_
        refine lpure (v := .int .i64 0) rfl (p_move rfl) rfl rfl ?_
        refine lend ?_
        refine nseq ?_
        refine dblock ?_
        refine dloopM (τ := Int) (σ := Unit) (fun s8011 (_ : Unit) => [(0, .func (.yield l7805) #[] #[]), (6, .slice a7751 n7751 c7751), (7, .int .i64 (p7749.Links.length : Int)), (8, .int .i64 s8011)]) (fun s8011 (_ : Unit) hh => St φ h.n hh ([(some l7805, rdy q7806), (none, .dead), (some b7801, .cells [.int .i64 p7749.Nodes, .slice a7750 n7750 c7750, .slice a7751 n7751 c7751] 25 .exact), (some b7770, .cells [.int .i64 0] 29 .exact), (some b7766, .cells [.int .i64 0] 3 .exact), (some b7762, .cells [.int .i64 p7753] 3 .exact), (some b7758, .cells [.int .i64 p7752] 3 .exact), (some b7754, .cells [.int .i64 p7749.Nodes, .slice a7750 n7750 c7750, .slice a7751 n7751 c7751] 25 .exact)])) 0 () (sub_cons rfl (sub_cons rfl (sub_cons rfl (sub_cons rfl sub_nil)))) (St.pick X7810 (.keep _ (.none _ (.skip _ (.keep _ (.keep _ (.keep _ (.keep _ (.keep _ (.keep _ (.nil _))))))))))) ?_
        rintro n8112 ih8111 s8011 _ t0 h8114 X8113
        refine dseq ?_
        refine dreg ?_
        refine lpure (v := .bool (decide (s8011 < (p7749.Links.length : Int)))) rfl (p_lt rfl) rfl rfl ?_
        refine lend ?_
        refine nseq ?_
        refine dseq ?_
        refine dcond rfl rfl (fun k8115 => ?_) (fun k8115 => ?_)
        · refine dskip ?_
          refine nseq ?_
          refine dseq ?_
          refine dblock ?_
          refine dseq ?_
          refine dreg ?_
          refine lpure (v := .int .i64 s8011) rfl (p_move rfl) rfl rfl ?_
          refine Sim.bindM fun e8116 he8117 => ?_
          obtain ⟨p8118, cs8118, hp8118, hF8118, hR8118⟩ := RSl.ia H7751 he8117 (kd := .i64) (n := 4) rfl
          obtain rfl := eApiLink_el hR8118
          refine lpure (v := p8118) rfl (p_ia rs_23 rfl) hp8118 rfl ?_
          refine lread (v := .agg #[.int .i64 e8116.A, .int .i64 e8116.B, .int .i64 e8116.Per, .int .i64 e8116.Delay]) rfl (q_load wd_50 rfl) (FP.ldw X8113 hF8118 rfl rfl) rfl ?_
          refine lalloc rfl tz_50 rfl rfl rfl X8113 (fun b8119 h8121 X8122 => ?_)
          refine lpure (v := .int .i64 s8011) rfl (p_assign rfl) rfl rfl ?_
          refine lstore rfl ts_50 rfl rfl (j := 0) rfl rfl rfl rfl rfl rfl X8122 (fun h8123 X8124 => ?_)
          refine lend ?_
          refine nseq ?_
          refine dseq ?_
          refine dreg ?_
          refine lpure (v := .func (.yield l7805) #[] #[]) rfl (p_move rfl) rfl rfl ?_
          refine lread (v := .agg #[.int .i64 e8116.A, .int .i64 e8116.B, .int .i64 e8116.Per, .int .i64 e8116.Delay]) rfl (q_load wd_50 rfl) (St.ld X8124 (j := 0) rfl rfl) rfl ?_
          refine lpure (v := .int .i64 s8011) rfl (p_move rfl) rfl rfl ?_
          refine lpure (v := .int .i64 (w64 (2 * s8011))) rfl (p_mul rfl) rfl rfl ?_
          refine lpure (v := .agg #[.int .i64 e8116.A, .int .i64 e8116.B, .int .i64 e8116.Per, .int .i64 e8116.Delay, .int .i64 (w64 (2 * s8011))]) rfl (p_build rfl) (build_st' tz_65 pl_65 rfl) rfl ?_
          refine lround rfl rfl rfl rfl rfl rfl X8124 (j := 1) rfl Q7808 rfl rfl rfl rfl rfl (fun t8125 => ?_)
          refine dreg ?_
          refine lalloc rfl tz_65 rfl rfl rfl X8124 (fun b8126 h8128 X8129 => ?_)
          refine lstore rfl ts_65 rfl rfl (j := 0) rfl rfl rfl rfl rfl rfl X8129 (fun h8130 X8131 => ?_)
          refine lend ?_
          refine basg X8131 (j := 2) rfl (fun h8132 X8133 => ?_)
          refine dblock ?_
          refine dseq ?_
          refine ddraw 0 0 0 (by kernel_rfl) ?_
          refine sload (v := .agg #[.int .i64 e8116.A, .int .i64 e8116.B, .int .i64 e8116.Per, .int .i64 e8116.Delay, .int .i64 (w64 (2 * s8011))]) rfl rfl (q_load wd_65 rfl) (St.ld X8133 (j := 0) rfl rfl) (same_self 20 rfl) rfl ?_
          refine scall (en := fun d => (.int .i64 d)) rfl rfl ca_41 rfl rfl (f41_ok X8133 ((TopoEnd.mk e8116 (w64 (2 * s8011))))) rfl (fun e8134 => ?_)
          refine sload (v := .int .i64 p7752) rfl rfl (q_load wd_3 rfl) (St.ld X8133 (j := 8) rfl rfl) (same_self 20 rfl) rfl ?_
          refine spure (v := .bool (decide (e8134 = p7752))) rfl (p_eq rfl) (lo_t rfl (lo_t rfl rfl)) rfl rfl ?_
          refine spure (v := .bool (decide (e8134 = p7752))) rfl (p_move rfl) (lo_t rfl rfl) rfl rfl ?_
          refine sjoinM (τ := Bool) (σ := Unit) (fun s8144 (_ : Unit) => [(6, .pointer (some ⟨b7766, 0, none⟩)), (7, .pointer (some ⟨b7770, 0, none⟩)), (9, .pointer (some ⟨b8126, 0, none⟩)), (37, .bool s8144)]) (fun s8144 (_ : Unit) hh => St φ h.n hh ([(some b8126, .cells [.int .i64 e8116.A, .int .i64 e8116.B, .int .i64 e8116.Per, .int .i64 e8116.Delay, .int .i64 (w64 (2 * s8011))] 65 .exact), (some b8119, .cells [.int .i64 e8116.A, .int .i64 e8116.B, .int .i64 e8116.Per, .int .i64 e8116.Delay] 50 .exact), (some l7805, bsy q7806), (none, .dead), (some b7801, .cells [.int .i64 p7749.Nodes, .slice a7750 n7750 c7750, .slice a7751 n7751 c7751] 25 .exact), (some b7770, .cells [.int .i64 0] 29 .exact), (some b7766, .cells [.int .i64 0] 3 .exact), (some b7762, .cells [.int .i64 p7753] 3 .exact), (some b7758, .cells [.int .i64 p7752] 3 .exact), (some b7754, .cells [.int .i64 p7749.Nodes, .slice a7750 n7750 c7750, .slice a7751 n7751 c7751] 25 .exact)])) 5 10 ?_ ?_
          · rintro s8144 _ t0 h8146 X8145
            refine send ?_
            refine nseq ?_
            refine dcond rfl rfl (fun k8147 => ?_) (fun k8147 => ?_)
            · refine dseq ?_
              refine dreg ?_
              refine lpure (v := .pointer (some ⟨b8126, 4, none⟩)) rfl (p_fa fo_65_1 rfl) rfl rfl ?_
              refine lread (v := .int .i64 (w64 (2 * s8011))) rfl (q_load wd_3 rfl) (St.ld X8145 (j := 0) rfl rfl) rfl ?_
              refine lstore rfl ts_3 rfl rfl (j := 6) rfl rfl rfl rfl rfl rfl X8145 (fun h8148 X8149 => ?_)
              refine lstore rfl ts_29 rfl rfl (j := 5) rfl rfl rfl rfl rfl rfl X8149 (fun h8150 X8151 => ?_)
              refine lend ?_
              refine nseq ?_
              refine dret ?_
              refine rblock ?_
              refine rrnd X8151 (j := 2) rfl (fun h8152 X8153 => ?_)
              refine lpure (v := .bool true) rfl (p_not rfl) rfl rfl ?_
              refine lpure (v := .bool true) rfl (p_move rfl) rfl rfl ?_
              refine lskip rfl rfl ?_
              refine lskip rfl rfl ?_
              refine lskip rfl rfl ?_
              refine lskip rfl rfl ?_
              refine lskip rfl rfl ?_
              refine lskip rfl rfl ?_
              refine lskip rfl rfl ?_
              refine lskip rfl rfl ?_
              refine lpure (v := .bool true) rfl (p_pick rfl) rfl rfl ?_
              refine lend ?_
              refine nseq ?_
              refine dcondT rfl rfl ?_
              refine dret ?_
              refine rblock ?_
              refine rseq ?_
              refine rloop ?_
              refine rblock ?_
              refine kin_r res_0 ?_
              refine rend_d X8153 (j := 2) rfl (.inl ⟨rfl, rfl⟩) (fun h8154 X8155 => ?_)
              refine rblock ?_
              refine rseq ?_
              exact kcut_r (res_2 (resC wd_3 (St.ld X8155 (j := 6) rfl rfl)) (resC wd_29 (St.ld X8155 (j := 5) rfl rfl))) X8155 rfl rfl
            · refine dskip ?_
              refine nblock ?_
              refine nrnd X8145 (j := 2) rfl (fun h8156 X8157 => ?_)
              refine lpure (v := .bool false) rfl (p_not rfl) rfl rfl ?_
              refine lpure (v := .bool false) rfl (p_move rfl) rfl rfl ?_
              refine lpure (v := .func (.yield l7805) #[] #[]) rfl (p_move rfl) rfl rfl ?_
              refine lread (v := .agg #[.int .i64 e8116.A, .int .i64 e8116.B, .int .i64 e8116.Per, .int .i64 e8116.Delay]) rfl (q_load wd_50 rfl) (St.ld X8157 (j := 1) rfl rfl) rfl ?_
              refine lpure (v := .int .i64 s8011) rfl (p_move rfl) rfl rfl ?_
              refine lpure (v := .int .i64 (w64 (2 * s8011))) rfl (p_mul rfl) rfl rfl ?_
              refine lpure (v := .int .i64 (w64 ((w64 (2 * s8011)) + 1))) rfl (p_add rfl) rfl rfl ?_
              refine lpure (v := .agg #[.int .i64 e8116.A, .int .i64 e8116.B, .int .i64 e8116.Per, .int .i64 e8116.Delay, .int .i64 (w64 ((w64 (2 * s8011)) + 1))]) rfl (p_build rfl) (build_st' tz_65 pl_65 rfl) rfl ?_
              refine lround rfl rfl rfl rfl rfl rfl X8157 (j := 2) rfl Q7808 rfl rfl rfl rfl rfl (fun t8158 => ?_)
              refine dreg ?_
              refine lalloc rfl tz_65 rfl rfl rfl X8157 (fun b8159 h8161 X8162 => ?_)
              refine lstore rfl ts_65 rfl rfl (j := 0) rfl rfl rfl rfl rfl rfl X8162 (fun h8163 X8164 => ?_)
              refine lend ?_
              refine basg X8164 (j := 3) rfl (fun h8165 X8166 => ?_)
              refine dblock ?_
              refine dseq ?_
              refine ddraw 0 0 0 (by kernel_rfl) ?_
              refine sload (v := .agg #[.int .i64 e8116.A, .int .i64 e8116.B, .int .i64 e8116.Per, .int .i64 e8116.Delay, .int .i64 (w64 ((w64 (2 * s8011)) + 1))]) rfl rfl (q_load wd_65 rfl) (St.ld X8166 (j := 0) rfl rfl) (same_self 20 rfl) rfl ?_
              refine scall (en := fun d => (.int .i64 d)) rfl rfl ca_41 rfl rfl (f41_ok X8166 ((TopoEnd.mk e8116 (w64 ((w64 (2 * s8011)) + 1))))) rfl (fun e8167 => ?_)
              refine sload (v := .int .i64 p7752) rfl rfl (q_load wd_3 rfl) (St.ld X8166 (j := 9) rfl rfl) (same_self 20 rfl) rfl ?_
              refine spure (v := .bool (decide (e8167 = p7752))) rfl (p_eq rfl) (lo_t rfl (lo_t rfl rfl)) rfl rfl ?_
              refine spure (v := .bool (decide (e8167 = p7752))) rfl (p_move rfl) (lo_t rfl rfl) rfl rfl ?_
              refine sjoinM (τ := Bool) (σ := Unit) (fun s8177 (_ : Unit) => [(6, .pointer (some ⟨b7766, 0, none⟩)), (7, .pointer (some ⟨b7770, 0, none⟩)), (9, .pointer (some ⟨b8159, 0, none⟩)), (37, .bool s8177)]) (fun s8177 (_ : Unit) hh => St φ h.n hh ([(some b8159, .cells [.int .i64 e8116.A, .int .i64 e8116.B, .int .i64 e8116.Per, .int .i64 e8116.Delay, .int .i64 (w64 ((w64 (2 * s8011)) + 1))] 65 .exact), (some b8126, .cells [.int .i64 e8116.A, .int .i64 e8116.B, .int .i64 e8116.Per, .int .i64 e8116.Delay, .int .i64 (w64 (2 * s8011))] 65 .exact), (some b8119, .cells [.int .i64 e8116.A, .int .i64 e8116.B, .int .i64 e8116.Per, .int .i64 e8116.Delay] 50 .exact), (some l7805, bsy q7806), (none, .dead), (some b7801, .cells [.int .i64 p7749.Nodes, .slice a7750 n7750 c7750, .slice a7751 n7751 c7751] 25 .exact), (some b7770, .cells [.int .i64 0] 29 .exact), (some b7766, .cells [.int .i64 0] 3 .exact), (some b7762, .cells [.int .i64 p7753] 3 .exact), (some b7758, .cells [.int .i64 p7752] 3 .exact), (some b7754, .cells [.int .i64 p7749.Nodes, .slice a7750 n7750 c7750, .slice a7751 n7751 c7751] 25 .exact)])) 5 10 ?_ ?_
              · rintro s8177 _ t0 h8179 X8178
                refine send ?_
                refine nseq ?_
                refine dcond rfl rfl (fun k8180 => ?_) (fun k8180 => ?_)
                · refine dseq ?_
                  refine dreg ?_
                  refine lpure (v := .pointer (some ⟨b8159, 4, none⟩)) rfl (p_fa fo_65_1 rfl) rfl rfl ?_
                  refine lread (v := .int .i64 (w64 ((w64 (2 * s8011)) + 1))) rfl (q_load wd_3 rfl) (St.ld X8178 (j := 0) rfl rfl) rfl ?_
                  refine lstore rfl ts_3 rfl rfl (j := 7) rfl rfl rfl rfl rfl rfl X8178 (fun h8181 X8182 => ?_)
                  refine lstore rfl ts_29 rfl rfl (j := 6) rfl rfl rfl rfl rfl rfl X8182 (fun h8183 X8184 => ?_)
                  refine lend ?_
                  refine nseq ?_
                  refine dret ?_
                  refine rblock ?_
                  refine rrnd X8184 (j := 3) rfl (fun h8185 X8186 => ?_)
                  refine lpure (v := .bool true) rfl (p_not rfl) rfl rfl ?_
                  refine lpure (v := .bool true) rfl (p_pick rfl) rfl rfl ?_
                  refine lend ?_
                  refine nseq ?_
                  refine dcondT rfl rfl ?_
                  refine dret ?_
                  refine rblock ?_
                  refine rseq ?_
                  refine rloop ?_
                  refine rblock ?_
                  refine kin_r res_0 ?_
                  refine rend_d X8186 (j := 3) rfl (.inl ⟨rfl, rfl⟩) (fun h8187 X8188 => ?_)
                  refine rblock ?_
                  refine rseq ?_
                  exact kcut_r (res_2 (resC wd_3 (St.ld X8188 (j := 7) rfl rfl)) (resC wd_29 (St.ld X8188 (j := 6) rfl rfl))) X8188 rfl rfl
                · refine dskip ?_
                  refine nblock ?_
                  refine nrnd X8178 (j := 3) rfl (fun h8189 X8190 => ?_)
                  refine lpure (v := .bool false) rfl (p_not rfl) rfl rfl ?_
                  refine lpure (v := .bool false) rfl (p_pick rfl) rfl rfl ?_
                  refine lend ?_
                  refine nseq ?_
                  refine dcondF rfl rfl ?_
                  refine dskip ?_
                  refine nblock ?_
                  refine nseq ?_
                  refine dreg ?_
                  refine lpure (v := .int .i64 (w64 (s8011 + 1))) rfl (p_add rfl) rfl rfl ?_
                  refine lpure (v := .int .i64 (w64 (s8011 + 1))) rfl (p_move rfl) rfl rfl ?_
                  refine lend ?_
                  exact kbackM ih8111 (w64 (s8011 + 1)) () (sub_cons rfl (sub_cons rfl (sub_cons rfl (sub_cons rfl sub_nil)))) (St.pick X8190 (.skip _ (.skip _ (.skip _ (.keep _ (.none _ (.skip _ (.keep _ (.keep _ (.keep _ (.keep _ (.keep _ (.keep _ (.nil _))))))))))))))
              · intro j8191 J8192
                refine sif (j := 32) (show _ = Value.bool (decide (e8167 = p7752)) from rfl) (fun k8193 => ?_) (fun k8193 => ?_)
                · refine sload (v := .agg #[.int .i64 e8116.A, .int .i64 e8116.B, .int .i64 e8116.Per, .int .i64 e8116.Delay, .int .i64 (w64 ((w64 (2 * s8011)) + 1))]) rfl rfl (q_load wd_65 rfl) (St.ld X8166 (j := 0) rfl rfl) (same_self 20 rfl) rfl ?_
                  refine scall (en := fun d => (.int .i64 d)) rfl rfl ca_42 rfl rfl (f42_ok X8166 ((TopoEnd.mk e8116 (w64 ((w64 (2 * s8011)) + 1))))) rfl (fun e8194 => ?_)
                  refine sload (v := .int .i64 p7753) rfl rfl (q_load wd_3 rfl) (St.ld X8166 (j := 8) rfl rfl) (same_self 20 rfl) rfl ?_
                  refine spure (v := .bool (decide (e8194 = p7753))) rfl (p_eq rfl) (lo_t rfl (lo_t rfl rfl)) rfl rfl ?_
                  refine spure (v := .bool (decide (e8194 = p7753))) rfl (p_pick rfl) (lo_t rfl (lo_t rfl (lo_c rfl))) rfl rfl ?_
                  exact sjmpM J8192 (decide (e8194 = p7753)) () (sub_cons rfl (sub_cons rfl (sub_cons rfl (sub_cons rfl sub_nil)))) (St.pick X8166 (.keep _ (.keep _ (.keep _ (.keep _ (.none _ (.skip _ (.keep _ (.keep _ (.keep _ (.keep _ (.keep _ (.keep _ (.nil _))))))))))))))
                · refine sskip rfl rfl ?_
                  refine sskip rfl rfl ?_
                  refine sskip rfl rfl ?_
                  refine sskip rfl rfl ?_
                  refine spure (v := .bool false) rfl (p_pick rfl) (lo_t rfl (lo_t rfl (lo_c rfl))) rfl rfl ?_
                  exact sjmpM J8192 false () (sub_cons rfl (sub_cons rfl (sub_cons rfl (sub_cons rfl sub_nil)))) (St.pick X8166 (.keep _ (.keep _ (.keep _ (.keep _ (.none _ (.skip _ (.keep _ (.keep _ (.keep _ (.keep _ (.keep _ (.keep _ (.nil _))))))))))))))
          · intro j8198 J8199
            refine sif (j := 32) (show _ = Value.bool (decide (e8134 = p7752)) from rfl) (fun k8200 => ?_) (fun k8200 => ?_)
            · refine sload (v := .agg #[.int .i64 e8116.A, .int .i64 e8116.B, .int .i64 e8116.Per, .int .i64 e8116.Delay, .int .i64 (w64 (2 * s8011))]) rfl rfl (q_load wd_65 rfl) (St.ld X8133 (j := 0) rfl rfl) (same_self 20 rfl) rfl ?_
              refine scall (en := fun d => (.int .i64 d)) rfl rfl ca_42 rfl rfl (f42_ok X8133 ((TopoEnd.mk e8116 (w64 (2 * s8011))))) rfl (fun e8201 => ?_)
              refine sload (v := .int .i64 p7753) rfl rfl (q_load wd_3 rfl) (St.ld X8133 (j := 7) rfl rfl) (same_self 20 rfl) rfl ?_
              refine spure (v := .bool (decide (e8201 = p7753))) rfl (p_eq rfl) (lo_t rfl (lo_t rfl rfl)) rfl rfl ?_
              refine spure (v := .bool (decide (e8201 = p7753))) rfl (p_pick rfl) (lo_t rfl (lo_t rfl (lo_c rfl))) rfl rfl ?_
              exact sjmpM J8199 (decide (e8201 = p7753)) () (sub_cons rfl (sub_cons rfl (sub_cons rfl (sub_cons rfl sub_nil)))) (St.pick X8133 (.keep _ (.keep _ (.keep _ (.none _ (.skip _ (.keep _ (.keep _ (.keep _ (.keep _ (.keep _ (.keep _ (.nil _)))))))))))))
            · refine sskip rfl rfl ?_
              refine sskip rfl rfl ?_
              refine sskip rfl rfl ?_
              refine sskip rfl rfl ?_
              refine spure (v := .bool false) rfl (p_pick rfl) (lo_t rfl (lo_t rfl (lo_c rfl))) rfl rfl ?_
              exact sjmpM J8199 false () (sub_cons rfl (sub_cons rfl (sub_cons rfl (sub_cons rfl sub_nil)))) (St.pick X8133 (.keep _ (.keep _ (.keep _ (.none _ (.skip _ (.keep _ (.keep _ (.keep _ (.keep _ (.keep _ (.keep _ (.nil _)))))))))))))
        · refine dexit ?_
          refine eseq ?_
          refine eloop ?_
          refine xblock ?_
          refine kin_n res_0 ?_
          refine rend_n X8113 (j := 0) rfl (fun h8205 X8206 => ?_)
          refine nblock ?_
          refine nseq ?_
          refine dseq ?_
          refine dreg ?_
          refine lstore rfl ts_3 rfl rfl (j := 4) rfl rfl rfl rfl rfl rfl X8206 (fun h8207 X8208 => ?_)
          refine lstore rfl ts_29 rfl rfl (j := 3) rfl rfl rfl rfl rfl rfl X8208 (fun h8209 X8210 => ?_)
          refine lend ?_
          refine nseq ?_
          refine dret ?_
          exact kcut_r (res_2 (resC wd_3 (St.ld X8210 (j := 4) rfl rfl)) (resC wd_29 (St.ld X8210 (j := 3) rfl rfl))) X8210 rfl rfl
    · intro j8211 J8212
      refine lif (i := 19) (show _ = Value.bool (!e7783) from rfl) (fun k8213 => ?_) (fun k8213 => ?_)
      · refine lskip rfl rfl ?_
        refine lskip rfl rfl ?_
        refine lskip rfl rfl ?_
        refine lskip rfl rfl ?_
        refine lpure (v := .bool true) rfl (p_pick rfl) rfl rfl ?_
        exact ljmpM J8212 true () (sub_cons rfl (sub_cons rfl (sub_cons rfl (sub_cons rfl (sub_cons rfl (sub_cons rfl sub_nil)))))) X7773
      · refine lread (v := .agg #[.int .i64 p7749.Nodes, .slice a7750 n7750 c7750, .slice a7751 n7751 c7751]) rfl (q_load wd_25 rfl) (St.ld X7773 (j := 4) rfl rfl) rfl ?_
        refine lread (v := .int .i64 p7753) rfl (q_load wd_3 rfl) (St.ld X7773 (j := 2) rfl rfl) rfl ?_
        refine lcall rfl rfl ca_39 rfl rfl (f39_ok X7773 p7749 p7753 H7750 H7751) rfl (fun e8214 v8215 h8216 hq8217 => ?_)
        cases hq8217
        refine lpure (v := .bool (!e8214)) rfl (p_not rfl) rfl rfl ?_
        refine lpure (v := .bool (!e8214)) rfl (p_pick rfl) rfl rfl ?_
        exact ljmpM J8212 (!e8214) () (sub_cons rfl (sub_cons rfl (sub_cons rfl (sub_cons rfl (sub_cons rfl (sub_cons rfl sub_nil)))))) X7773
/-! isochron/topo.Reach -/
theorem f17_ok {n : Nat} {φ : Fz} {lo : Nat} {h : Heap} {own : OwnL} (X : St φ lo h own) (p8385 : ApiTopo) (p8388 : Int) (p8389 : (List Int)) {a8386 : Option Addr} {n8386 c8386 : Nat} {a8387 : Option Addr} {n8387 c8387 : Nat} {a8390 : Option Addr} {n8390 c8390 : Nat} (H8386 : RSl eBool φ (.slice a8386 n8386 c8386) p8385.Station) (H8387 : RSl eApiLink φ (.slice a8387 n8387 c8387) p8385.Links) (H8390 : RSl (eInt .i64) φ (.slice a8390 n8390 c8390) p8389) : Sim ((recN Try.prog LL cutF (n + 7)).call 17 #[(.agg #[.int .i64 p8385.Nodes, .slice a8386 n8386 c8386, .slice a8387 n8387 c8387]), (.int .i64 p8388), (.slice a8390 n8390 c8390)] h) (m_topo_Reach p8385 p8388 p8389) (fun (d : ((List Bool) × Int)) p => ∃ φ2 : Fz, ∃ a8546 : Option Addr, ∃ n8546 : Nat, ∃ c8546 : Nat, ∃ ob8546 : Option Nat, ∃ blk8546 : Blk, Fz.le φ φ2 ∧ St φ2 lo p.2 ((ob8546, blk8546) :: own) ∧ p.1 = .tuple #[.slice a8546 n8546 c8546, .int .i64 d.2] ∧ OSl eBool φ2 4 ob8546 blk8546 (.slice a8546 n8546 c8546) d.1) := by
  refine fopen Try.func17 rfl rfl rfl rfl ?_
  refine dseq ?_
  refine dreg ?_
  refine lbox rfl rfl rfl rfl rfl X (fun b8391 h8393 X8394 => ?_)
  refine lpure (v := .slice none 0 0) rfl (p_assign rfl) rfl rfl ?_
  refine lpure (v := .int .i64 0) rfl (p_assign rfl) rfl rfl ?_
  refine lend ?_
  refine nseq ?_
  refine dseq ?_
  refine dseq ?_
  refine dreg ?_
  refine lread (v := .agg #[.int .i64 p8385.Nodes, .slice a8386 n8386 c8386, .slice a8387 n8387 c8387]) rfl (q_load wd_25 rfl) (St.ld X8394 (j := 0) rfl rfl) rfl ?_
  refine lcall rfl rfl ca_34 rfl rfl (f34_ok X8394 p8385 H8386 H8387) rfl (fun e8395 v8396 h8397 hq8398 => ?_)
  cases hq8398
  refine lpure (v := .int .i64 e8395) rfl (p_assign rfl) rfl rfl ?_
  refine lend ?_
  refine nseq ?_
  refine dseq ?_
  refine dreg ?_
  refine lpure (v := .int .i64 e8395) rfl (p_move rfl) rfl rfl ?_
  refine lpure (v := .bool (decide (e8395 ≠ 0))) rfl (p_ne rfl) rfl rfl ?_
  refine lend ?_
  refine nseq ?_
  refine dcond rfl rfl (fun k8399 => ?_) (fun k8399 => ?_)
  · refine dseq ?_
    refine dreg ?_
    refine lpure (v := .int .i64 e8395) rfl (p_move rfl) rfl rfl ?_
    refine lpure (v := .slice none 0 0) rfl (p_assign rfl) rfl rfl ?_
    refine lpure (v := .int .i64 e8395) rfl (p_assign rfl) rfl rfl ?_
    refine lend ?_
    refine nseq ?_
    refine dret ?_
    refine rseq ?_
    exact kopen_r (res_2 resT resT) ⟨φ, none, 0, 0, none, (.dead), (Fz.le_refl _), St.pick X8394 (.none _ (.skip _ (.refl _))), rfl, OSl.nil⟩
  · refine dskip ?_
    refine nseq ?_
    refine dseq ?_
    refine dseq ?_
    refine dreg ?_
    refine lread (v := .agg #[.int .i64 p8385.Nodes, .slice a8386 n8386 c8386, .slice a8387 n8387 c8387]) rfl (q_load wd_25 rfl) (St.ld X8394 (j := 0) rfl rfl) rfl ?_
    refine lpure (v := .int .i64 p8388) rfl (p_move rfl) rfl rfl ?_
    refine lcall rfl rfl ca_39 rfl rfl (f39_ok X8394 p8385 p8388 H8386 H8387) rfl (fun e8400 v8401 h8402 hq8403 => ?_)
    cases hq8403
    refine lpure (v := .bool (!e8400)) rfl (p_not rfl) rfl rfl ?_
    refine lpure (v := .bool (!e8400)) rfl (p_move rfl) rfl rfl ?_
    refine ljoinM (τ := Bool) (σ := Unit) (fun s8468 (_ : Unit) => [(1, .int .i64 p8388), (2, .slice a8390 n8390 c8390), (3, .pointer (some ⟨b8391, 0, none⟩)), (22, .bool s8468)]) (fun s8468 (_ : Unit) hh => St φ lo hh ((some b8391, .cells [.int .i64 p8385.Nodes, .slice a8386 n8386 c8386, .slice a8387 n8387 c8387] 25 .exact) :: own)) 4 ?_ ?_
    · rintro s8468 _ t0 h8470 X8469
      refine lend ?_
      refine nseq ?_
      refine dcond rfl rfl (fun k8471 => ?_) (fun k8471 => ?_)
      · refine dseq ?_
        refine dreg ?_
        refine lpure (v := .slice none 0 0) rfl (p_assign rfl) rfl rfl ?_
        refine lpure (v := .int .i64 2) rfl (p_assign rfl) rfl rfl ?_
        refine lend ?_
        refine nseq ?_
        refine dret ?_
        refine rseq ?_
        exact kopen_r (res_2 resT resT) ⟨φ, none, 0, 0, none, (.dead), (Fz.le_refl _), St.pick X8469 (.none _ (.skip _ (.refl _))), rfl, OSl.nil⟩
      · refine dskip ?_
        refine nseq ?_
        refine dseq ?_
        refine dreg ?_
        refine lread (v := .agg #[.int .i64 p8385.Nodes, .slice a8386 n8386 c8386, .slice a8387 n8387 c8387]) rfl (q_load wd_25 rfl) (St.ld X8469 (j := 0) rfl rfl) rfl ?_
        refine lpure (v := .int .i64 p8388) rfl (p_move rfl) rfl rfl ?_
        refine lpure (v := .slice a8390 n8390 c8390) rfl (p_move rfl) rfl rfl ?_
        refine lcall rfl rfl ca_47 rfl rfl (f47_ok X8469 p8385 p8388 p8389 H8386 H8387 H8390) rfl ?_
        rintro e8472 _ h8474 ⟨φ8476, a8479, n8479, c8479, ob8479, blk8479, g8477, X8478, rfl, O8479⟩
        refine lpure (v := .slice a8479 n8479 c8479) rfl (p_assign rfl) rfl rfl ?_
        refine lpure (v := .int .i64 0) rfl (p_assign rfl) rfl rfl ?_
        refine lend ?_
        refine nseq ?_
        refine dret ?_
        exact kopen_r (res_2 resT resT) ⟨φ8476, a8479, n8479, c8479, ob8479, blk8479, g8477, St.pick X8478 (.keep _ (.skip _ (.refl _))), rfl, O8479⟩
    · intro j8481 J8482
      refine lif (i := 18) (show _ = Value.bool (!e8400) from rfl) (fun k8483 => ?_) (fun k8483 => ?_)
      · refine lskip rfl rfl ?_
        refine lskip rfl rfl ?_
        refine lskip rfl rfl ?_
        refine lpure (v := .bool true) rfl (p_pick rfl) rfl rfl ?_
        exact ljmpM J8482 true () (sub_cons rfl (sub_cons rfl (sub_cons rfl (sub_cons rfl sub_nil)))) X8394
      · refine lpure (v := .slice a8390 n8390 c8390) rfl (p_move rfl) rfl rfl ?_
        refine lpure (v := .func (.func 46) #[] #[.pointer (some ⟨b8391, 0, none⟩)]) rfl (p_makeFunc rfl) rfl rfl ?_
        refine linl rfl rfl rfl rfl ca_45 rfl Try.func45 rfl rfl rfl rfl rfl ?_
        refine dseq ?_
        refine dreg ?_
        refine lpure (v := .bool false) rfl (p_assign rfl) rfl rfl ?_
        refine lend ?_
        refine nseq ?_
        refine dseq ?_
        refine dreg ?_
        refine lpure (v := .slice a8390 n8390 c8390) rfl (p_move rfl) rfl rfl ?_
        refine lpure (v := .func (.func 46) #[] #[.pointer (some ⟨b8391, 0, none⟩)]) rfl (p_move rfl) rfl rfl ?_
        refine linl rfl rfl rfl rfl ca_64 rfl Try.func64 rfl rfl rfl rfl rfl ?_
        refine dseq ?_
        refine dreg ?_
        refine lpure (v := .int .i64 0) rfl (p_assign rfl) rfl rfl ?_
        refine lend ?_
        refine nseq ?_
        refine dseq ?_
        refine dseq ?_
        refine dreg ?_
        refine lpure (v := .slice a8390 n8390 c8390) rfl (p_move rfl) rfl rfl ?_
        refine lpure (v := .int .i64 (p8389.length : Int)) rfl (p_len rfl rfl rfl un_28 rfl) (RSl.lenC H8390) rfl ?_
        refine lpure (v := .int .i64 0) rfl (p_move rfl) rfl rfl ?_
        refine lend ?_
        refine nseq ?_
        refine dblock ?_
        refine dloopM (τ := Int) (σ := Unit) (fun s8514 (_ : Unit) => [(0, .slice a8390 n8390 c8390), (1, .func (.func 46) #[] #[.pointer (some ⟨b8391, 0, none⟩)]), (7, .int .i64 (p8389.length : Int)), (8, .int .i64 s8514)]) (fun s8514 (_ : Unit) hh => St φ lo hh ((some b8391, .cells [.int .i64 p8385.Nodes, .slice a8386 n8386 c8386, .slice a8387 n8387 c8387] 25 .exact) :: own)) 0 () (sub_cons rfl (sub_cons rfl (sub_cons rfl (sub_cons rfl sub_nil)))) X8394 ?_
        rintro n8531 ih8530 s8514 _ t0 h8533 X8532
        refine dseq ?_
        refine dreg ?_
        refine lpure (v := .bool (decide (s8514 < (p8389.length : Int)))) rfl (p_lt rfl) rfl rfl ?_
        refine lend ?_
        refine nseq ?_
        refine dseq ?_
        refine dcond rfl rfl (fun k8534 => ?_) (fun k8534 => ?_)
        · refine dskip ?_
          refine nseq ?_
          refine dseq ?_
          refine dblock ?_
          refine dseq ?_
          refine dreg ?_
          refine lpure (v := .int .i64 s8514) rfl (p_move rfl) rfl rfl ?_
          refine lpure (v := .int .i64 s8514) rfl (p_assign rfl) rfl rfl ?_
          refine lend ?_
          refine nseq ?_
          refine dseq ?_
          refine dreg ?_
          refine lpure (v := .func (.func 46) #[] #[.pointer (some ⟨b8391, 0, none⟩)]) rfl (p_move rfl) rfl rfl ?_
          refine lpure (v := .slice a8390 n8390 c8390) rfl (p_move rfl) rfl rfl ?_
          refine lpure (v := .int .i64 s8514) rfl (p_move rfl) rfl rfl ?_
          refine Sim.bindM fun e8535 he8536 => ?_
          obtain ⟨p8537, cs8537, hp8537, hF8537, hR8537⟩ := RSl.ia H8390 he8536 (kd := .i64) (n := 1) rfl
          have hR8537 : _ = [(.int .i64 e8535 : Value)] := hR8537
          subst hR8537
          refine lpure (v := p8537) rfl (p_ia rs_28 rfl) hp8537 rfl ?_
          refine lread (v := .int .i64 e8535) rfl (q_load wd_3 rfl) (FP.ld X8532 hF8537) rfl ?_
          refine linl rfl rfl rfl rfl ca_46 rfl Try.func46 rfl rfl rfl rfl rfl ?_
          refine dseq ?_
          refine dreg ?_
          refine lpure (v := .bool false) rfl (p_assign rfl) rfl rfl ?_
          refine lend ?_
          refine nseq ?_
          refine dseq ?_
          refine dreg ?_
          refine lpure (v := .int .i64 e8535) rfl (p_move rfl) rfl rfl ?_
          refine lpure (v := .bool (decide (e8535 < 0))) rfl (p_lt rfl) rfl rfl ?_
          refine lpure (v := .bool (decide (e8535 < 0))) rfl (p_move rfl) rfl rfl ?_
          refine lsh (τ := Bool) (σ := Unit) (fun s8539 (_ : Unit) => [(12, .bool s8539)]) (fun s8539 (_ : Unit) hh => St φ lo hh ((some b8391, .cells [.int .i64 p8385.Nodes, .slice a8386 n8386 c8386, .slice a8387 n8387 c8387] 25 .exact) :: own)) 6 ?_ ?_
          · rintro s8539 _ t0 h8541 X8540
            refine lpure (v := .bool s8539) rfl (p_assign rfl) rfl rfl ?_
            refine lend ?_
            refine nseq ?_
            refine dret ?_
            refine kin_r (res_1 resT) ?_
            refine lend ?_
            refine nseq ?_
            refine dcond rfl rfl (fun k8542 => ?_) (fun k8542 => ?_)
            · refine dseq ?_
              refine dreg ?_
              refine lpure (v := .int .i64 s8514) rfl (p_move rfl) rfl rfl ?_
              refine lpure (v := .int .i64 s8514) rfl (p_assign rfl) rfl rfl ?_
              refine lend ?_
              refine nseq ?_
              refine dret ?_
              refine rblock ?_
              refine rseq ?_
              refine rloop ?_
              refine rblock ?_
              refine rseq ?_
              refine kin_r (res_1 resT) ?_
              refine lpure (v := .bool (decide (0 ≤ s8514))) rfl (p_ge rfl) rfl rfl ?_
              refine lpure (v := .bool (decide (0 ≤ s8514))) rfl (p_assign rfl) rfl rfl ?_
              refine lend ?_
              refine nseq ?_
              refine dret ?_
              refine kin_r (res_1 resT) ?_
              refine lpure (v := .bool (decide (0 ≤ s8514))) rfl (p_pick rfl) rfl rfl ?_
              exact ljmpM J8482 (decide (0 ≤ s8514)) () (sub_cons rfl (sub_cons rfl (sub_cons rfl (sub_cons rfl sub_nil)))) X8540
            · refine dskip ?_
              refine nblock ?_
              refine nseq ?_
              refine dreg ?_
              refine lpure (v := .int .i64 (w64 (s8514 + 1))) rfl (p_add rfl) rfl rfl ?_
              refine lpure (v := .int .i64 (w64 (s8514 + 1))) rfl (p_move rfl) rfl rfl ?_
              refine lend ?_
              exact kbackM ih8530 (w64 (s8514 + 1)) () (sub_cons rfl (sub_cons rfl (sub_cons rfl (sub_cons rfl sub_nil)))) X8540
          · intro j8543 J8544
            refine lcase (i := 6) (show _ = Value.bool (decide (e8535 < 0)) from rfl) (fun k8545 => ?_) (fun k8545 => ?_)
            · refine lskip rfl rfl ?_
              refine lskip rfl rfl ?_
              refine lskip rfl rfl ?_
              refine lskip rfl rfl ?_
              refine lskip rfl rfl ?_
              refine lpure (v := .bool true) rfl (p_pick rfl) rfl rfl ?_
              refine Sim.of_eq (congrArg j8543 (show ((decide (e8535 < 0)) || (decide ((p8385.Links.length : Int) ≤ e8535))) = true from by rw [k8545] <;> rfl)) ?_
              exact ljmpM J8544 true () (sub_cons rfl sub_nil) X8532
            · refine lpure (v := .int .i64 e8535) rfl (p_move rfl) rfl rfl ?_
              refine lpure (v := .pointer (some ⟨b8391, 2, none⟩)) rfl (p_fa fo_25_2 rfl) rfl rfl ?_
              refine lread (v := .slice a8387 n8387 c8387) rfl (q_load wd_23 rfl) (St.ld X8532 (j := 0) rfl rfl) rfl ?_
              refine lpure (v := .int .i64 (p8385.Links.length : Int)) rfl (p_len rfl rfl rfl un_23 rfl) (RSl.lenC H8387) rfl ?_
              refine lpure (v := .bool (decide ((p8385.Links.length : Int) ≤ e8535))) rfl (p_ge rfl) rfl rfl ?_
              refine lpure (v := .bool (decide ((p8385.Links.length : Int) ≤ e8535))) rfl (p_pick rfl) rfl rfl ?_
              refine Sim.of_eq (congrArg j8543 (show ((decide (e8535 < 0)) || (decide ((p8385.Links.length : Int) ≤ e8535))) = (decide ((p8385.Links.length : Int) ≤ e8535)) from by rw [k8545] <;> rfl)) ?_
              exact ljmpM J8544 (decide ((p8385.Links.length : Int) ≤ e8535)) () (sub_cons rfl sub_nil) X8532
        · refine dexit ?_
          refine eseq ?_
          refine eloop ?_
          refine xblock ?_
          refine nseq ?_
          refine dseq ?_
          refine dreg ?_
          refine lpure (v := .int .i64 (-1)) rfl (p_assign rfl) rfl rfl ?_
          refine lend ?_
          refine nseq ?_
          refine dret ?_
          refine kin_r (res_1 resT) ?_
          refine lpure (v := .bool false) rfl (p_ge rfl) rfl rfl ?_
          refine lpure (v := .bool false) rfl (p_assign rfl) rfl rfl ?_
          refine lend ?_
          refine nseq ?_
          refine dret ?_
          refine kin_r (res_1 resT) ?_
          refine lpure (v := .bool false) rfl (p_pick rfl) rfl rfl ?_
          exact ljmpM J8482 false () (sub_cons rfl (sub_cons rfl (sub_cons rfl (sub_cons rfl sub_nil)))) X8532
/-! slices.Equal[[]int,int] -/
theorem f14_ok {n : Nat} {φ : Fz} {lo : Nat} {h : Heap} {own : OwnL} (X : St φ lo h own) (p8609 : (List Int)) (p8611 : (List Int)) {a8610 : Option Addr} {n8610 c8610 : Nat} {a8612 : Option Addr} {n8612 c8612 : Nat} (H8610 : RSl (eInt .i64) φ (.slice a8610 n8610 c8610) p8609) (H8612 : RSl (eInt .i64) φ (.slice a8612 n8612 c8612) p8611) : Sim ((recN Try.prog LL cutF (n + 1)).call 14 #[(.slice a8610 n8610 c8610), (.slice a8612 n8612 c8612)] h) (m_slices_Equal_int_int p8609 p8611) (fun (d : Bool) p => p = (.bool d, h)) := by
  refine fcut Try.func14 rfl rfl rfl rfl X ?_
  intro h0 X0
  refine dseq ?_
  refine dreg ?_
  refine lpure (v := .bool false) rfl (p_assign rfl) rfl rfl ?_
  refine lend ?_
  refine nseq ?_
  refine dseq ?_
  refine dseq ?_
  refine dreg ?_
  refine lpure (v := .slice a8610 n8610 c8610) rfl (p_move rfl) rfl rfl ?_
  refine lpure (v := .int .i64 (p8609.length : Int)) rfl (p_len rfl rfl rfl un_28 rfl) (RSl.lenC H8610) rfl ?_
  refine lpure (v := .slice a8612 n8612 c8612) rfl (p_move rfl) rfl rfl ?_
  refine lpure (v := .int .i64 (p8611.length : Int)) rfl (p_len rfl rfl rfl un_28 rfl) (RSl.lenC H8612) rfl ?_
  refine lpure (v := .bool (decide ((p8609.length : Int) ≠ (p8611.length : Int)))) rfl (p_ne rfl) rfl rfl ?_
  refine lend ?_
  refine nseq ?_
  refine dcond rfl rfl (fun k8613 => ?_) (fun k8613 => ?_)
  · refine dseq ?_
    refine dreg ?_
    refine lpure (v := .bool false) rfl (p_assign rfl) rfl rfl ?_
    refine lend ?_
    refine nseq ?_
    refine dret ?_
    refine rseq ?_
    exact kcut_r (res_1 resT) X0 rfl rfl
  · refine dskip ?_
    refine nseq ?_
    refine dseq ?_
    refine dseq ?_
    refine dreg ?_
    refine lpure (v := .slice a8610 n8610 c8610) rfl (p_move rfl) rfl rfl ?_
    refine lpure (v := .int .i64 (p8609.length : Int)) rfl (p_len rfl rfl rfl un_28 rfl) (RSl.lenC H8610) rfl ?_
    refine lpure (v := .int .i64 0) rfl (p_move rfl) rfl rfl ?_
    refine lend ?_
    refine nseq ?_
    refine dblock ?_
    refine dloopM (τ := Int) (σ := Unit) (fun s8636 (_ : Unit) => [(0, .slice a8610 n8610 c8610), (1, .slice a8612 n8612 c8612), (12, .int .i64 (p8609.length : Int)), (13, .int .i64 s8636)]) (fun s8636 (_ : Unit) hh => St φ h.n hh ([])) 0 () (sub_cons rfl (sub_cons rfl (sub_cons rfl (sub_cons rfl sub_nil)))) X0 ?_
    rintro n8649 ih8648 s8636 _ t0 h8651 X8650
    refine dseq ?_
    refine dreg ?_
    refine lpure (v := .bool (decide (s8636 < (p8609.length : Int)))) rfl (p_lt rfl) rfl rfl ?_
    refine lend ?_
    refine nseq ?_
    refine dseq ?_
    refine dcond rfl rfl (fun k8652 => ?_) (fun k8652 => ?_)
    · refine dskip ?_
      refine nseq ?_
      refine dseq ?_
      refine dblock ?_
      refine dseq ?_
      refine dreg ?_
      refine lpure (v := .int .i64 s8636) rfl (p_move rfl) rfl rfl ?_
      refine lpure (v := .int .i64 s8636) rfl (p_assign rfl) rfl rfl ?_
      refine lend ?_
      refine nseq ?_
      refine dseq ?_
      refine ddraw 0 0 0 (by kernel_rfl) ?_
      refine spure (v := .slice a8610 n8610 c8610) rfl (p_move rfl) (lo_t (lo_sl X8650 H8610) rfl) rfl rfl ?_
      refine spure (v := .int .i64 s8636) rfl (p_move rfl) (lo_t rfl rfl) rfl rfl ?_
      refine Sim.bindM fun e8653 he8654 => ?_
      obtain ⟨p8655, cs8655, hp8655, hF8655, hR8655⟩ := RSl.ia H8610 he8654 (kd := .i64) (n := 1) rfl
      have hR8655 : _ = [(.int .i64 e8653 : Value)] := hR8655
      subst hR8655
      refine spure (v := p8655) rfl (p_ia rs_28 rfl) (lo_t (lo_sl X8650 H8610) (lo_t rfl rfl)) hp8655 rfl ?_
      refine sload (v := .int .i64 e8653) rfl rfl (q_load wd_3 rfl) (FP.ld X8650 hF8655) (same_self 20 rfl) rfl ?_
      refine spure (v := .slice a8612 n8612 c8612) rfl (p_move rfl) (lo_t (lo_sl X8650 H8612) rfl) rfl rfl ?_
      refine spure (v := .int .i64 s8636) rfl (p_move rfl) (lo_t rfl rfl) rfl rfl ?_
      refine Sim.bindM fun e8656 he8657 => ?_
      obtain ⟨p8658, cs8658, hp8658, hF8658, hR8658⟩ := RSl.ia H8612 he8657 (kd := .i64) (n := 1) rfl
      have hR8658 : _ = [(.int .i64 e8656 : Value)] := hR8658
      subst hR8658
      refine spure (v := p8658) rfl (p_ia rs_28 rfl) (lo_t (lo_sl X8650 H8612) (lo_t rfl rfl)) hp8658 rfl ?_
      refine sload (v := .int .i64 e8656) rfl rfl (q_load wd_3 rfl) (FP.ld X8650 hF8658) (same_self 20 rfl) rfl ?_
      refine spure (v := .bool (decide (e8653 ≠ e8656))) rfl (p_ne rfl) (lo_t rfl (lo_t rfl rfl)) rfl rfl ?_
      refine send ?_
      refine nseq ?_
      refine dcond rfl rfl (fun k8659 => ?_) (fun k8659 => ?_)
      · refine dseq ?_
        refine dreg ?_
        refine lpure (v := .bool false) rfl (p_assign rfl) rfl rfl ?_
        refine lend ?_
        refine nseq ?_
        refine dret ?_
        refine rblock ?_
        refine rseq ?_
        refine rloop ?_
        refine rblock ?_
        refine rseq ?_
        exact kcut_r (res_1 resT) X8650 rfl rfl
      · refine dskip ?_
        refine nblock ?_
        refine nseq ?_
        refine dreg ?_
        refine lpure (v := .int .i64 (w64 (s8636 + 1))) rfl (p_add rfl) rfl rfl ?_
        refine lpure (v := .int .i64 (w64 (s8636 + 1))) rfl (p_move rfl) rfl rfl ?_
        refine lend ?_
        exact kbackM ih8648 (w64 (s8636 + 1)) () (sub_cons rfl (sub_cons rfl (sub_cons rfl (sub_cons rfl sub_nil)))) X8650
    · refine dexit ?_
      refine eseq ?_
      refine eloop ?_
      refine xblock ?_
      refine nseq ?_
      refine dseq ?_
      refine dreg ?_
      refine lpure (v := .bool true) rfl (p_assign rfl) rfl rfl ?_
      refine lend ?_
      refine nseq ?_
      refine dret ?_
      exact kcut_r (res_1 resT) X8650 rfl rfl
end Go.AM
