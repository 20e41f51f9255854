/- Printed: functions of the given program as functions over plain data, and that the machine does what they say; no claim of its own; no condition. -/
import Derived.Test.YtjemelnmlbcmeaaGrFacts
set_option maxRecDepth 100000
set_option maxHeartbeats 4000000
set_option linter.unusedVariables false
set_option linter.unusedSimpArgs false
namespace Go.AM
open Go Go.Proofs

/-! isochron/isochronlaw16.line -/
theorem f38_ok {n : Nat} {φ : Fz} {lo : Nat} {h : Heap} {own : OwnL} (X : St φ lo h own) : Sim ((recN Try.prog LL cutF (n + 1)).call 38 #[] h) (m_isochronlaw16_line) (fun (d : ApiTopo) p => ∃ φ2 : Fz, ∃ a31 : Option Addr, ∃ n31 : Nat, ∃ c31 : Nat, ∃ ob31 : Option Nat, ∃ blk31 : Blk, ∃ a33 : Option Addr, ∃ n33 : Nat, ∃ c33 : Nat, ∃ ob33 : Option Nat, ∃ blk33 : Blk, Fz.le φ φ2 ∧ St φ2 lo p.2 ((ob31, blk31) :: (ob33, blk33) :: own) ∧ p.1 = .agg #[.int .i64 d.Nodes, .slice a31 n31 c31, .slice a33 n33 c33] ∧ OSl eBool φ2 4 ob31 blk31 (.slice a31 n31 c31) d.Station ∧ OSl eApiLink φ2 50 ob33 blk33 (.slice a33 n33 c33) d.Links) := by
  refine fopen Try.func38 rfl rfl rfl rfl ?_
  refine dseq ?_
  refine dreg ?_
  refine lalloc rfl tz_25 rfl rfl rfl X (fun b21 h23 X24 => ?_)
  refine lend ?_
  refine nseq ?_
  refine dseq ?_
  refine dreg ?_
  obtain ⟨h25, b25, hv25, X25, O25⟩ := OSl.lay (E := eBool) (φ := φ) (cs := [.bool true, .bool false, .bool false, .bool true]) (l := [true, false, false, true]) (len := 4) (parts := [(0, .bool true), (1, .bool false), (2, .bool false), (3, .bool true)]) un_22 ts_4 rfl rfl rfl tz_4 rfl rfl (show RowD eBool φ [.bool true, .bool false, .bool false, .bool true] [true, false, false, true] from ⟨[.bool true], _, rfl, rfl, ⟨[.bool false], _, rfl, rfl, ⟨[.bool false], _, rfl, rfl, ⟨[.bool true], _, rfl, rfl, rfl⟩⟩⟩⟩) rfl rfl X24
  refine lheap rfl (h_buildSlice rfl) hv25 rfl ?_
  refine lpure (v := .agg #[.int .i64 0, .int .i64 1, .int .i64 8, .int .i64 50]) rfl (p_build rfl) (build_st' tz_50 pl_50 rfl) rfl ?_
  refine lpure (v := .agg #[.int .i64 1, .int .i64 2, .int .i64 8, .int .i64 0]) rfl (p_build rfl) (build_st' tz_50 pl_50 rfl) rfl ?_
  refine lpure (v := .agg #[.int .i64 2, .int .i64 3, .int .i64 80, .int .i64 7]) rfl (p_build rfl) (build_st' tz_50 pl_50 rfl) rfl ?_
  obtain ⟨h27, b27, hv27, X27, O27⟩ := OSl.lay (E := eApiLink) (φ := φ) (cs := [.int .i64 0, .int .i64 1, .int .i64 8, .int .i64 50, .int .i64 1, .int .i64 2, .int .i64 8, .int .i64 0, .int .i64 2, .int .i64 3, .int .i64 80, .int .i64 7]) (l := [(ApiLink.mk 0 1 8 50), (ApiLink.mk 1 2 8 0), (ApiLink.mk 2 3 80 7)]) (len := 3) (parts := [(0, .agg #[.int .i64 0, .int .i64 1, .int .i64 8, .int .i64 50]), (1, .agg #[.int .i64 1, .int .i64 2, .int .i64 8, .int .i64 0]), (2, .agg #[.int .i64 2, .int .i64 3, .int .i64 80, .int .i64 7])]) un_23 ts_50 rfl rfl rfl tz_50 rfl rfl (show RowD eApiLink φ [.int .i64 0, .int .i64 1, .int .i64 8, .int .i64 50, .int .i64 1, .int .i64 2, .int .i64 8, .int .i64 0, .int .i64 2, .int .i64 3, .int .i64 80, .int .i64 7] [(ApiLink.mk 0 1 8 50), (ApiLink.mk 1 2 8 0), (ApiLink.mk 2 3 80 7)] from ⟨[.int .i64 0, .int .i64 1, .int .i64 8, .int .i64 50], _, rfl, ⟨_, _, rfl, rfl, ⟨_, _, rfl, rfl, ⟨_, _, rfl, rfl, ⟨_, _, rfl, rfl, rfl⟩⟩⟩⟩, ⟨[.int .i64 1, .int .i64 2, .int .i64 8, .int .i64 0], _, rfl, ⟨_, _, rfl, rfl, ⟨_, _, rfl, rfl, ⟨_, _, rfl, rfl, ⟨_, _, rfl, rfl, rfl⟩⟩⟩⟩, ⟨[.int .i64 2, .int .i64 3, .int .i64 80, .int .i64 7], _, rfl, ⟨_, _, rfl, rfl, ⟨_, _, rfl, rfl, ⟨_, _, rfl, rfl, ⟨_, _, rfl, rfl, rfl⟩⟩⟩⟩, rfl⟩⟩⟩) rfl rfl X25
  refine lheap rfl (h_buildSlice rfl) hv27 rfl ?_
  refine lpure (v := .agg #[.int .i64 4, .slice (some ⟨b25, 0, none⟩) 4 4, .slice (some ⟨b27, 0, none⟩) 3 3]) rfl (p_build rfl) (build_st' tz_25 pl_25 rfl) rfl ?_
  refine lstore rfl ts_25 rfl rfl (j := 2) rfl rfl rfl rfl rfl rfl X27 (fun h29 X30 => ?_)
  refine lend ?_
  refine nseq ?_
  refine dret ?_
  exact kopen_r (res_1 (resC wd_25 (St.ld X30 (j := 2) rfl rfl))) ⟨φ, ((some ⟨b25, 0, none⟩)), 4, 4, (some b25), ((.cells [.bool true, .bool false, .bool false, .bool true] 4 .exact)), ((some ⟨b27, 0, none⟩)), 3, 3, (some b27), ((.cells [.int .i64 0, .int .i64 1, .int .i64 8, .int .i64 50, .int .i64 1, .int .i64 2, .int .i64 8, .int .i64 0, .int .i64 2, .int .i64 3, .int .i64 80, .int .i64 7] 50 .exact)), (Fz.le_refl _), St.pick (St.front X30 (j := 1) rfl) (.keep _ (.keep _ (.skip _ (.refl _)))), rfl, O25, O27⟩
/-! isochron/topo.isNode -/
theorem f39_ok {n : Nat} {φ : Fz} {lo : Nat} {h : Heap} {own : OwnL} (X : St φ lo h own) (p115 : ApiTopo) (p118 : Int) {a116 : Option Addr} {n116 c116 : Nat} {a117 : Option Addr} {n117 c117 : Nat} (H116 : RSl eBool φ (.slice a116 n116 c116) p115.Station) (H117 : RSl eApiLink φ (.slice a117 n117 c117) p115.Links) : Sim ((recN Try.prog LL cutF (n + 1)).call 39 #[(.agg #[.int .i64 p115.Nodes, .slice a116 n116 c116, .slice a117 n117 c117]), (.int .i64 p118)] h) (m_topo_isNode p115 p118) (fun (d : Bool) p => p = (.bool d, h)) := by
  refine fcut Try.func39 rfl rfl rfl rfl X ?_
  intro h0 X0
  refine dseq ?_
  refine dreg ?_
  refine lbox rfl rfl rfl rfl rfl X0 (fun b119 h121 X122 => ?_)
  refine lpure (v := .bool false) rfl (p_assign rfl) rfl rfl ?_
  refine lend ?_
  refine nseq ?_
  refine dseq ?_
  refine dreg ?_
  refine lpure (v := .int .i64 p118) rfl (p_move rfl) rfl rfl ?_
  refine lpure (v := .bool (decide (0 ≤ p118))) rfl (p_ge rfl) rfl rfl ?_
  refine lpure (v := .bool (decide (0 ≤ p118))) rfl (p_move rfl) rfl rfl ?_
  refine lsh (τ := Bool) (σ := Unit) (fun s124 (_ : Unit) => [(12, .bool s124)]) (fun s124 (_ : Unit) hh => St φ h.n hh ([(some b119, .cells [.int .i64 p115.Nodes, .slice a116 n116 c116, .slice a117 n117 c117] 25 .exact)])) 5 ?_ ?_
  · rintro s124 _ t0 h126 X125
    refine lpure (v := .bool s124) rfl (p_assign rfl) rfl rfl ?_
    refine lend ?_
    refine nseq ?_
    refine dret ?_
    exact kcut_r (res_1 resT) X125 rfl rfl
  · intro j127 J128
    refine lcase (i := 7) (show _ = Value.bool (decide (0 ≤ p118)) from rfl) (fun k129 => ?_) (fun k129 => ?_)
    · refine lpure (v := .int .i64 p118) rfl (p_move rfl) rfl rfl ?_
      refine lpure (v := .pointer (some ⟨b119, 0, none⟩)) rfl (p_fa fo_25_0 rfl) rfl rfl ?_
      refine lread (v := .int .i64 p115.Nodes) rfl (q_load wd_3 rfl) (St.ld X122 (j := 0) rfl rfl) rfl ?_
      refine lpure (v := .bool (decide (p118 < p115.Nodes))) rfl (p_lt rfl) rfl rfl ?_
      refine lpure (v := .bool (decide (p118 < p115.Nodes))) rfl (p_pick rfl) rfl rfl ?_
      refine Sim.of_eq (congrArg j127 (show ((decide (0 ≤ p118)) && (decide (p118 < p115.Nodes))) = (decide (p118 < p115.Nodes)) from by rw [k129] <;> rfl)) ?_
      exact ljmpM J128 (decide (p118 < p115.Nodes)) () (sub_cons rfl sub_nil) X122
    · refine lskip rfl rfl ?_
      refine lskip rfl rfl ?_
      refine lskip rfl rfl ?_
      refine lskip rfl rfl ?_
      refine lpure (v := .bool false) rfl (p_pick rfl) rfl rfl ?_
      refine Sim.of_eq (congrArg j127 (show ((decide (0 ≤ p118)) && (decide (p118 < p115.Nodes))) = false from by rw [k129] <;> rfl)) ?_
      exact ljmpM J128 false () (sub_cons rfl sub_nil) X122
/-! isochron/topo.validLink -/
theorem f57_ok {n : Nat} {φ : Fz} {lo : Nat} {h : Heap} {own : OwnL} (X : St φ lo h own) (p88 : ApiTopo) (p91 : Int) {a89 : Option Addr} {n89 c89 : Nat} {a90 : Option Addr} {n90 c90 : Nat} (H89 : RSl eBool φ (.slice a89 n89 c89) p88.Station) (H90 : RSl eApiLink φ (.slice a90 n90 c90) p88.Links) : Sim ((recN Try.prog LL cutF (n + 5)).call 57 #[(.agg #[.int .i64 p88.Nodes, .slice a89 n89 c89, .slice a90 n90 c90]), (.int .i64 p91)] h) (m_topo_validLink p88 p91) (fun (d : Bool) p => p = (.bool d, h)) := by
  refine fcut Try.func57 rfl rfl rfl rfl X ?_
  intro h0 X0
  refine dseq ?_
  refine dreg ?_
  refine lbox rfl rfl rfl rfl rfl X0 (fun b92 h94 X95 => ?_)
  refine lbox rfl rfl rfl rfl rfl X95 (fun b96 h98 X99 => ?_)
  refine lpure (v := .bool false) rfl (p_assign rfl) rfl rfl ?_
  refine lend ?_
  refine nseq ?_
  refine dseq ?_
  refine dreg ?_
  refine lpure (v := .pointer (some ⟨b92, 2, none⟩)) rfl (p_fa fo_25_2 rfl) rfl rfl ?_
  refine lread (v := .slice a90 n90 c90) rfl (q_load wd_23 rfl) (St.ld X99 (j := 1) rfl rfl) rfl ?_
  refine lread (v := .int .i64 p91) rfl (q_load wd_3 rfl) (St.ld X99 (j := 0) rfl rfl) rfl ?_
  refine Sim.bindM fun e100 he101 => ?_
  obtain ⟨p102, cs102, hp102, hF102, hR102⟩ := RSl.ia H90 he101 (kd := .i64) (n := 4) rfl
  obtain rfl := eApiLink_el hR102
  refine lpure (v := p102) rfl (p_ia rs_23 rfl) hp102 rfl ?_
  refine lread (v := .agg #[.int .i64 e100.A, .int .i64 e100.B, .int .i64 e100.Per, .int .i64 e100.Delay]) rfl (q_load wd_50 rfl) (FP.ldw X99 hF102 rfl rfl) rfl ?_
  refine lalloc rfl tz_50 rfl rfl rfl X99 (fun b103 h105 X106 => ?_)
  refine lstore rfl ts_50 rfl rfl (j := 0) rfl rfl rfl rfl rfl rfl X106 (fun h107 X108 => ?_)
  refine lend ?_
  refine nseq ?_
  refine dseq ?_
  refine dreg ?_
  refine lpure (v := .func (.func 65) #[] #[.pointer (some ⟨b92, 0, none⟩), .pointer (some ⟨b103, 0, none⟩)]) rfl (p_makeFunc rfl) rfl rfl ?_
  refine lpure (v := .func (.func 66) #[] #[.pointer (some ⟨b92, 0, none⟩), .pointer (some ⟨b103, 0, none⟩)]) rfl (p_makeFunc rfl) rfl rfl ?_
  refine lpure (v := .func (.func 67) #[] #[.pointer (some ⟨b103, 0, none⟩)]) rfl (p_makeFunc rfl) rfl rfl ?_
  refine lpure (v := .func (.func 68) #[] #[.pointer (some ⟨b92, 0, none⟩), .pointer (some ⟨b96, 0, none⟩), .pointer (some ⟨b103, 0, none⟩)]) rfl (p_makeFunc rfl) rfl rfl ?_
  refine lpure (v := .agg #[.func (.func 65) #[] #[.pointer (some ⟨b92, 0, none⟩), .pointer (some ⟨b103, 0, none⟩)], .func (.func 66) #[] #[.pointer (some ⟨b92, 0, none⟩), .pointer (some ⟨b103, 0, none⟩)], .func (.func 67) #[] #[.pointer (some ⟨b103, 0, none⟩)], .func (.func 68) #[] #[.pointer (some ⟨b92, 0, none⟩), .pointer (some ⟨b96, 0, none⟩), .pointer (some ⟨b103, 0, none⟩)]]) rfl (p_build rfl) (build_ar' tz_85 ae_85 rfl) rfl ?_
  refine lalloc rfl tz_85 rfl rfl rfl X108 (fun b109 h111 X112 => ?_)
  refine lstore rfl ts_85 rfl rfl (j := 0) rfl rfl rfl rfl rfl rfl X112 (fun h113 X114 => ?_)
  refine lend ?_
  refine nseq ?_
  refine dseq ?_
  refine dseq ?_
  refine dreg ?_
  refine lread (v := .agg #[.func (.func 65) #[] #[.pointer (some ⟨b92, 0, none⟩), .pointer (some ⟨b103, 0, none⟩)], .func (.func 66) #[] #[.pointer (some ⟨b92, 0, none⟩), .pointer (some ⟨b103, 0, none⟩)], .func (.func 67) #[] #[.pointer (some ⟨b103, 0, none⟩)], .func (.func 68) #[] #[.pointer (some ⟨b92, 0, none⟩), .pointer (some ⟨b96, 0, none⟩), .pointer (some ⟨b103, 0, none⟩)]]) rfl (q_load wd_85 rfl) (St.ld X114 (j := 0) rfl rfl) rfl ?_
  refine lpure (v := .int .i64 0) rfl (p_move rfl) rfl rfl ?_
  refine lend ?_
  refine nseq ?_
  refine dblock ?_
  refine dunroll 999999 rfl ?_
  refine dseq ?_
  refine dreg ?_
  refine lpure (v := .bool true) rfl (p_lt rfl) rfl rfl ?_
  refine lend ?_
  refine nseq ?_
  refine dseq ?_
  refine dcondT rfl rfl ?_
  refine dskip ?_
  refine nseq ?_
  refine dseq ?_
  refine dblock ?_
  refine dseq ?_
  refine dreg ?_
  refine lpure (v := .func (.func 65) #[] #[.pointer (some ⟨b92, 0, none⟩), .pointer (some ⟨b103, 0, none⟩)]) rfl (p_index as_85 rfl) rfl rfl ?_
  refine lpure (v := .func (.func 65) #[] #[.pointer (some ⟨b92, 0, none⟩), .pointer (some ⟨b103, 0, none⟩)]) rfl (p_assign rfl) rfl rfl ?_
  refine lend ?_
  refine nseq ?_
  refine dseq ?_
  refine dreg ?_
  refine lpure (v := .func (.func 65) #[] #[.pointer (some ⟨b92, 0, none⟩), .pointer (some ⟨b103, 0, none⟩)]) rfl (p_move rfl) rfl rfl ?_
  refine linl rfl rfl rfl rfl ca_65 rfl Try.func65 rfl rfl rfl rfl rfl ?_
  refine dseq ?_
  refine dreg ?_
  refine lpure (v := .bool false) rfl (p_assign rfl) rfl rfl ?_
  refine lend ?_
  refine nseq ?_
  refine dseq ?_
  refine dreg ?_
  refine lread (v := .agg #[.int .i64 p88.Nodes, .slice a89 n89 c89, .slice a90 n90 c90]) rfl (q_load wd_25 rfl) (St.ld X114 (j := 3) rfl rfl) rfl ?_
  refine lpure (v := .pointer (some ⟨b103, 0, none⟩)) rfl (p_fa fo_50_0 rfl) rfl rfl ?_
  refine lread (v := .int .i64 e100.A) rfl (q_load wd_3 rfl) (St.ld X114 (j := 1) rfl rfl) rfl ?_
  refine lcall rfl rfl ca_39 rfl rfl (f39_ok X114 p88 (e100.A) H89 H90) rfl (fun e130 v131 h132 hq133 => ?_)
  cases hq133
  refine lpure (v := .bool e130) rfl (p_move rfl) rfl rfl ?_
  refine ljoinM (τ := Bool) (σ := Unit) (fun s140 (_ : Unit) => [(1, .pointer (some ⟨b103, 0, none⟩)), (12, .bool s140)]) (fun s140 (_ : Unit) hh => St φ h.n hh ([(some b109, .cells [.func (.func 65) #[] #[.pointer (some ⟨b92, 0, none⟩), .pointer (some ⟨b103, 0, none⟩)], .func (.func 66) #[] #[.pointer (some ⟨b92, 0, none⟩), .pointer (some ⟨b103, 0, none⟩)], .func (.func 67) #[] #[.pointer (some ⟨b103, 0, none⟩)], .func (.func 68) #[] #[.pointer (some ⟨b92, 0, none⟩), .pointer (some ⟨b96, 0, none⟩), .pointer (some ⟨b103, 0, none⟩)]] 85 .exact), (some b103, .cells [.int .i64 e100.A, .int .i64 e100.B, .int .i64 e100.Per, .int .i64 e100.Delay] 50 .exact), (some b96, .cells [.int .i64 p91] 3 .exact), (some b92, .cells [.int .i64 p88.Nodes, .slice a89 n89 c89, .slice a90 n90 c90] 25 .exact)])) 5 ?_ ?_
  · rintro s140 _ t0 h142 X141
    refine lpure (v := .bool s140) rfl (p_move rfl) rfl rfl ?_
    refine lsh (τ := Bool) (σ := Unit) (fun s144 (_ : Unit) => [(19, .bool s144)]) (fun s144 (_ : Unit) hh => St φ h.n hh ([(some b109, .cells [.func (.func 65) #[] #[.pointer (some ⟨b92, 0, none⟩), .pointer (some ⟨b103, 0, none⟩)], .func (.func 66) #[] #[.pointer (some ⟨b92, 0, none⟩), .pointer (some ⟨b103, 0, none⟩)], .func (.func 67) #[] #[.pointer (some ⟨b103, 0, none⟩)], .func (.func 68) #[] #[.pointer (some ⟨b92, 0, none⟩), .pointer (some ⟨b96, 0, none⟩), .pointer (some ⟨b103, 0, none⟩)]] 85 .exact), (some b103, .cells [.int .i64 e100.A, .int .i64 e100.B, .int .i64 e100.Per, .int .i64 e100.Delay] 50 .exact), (some b96, .cells [.int .i64 p91] 3 .exact), (some b92, .cells [.int .i64 p88.Nodes, .slice a89 n89 c89, .slice a90 n90 c90] 25 .exact)])) 6 ?_ ?_
    · rintro s144 _ t0 h146 X145
      refine lpure (v := .bool s144) rfl (p_assign rfl) rfl rfl ?_
      refine lend ?_
      refine nseq ?_
      refine dret ?_
      refine kin_r (res_1 resT) ?_
      refine lpure (v := .bool (!s144)) rfl (p_not rfl) rfl rfl ?_
      refine lend ?_
      refine nseq ?_
      refine dcond rfl rfl (fun k147 => ?_) (fun k147 => ?_)
      · refine dseq ?_
        refine dreg ?_
        refine lpure (v := .bool false) rfl (p_assign rfl) rfl rfl ?_
        refine lend ?_
        refine nseq ?_
        refine dret ?_
        refine rblock ?_
        refine rseq ?_
        refine rloop ?_
        refine rblock ?_
        refine rseq ?_
        exact kcut_r (res_1 resT) X145 rfl rfl
      · refine dskip ?_
        refine nblock ?_
        refine nseq ?_
        refine dreg ?_
        refine lpure (v := .int .i64 1) rfl (p_add rfl) rfl rfl ?_
        refine lpure (v := .int .i64 1) rfl (p_move rfl) rfl rfl ?_
        refine lend ?_
        refine nunroll 999998 rfl ?_
        refine dseq ?_
        refine dreg ?_
        refine lpure (v := .bool true) rfl (p_lt rfl) rfl rfl ?_
        refine lend ?_
        refine nseq ?_
        refine dseq ?_
        refine dcondT rfl rfl ?_
        refine dskip ?_
        refine nseq ?_
        refine dseq ?_
        refine dblock ?_
        refine dseq ?_
        refine dreg ?_
        refine lpure (v := .func (.func 66) #[] #[.pointer (some ⟨b92, 0, none⟩), .pointer (some ⟨b103, 0, none⟩)]) rfl (p_index as_85 rfl) rfl rfl ?_
        refine lpure (v := .func (.func 66) #[] #[.pointer (some ⟨b92, 0, none⟩), .pointer (some ⟨b103, 0, none⟩)]) rfl (p_assign rfl) rfl rfl ?_
        refine lend ?_
        refine nseq ?_
        refine dseq ?_
        refine dreg ?_
        refine lpure (v := .func (.func 66) #[] #[.pointer (some ⟨b92, 0, none⟩), .pointer (some ⟨b103, 0, none⟩)]) rfl (p_move rfl) rfl rfl ?_
        refine linl rfl rfl rfl rfl ca_66 rfl Try.func66 rfl rfl rfl rfl rfl ?_
        refine dseq ?_
        refine dreg ?_
        refine lpure (v := .bool false) rfl (p_assign rfl) rfl rfl ?_
        refine lend ?_
        refine nseq ?_
        refine dseq ?_
        refine dreg ?_
        refine lpure (v := .pointer (some ⟨b92, 1, none⟩)) rfl (p_fa fo_25_1 rfl) rfl rfl ?_
        refine lread (v := .slice a89 n89 c89) rfl (q_load wd_22 rfl) (St.ld X145 (j := 3) rfl rfl) rfl ?_
        refine lpure (v := .pointer (some ⟨b103, 0, none⟩)) rfl (p_fa fo_50_0 rfl) rfl rfl ?_
        refine lread (v := .int .i64 e100.A) rfl (q_load wd_3 rfl) (St.ld X145 (j := 1) rfl rfl) rfl ?_
        refine Sim.bindM fun e148 he149 => ?_
        obtain ⟨p150, cs150, hp150, hF150, hR150⟩ := RSl.ia H89 he149 (kd := .i64) (n := 1) rfl
        have hR150 : _ = [(.bool e148 : Value)] := hR150
        subst hR150
        refine lpure (v := p150) rfl (p_ia rs_22 rfl) hp150 rfl ?_
        refine lread (v := .bool e148) rfl (q_load wd_4 rfl) (FP.ld X145 hF150) rfl ?_
        refine lpure (v := .bool (!e148)) rfl (p_not rfl) rfl rfl ?_
        refine lpure (v := .bool (!e148)) rfl (p_move rfl) rfl rfl ?_
        refine ljoinM (τ := Bool) (σ := Unit) (fun s156 (_ : Unit) => [(18, .bool s156)]) (fun s156 (_ : Unit) hh => St φ h.n hh ([(some b109, .cells [.func (.func 65) #[] #[.pointer (some ⟨b92, 0, none⟩), .pointer (some ⟨b103, 0, none⟩)], .func (.func 66) #[] #[.pointer (some ⟨b92, 0, none⟩), .pointer (some ⟨b103, 0, none⟩)], .func (.func 67) #[] #[.pointer (some ⟨b103, 0, none⟩)], .func (.func 68) #[] #[.pointer (some ⟨b92, 0, none⟩), .pointer (some ⟨b96, 0, none⟩), .pointer (some ⟨b103, 0, none⟩)]] 85 .exact), (some b103, .cells [.int .i64 e100.A, .int .i64 e100.B, .int .i64 e100.Per, .int .i64 e100.Delay] 50 .exact), (some b96, .cells [.int .i64 p91] 3 .exact), (some b92, .cells [.int .i64 p88.Nodes, .slice a89 n89 c89, .slice a90 n90 c90] 25 .exact)])) 8 ?_ ?_
        · rintro s156 _ t0 h158 X157
          refine lpure (v := .bool s156) rfl (p_assign rfl) rfl rfl ?_
          refine lend ?_
          refine nseq ?_
          refine dret ?_
          refine kin_r (res_1 resT) ?_
          refine lpure (v := .bool (!s156)) rfl (p_not rfl) rfl rfl ?_
          refine lend ?_
          refine nseq ?_
          refine dcond rfl rfl (fun k159 => ?_) (fun k159 => ?_)
          · refine dseq ?_
            refine dreg ?_
            refine lpure (v := .bool false) rfl (p_assign rfl) rfl rfl ?_
            refine lend ?_
            refine nseq ?_
            refine dret ?_
            refine rblock ?_
            refine rseq ?_
            refine rloop ?_
            refine rblock ?_
            refine rseq ?_
            exact kcut_r (res_1 resT) X157 rfl rfl
          · refine dskip ?_
            refine nblock ?_
            refine nseq ?_
            refine dreg ?_
            refine lpure (v := .int .i64 2) rfl (p_add rfl) rfl rfl ?_
            refine lpure (v := .int .i64 2) rfl (p_move rfl) rfl rfl ?_
            refine lend ?_
            refine nunroll 999997 rfl ?_
            refine dseq ?_
            refine dreg ?_
            refine lpure (v := .bool true) rfl (p_lt rfl) rfl rfl ?_
            refine lend ?_
            refine nseq ?_
            refine dseq ?_
            refine dcondT rfl rfl ?_
            refine dskip ?_
            refine nseq ?_
            refine dseq ?_
            refine dblock ?_
            refine dseq ?_
            refine dreg ?_
            refine lpure (v := .func (.func 67) #[] #[.pointer (some ⟨b103, 0, none⟩)]) rfl (p_index as_85 rfl) rfl rfl ?_
            refine lpure (v := .func (.func 67) #[] #[.pointer (some ⟨b103, 0, none⟩)]) rfl (p_assign rfl) rfl rfl ?_
            refine lend ?_
            refine nseq ?_
            refine dseq ?_
            refine dreg ?_
            refine lpure (v := .func (.func 67) #[] #[.pointer (some ⟨b103, 0, none⟩)]) rfl (p_move rfl) rfl rfl ?_
            refine linl rfl rfl rfl rfl ca_67 rfl Try.func67 rfl rfl rfl rfl rfl ?_
            refine dseq ?_
            refine dreg ?_
            refine lpure (v := .bool false) rfl (p_assign rfl) rfl rfl ?_
            refine lend ?_
            refine nseq ?_
            refine dseq ?_
            refine dreg ?_
            refine lpure (v := .pointer (some ⟨b103, 2, none⟩)) rfl (p_fa fo_50_2 rfl) rfl rfl ?_
            refine lread (v := .int .i64 e100.Per) rfl (q_load wd_3 rfl) (St.ld X157 (j := 1) rfl rfl) rfl ?_
            refine lpure (v := .bool (decide (1 ≤ e100.Per))) rfl (p_ge rfl) rfl rfl ?_
            refine lpure (v := .bool (decide (1 ≤ e100.Per))) rfl (p_move rfl) rfl rfl ?_
            refine lsh (τ := Bool) (σ := Unit) (fun s161 (_ : Unit) => [(0, .pointer (some ⟨b103, 0, none⟩)), (9, .bool s161)]) (fun s161 (_ : Unit) hh => St φ h.n hh ([(some b109, .cells [.func (.func 65) #[] #[.pointer (some ⟨b92, 0, none⟩), .pointer (some ⟨b103, 0, none⟩)], .func (.func 66) #[] #[.pointer (some ⟨b92, 0, none⟩), .pointer (some ⟨b103, 0, none⟩)], .func (.func 67) #[] #[.pointer (some ⟨b103, 0, none⟩)], .func (.func 68) #[] #[.pointer (some ⟨b92, 0, none⟩), .pointer (some ⟨b96, 0, none⟩), .pointer (some ⟨b103, 0, none⟩)]] 85 .exact), (some b103, .cells [.int .i64 e100.A, .int .i64 e100.B, .int .i64 e100.Per, .int .i64 e100.Delay] 50 .exact), (some b96, .cells [.int .i64 p91] 3 .exact), (some b92, .cells [.int .i64 p88.Nodes, .slice a89 n89 c89, .slice a90 n90 c90] 25 .exact)])) 4 ?_ ?_
            · rintro s161 _ t0 h163 X162
              refine lpure (v := .bool s161) rfl (p_move rfl) rfl rfl ?_
              refine lsh (τ := Bool) (σ := Unit) (fun s165 (_ : Unit) => [(0, .pointer (some ⟨b103, 0, none⟩)), (14, .bool s165)]) (fun s165 (_ : Unit) hh => St φ h.n hh ([(some b109, .cells [.func (.func 65) #[] #[.pointer (some ⟨b92, 0, none⟩), .pointer (some ⟨b103, 0, none⟩)], .func (.func 66) #[] #[.pointer (some ⟨b92, 0, none⟩), .pointer (some ⟨b103, 0, none⟩)], .func (.func 67) #[] #[.pointer (some ⟨b103, 0, none⟩)], .func (.func 68) #[] #[.pointer (some ⟨b92, 0, none⟩), .pointer (some ⟨b96, 0, none⟩), .pointer (some ⟨b103, 0, none⟩)]] 85 .exact), (some b103, .cells [.int .i64 e100.A, .int .i64 e100.B, .int .i64 e100.Per, .int .i64 e100.Delay] 50 .exact), (some b96, .cells [.int .i64 p91] 3 .exact), (some b92, .cells [.int .i64 p88.Nodes, .slice a89 n89 c89, .slice a90 n90 c90] 25 .exact)])) 4 ?_ ?_
              · rintro s165 _ t0 h167 X166
                refine lpure (v := .bool s165) rfl (p_move rfl) rfl rfl ?_
                refine lsh (τ := Bool) (σ := Unit) (fun s169 (_ : Unit) => [(19, .bool s169)]) (fun s169 (_ : Unit) hh => St φ h.n hh ([(some b109, .cells [.func (.func 65) #[] #[.pointer (some ⟨b92, 0, none⟩), .pointer (some ⟨b103, 0, none⟩)], .func (.func 66) #[] #[.pointer (some ⟨b92, 0, none⟩), .pointer (some ⟨b103, 0, none⟩)], .func (.func 67) #[] #[.pointer (some ⟨b103, 0, none⟩)], .func (.func 68) #[] #[.pointer (some ⟨b92, 0, none⟩), .pointer (some ⟨b96, 0, none⟩), .pointer (some ⟨b103, 0, none⟩)]] 85 .exact), (some b103, .cells [.int .i64 e100.A, .int .i64 e100.B, .int .i64 e100.Per, .int .i64 e100.Delay] 50 .exact), (some b96, .cells [.int .i64 p91] 3 .exact), (some b92, .cells [.int .i64 p88.Nodes, .slice a89 n89 c89, .slice a90 n90 c90] 25 .exact)])) 4 ?_ ?_
                · rintro s169 _ t0 h171 X170
                  refine lpure (v := .bool s169) rfl (p_assign rfl) rfl rfl ?_
                  refine lend ?_
                  refine nseq ?_
                  refine dret ?_
                  refine kin_r (res_1 resT) ?_
                  refine lpure (v := .bool (!s169)) rfl (p_not rfl) rfl rfl ?_
                  refine lend ?_
                  refine nseq ?_
                  refine dcond rfl rfl (fun k172 => ?_) (fun k172 => ?_)
                  · refine dseq ?_
                    refine dreg ?_
                    refine lpure (v := .bool false) rfl (p_assign rfl) rfl rfl ?_
                    refine lend ?_
                    refine nseq ?_
                    refine dret ?_
                    refine rblock ?_
                    refine rseq ?_
                    refine rloop ?_
                    refine rblock ?_
                    refine rseq ?_
                    exact kcut_r (res_1 resT) X170 rfl rfl
                  · refine dskip ?_
                    refine nblock ?_
                    refine nseq ?_
                    refine dreg ?_
                    refine lpure (v := .int .i64 3) rfl (p_add rfl) rfl rfl ?_
                    refine lpure (v := .int .i64 3) rfl (p_move rfl) rfl rfl ?_
                    refine lend ?_
                    refine nunroll 999996 rfl ?_
                    refine dseq ?_
                    refine dreg ?_
                    refine lpure (v := .bool true) rfl (p_lt rfl) rfl rfl ?_
                    refine lend ?_
                    refine nseq ?_
                    refine dseq ?_
                    refine dcondT rfl rfl ?_
                    refine dskip ?_
                    refine nseq ?_
                    refine dseq ?_
                    refine dblock ?_
                    refine dseq ?_
                    refine dreg ?_
                    refine lpure (v := .func (.func 68) #[] #[.pointer (some ⟨b92, 0, none⟩), .pointer (some ⟨b96, 0, none⟩), .pointer (some ⟨b103, 0, none⟩)]) rfl (p_index as_85 rfl) rfl rfl ?_
                    refine lpure (v := .func (.func 68) #[] #[.pointer (some ⟨b92, 0, none⟩), .pointer (some ⟨b96, 0, none⟩), .pointer (some ⟨b103, 0, none⟩)]) rfl (p_assign rfl) rfl rfl ?_
                    refine lend ?_
                    refine nseq ?_
                    refine dseq ?_
                    refine dreg ?_
                    refine lpure (v := .func (.func 68) #[] #[.pointer (some ⟨b92, 0, none⟩), .pointer (some ⟨b96, 0, none⟩), .pointer (some ⟨b103, 0, none⟩)]) rfl (p_move rfl) rfl rfl ?_
                    refine linl rfl rfl rfl rfl ca_68 rfl Try.func68 rfl rfl rfl rfl rfl ?_
                    refine dseq ?_
                    refine dreg ?_
                    refine lpure (v := .bool false) rfl (p_assign rfl) rfl rfl ?_
                    refine lend ?_
                    refine nseq ?_
                    refine dseq ?_
                    refine dreg ?_
                    refine lpure (v := .pointer (some ⟨b92, 2, none⟩)) rfl (p_fa fo_25_2 rfl) rfl rfl ?_
                    refine lread (v := .slice a90 n90 c90) rfl (q_load wd_23 rfl) (St.ld X170 (j := 3) rfl rfl) rfl ?_
                    refine lread (v := .int .i64 p91) rfl (q_load wd_3 rfl) (St.ld X170 (j := 2) rfl rfl) rfl ?_
                    refine Sim.mustM fun k173 => ?_
                    have k173 := of_decide_eq_true k173
                    obtain ⟨a173, n173, c173, hv173, H173⟩ := RSl.slice H90 X170 un_23 ts_50 rfl bnd_none (bnd_int (show 0 ≤ p91 from by omega)) (by omega) (by omega)
                    refine lread rfl (q_slice rfl (evo_ok rfl) (evo_ok rfl) (evo_ok rfl)) hv173 rfl ?_
                    refine lpure (v := .func (.func 70) #[] #[.pointer (some ⟨b103, 0, none⟩)]) rfl (p_makeFunc rfl) rfl rfl ?_
                    refine linl rfl rfl rfl rfl ca_69 rfl Try.func69 rfl rfl rfl rfl rfl ?_
                    refine dseq ?_
                    refine dreg ?_
                    refine lpure (v := .bool false) rfl (p_assign rfl) rfl rfl ?_
                    refine lend ?_
                    refine nseq ?_
                    refine dseq ?_
                    refine dreg ?_
                    refine lpure (v := .slice a173 n173 c173) rfl (p_move rfl) rfl rfl ?_
                    refine lpure (v := .func (.func 70) #[] #[.pointer (some ⟨b103, 0, none⟩)]) rfl (p_move rfl) rfl rfl ?_
                    refine linl rfl rfl rfl rfl ca_82 rfl Try.func82 rfl rfl rfl rfl rfl ?_
                    refine dseq ?_
                    refine dreg ?_
                    refine lpure (v := .int .i64 0) rfl (p_assign rfl) rfl rfl ?_
                    refine lend ?_
                    refine nseq ?_
                    refine dseq ?_
                    refine dseq ?_
                    refine dreg ?_
                    refine lpure (v := .slice a173 n173 c173) rfl (p_move rfl) rfl rfl ?_
                    refine lpure (v := .int .i64 ((p88.Links.take (p91).toNat).length : Int)) rfl (p_len rfl rfl rfl un_23 rfl) (RSl.lenC H173) rfl ?_
                    refine lpure (v := .int .i64 0) rfl (p_move rfl) rfl rfl ?_
                    refine lend ?_
                    refine nseq ?_
                    refine dblock ?_
                    refine dloopM (τ := Int) (σ := Unit) (fun s229 (_ : Unit) => [(0, .slice a173 n173 c173), (1, .func (.func 70) #[] #[.pointer (some ⟨b103, 0, none⟩)]), (7, .int .i64 ((p88.Links.take (p91).toNat).length : Int)), (8, .int .i64 s229)]) (fun s229 (_ : Unit) hh => St φ h.n hh ([(some b109, .cells [.func (.func 65) #[] #[.pointer (some ⟨b92, 0, none⟩), .pointer (some ⟨b103, 0, none⟩)], .func (.func 66) #[] #[.pointer (some ⟨b92, 0, none⟩), .pointer (some ⟨b103, 0, none⟩)], .func (.func 67) #[] #[.pointer (some ⟨b103, 0, none⟩)], .func (.func 68) #[] #[.pointer (some ⟨b92, 0, none⟩), .pointer (some ⟨b96, 0, none⟩), .pointer (some ⟨b103, 0, none⟩)]] 85 .exact), (some b103, .cells [.int .i64 e100.A, .int .i64 e100.B, .int .i64 e100.Per, .int .i64 e100.Delay] 50 .exact), (some b96, .cells [.int .i64 p91] 3 .exact), (some b92, .cells [.int .i64 p88.Nodes, .slice a89 n89 c89, .slice a90 n90 c90] 25 .exact)])) 0 () (sub_cons rfl (sub_cons rfl (sub_cons rfl (sub_cons rfl sub_nil)))) X170 ?_
                    rintro n259 ih258 s229 _ t0 h261 X260
                    refine dseq ?_
                    refine dreg ?_
                    refine lpure (v := .bool (decide (s229 < ((p88.Links.take (p91).toNat).length : Int)))) rfl (p_lt rfl) rfl rfl ?_
                    refine lend ?_
                    refine nseq ?_
                    refine dseq ?_
                    refine dcond rfl rfl (fun k262 => ?_) (fun k262 => ?_)
                    · refine dskip ?_
                      refine nseq ?_
                      refine dseq ?_
                      refine dblock ?_
                      refine dseq ?_
                      refine dreg ?_
                      refine lpure (v := .int .i64 s229) rfl (p_move rfl) rfl rfl ?_
                      refine lpure (v := .int .i64 s229) rfl (p_assign rfl) rfl rfl ?_
                      refine lend ?_
                      refine nseq ?_
                      refine dseq ?_
                      refine dreg ?_
                      refine lpure (v := .func (.func 70) #[] #[.pointer (some ⟨b103, 0, none⟩)]) rfl (p_move rfl) rfl rfl ?_
                      refine lpure (v := .slice a173 n173 c173) rfl (p_move rfl) rfl rfl ?_
                      refine lpure (v := .int .i64 s229) rfl (p_move rfl) rfl rfl ?_
                      refine Sim.bindM fun e263 he264 => ?_
                      obtain ⟨p265, cs265, hp265, hF265, hR265⟩ := RSl.ia H173 he264 (kd := .i64) (n := 4) rfl
                      obtain rfl := eApiLink_el hR265
                      refine lpure (v := p265) rfl (p_ia rs_23 rfl) hp265 rfl ?_
                      refine lread (v := .agg #[.int .i64 e263.A, .int .i64 e263.B, .int .i64 e263.Per, .int .i64 e263.Delay]) rfl (q_load wd_50 rfl) (FP.ldw X260 hF265 rfl rfl) rfl ?_
                      refine linl rfl rfl rfl rfl ca_70 rfl Try.func70 rfl rfl rfl rfl rfl ?_
                      refine dseq ?_
                      refine dreg ?_
                      refine lbox rfl rfl rfl rfl rfl X260 (fun b266 h268 X269 => ?_)
                      refine lpure (v := .bool false) rfl (p_assign rfl) rfl rfl ?_
                      refine lend ?_
                      refine nseq ?_
                      refine dseq ?_
                      refine dreg ?_
                      refine lpure (v := .pointer (some ⟨b266, 0, none⟩)) rfl (p_fa fo_50_0 rfl) rfl rfl ?_
                      refine lread (v := .int .i64 e263.A) rfl (q_load wd_3 rfl) (St.ld X269 (j := 0) rfl rfl) rfl ?_
                      refine lpure (v := .pointer (some ⟨b103, 0, none⟩)) rfl (p_fa fo_50_0 rfl) rfl rfl ?_
                      refine lread (v := .int .i64 e100.A) rfl (q_load wd_3 rfl) (St.ld X269 (j := 2) rfl rfl) rfl ?_
                      refine lpure (v := .bool (decide (e263.A = e100.A))) rfl (p_eq rfl) rfl rfl ?_
                      refine lpure (v := .bool (decide (e263.A = e100.A))) rfl (p_move rfl) rfl rfl ?_
                      refine lsh (τ := Bool) (σ := Unit) (fun s271 (_ : Unit) => [(1, .pointer (some ⟨b103, 0, none⟩)), (2, .pointer (some ⟨b266, 0, none⟩)), (15, .bool s271)]) (fun s271 (_ : Unit) hh => St φ h.n hh ([(some b266, .cells [.int .i64 e263.A, .int .i64 e263.B, .int .i64 e263.Per, .int .i64 e263.Delay] 50 .exact), (some b109, .cells [.func (.func 65) #[] #[.pointer (some ⟨b92, 0, none⟩), .pointer (some ⟨b103, 0, none⟩)], .func (.func 66) #[] #[.pointer (some ⟨b92, 0, none⟩), .pointer (some ⟨b103, 0, none⟩)], .func (.func 67) #[] #[.pointer (some ⟨b103, 0, none⟩)], .func (.func 68) #[] #[.pointer (some ⟨b92, 0, none⟩), .pointer (some ⟨b96, 0, none⟩), .pointer (some ⟨b103, 0, none⟩)]] 85 .exact), (some b103, .cells [.int .i64 e100.A, .int .i64 e100.B, .int .i64 e100.Per, .int .i64 e100.Delay] 50 .exact), (some b96, .cells [.int .i64 p91] 3 .exact), (some b92, .cells [.int .i64 p88.Nodes, .slice a89 n89 c89, .slice a90 n90 c90] 25 .exact)])) 6 ?_ ?_
                      · rintro s271 _ t0 h273 X272
                        refine lpure (v := .bool s271) rfl (p_move rfl) rfl rfl ?_
                        refine lsh (τ := Bool) (σ := Unit) (fun s275 (_ : Unit) => [(29, .bool s275)]) (fun s275 (_ : Unit) hh => St φ h.n hh ([(some b266, .cells [.int .i64 e263.A, .int .i64 e263.B, .int .i64 e263.Per, .int .i64 e263.Delay] 50 .exact), (some b109, .cells [.func (.func 65) #[] #[.pointer (some ⟨b92, 0, none⟩), .pointer (some ⟨b103, 0, none⟩)], .func (.func 66) #[] #[.pointer (some ⟨b92, 0, none⟩), .pointer (some ⟨b103, 0, none⟩)], .func (.func 67) #[] #[.pointer (some ⟨b103, 0, none⟩)], .func (.func 68) #[] #[.pointer (some ⟨b92, 0, none⟩), .pointer (some ⟨b96, 0, none⟩), .pointer (some ⟨b103, 0, none⟩)]] 85 .exact), (some b103, .cells [.int .i64 e100.A, .int .i64 e100.B, .int .i64 e100.Per, .int .i64 e100.Delay] 50 .exact), (some b96, .cells [.int .i64 p91] 3 .exact), (some b92, .cells [.int .i64 p88.Nodes, .slice a89 n89 c89, .slice a90 n90 c90] 25 .exact)])) 13 ?_ ?_
                        · rintro s275 _ t0 h277 X276
                          refine lpure (v := .bool s275) rfl (p_assign rfl) rfl rfl ?_
                          refine lend ?_
                          refine nseq ?_
                          refine dret ?_
                          refine kin_r (res_1 resT) ?_
                          refine lend ?_
                          refine nseq ?_
                          refine dcond rfl rfl (fun k278 => ?_) (fun k278 => ?_)
                          · refine dseq ?_
                            refine dreg ?_
                            refine lpure (v := .int .i64 s229) rfl (p_move rfl) rfl rfl ?_
                            refine lpure (v := .int .i64 s229) rfl (p_assign rfl) rfl rfl ?_
                            refine lend ?_
                            refine nseq ?_
                            refine dret ?_
                            refine rblock ?_
                            refine rseq ?_
                            refine rloop ?_
                            refine rblock ?_
                            refine rseq ?_
                            refine kin_r (res_1 resT) ?_
                            refine lpure (v := .bool (decide (0 ≤ s229))) rfl (p_ge rfl) rfl rfl ?_
                            refine lpure (v := .bool (decide (0 ≤ s229))) rfl (p_assign rfl) rfl rfl ?_
                            refine lend ?_
                            refine nseq ?_
                            refine dret ?_
                            refine kin_r (res_1 resT) ?_
                            refine lpure (v := .bool (!(decide (0 ≤ s229)))) rfl (p_not rfl) rfl rfl ?_
                            refine lpure (v := .bool (!(decide (0 ≤ s229)))) rfl (p_assign rfl) rfl rfl ?_
                            refine lend ?_
                            refine nseq ?_
                            refine dret ?_
                            refine kin_r (res_1 resT) ?_
                            refine lpure (v := .bool (!(!(decide (0 ≤ s229))))) rfl (p_not rfl) rfl rfl ?_
                            refine lend ?_
                            refine nseq ?_
                            refine dcond rfl rfl (fun k279 => ?_) (fun k279 => ?_)
                            · refine dseq ?_
                              refine dreg ?_
                              refine lpure (v := .bool false) rfl (p_assign rfl) rfl rfl ?_
                              refine lend ?_
                              refine nseq ?_
                              refine dret ?_
                              refine rblock ?_
                              refine rseq ?_
                              refine rloop ?_
                              refine rblock ?_
                              refine rseq ?_
                              exact kcut_r (res_1 resT) X276 rfl rfl
                            · refine dskip ?_
                              refine nblock ?_
                              refine nseq ?_
                              refine dreg ?_
                              refine lpure (v := .int .i64 4) rfl (p_add rfl) rfl rfl ?_
                              refine lpure (v := .int .i64 4) rfl (p_move rfl) rfl rfl ?_
                              refine lend ?_
                              refine nunroll 999995 rfl ?_
                              refine dseq ?_
                              refine dreg ?_
                              refine lpure (v := .bool false) rfl (p_lt rfl) rfl rfl ?_
                              refine lend ?_
                              refine nseq ?_
                              refine dseq ?_
                              refine dcondF rfl rfl ?_
                              refine dexit ?_
                              refine eseq ?_
                              refine eloop ?_
                              refine xblock ?_
                              refine nseq ?_
                              refine dseq ?_
                              refine dreg ?_
                              refine lpure (v := .bool true) rfl (p_assign rfl) rfl rfl ?_
                              refine lend ?_
                              refine nseq ?_
                              refine dret ?_
                              exact kcut_r (res_1 resT) X276 rfl rfl
                          · refine dskip ?_
                            refine nblock ?_
                            refine nseq ?_
                            refine dreg ?_
                            refine lpure (v := .int .i64 (w64 (s229 + 1))) rfl (p_add rfl) rfl rfl ?_
                            refine lpure (v := .int .i64 (w64 (s229 + 1))) rfl (p_move rfl) rfl rfl ?_
                            refine lend ?_
                            exact kbackM ih258 (w64 (s229 + 1)) () (sub_cons rfl (sub_cons rfl (sub_cons rfl (sub_cons rfl sub_nil)))) (St.pick X276 (.skip _ (.keep _ (.keep _ (.keep _ (.keep _ (.nil _)))))))
                        · intro j280 J281
                          refine lcase (i := 16) (show _ = Value.bool s271 from rfl) (fun k282 => ?_) (fun k282 => ?_)
                          · refine lskip rfl rfl ?_
                            refine lskip rfl rfl ?_
                            refine lskip rfl rfl ?_
                            refine lskip rfl rfl ?_
                            refine lskip rfl rfl ?_
                            refine lskip rfl rfl ?_
                            refine lskip rfl rfl ?_
                            refine lskip rfl rfl ?_
                            refine lskip rfl rfl ?_
                            refine lskip rfl rfl ?_
                            refine lskip rfl rfl ?_
                            refine lskip rfl rfl ?_
                            refine lpure (v := .bool true) rfl (p_pick rfl) rfl rfl ?_
                            refine Sim.of_eq (congrArg j280 (show (s271 || ((decide (e263.A = e100.B)) && (decide (e263.B = e100.A)))) = true from by rw [k282] <;> rfl)) ?_
                            exact ljmpM J281 true () (sub_cons rfl sub_nil) X272
                          · refine lpure (v := .pointer (some ⟨b266, 0, none⟩)) rfl (p_fa fo_50_0 rfl) rfl rfl ?_
                            refine lread (v := .int .i64 e263.A) rfl (q_load wd_3 rfl) (St.ld X272 (j := 0) rfl rfl) rfl ?_
                            refine lpure (v := .pointer (some ⟨b103, 1, none⟩)) rfl (p_fa fo_50_1 rfl) rfl rfl ?_
                            refine lread (v := .int .i64 e100.B) rfl (q_load wd_3 rfl) (St.ld X272 (j := 2) rfl rfl) rfl ?_
                            refine lpure (v := .bool (decide (e263.A = e100.B))) rfl (p_eq rfl) rfl rfl ?_
                            refine lpure (v := .bool (decide (e263.A = e100.B))) rfl (p_move rfl) rfl rfl ?_
                            refine lcase (i := 22) (show _ = Value.bool (decide (e263.A = e100.B)) from rfl) (fun k283 => ?_) (fun k283 => ?_)
                            · refine lpure (v := .pointer (some ⟨b266, 1, none⟩)) rfl (p_fa fo_50_1 rfl) rfl rfl ?_
                              refine lread (v := .int .i64 e263.B) rfl (q_load wd_3 rfl) (St.ld X272 (j := 0) rfl rfl) rfl ?_
                              refine lpure (v := .pointer (some ⟨b103, 0, none⟩)) rfl (p_fa fo_50_0 rfl) rfl rfl ?_
                              refine lread (v := .int .i64 e100.A) rfl (q_load wd_3 rfl) (St.ld X272 (j := 2) rfl rfl) rfl ?_
                              refine lpure (v := .bool (decide (e263.B = e100.A))) rfl (p_eq rfl) rfl rfl ?_
                              refine lpure (v := .bool (decide (e263.B = e100.A))) rfl (p_pick rfl) rfl rfl ?_
                              refine lpure (v := .bool (decide (e263.B = e100.A))) rfl (p_pick rfl) rfl rfl ?_
                              refine Sim.of_eq (congrArg j280 (show (s271 || ((decide (e263.A = e100.B)) && (decide (e263.B = e100.A)))) = (decide (e263.B = e100.A)) from by rw [k282, k283] <;> rfl)) ?_
                              exact ljmpM J281 (decide (e263.B = e100.A)) () (sub_cons rfl sub_nil) X272
                            · refine lskip rfl rfl ?_
                              refine lskip rfl rfl ?_
                              refine lskip rfl rfl ?_
                              refine lskip rfl rfl ?_
                              refine lskip rfl rfl ?_
                              refine lpure (v := .bool false) rfl (p_pick rfl) rfl rfl ?_
                              refine lpure (v := .bool false) rfl (p_pick rfl) rfl rfl ?_
                              refine Sim.of_eq (congrArg j280 (show (s271 || ((decide (e263.A = e100.B)) && (decide (e263.B = e100.A)))) = false from by rw [k282, k283] <;> rfl)) ?_
                              exact ljmpM J281 false () (sub_cons rfl sub_nil) X272
                      · intro j284 J285
                        refine lcase (i := 9) (show _ = Value.bool (decide (e263.A = e100.A)) from rfl) (fun k286 => ?_) (fun k286 => ?_)
                        · refine lpure (v := .pointer (some ⟨b266, 1, none⟩)) rfl (p_fa fo_50_1 rfl) rfl rfl ?_
                          refine lread (v := .int .i64 e263.B) rfl (q_load wd_3 rfl) (St.ld X269 (j := 0) rfl rfl) rfl ?_
                          refine lpure (v := .pointer (some ⟨b103, 1, none⟩)) rfl (p_fa fo_50_1 rfl) rfl rfl ?_
                          refine lread (v := .int .i64 e100.B) rfl (q_load wd_3 rfl) (St.ld X269 (j := 2) rfl rfl) rfl ?_
                          refine lpure (v := .bool (decide (e263.B = e100.B))) rfl (p_eq rfl) rfl rfl ?_
                          refine lpure (v := .bool (decide (e263.B = e100.B))) rfl (p_pick rfl) rfl rfl ?_
                          refine Sim.of_eq (congrArg j284 (show ((decide (e263.A = e100.A)) && (decide (e263.B = e100.B))) = (decide (e263.B = e100.B)) from by rw [k286] <;> rfl)) ?_
                          exact ljmpM J285 (decide (e263.B = e100.B)) () (sub_cons rfl (sub_cons rfl (sub_cons rfl sub_nil))) X269
                        · refine lskip rfl rfl ?_
                          refine lskip rfl rfl ?_
                          refine lskip rfl rfl ?_
                          refine lskip rfl rfl ?_
                          refine lskip rfl rfl ?_
                          refine lpure (v := .bool false) rfl (p_pick rfl) rfl rfl ?_
                          refine Sim.of_eq (congrArg j284 (show ((decide (e263.A = e100.A)) && (decide (e263.B = e100.B))) = false from by rw [k286] <;> rfl)) ?_
                          exact ljmpM J285 false () (sub_cons rfl (sub_cons rfl (sub_cons rfl sub_nil))) X269
                    · refine dexit ?_
                      refine eseq ?_
                      refine eloop ?_
                      refine xblock ?_
                      refine nseq ?_
                      refine dseq ?_
                      refine dreg ?_
                      refine lpure (v := .int .i64 (-1)) rfl (p_assign rfl) rfl rfl ?_
                      refine lend ?_
                      refine nseq ?_
                      refine dret ?_
                      refine kin_r (res_1 resT) ?_
                      refine lpure (v := .bool false) rfl (p_ge rfl) rfl rfl ?_
                      refine lpure (v := .bool false) rfl (p_assign rfl) rfl rfl ?_
                      refine lend ?_
                      refine nseq ?_
                      refine dret ?_
                      refine kin_r (res_1 resT) ?_
                      refine lpure (v := .bool true) rfl (p_not rfl) rfl rfl ?_
                      refine lpure (v := .bool true) rfl (p_assign rfl) rfl rfl ?_
                      refine lend ?_
                      refine nseq ?_
                      refine dret ?_
                      refine kin_r (res_1 resT) ?_
                      refine lpure (v := .bool false) rfl (p_not rfl) rfl rfl ?_
                      refine lend ?_
                      refine nseq ?_
                      refine dcondF rfl rfl ?_
                      refine dskip ?_
                      refine nblock ?_
                      refine nseq ?_
                      refine dreg ?_
                      refine lpure (v := .int .i64 4) rfl (p_add rfl) rfl rfl ?_
                      refine lpure (v := .int .i64 4) rfl (p_move rfl) rfl rfl ?_
                      refine lend ?_
                      refine nunroll 999995 rfl ?_
                      refine dseq ?_
                      refine dreg ?_
                      refine lpure (v := .bool false) rfl (p_lt rfl) rfl rfl ?_
                      refine lend ?_
                      refine nseq ?_
                      refine dseq ?_
                      refine dcondF rfl rfl ?_
                      refine dexit ?_
                      refine eseq ?_
                      refine eloop ?_
                      refine xblock ?_
                      refine nseq ?_
                      refine dseq ?_
                      refine dreg ?_
                      refine lpure (v := .bool true) rfl (p_assign rfl) rfl rfl ?_
                      refine lend ?_
                      refine nseq ?_
                      refine dret ?_
                      exact kcut_r (res_1 resT) X260 rfl rfl
                · intro j287 J288
                  refine lcase (i := 15) (show _ = Value.bool s165 from rfl) (fun k289 => ?_) (fun k289 => ?_)
                  · refine lpure (v := .pointer (some ⟨b103, 3, none⟩)) rfl (p_fa fo_50_3 rfl) rfl rfl ?_
                    refine lread (v := .int .i64 e100.Delay) rfl (q_load wd_3 rfl) (St.ld X166 (j := 1) rfl rfl) rfl ?_
                    refine lpure (v := .bool (decide (e100.Delay ≤ 10000))) rfl (p_le rfl) rfl rfl ?_
                    refine lpure (v := .bool (decide (e100.Delay ≤ 10000))) rfl (p_pick rfl) rfl rfl ?_
                    refine Sim.of_eq (congrArg j287 (show (s165 && (decide (e100.Delay ≤ 10000))) = (decide (e100.Delay ≤ 10000)) from by rw [k289] <;> rfl)) ?_
                    exact ljmpM J288 (decide (e100.Delay ≤ 10000)) () (sub_cons rfl sub_nil) X166
                  · refine lskip rfl rfl ?_
                    refine lskip rfl rfl ?_
                    refine lskip rfl rfl ?_
                    refine lpure (v := .bool false) rfl (p_pick rfl) rfl rfl ?_
                    refine Sim.of_eq (congrArg j287 (show (s165 && (decide (e100.Delay ≤ 10000))) = false from by rw [k289] <;> rfl)) ?_
                    exact ljmpM J288 false () (sub_cons rfl sub_nil) X166
              · intro j290 J291
                refine lcase (i := 10) (show _ = Value.bool s161 from rfl) (fun k292 => ?_) (fun k292 => ?_)
                · refine lpure (v := .pointer (some ⟨b103, 3, none⟩)) rfl (p_fa fo_50_3 rfl) rfl rfl ?_
                  refine lread (v := .int .i64 e100.Delay) rfl (q_load wd_3 rfl) (St.ld X162 (j := 1) rfl rfl) rfl ?_
                  refine lpure (v := .bool (decide (0 ≤ e100.Delay))) rfl (p_ge rfl) rfl rfl ?_
                  refine lpure (v := .bool (decide (0 ≤ e100.Delay))) rfl (p_pick rfl) rfl rfl ?_
                  refine Sim.of_eq (congrArg j290 (show (s161 && (decide (0 ≤ e100.Delay))) = (decide (0 ≤ e100.Delay)) from by rw [k292] <;> rfl)) ?_
                  exact ljmpM J291 (decide (0 ≤ e100.Delay)) () (sub_cons rfl (sub_cons rfl sub_nil)) X162
                · refine lskip rfl rfl ?_
                  refine lskip rfl rfl ?_
                  refine lskip rfl rfl ?_
                  refine lpure (v := .bool false) rfl (p_pick rfl) rfl rfl ?_
                  refine Sim.of_eq (congrArg j290 (show (s161 && (decide (0 ≤ e100.Delay))) = false from by rw [k292] <;> rfl)) ?_
                  exact ljmpM J291 false () (sub_cons rfl (sub_cons rfl sub_nil)) X162
            · intro j293 J294
              refine lcase (i := 5) (show _ = Value.bool (decide (1 ≤ e100.Per)) from rfl) (fun k295 => ?_) (fun k295 => ?_)
              · refine lpure (v := .pointer (some ⟨b103, 2, none⟩)) rfl (p_fa fo_50_2 rfl) rfl rfl ?_
                refine lread (v := .int .i64 e100.Per) rfl (q_load wd_3 rfl) (St.ld X157 (j := 1) rfl rfl) rfl ?_
                refine lpure (v := .bool (decide (e100.Per ≤ 1000))) rfl (p_le rfl) rfl rfl ?_
                refine lpure (v := .bool (decide (e100.Per ≤ 1000))) rfl (p_pick rfl) rfl rfl ?_
                refine Sim.of_eq (congrArg j293 (show ((decide (1 ≤ e100.Per)) && (decide (e100.Per ≤ 1000))) = (decide (e100.Per ≤ 1000)) from by rw [k295] <;> rfl)) ?_
                exact ljmpM J294 (decide (e100.Per ≤ 1000)) () (sub_cons rfl (sub_cons rfl sub_nil)) X157
              · refine lskip rfl rfl ?_
                refine lskip rfl rfl ?_
                refine lskip rfl rfl ?_
                refine lpure (v := .bool false) rfl (p_pick rfl) rfl rfl ?_
                refine Sim.of_eq (congrArg j293 (show ((decide (1 ≤ e100.Per)) && (decide (e100.Per ≤ 1000))) = false from by rw [k295] <;> rfl)) ?_
                exact ljmpM J294 false () (sub_cons rfl (sub_cons rfl sub_nil)) X157
        · intro j296 J297
          refine lif (i := 10) (show _ = Value.bool (!e148) from rfl) (fun k298 => ?_) (fun k298 => ?_)
          · refine lskip rfl rfl ?_
            refine lskip rfl rfl ?_
            refine lskip rfl rfl ?_
            refine lskip rfl rfl ?_
            refine lskip rfl rfl ?_
            refine lskip rfl rfl ?_
            refine lskip rfl rfl ?_
            refine lpure (v := .bool true) rfl (p_pick rfl) rfl rfl ?_
            exact ljmpM J297 true () (sub_cons rfl sub_nil) X145
          · refine lpure (v := .pointer (some ⟨b92, 1, none⟩)) rfl (p_fa fo_25_1 rfl) rfl rfl ?_
            refine lread (v := .slice a89 n89 c89) rfl (q_load wd_22 rfl) (St.ld X145 (j := 3) rfl rfl) rfl ?_
            refine lpure (v := .pointer (some ⟨b103, 1, none⟩)) rfl (p_fa fo_50_1 rfl) rfl rfl ?_
            refine lread (v := .int .i64 e100.B) rfl (q_load wd_3 rfl) (St.ld X145 (j := 1) rfl rfl) rfl ?_
            refine Sim.bindM fun e299 he300 => ?_
            obtain ⟨p301, cs301, hp301, hF301, hR301⟩ := RSl.ia H89 he300 (kd := .i64) (n := 1) rfl
            have hR301 : _ = [(.bool e299 : Value)] := hR301
            subst hR301
            refine lpure (v := p301) rfl (p_ia rs_22 rfl) hp301 rfl ?_
            refine lread (v := .bool e299) rfl (q_load wd_4 rfl) (FP.ld X145 hF301) rfl ?_
            refine lpure (v := .bool (!e299)) rfl (p_not rfl) rfl rfl ?_
            refine lpure (v := .bool (!e299)) rfl (p_pick rfl) rfl rfl ?_
            exact ljmpM J297 (!e299) () (sub_cons rfl sub_nil) X145
    · intro j302 J303
      refine lcase (i := 13) (show _ = Value.bool s140 from rfl) (fun k304 => ?_) (fun k304 => ?_)
      · refine lpure (v := .pointer (some ⟨b103, 0, none⟩)) rfl (p_fa fo_50_0 rfl) rfl rfl ?_
        refine lread (v := .int .i64 e100.A) rfl (q_load wd_3 rfl) (St.ld X141 (j := 1) rfl rfl) rfl ?_
        refine lpure (v := .pointer (some ⟨b103, 1, none⟩)) rfl (p_fa fo_50_1 rfl) rfl rfl ?_
        refine lread (v := .int .i64 e100.B) rfl (q_load wd_3 rfl) (St.ld X141 (j := 1) rfl rfl) rfl ?_
        refine lpure (v := .bool (decide (e100.A ≠ e100.B))) rfl (p_ne rfl) rfl rfl ?_
        refine lpure (v := .bool (decide (e100.A ≠ e100.B))) rfl (p_pick rfl) rfl rfl ?_
        refine Sim.of_eq (congrArg j302 (show (s140 && (decide (e100.A ≠ e100.B))) = (decide (e100.A ≠ e100.B)) from by rw [k304] <;> rfl)) ?_
        exact ljmpM J303 (decide (e100.A ≠ e100.B)) () (sub_cons rfl sub_nil) X141
      · refine lskip rfl rfl ?_
        refine lskip rfl rfl ?_
        refine lskip rfl rfl ?_
        refine lskip rfl rfl ?_
        refine lskip rfl rfl ?_
        refine lpure (v := .bool false) rfl (p_pick rfl) rfl rfl ?_
        refine Sim.of_eq (congrArg j302 (show (s140 && (decide (e100.A ≠ e100.B))) = false from by rw [k304] <;> rfl)) ?_
        exact ljmpM J303 false () (sub_cons rfl sub_nil) X141
  · intro j305 J306
    refine lif (i := 7) (show _ = Value.bool e130 from rfl) (fun k307 => ?_) (fun k307 => ?_)
    · refine lread (v := .agg #[.int .i64 p88.Nodes, .slice a89 n89 c89, .slice a90 n90 c90]) rfl (q_load wd_25 rfl) (St.ld X114 (j := 3) rfl rfl) rfl ?_
      refine lpure (v := .pointer (some ⟨b103, 1, none⟩)) rfl (p_fa fo_50_1 rfl) rfl rfl ?_
      refine lread (v := .int .i64 e100.B) rfl (q_load wd_3 rfl) (St.ld X114 (j := 1) rfl rfl) rfl ?_
      refine lcall rfl rfl ca_39 rfl rfl (f39_ok X114 p88 (e100.B) H89 H90) rfl (fun e308 v309 h310 hq311 => ?_)
      cases hq311
      refine lpure (v := .bool e308) rfl (p_pick rfl) rfl rfl ?_
      exact ljmpM J306 e308 () (sub_cons rfl (sub_cons rfl sub_nil)) X114
    · refine lskip rfl rfl ?_
      refine lskip rfl rfl ?_
      refine lskip rfl rfl ?_
      refine lskip rfl rfl ?_
      refine lpure (v := .bool false) rfl (p_pick rfl) rfl rfl ?_
      exact ljmpM J306 false () (sub_cons rfl (sub_cons rfl sub_nil)) X114
/-! (isochron/topo.end).from -/
theorem f41_ok {n : Nat} {φ : Fz} {lo : Nat} {h : Heap} {own : OwnL} (X : St φ lo h own) (p378 : TopoEnd) : Sim ((recN Try.prog LL cutF (n + 1)).call 41 #[(.agg #[.int .i64 p378.Link.A, .int .i64 p378.Link.B, .int .i64 p378.Link.Per, .int .i64 p378.Link.Delay, .int .i64 p378.port])] h) (m_topo_end_from p378) (fun (d : Int) p => p = (.int .i64 d, h)) := by
  refine fcut Try.func41 rfl rfl rfl rfl X ?_
  intro h0 X0
  refine dseq ?_
  refine dreg ?_
  refine lbox rfl rfl rfl rfl rfl X0 (fun b379 h381 X382 => ?_)
  refine lpure (v := .int .i64 0) rfl (p_assign rfl) rfl rfl ?_
  refine lend ?_
  refine nseq ?_
  refine dseq ?_
  refine dseq ?_
  refine dreg ?_
  refine lpure (v := .pointer (some ⟨b379, 4, none⟩)) rfl (p_fa fo_65_1 rfl) rfl rfl ?_
  refine lread (v := .int .i64 p378.port) rfl (q_load wd_3 rfl) (St.ld X382 (j := 0) rfl rfl) rfl ?_
  refine lpure (v := .int .i64 (Int.tmod p378.port 2)) rfl (p_rem rfl) rfl rfl ?_
  refine lpure (v := .bool (decide ((Int.tmod p378.port 2) = 0))) rfl (p_eq rfl) rfl rfl ?_
  refine lend ?_
  refine nseq ?_
  refine dcond rfl rfl (fun k383 => ?_) (fun k383 => ?_)
  · refine dseq ?_
    refine dreg ?_
    refine lpure (v := .pointer (some ⟨b379, 0, none⟩)) rfl (p_fa fo_65_0 rfl) rfl rfl ?_
    refine lpure (v := .pointer (some ⟨b379, 0, none⟩)) rfl (p_fa fo_50_0 rfl) rfl rfl ?_
    refine lread (v := .int .i64 p378.Link.A) rfl (q_load wd_3 rfl) (St.ld X382 (j := 0) rfl rfl) rfl ?_
    refine lpure (v := .int .i64 p378.Link.A) rfl (p_assign rfl) rfl rfl ?_
    refine lend ?_
    refine nseq ?_
    refine dret ?_
    refine rseq ?_
    exact kcut_r (res_1 resT) X382 rfl rfl
  · refine dskip ?_
    refine nseq ?_
    refine dseq ?_
    refine dreg ?_
    refine lpure (v := .pointer (some ⟨b379, 0, none⟩)) rfl (p_fa fo_65_0 rfl) rfl rfl ?_
    refine lpure (v := .pointer (some ⟨b379, 1, none⟩)) rfl (p_fa fo_50_1 rfl) rfl rfl ?_
    refine lread (v := .int .i64 p378.Link.B) rfl (q_load wd_3 rfl) (St.ld X382 (j := 0) rfl rfl) rfl ?_
    refine lpure (v := .int .i64 p378.Link.B) rfl (p_assign rfl) rfl rfl ?_
    refine lend ?_
    refine nseq ?_
    refine dret ?_
    exact kcut_r (res_1 resT) X382 rfl rfl
/-! isochron/topo.degree -/
theorem f58_ok {n : Nat} {φ : Fz} {lo : Nat} {h : Heap} {own : OwnL} (X : St φ lo h own) (p326 : ApiTopo) (p329 : Int) {a327 : Option Addr} {n327 c327 : Nat} {a328 : Option Addr} {n328 c328 : Nat} (H327 : RSl eBool φ (.slice a327 n327 c327) p326.Station) (H328 : RSl eApiLink φ (.slice a328 n328 c328) p326.Links) : Sim ((recN Try.prog LL cutF (n + 4)).call 58 #[(.agg #[.int .i64 p326.Nodes, .slice a327 n327 c327, .slice a328 n328 c328]), (.int .i64 p329)] h) (m_topo_degree p326 p329) (fun (d : Int) p => p = (.int .i64 d, h)) := by
  refine fcut Try.func58 rfl rfl rfl rfl X ?_
  intro h0 X0
  refine dseq ?_
  refine dreg ?_
  refine lbox rfl rfl rfl rfl rfl X0 (fun b330 h332 X333 => ?_)
  refine lbox rfl rfl rfl rfl rfl X333 (fun b334 h336 X337 => ?_)
  refine lpure (v := .int .i64 0) rfl (p_assign rfl) rfl rfl ?_
  refine lend ?_
  refine nseq ?_
  refine dseq ?_
  refine dreg ?_
  refine lalloc rfl tz_3 rfl rfl rfl X337 (fun b338 h340 X341 => ?_)
  refine lstore rfl ts_3 rfl rfl (j := 0) rfl rfl rfl rfl rfl rfl X341 (fun h342 X343 => ?_)
  refine lend ?_
  refine nseq ?_
  refine dseq ?_
  refine dseq ?_
  refine dreg ?_
  refine lread (v := .agg #[.int .i64 p326.Nodes, .slice a327 n327 c327, .slice a328 n328 c328]) rfl (q_load wd_25 rfl) (St.ld X343 (j := 2) rfl rfl) rfl ?_
  refine linl rfl rfl rfl rfl ca_40 rfl Try.func40 rfl rfl rfl rfl rfl ?_
  refine dseq ?_
  refine dreg ?_
  refine lbox rfl rfl rfl rfl rfl X343 (fun b344 h346 X347 => ?_)
  refine lpure (v := .nilFunc) rfl (p_assign rfl) rfl rfl ?_
  refine lend ?_
  refine nseq ?_
  refine dseq ?_
  refine dreg ?_
  refine lpure (v := .func (.func 62) #[] #[.pointer (some ⟨b344, 0, none⟩)]) rfl (p_makeFunc rfl) rfl rfl ?_
  refine lpure (v := .func (.func 62) #[] #[.pointer (some ⟨b344, 0, none⟩)]) rfl (p_assign rfl) rfl rfl ?_
  refine lend ?_
  refine nseq ?_
  refine dret ?_
  refine kin_r (res_1 resT) ?_
  refine lend ?_
  refine nseq ?_
  refine dblock ?_
  refine drange rfl rfl ca_62 Try.func62 rfl rfl X347 (fun _ => rfl) ?_
  intro l348 q349 df350 h352 Q351 X353
  refine dseq ?_
  refine dreg ?_
  refine lpure (v := .pointer (some ⟨b344, 2, none⟩)) rfl (p_fa fo_25_2 rfl) rfl rfl ?_
  refine lread (v := .slice a328 n328 c328) rfl (q_load wd_23 rfl) (St.ld X353 (j := 2) rfl rfl) rfl ?_
  refine lpure (v := .int .i64 (p326.Links.length : Int)) rfl (p_len rfl rfl rfl un_23 rfl) (RSl.lenC H328) rfl ?_
  refine lpure (v := .int .i64 0) rfl (p_move rfl) rfl rfl ?_
  refine lend ?_
  refine nseq ?_
  refine dblock ?_
  refine dloopM (τ := Int × Int) (σ := Unit) (fun s492 (_ : Unit) => [(0, .func (.yield l348) #[] #[]), (6, .slice a328 n328 c328), (7, .int .i64 (p326.Links.length : Int)), (8, .int .i64 s492.1)]) (fun s492 (_ : Unit) hh => St φ h.n hh ([(some l348, rdy q349), (none, .dead), (some b344, .cells [.int .i64 p326.Nodes, .slice a327 n327 c327, .slice a328 n328 c328] 25 .exact), (some b338, .cells [.int .i64 s492.2] 3 .exact), (some b334, .cells [.int .i64 p329] 3 .exact), (some b330, .cells [.int .i64 p326.Nodes, .slice a327 n327 c327, .slice a328 n328 c328] 25 .exact)])) (0, 0) () (sub_cons rfl (sub_cons rfl (sub_cons rfl (sub_cons rfl sub_nil)))) (St.pick X353 (.keep _ (.none _ (.skip _ (.keep _ (.keep _ (.keep _ (.keep _ (.nil _))))))))) ?_
  rintro n559 ih558 s492 _ t0 h561 X560
  refine dseq ?_
  refine dreg ?_
  refine lpure (v := .bool (decide (s492.1 < (p326.Links.length : Int)))) rfl (p_lt rfl) rfl rfl ?_
  refine lend ?_
  refine nseq ?_
  refine dseq ?_
  refine dcond rfl rfl (fun k562 => ?_) (fun k562 => ?_)
  · refine dskip ?_
    refine nseq ?_
    refine dseq ?_
    refine dblock ?_
    refine dseq ?_
    refine dreg ?_
    refine lpure (v := .int .i64 s492.1) rfl (p_move rfl) rfl rfl ?_
    refine Sim.bindM fun e563 he564 => ?_
    obtain ⟨p565, cs565, hp565, hF565, hR565⟩ := RSl.ia H328 he564 (kd := .i64) (n := 4) rfl
    obtain rfl := eApiLink_el hR565
    refine lpure (v := p565) rfl (p_ia rs_23 rfl) hp565 rfl ?_
    refine lread (v := .agg #[.int .i64 e563.A, .int .i64 e563.B, .int .i64 e563.Per, .int .i64 e563.Delay]) rfl (q_load wd_50 rfl) (FP.ldw X560 hF565 rfl rfl) rfl ?_
    refine lalloc rfl tz_50 rfl rfl rfl X560 (fun b566 h568 X569 => ?_)
    refine lpure (v := .int .i64 s492.1) rfl (p_assign rfl) rfl rfl ?_
    refine lstore rfl ts_50 rfl rfl (j := 0) rfl rfl rfl rfl rfl rfl X569 (fun h570 X571 => ?_)
    refine lend ?_
    refine nseq ?_
    refine dseq ?_
    refine dreg ?_
    refine lpure (v := .func (.yield l348) #[] #[]) rfl (p_move rfl) rfl rfl ?_
    refine lread (v := .agg #[.int .i64 e563.A, .int .i64 e563.B, .int .i64 e563.Per, .int .i64 e563.Delay]) rfl (q_load wd_50 rfl) (St.ld X571 (j := 0) rfl rfl) rfl ?_
    refine lpure (v := .int .i64 s492.1) rfl (p_move rfl) rfl rfl ?_
    refine lpure (v := .int .i64 (w64 (2 * s492.1))) rfl (p_mul rfl) rfl rfl ?_
    refine lpure (v := .agg #[.int .i64 e563.A, .int .i64 e563.B, .int .i64 e563.Per, .int .i64 e563.Delay, .int .i64 (w64 (2 * s492.1))]) rfl (p_build rfl) (build_st' tz_65 pl_65 rfl) rfl ?_
    refine lround rfl rfl rfl rfl rfl rfl X571 (j := 1) rfl Q351 rfl rfl rfl rfl rfl (fun t572 => ?_)
    refine dreg ?_
    refine lalloc rfl tz_65 rfl rfl rfl X571 (fun b573 h575 X576 => ?_)
    refine lstore rfl ts_65 rfl rfl (j := 0) rfl rfl rfl rfl rfl rfl X576 (fun h577 X578 => ?_)
    refine lend ?_
    refine basg X578 (j := 2) rfl (fun h579 X580 => ?_)
    refine dblock ?_
    refine dseq ?_
    refine ddraw 0 0 0 (by kernel_rfl) ?_
    refine sload (v := .agg #[.int .i64 e563.A, .int .i64 e563.B, .int .i64 e563.Per, .int .i64 e563.Delay, .int .i64 (w64 (2 * s492.1))]) rfl rfl (q_load wd_65 rfl) (St.ld X580 (j := 0) rfl rfl) (same_self 20 rfl) rfl ?_
    refine scall (en := fun d => (.int .i64 d)) rfl rfl ca_41 rfl rfl (f41_ok X580 ((TopoEnd.mk e563 (w64 (2 * s492.1))))) rfl (fun e581 => ?_)
    refine sload (v := .int .i64 p329) rfl rfl (q_load wd_3 rfl) (St.ld X580 (j := 6) rfl rfl) (same_self 20 rfl) rfl ?_
    refine spure (v := .bool (decide (e581 = p329))) rfl (p_eq rfl) (lo_t rfl (lo_t rfl rfl)) rfl rfl ?_
    refine send ?_
    refine nseq ?_
    refine djoinM (τ := Int) (σ := Unit) (fun s588 (_ : Unit) => []) (fun s588 (_ : Unit) hh => St φ h.n hh ([(some b573, .cells [.int .i64 e563.A, .int .i64 e563.B, .int .i64 e563.Per, .int .i64 e563.Delay, .int .i64 (w64 (2 * s492.1))] 65 .exact), (some b566, .cells [.int .i64 e563.A, .int .i64 e563.B, .int .i64 e563.Per, .int .i64 e563.Delay] 50 .exact), (some l348, bsy q349), (none, .dead), (some b344, .cells [.int .i64 p326.Nodes, .slice a327 n327 c327, .slice a328 n328 c328] 25 .exact), (some b338, .cells [.int .i64 s588] 3 .exact), (some b334, .cells [.int .i64 p329] 3 .exact), (some b330, .cells [.int .i64 p326.Nodes, .slice a327 n327 c327, .slice a328 n328 c328] 25 .exact)])) ?_ ?_
    · rintro s588 _ t0 h590 X589
      refine nblock ?_
      refine nrnd X589 (j := 2) rfl (fun h593 X594 => ?_)
      refine lpure (v := .bool false) rfl (p_not rfl) rfl rfl ?_
      refine lpure (v := .bool false) rfl (p_move rfl) rfl rfl ?_
      refine lpure (v := .func (.yield l348) #[] #[]) rfl (p_move rfl) rfl rfl ?_
      refine lread (v := .agg #[.int .i64 e563.A, .int .i64 e563.B, .int .i64 e563.Per, .int .i64 e563.Delay]) rfl (q_load wd_50 rfl) (St.ld X594 (j := 1) rfl rfl) rfl ?_
      refine lpure (v := .int .i64 s492.1) rfl (p_move rfl) rfl rfl ?_
      refine lpure (v := .int .i64 (w64 (2 * s492.1))) rfl (p_mul rfl) rfl rfl ?_
      refine lpure (v := .int .i64 (w64 ((w64 (2 * s492.1)) + 1))) rfl (p_add rfl) rfl rfl ?_
      refine lpure (v := .agg #[.int .i64 e563.A, .int .i64 e563.B, .int .i64 e563.Per, .int .i64 e563.Delay, .int .i64 (w64 ((w64 (2 * s492.1)) + 1))]) rfl (p_build rfl) (build_st' tz_65 pl_65 rfl) rfl ?_
      refine lround rfl rfl rfl rfl rfl rfl X594 (j := 2) rfl Q351 rfl rfl rfl rfl rfl (fun t595 => ?_)
      refine dreg ?_
      refine lalloc rfl tz_65 rfl rfl rfl X594 (fun b596 h598 X599 => ?_)
      refine lstore rfl ts_65 rfl rfl (j := 0) rfl rfl rfl rfl rfl rfl X599 (fun h600 X601 => ?_)
      refine lend ?_
      refine basg X601 (j := 3) rfl (fun h602 X603 => ?_)
      refine dblock ?_
      refine dseq ?_
      refine ddraw 0 0 0 (by kernel_rfl) ?_
      refine sload (v := .agg #[.int .i64 e563.A, .int .i64 e563.B, .int .i64 e563.Per, .int .i64 e563.Delay, .int .i64 (w64 ((w64 (2 * s492.1)) + 1))]) rfl rfl (q_load wd_65 rfl) (St.ld X603 (j := 0) rfl rfl) (same_self 20 rfl) rfl ?_
      refine scall (en := fun d => (.int .i64 d)) rfl rfl ca_41 rfl rfl (f41_ok X603 ((TopoEnd.mk e563 (w64 ((w64 (2 * s492.1)) + 1))))) rfl (fun e604 => ?_)
      refine sload (v := .int .i64 p329) rfl rfl (q_load wd_3 rfl) (St.ld X603 (j := 7) rfl rfl) (same_self 20 rfl) rfl ?_
      refine spure (v := .bool (decide (e604 = p329))) rfl (p_eq rfl) (lo_t rfl (lo_t rfl rfl)) rfl rfl ?_
      refine send ?_
      refine nseq ?_
      refine djoinM (τ := Int) (σ := Unit) (fun s611 (_ : Unit) => []) (fun s611 (_ : Unit) hh => St φ h.n hh ([(some b596, .cells [.int .i64 e563.A, .int .i64 e563.B, .int .i64 e563.Per, .int .i64 e563.Delay, .int .i64 (w64 ((w64 (2 * s492.1)) + 1))] 65 .exact), (some b573, .cells [.int .i64 e563.A, .int .i64 e563.B, .int .i64 e563.Per, .int .i64 e563.Delay, .int .i64 (w64 (2 * s492.1))] 65 .exact), (some b566, .cells [.int .i64 e563.A, .int .i64 e563.B, .int .i64 e563.Per, .int .i64 e563.Delay] 50 .exact), (some l348, bsy q349), (none, .dead), (some b344, .cells [.int .i64 p326.Nodes, .slice a327 n327 c327, .slice a328 n328 c328] 25 .exact), (some b338, .cells [.int .i64 s611] 3 .exact), (some b334, .cells [.int .i64 p329] 3 .exact), (some b330, .cells [.int .i64 p326.Nodes, .slice a327 n327 c327, .slice a328 n328 c328] 25 .exact)])) ?_ ?_
      · rintro s611 _ t0 h613 X612
        refine nblock ?_
        refine nrnd X612 (j := 3) rfl (fun h616 X617 => ?_)
        refine lpure (v := .bool false) rfl (p_not rfl) rfl rfl ?_
        refine lpure (v := .bool false) rfl (p_pick rfl) rfl rfl ?_
        refine lend ?_
        refine nseq ?_
        refine dcondF rfl rfl ?_
        refine dskip ?_
        refine nblock ?_
        refine nseq ?_
        refine dreg ?_
        refine lpure (v := .int .i64 (w64 (s492.1 + 1))) rfl (p_add rfl) rfl rfl ?_
        refine lpure (v := .int .i64 (w64 (s492.1 + 1))) rfl (p_move rfl) rfl rfl ?_
        refine lend ?_
        exact kbackM ih558 ((w64 (s492.1 + 1)), s611) () (sub_cons rfl (sub_cons rfl (sub_cons rfl (sub_cons rfl sub_nil)))) (St.pick X617 (.skip _ (.skip _ (.skip _ (.keep _ (.none _ (.skip _ (.keep _ (.keep _ (.keep _ (.keep _ (.nil _))))))))))))
      · intro j614 J615
        refine dcond rfl rfl (fun k608 => ?_) (fun k608 => ?_)
        · refine dreg ?_
          refine lread (v := .int .i64 s588) rfl (q_load wd_3 rfl) (St.ld X603 (j := 6) rfl rfl) rfl ?_
          refine lpure (v := .int .i64 (w64 (s588 + 1))) rfl (p_add rfl) rfl rfl ?_
          refine lstore rfl ts_3 rfl rfl (j := 6) rfl rfl rfl rfl rfl rfl X603 (fun h618 X619 => ?_)
          refine lend ?_
          exact jmpM J615 (w64 (s588 + 1)) () sub_nil (St.pick X619 (.keep _ (.keep _ (.keep _ (.keep _ (.none _ (.skip _ (.keep _ (.keep _ (.keep _ (.keep _ (.nil _))))))))))))
        · refine dskip ?_
          exact jmpM J615 s588 () sub_nil (St.pick X603 (.keep _ (.keep _ (.keep _ (.keep _ (.none _ (.skip _ (.keep _ (.keep _ (.keep _ (.keep _ (.nil _))))))))))))
    · intro j591 J592
      refine dcond rfl rfl (fun k585 => ?_) (fun k585 => ?_)
      · refine dreg ?_
        refine lread (v := .int .i64 s492.2) rfl (q_load wd_3 rfl) (St.ld X580 (j := 5) rfl rfl) rfl ?_
        refine lpure (v := .int .i64 (w64 (s492.2 + 1))) rfl (p_add rfl) rfl rfl ?_
        refine lstore rfl ts_3 rfl rfl (j := 5) rfl rfl rfl rfl rfl rfl X580 (fun h620 X621 => ?_)
        refine lend ?_
        exact jmpM J592 (w64 (s492.2 + 1)) () sub_nil (St.pick X621 (.keep _ (.keep _ (.keep _ (.none _ (.skip _ (.keep _ (.keep _ (.keep _ (.keep _ (.nil _)))))))))))
      · refine dskip ?_
        exact jmpM J592 s492.2 () sub_nil (St.pick X580 (.keep _ (.keep _ (.keep _ (.none _ (.skip _ (.keep _ (.keep _ (.keep _ (.keep _ (.nil _)))))))))))
  · refine dexit ?_
    refine eseq ?_
    refine eloop ?_
    refine xblock ?_
    refine kin_n res_0 ?_
    refine rend_n X560 (j := 0) rfl (fun h622 X623 => ?_)
    refine nblock ?_
    refine nseq ?_
    refine dseq ?_
    refine dreg ?_
    refine lread (v := .int .i64 s492.2) rfl (q_load wd_3 rfl) (St.ld X623 (j := 3) rfl rfl) rfl ?_
    refine lpure (v := .int .i64 s492.2) rfl (p_assign rfl) rfl rfl ?_
    refine lend ?_
    refine nseq ?_
    refine dret ?_
    exact kcut_r (res_1 resT) X623 rfl rfl
/-! (isochron/topo.end).to -/
theorem f42_ok {n : Nat} {φ : Fz} {lo : Nat} {h : Heap} {own : OwnL} (X : St φ lo h own) (p723 : TopoEnd) : Sim ((recN Try.prog LL cutF (n + 2)).call 42 #[(.agg #[.int .i64 p723.Link.A, .int .i64 p723.Link.B, .int .i64 p723.Link.Per, .int .i64 p723.Link.Delay, .int .i64 p723.port])] h) (m_topo_end_to p723) (fun (d : Int) p => p = (.int .i64 d, h)) := by
  refine fcut Try.func42 rfl rfl rfl rfl X ?_
  intro h0 X0
  refine dseq ?_
  refine dreg ?_
  refine lbox rfl rfl rfl rfl rfl X0 (fun b724 h726 X727 => ?_)
  refine lpure (v := .int .i64 0) rfl (p_assign rfl) rfl rfl ?_
  refine lend ?_
  refine nseq ?_
  refine dseq ?_
  refine ddraw 0 0 0 (by kernel_rfl) ?_
  refine spure (v := .pointer (some ⟨b724, 0, none⟩)) rfl (p_fa fo_65_0 rfl) (lo_t (lo_own X727 (j := 0) (o := 0) (s := none) (f := 0) rfl) rfl) rfl rfl ?_
  refine spure (v := .pointer (some ⟨b724, 0, none⟩)) rfl (p_fa fo_50_0 rfl) (lo_t (lo_own X727 (j := 0) (o := 0) (s := none) (f := 0) rfl) rfl) rfl rfl ?_
  refine sload (v := .int .i64 p723.Link.A) rfl rfl (q_load wd_3 rfl) (St.ld X727 (j := 0) rfl rfl) (same_self 20 rfl) rfl ?_
  refine spure (v := .pointer (some ⟨b724, 0, none⟩)) rfl (p_fa fo_65_0 rfl) (lo_t (lo_own X727 (j := 0) (o := 0) (s := none) (f := 0) rfl) rfl) rfl rfl ?_
  refine spure (v := .pointer (some ⟨b724, 1, none⟩)) rfl (p_fa fo_50_1 rfl) (lo_t (lo_own X727 (j := 0) (o := 0) (s := none) (f := 0) rfl) rfl) rfl rfl ?_
  refine sload (v := .int .i64 p723.Link.B) rfl rfl (q_load wd_3 rfl) (St.ld X727 (j := 0) rfl rfl) (same_self 20 rfl) rfl ?_
  refine spure (v := .int .i64 (w64 (p723.Link.A + p723.Link.B))) rfl (p_add rfl) (lo_t rfl (lo_t rfl rfl)) rfl rfl ?_
  refine sload (v := .agg #[.int .i64 p723.Link.A, .int .i64 p723.Link.B, .int .i64 p723.Link.Per, .int .i64 p723.Link.Delay, .int .i64 p723.port]) rfl rfl (q_load wd_65 rfl) (St.ld X727 (j := 0) rfl rfl) (same_self 20 rfl) rfl ?_
  refine scall (en := fun d => (.int .i64 d)) rfl rfl ca_41 rfl rfl (f41_ok X727 p723) rfl (fun e728 => ?_)
  refine spure (v := .int .i64 (w64 ((w64 (p723.Link.A + p723.Link.B)) - e728))) rfl (p_sub rfl) (lo_t rfl (lo_t rfl rfl)) rfl rfl ?_
  refine spure (v := .int .i64 (w64 ((w64 (p723.Link.A + p723.Link.B)) - e728))) rfl (p_assign rfl) (lo_t rfl rfl) rfl rfl ?_
  refine send ?_
  refine nseq ?_
  refine dret ?_
  exact kcut_r (res_1 resT) X727 rfl rfl
/-! slices.Index[[]int,int] -/
theorem f52_ok {n : Nat} {φ : Fz} {lo : Nat} {h : Heap} {own : OwnL} (X : St φ lo h own) (p747 : (List Int)) (p749 : Int) {a748 : Option Addr} {n748 c748 : Nat} (H748 : RSl (eInt .i64) φ (.slice a748 n748 c748) p747) : Sim ((recN Try.prog LL cutF (n + 1)).call 52 #[(.slice a748 n748 c748), (.int .i64 p749)] h) (m_slices_Index_int_int p747 p749) (fun (d : Int) p => p = (.int .i64 d, h)) := by
  refine fcut Try.func52 rfl rfl rfl rfl X ?_
  intro h0 X0
  refine dseq ?_
  refine dreg ?_
  refine lpure (v := .int .i64 0) rfl (p_assign rfl) rfl rfl ?_
  refine lend ?_
  refine nseq ?_
  refine dseq ?_
  refine dseq ?_
  refine dreg ?_
  refine lpure (v := .slice a748 n748 c748) rfl (p_move rfl) rfl rfl ?_
  refine lpure (v := .int .i64 (p747.length : Int)) rfl (p_len rfl rfl rfl un_28 rfl) (RSl.lenC H748) rfl ?_
  refine lpure (v := .int .i64 0) rfl (p_move rfl) rfl rfl ?_
  refine lend ?_
  refine nseq ?_
  refine dblock ?_
  refine dloopM (τ := Int) (σ := Unit) (fun s766 (_ : Unit) => [(0, .slice a748 n748 c748), (1, .int .i64 p749), (7, .int .i64 (p747.length : Int)), (8, .int .i64 s766)]) (fun s766 (_ : Unit) hh => St φ h.n hh ([])) 0 () (sub_cons rfl (sub_cons rfl (sub_cons rfl (sub_cons rfl sub_nil)))) X0 ?_
  rintro n776 ih775 s766 _ t0 h778 X777
  refine dseq ?_
  refine dreg ?_
  refine lpure (v := .bool (decide (s766 < (p747.length : Int)))) rfl (p_lt rfl) rfl rfl ?_
  refine lend ?_
  refine nseq ?_
  refine dseq ?_
  refine dcond rfl rfl (fun k779 => ?_) (fun k779 => ?_)
  · refine dskip ?_
    refine nseq ?_
    refine dseq ?_
    refine dblock ?_
    refine dseq ?_
    refine dreg ?_
    refine lpure (v := .int .i64 s766) rfl (p_move rfl) rfl rfl ?_
    refine lpure (v := .int .i64 s766) rfl (p_assign rfl) rfl rfl ?_
    refine lend ?_
    refine nseq ?_
    refine dseq ?_
    refine dreg ?_
    refine lpure (v := .int .i64 p749) rfl (p_move rfl) rfl rfl ?_
    refine lpure (v := .slice a748 n748 c748) rfl (p_move rfl) rfl rfl ?_
    refine lpure (v := .int .i64 s766) rfl (p_move rfl) rfl rfl ?_
    refine Sim.bindM fun e780 he781 => ?_
    obtain ⟨p782, cs782, hp782, hF782, hR782⟩ := RSl.ia H748 he781 (kd := .i64) (n := 1) rfl
    have hR782 : _ = [(.int .i64 e780 : Value)] := hR782
    subst hR782
    refine lpure (v := p782) rfl (p_ia rs_28 rfl) hp782 rfl ?_
    refine lread (v := .int .i64 e780) rfl (q_load wd_3 rfl) (FP.ld X777 hF782) rfl ?_
    refine lpure (v := .bool (decide (p749 = e780))) rfl (p_eq rfl) rfl rfl ?_
    refine lend ?_
    refine nseq ?_
    refine dcond rfl rfl (fun k783 => ?_) (fun k783 => ?_)
    · refine dseq ?_
      refine dreg ?_
      refine lpure (v := .int .i64 s766) rfl (p_move rfl) rfl rfl ?_
      refine lpure (v := .int .i64 s766) rfl (p_assign rfl) rfl rfl ?_
      refine lend ?_
      refine nseq ?_
      refine dret ?_
      refine rblock ?_
      refine rseq ?_
      refine rloop ?_
      refine rblock ?_
      refine rseq ?_
      exact kcut_r (res_1 resT) X777 rfl rfl
    · refine dskip ?_
      refine nblock ?_
      refine nseq ?_
      refine dreg ?_
      refine lpure (v := .int .i64 (w64 (s766 + 1))) rfl (p_add rfl) rfl rfl ?_
      refine lpure (v := .int .i64 (w64 (s766 + 1))) rfl (p_move rfl) rfl rfl ?_
      refine lend ?_
      exact kbackM ih775 (w64 (s766 + 1)) () (sub_cons rfl (sub_cons rfl (sub_cons rfl (sub_cons rfl sub_nil)))) X777
  · refine dexit ?_
    refine eseq ?_
    refine eloop ?_
    refine xblock ?_
    refine nseq ?_
    refine dseq ?_
    refine dreg ?_
    refine lpure (v := .int .i64 (-1)) rfl (p_assign rfl) rfl rfl ?_
    refine lend ?_
    refine nseq ?_
    refine dret ?_
    exact kcut_r (res_1 resT) X777 rfl rfl
/-! slices.Contains[[]int,int] -/
theorem f22_ok {n : Nat} {φ : Fz} {lo : Nat} {h : Heap} {own : OwnL} (X : St φ lo h own) (p744 : (List Int)) (p746 : Int) {a745 : Option Addr} {n745 c745 : Nat} (H745 : RSl (eInt .i64) φ (.slice a745 n745 c745) p744) : Sim ((recN Try.prog LL cutF (n + 2)).call 22 #[(.slice a745 n745 c745), (.int .i64 p746)] h) (m_slices_Contains_int_int p744 p746) (fun (d : Bool) p => p = (.bool d, h)) := by
  refine fcut Try.func22 rfl rfl rfl rfl X ?_
  intro h0 X0
  refine dseq ?_
  refine dreg ?_
  refine lpure (v := .bool false) rfl (p_assign rfl) rfl rfl ?_
  refine lend ?_
  refine nseq ?_
  refine dseq ?_
  refine dreg ?_
  refine lpure (v := .slice a745 n745 c745) rfl (p_move rfl) rfl rfl ?_
  refine lpure (v := .int .i64 p746) rfl (p_move rfl) rfl rfl ?_
  refine lcall rfl rfl ca_52 rfl rfl (f52_ok X0 p744 p746 H745) rfl (fun e784 v785 h786 hq787 => ?_)
  cases hq787
  refine lpure (v := .bool (decide (0 ≤ e784))) rfl (p_ge rfl) rfl rfl ?_
  refine lpure (v := .bool (decide (0 ≤ e784))) rfl (p_assign rfl) rfl rfl ?_
  refine lend ?_
  refine nseq ?_
  refine dret ?_
  exact kcut_r (res_1 resT) X0 rfl rfl
/-! isochron/topo.reach -/
theorem f47_ok {n : Nat} {φ : Fz} {lo : Nat} {h : Heap} {own : OwnL} (X : St φ lo h own) (p3320 : ApiTopo) (p3323 : Int) (p3324 : (List Int)) {a3321 : Option Addr} {n3321 c3321 : Nat} {a3322 : Option Addr} {n3322 c3322 : Nat} {a3325 : Option Addr} {n3325 c3325 : Nat} (H3321 : RSl eBool φ (.slice a3321 n3321 c3321) p3320.Station) (H3322 : RSl eApiLink φ (.slice a3322 n3322 c3322) p3320.Links) (H3325 : RSl (eInt .i64) φ (.slice a3325 n3325 c3325) p3324) : Sim ((recN Try.prog LL cutF (n + 5)).call 47 #[(.agg #[.int .i64 p3320.Nodes, .slice a3321 n3321 c3321, .slice a3322 n3322 c3322]), (.int .i64 p3323), (.slice a3325 n3325 c3325)] h) (m_topo_reach p3320 p3323 p3324) (fun (d : (List Bool)) p => ∃ φ2 : Fz, ∃ a5938 : Option Addr, ∃ n5938 : Nat, ∃ c5938 : Nat, ∃ ob5938 : Option Nat, ∃ blk5938 : Blk, Fz.le φ φ2 ∧ St φ2 lo p.2 ((ob5938, blk5938) :: own) ∧ p.1 = .slice a5938 n5938 c5938 ∧ OSl eBool φ2 4 ob5938 blk5938 (.slice a5938 n5938 c5938) d) := by
  refine fopen Try.func47 rfl rfl rfl rfl ?_
  refine dseq ?_
  refine dreg ?_
  refine lbox rfl rfl rfl rfl rfl X (fun b3326 h3328 X3329 => ?_)
  refine lbox rfl rfl rfl rfl rfl X3329 (fun b3330 h3332 X3333 => ?_)
  refine lpure (v := .slice none 0 0) rfl (p_assign rfl) rfl rfl ?_
  refine lend ?_
  refine nseq ?_
  refine dscope ?_
  refine dseq ?_
  refine dreg ?_
  refine lpure (v := .pointer (some ⟨b3326, 0, none⟩)) rfl (p_fa fo_25_0 rfl) rfl rfl ?_
  refine lread (v := .int .i64 p3320.Nodes) rfl (q_load wd_3 rfl) (St.ld X3333 (j := 1) rfl rfl) rfl ?_
  refine Sim.mustM fun k3334 => ?_
  have k3334 := of_decide_eq_true k3334
  obtain ⟨h3334, b3334, vs3334, hv3334, X3334, O3334⟩ := OSl.mk (E := eBool) (φ := φ) (a0 := false) (k := .i64) (k' := .i64) (l := p3320.Nodes) (c := p3320.Nodes) un_22 tb_4 rfl ts_4 rfl rfl tz_4 rfl rfl rfl (by omega) (by omega) (by omega) X3333
  refine lheap rfl (h_makeSlice rfl) hv3334 rfl ?_
  refine lalloc rfl tz_22 rfl rfl rfl X3334 (fun b3336 h3338 X3339 => ?_)
  refine lstore rfl ts_22 rfl rfl (j := 0) rfl rfl rfl rfl rfl rfl X3339 (fun h3340 X3341 => ?_)
  refine lend ?_
  refine nseq ?_
  refine dseq ?_
  refine dreg ?_
  refine lread (v := .slice (some ⟨b3334, 0, none⟩) (p3320.Nodes).toNat (p3320.Nodes).toNat) rfl (q_load wd_22 rfl) (St.ld X3341 (j := 0) rfl rfl) rfl ?_
  refine lpure (v := .int .i64 p3323) rfl (p_move rfl) rfl rfl ?_
  refine Sim.bindM fun e3342 he3343 => ?_
  obtain ⟨off3344, cs3344, hp3344, hc3344, hR3344, hl3344, hm3344, hs3344⟩ := OSl.iaC O3334 he3343 (kd := .i64) (n := 1) rfl
  have hR3344 : _ = [(.bool e3342 : Value)] := hR3344
  subst hR3344
  refine lpure (v := .pointer (some ⟨b3334, off3344, none⟩)) rfl (p_ia rs_22 rfl) hp3344 rfl ?_
  have O3347 := hs3344 [.bool true] (true) rfl
  refine lstore rfl ts_4 rfl rfl (j := 1) rfl hm3344 rfl rfl (ble_iff.2 hl3344) rfl X3341 (fun h3345 X3346 => ?_)
  refine lend ?_
  refine nseq ?_
  refine dseq ?_
  refine dlabel ?_
  refine nseq ?_
  refine dseq ?_
  refine dblock ?_
  refine dloopM (τ := (List Bool)) (σ := Option Addr × Nat × Nat × Option Nat × Blk) (fun s4641 (a4642, n4642, c4642, ob4642, blk4642) => [(3, .pointer (some ⟨b3326, 0, none⟩)), (5, .pointer (some ⟨b3330, 0, none⟩)), (7, .pointer (some ⟨b3336, 0, none⟩))]) (fun s4641 (a4642, n4642, c4642, ob4642, blk4642) hh => St φ lo hh ((some b3336, .cells [.slice a4642 n4642 c4642] 22 .exact) :: (ob4642, blk4642) :: (some b3330, .cells [.slice a3325 n3325 c3325] 28 .exact) :: (some b3326, .cells [.int .i64 p3320.Nodes, .slice a3321 n3321 c3321, .slice a3322 n3322 c3322] 25 .exact) :: own) ∧ OSl eBool φ 4 ob4642 blk4642 (.slice a4642 n4642 c4642) s4641) ((List.replicate (p3320.Nodes).toNat false).set (p3323).toNat true) ((some ⟨b3334, 0, none⟩), (p3320.Nodes).toNat, (p3320.Nodes).toNat, some b3334, (.cells (setAt vs3334 off3344 [.bool true]) 4 .exact)) (sub_cons rfl (sub_cons rfl (sub_cons rfl sub_nil))) ⟨X3346, O3347⟩ ?_
  rintro n5291 ih5290 s4641 ⟨a4642, n4642, c4642, ob4642, blk4642⟩ t0 h5293 ⟨X5292, O4642⟩
  refine dblock ?_
  refine dseq ?_
  refine dseq ?_
  refine dreg ?_
  refine lread (v := .agg #[.int .i64 p3320.Nodes, .slice a3321 n3321 c3321, .slice a3322 n3322 c3322]) rfl (q_load wd_25 rfl) (St.ld X5292 (j := 3) rfl rfl) rfl ?_
  refine linl rfl rfl rfl rfl ca_40 rfl Try.func40 rfl rfl rfl rfl rfl ?_
  refine dseq ?_
  refine dreg ?_
  refine lbox rfl rfl rfl rfl rfl X5292 (fun b5294 h5296 X5297 => ?_)
  refine lpure (v := .nilFunc) rfl (p_assign rfl) rfl rfl ?_
  refine lend ?_
  refine nseq ?_
  refine dseq ?_
  refine dreg ?_
  refine lpure (v := .func (.func 62) #[] #[.pointer (some ⟨b5294, 0, none⟩)]) rfl (p_makeFunc rfl) rfl rfl ?_
  refine lpure (v := .func (.func 62) #[] #[.pointer (some ⟨b5294, 0, none⟩)]) rfl (p_assign rfl) rfl rfl ?_
  refine lend ?_
  refine nseq ?_
  refine dret ?_
  refine kin_r (res_1 resT) ?_
  refine lend ?_
  refine nseq ?_
  refine dblock ?_
  refine drange rfl rfl ca_62 Try.func62 rfl rfl X5297 (fun _ => rfl) ?_
  intro l5298 q5299 df5300 h5302 Q5301 X5303
  refine dseq ?_
  refine dreg ?_
  refine lpure (v := .pointer (some ⟨b5294, 2, none⟩)) rfl (p_fa fo_25_2 rfl) rfl rfl ?_
  refine lread (v := .slice a3322 n3322 c3322) rfl (q_load wd_23 rfl) (St.ld X5303 (j := 2) rfl rfl) rfl ?_
  refine lpure (v := .int .i64 (p3320.Links.length : Int)) rfl (p_len rfl rfl rfl un_23 rfl) (RSl.lenC H3322) rfl ?_
  refine lpure (v := .int .i64 0) rfl (p_move rfl) rfl rfl ?_
  refine lend ?_
  refine nseq ?_
  refine dblock ?_
  refine dloopM (τ := Int × (List Bool)) (σ := Option Addr × Nat × Nat × Option Nat × Blk) (fun s5621 (a5622, n5622, c5622, ob5622, blk5622) => [(0, .func (.yield l5298) #[] #[]), (6, .slice a3322 n3322 c3322), (7, .int .i64 (p3320.Links.length : Int)), (8, .int .i64 s5621.1)]) (fun s5621 (a5622, n5622, c5622, ob5622, blk5622) hh => St φ lo hh ((some l5298, rdy q5299) :: (none, .dead) :: (some b5294, .cells [.int .i64 p3320.Nodes, .slice a3321 n3321 c3321, .slice a3322 n3322 c3322] 25 .exact) :: (some b3336, .cells [.slice a5622 n5622 c5622] 22 .exact) :: (ob5622, blk5622) :: (some b3330, .cells [.slice a3325 n3325 c3325] 28 .exact) :: (some b3326, .cells [.int .i64 p3320.Nodes, .slice a3321 n3321 c3321, .slice a3322 n3322 c3322] 25 .exact) :: own) ∧ OSl eBool φ 4 ob5622 blk5622 (.slice a5622 n5622 c5622) s5621.2) (0, s4641) (a4642, n4642, c4642, ob4642, blk4642) (sub_cons rfl (sub_cons rfl (sub_cons rfl (sub_cons rfl sub_nil)))) ⟨(St.pick X5303 (.keep _ (.none _ (.skip _ (.keep _ (.keep _ (.keep _ (.keep _ (.keep _ (.refl _)))))))))), O4642⟩ ?_
  rintro n5781 ih5780 s5621 ⟨a5622, n5622, c5622, ob5622, blk5622⟩ t0 h5783 ⟨X5782, O5622⟩
  refine dseq ?_
  refine dreg ?_
  refine lpure (v := .bool (decide (s5621.1 < (p3320.Links.length : Int)))) rfl (p_lt rfl) rfl rfl ?_
  refine lend ?_
  refine nseq ?_
  refine dseq ?_
  refine dcond rfl rfl (fun k5784 => ?_) (fun k5784 => ?_)
  · refine dskip ?_
    refine nseq ?_
    refine dseq ?_
    refine dblock ?_
    refine dseq ?_
    refine dreg ?_
    refine lpure (v := .int .i64 s5621.1) rfl (p_move rfl) rfl rfl ?_
    refine Sim.bindM fun e5785 he5786 => ?_
    obtain ⟨p5787, cs5787, hp5787, hF5787, hR5787⟩ := RSl.ia H3322 he5786 (kd := .i64) (n := 4) rfl
    obtain rfl := eApiLink_el hR5787
    refine lpure (v := p5787) rfl (p_ia rs_23 rfl) hp5787 rfl ?_
    refine lread (v := .agg #[.int .i64 e5785.A, .int .i64 e5785.B, .int .i64 e5785.Per, .int .i64 e5785.Delay]) rfl (q_load wd_50 rfl) (FP.ldw X5782 hF5787 rfl rfl) rfl ?_
    refine lalloc rfl tz_50 rfl rfl rfl X5782 (fun b5788 h5790 X5791 => ?_)
    refine lpure (v := .int .i64 s5621.1) rfl (p_assign rfl) rfl rfl ?_
    refine lstore rfl ts_50 rfl rfl (j := 0) rfl rfl rfl rfl rfl rfl X5791 (fun h5792 X5793 => ?_)
    refine lend ?_
    refine nseq ?_
    refine dseq ?_
    refine dreg ?_
    refine lpure (v := .func (.yield l5298) #[] #[]) rfl (p_move rfl) rfl rfl ?_
    refine lread (v := .agg #[.int .i64 e5785.A, .int .i64 e5785.B, .int .i64 e5785.Per, .int .i64 e5785.Delay]) rfl (q_load wd_50 rfl) (St.ld X5793 (j := 0) rfl rfl) rfl ?_
    refine lpure (v := .int .i64 s5621.1) rfl (p_move rfl) rfl rfl ?_
    refine lpure (v := .int .i64 (w64 (2 * s5621.1))) rfl (p_mul rfl) rfl rfl ?_
    refine lpure (v := .agg #[.int .i64 e5785.A, .int .i64 e5785.B, .int .i64 e5785.Per, .int .i64 e5785.Delay, .int .i64 (w64 (2 * s5621.1))]) rfl (p_build rfl) (build_st' tz_65 pl_65 rfl) rfl ?_
    refine lround rfl rfl rfl rfl rfl rfl X5793 (j := 1) rfl Q5301 rfl rfl rfl rfl rfl (fun t5794 => ?_)
    refine dreg ?_
    refine lalloc rfl tz_65 rfl rfl rfl X5793 (fun b5795 h5797 X5798 => ?_)
    refine lstore rfl ts_65 rfl rfl (j := 0) rfl rfl rfl rfl rfl rfl X5798 (fun h5799 X5800 => ?_)
    refine lend ?_
    refine basg X5800 (j := 2) rfl (fun h5801 X5802 => ?_)
    refine dblock ?_
    refine dseq ?_
    refine ddraw 0 0 0 (by kernel_rfl) ?_
    refine sload (v := .slice a5622 n5622 c5622) rfl rfl (q_load wd_22 rfl) (St.ld X5802 (j := 5) rfl rfl) (same_self 20 rfl) rfl ?_
    refine sload (v := .agg #[.int .i64 e5785.A, .int .i64 e5785.B, .int .i64 e5785.Per, .int .i64 e5785.Delay, .int .i64 (w64 (2 * s5621.1))]) rfl rfl (q_load wd_65 rfl) (St.ld X5802 (j := 0) rfl rfl) (same_self 20 rfl) rfl ?_
    refine scall (en := fun d => (.int .i64 d)) rfl rfl ca_41 rfl rfl (f41_ok X5802 ((TopoEnd.mk e5785 (w64 (2 * s5621.1))))) rfl (fun e5803 => ?_)
    refine Sim.bindM fun e5807 he5808 => ?_
    obtain ⟨b5809, vs5809, m5809, off5809, cs5809, rfl, rfl, hp5809, hc5809, hR5809, hl5809, hm5809, hs5809⟩ := OSl.ia O5622 he5808 (kd := .i64) (n := 1) rfl
    have hR5809 : _ = [(.bool e5807 : Value)] := hR5809
    subst hR5809
    refine spure (v := .pointer (some ⟨b5809, off5809, none⟩)) rfl (p_ia rs_22 rfl) (lo_t (lo_osl X5802 (j := 6) rfl O5622) (lo_t rfl rfl)) hp5809 rfl ?_
    refine sload (v := .bool e5807) rfl rfl (q_load wd_4 rfl) (St.ld X5802 (j := 6) rfl (rdE1 hc5809 (k := 0) rfl rfl)) (same_self 20 rfl) rfl ?_
    refine spure (v := .bool e5807) rfl (p_move rfl) (lo_t rfl rfl) rfl rfl ?_
    refine sjoinM (τ := Bool) (σ := Unit) (fun s5819 (_ : Unit) => [(5, .pointer (some ⟨b3330, 0, none⟩)), (7, .pointer (some ⟨b3336, 0, none⟩)), (8, .pointer (some ⟨b5795, 0, none⟩)), (30, .bool s5819)]) (fun s5819 (_ : Unit) hh => St φ lo hh ((some b5795, .cells [.int .i64 e5785.A, .int .i64 e5785.B, .int .i64 e5785.Per, .int .i64 e5785.Delay, .int .i64 (w64 (2 * s5621.1))] 65 .exact) :: (some b5788, .cells [.int .i64 e5785.A, .int .i64 e5785.B, .int .i64 e5785.Per, .int .i64 e5785.Delay] 50 .exact) :: (some l5298, bsy q5299) :: (none, .dead) :: (some b5294, .cells [.int .i64 p3320.Nodes, .slice a3321 n3321 c3321, .slice a3322 n3322 c3322] 25 .exact) :: (some b3336, .cells [.slice a5622 n5622 c5622] 22 .exact) :: (some b5809, .cells vs5809 4 m5809) :: (some b3330, .cells [.slice a3325 n3325 c3325] 28 .exact) :: (some b3326, .cells [.int .i64 p3320.Nodes, .slice a3321 n3321 c3321, .slice a3322 n3322 c3322] 25 .exact) :: own)) 7 13 ?_ ?_
    · rintro s5819 _ t0 h5821 X5820
      refine spure (v := .bool s5819) rfl (p_move rfl) (lo_t rfl rfl) rfl rfl ?_
      refine sjoinM (τ := Bool) (σ := Unit) (fun s5828 (_ : Unit) => [(7, .pointer (some ⟨b3336, 0, none⟩)), (8, .pointer (some ⟨b5795, 0, none⟩)), (38, .bool s5828)]) (fun s5828 (_ : Unit) hh => St φ lo hh ((some b5795, .cells [.int .i64 e5785.A, .int .i64 e5785.B, .int .i64 e5785.Per, .int .i64 e5785.Delay, .int .i64 (w64 (2 * s5621.1))] 65 .exact) :: (some b5788, .cells [.int .i64 e5785.A, .int .i64 e5785.B, .int .i64 e5785.Per, .int .i64 e5785.Delay] 50 .exact) :: (some l5298, bsy q5299) :: (none, .dead) :: (some b5294, .cells [.int .i64 p3320.Nodes, .slice a3321 n3321 c3321, .slice a3322 n3322 c3322] 25 .exact) :: (some b3336, .cells [.slice a5622 n5622 c5622] 22 .exact) :: (some b5809, .cells vs5809 4 m5809) :: (some b3330, .cells [.slice a3325 n3325 c3325] 28 .exact) :: (some b3326, .cells [.int .i64 p3320.Nodes, .slice a3321 n3321 c3321, .slice a3322 n3322 c3322] 25 .exact) :: own)) 7 21 ?_ ?_
      · rintro s5828 _ t0 h5830 X5829
        refine send ?_
        refine nseq ?_
        refine dcond rfl rfl (fun k5831 => ?_) (fun k5831 => ?_)
        · refine dseq ?_
          refine ddraw 16 16 0 (by kernel_rfl) ?_
          refine sload (v := .slice a5622 n5622 c5622) rfl rfl (q_load wd_22 rfl) (St.ld X5829 (j := 5) rfl rfl) (same_self 20 rfl) rfl ?_
          refine sload (v := .agg #[.int .i64 e5785.A, .int .i64 e5785.B, .int .i64 e5785.Per, .int .i64 e5785.Delay, .int .i64 (w64 (2 * s5621.1))]) rfl rfl (q_load wd_65 rfl) (St.ld X5829 (j := 0) rfl rfl) (same_self 20 rfl) rfl ?_
          refine scall (en := fun d => (.int .i64 d)) rfl rfl ca_42 rfl rfl (f42_ok X5829 ((TopoEnd.mk e5785 (w64 (2 * s5621.1))))) rfl (fun e5832 => ?_)
          refine Sim.bindM fun e5836 he5837 => ?_
          obtain ⟨off5838, cs5838, hp5838, hc5838, hR5838, hl5838, hm5838, hs5838⟩ := OSl.iaC O5622 he5837 (kd := .i64) (n := 1) rfl
          have hR5838 : _ = [(.bool e5836 : Value)] := hR5838
          subst hR5838
          refine spure (v := .pointer (some ⟨b5809, off5838, none⟩)) rfl (p_ia rs_22 rfl) (lo_t (lo_osl X5829 (j := 6) rfl O5622) (lo_t rfl rfl)) hp5838 rfl ?_
          have O5841 := hs5838 [.bool true] (true) rfl
          refine sstore rfl rfl ts_4 rfl rfl (j := 6) rfl hm5838 rfl rfl (ble_iff.2 hl5838) rfl X5829 (fun h5839 X5840 => ?_)
          refine send ?_
          refine nseq ?_
          refine dexit ?_
          refine eblock rfl ?_
          refine ernd X5840 (j := 2) rfl (fun h5842 X5843 => ?_)
          refine lpure (v := .bool true) rfl (p_not rfl) rfl rfl ?_
          refine lpure (v := .bool true) rfl (p_move rfl) rfl rfl ?_
          refine lskip rfl rfl ?_
          refine lskip rfl rfl ?_
          refine lskip rfl rfl ?_
          refine lskip rfl rfl ?_
          refine lskip rfl rfl ?_
          refine lskip rfl rfl ?_
          refine lskip rfl rfl ?_
          refine lskip rfl rfl ?_
          refine lpure (v := .bool true) rfl (p_pick rfl) rfl rfl ?_
          refine lend ?_
          refine nseq ?_
          refine dcondT rfl rfl ?_
          refine dret ?_
          refine rblock ?_
          refine rseq ?_
          refine rloop ?_
          refine rblock ?_
          refine kin_r res_0 ?_
          refine rend_d X5843 (j := 2) rfl (.inr ⟨_, rfl, rfl⟩) (fun h5844 X5845 => ?_)
          refine eblock rfl ?_
          refine eseq ?_
          refine xblock ?_
          exact kbackM ih5290 (s5621.2.set (e5832).toNat true) (a5622, n5622, c5622, some b5809, (.cells (setAt vs5809 off5838 [.bool true]) 4 m5809)) (sub_cons rfl (sub_cons rfl (sub_cons rfl sub_nil))) ⟨(St.pick X5845 (.skip _ (.skip _ (.skip _ (.skip _ (.skip _ (.keep _ (.keep _ (.keep _ (.keep _ (.refl _))))))))))), O5841⟩
        · refine dskip ?_
          refine nblock ?_
          refine nrnd X5829 (j := 2) rfl (fun h5846 X5847 => ?_)
          refine lpure (v := .bool false) rfl (p_not rfl) rfl rfl ?_
          refine lpure (v := .bool false) rfl (p_move rfl) rfl rfl ?_
          refine lpure (v := .func (.yield l5298) #[] #[]) rfl (p_move rfl) rfl rfl ?_
          refine lread (v := .agg #[.int .i64 e5785.A, .int .i64 e5785.B, .int .i64 e5785.Per, .int .i64 e5785.Delay]) rfl (q_load wd_50 rfl) (St.ld X5847 (j := 1) rfl rfl) rfl ?_
          refine lpure (v := .int .i64 s5621.1) rfl (p_move rfl) rfl rfl ?_
          refine lpure (v := .int .i64 (w64 (2 * s5621.1))) rfl (p_mul rfl) rfl rfl ?_
          refine lpure (v := .int .i64 (w64 ((w64 (2 * s5621.1)) + 1))) rfl (p_add rfl) rfl rfl ?_
          refine lpure (v := .agg #[.int .i64 e5785.A, .int .i64 e5785.B, .int .i64 e5785.Per, .int .i64 e5785.Delay, .int .i64 (w64 ((w64 (2 * s5621.1)) + 1))]) rfl (p_build rfl) (build_st' tz_65 pl_65 rfl) rfl ?_
          refine lround rfl rfl rfl rfl rfl rfl X5847 (j := 2) rfl Q5301 rfl rfl rfl rfl rfl (fun t5848 => ?_)
          refine dreg ?_
          refine lalloc rfl tz_65 rfl rfl rfl X5847 (fun b5849 h5851 X5852 => ?_)
          refine lstore rfl ts_65 rfl rfl (j := 0) rfl rfl rfl rfl rfl rfl X5852 (fun h5853 X5854 => ?_)
          refine lend ?_
          refine basg X5854 (j := 3) rfl (fun h5855 X5856 => ?_)
          refine dblock ?_
          refine dseq ?_
          refine ddraw 0 0 0 (by kernel_rfl) ?_
          refine sload (v := .slice a5622 n5622 c5622) rfl rfl (q_load wd_22 rfl) (St.ld X5856 (j := 6) rfl rfl) (same_self 20 rfl) rfl ?_
          refine sload (v := .agg #[.int .i64 e5785.A, .int .i64 e5785.B, .int .i64 e5785.Per, .int .i64 e5785.Delay, .int .i64 (w64 ((w64 (2 * s5621.1)) + 1))]) rfl rfl (q_load wd_65 rfl) (St.ld X5856 (j := 0) rfl rfl) (same_self 20 rfl) rfl ?_
          refine scall (en := fun d => (.int .i64 d)) rfl rfl ca_41 rfl rfl (f41_ok X5856 ((TopoEnd.mk e5785 (w64 ((w64 (2 * s5621.1)) + 1))))) rfl (fun e5857 => ?_)
          refine Sim.bindM fun e5861 he5862 => ?_
          obtain ⟨off5863, cs5863, hp5863, hc5863, hR5863, hl5863, hm5863, hs5863⟩ := OSl.iaC O5622 he5862 (kd := .i64) (n := 1) rfl
          have hR5863 : _ = [(.bool e5861 : Value)] := hR5863
          subst hR5863
          refine spure (v := .pointer (some ⟨b5809, off5863, none⟩)) rfl (p_ia rs_22 rfl) (lo_t (lo_osl X5856 (j := 7) rfl O5622) (lo_t rfl rfl)) hp5863 rfl ?_
          refine sload (v := .bool e5861) rfl rfl (q_load wd_4 rfl) (St.ld X5856 (j := 7) rfl (rdE1 hc5863 (k := 0) rfl rfl)) (same_self 20 rfl) rfl ?_
          refine spure (v := .bool e5861) rfl (p_move rfl) (lo_t rfl rfl) rfl rfl ?_
          refine sjoinM (τ := Bool) (σ := Unit) (fun s5873 (_ : Unit) => [(5, .pointer (some ⟨b3330, 0, none⟩)), (7, .pointer (some ⟨b3336, 0, none⟩)), (8, .pointer (some ⟨b5849, 0, none⟩)), (30, .bool s5873)]) (fun s5873 (_ : Unit) hh => St φ lo hh ((some b5849, .cells [.int .i64 e5785.A, .int .i64 e5785.B, .int .i64 e5785.Per, .int .i64 e5785.Delay, .int .i64 (w64 ((w64 (2 * s5621.1)) + 1))] 65 .exact) :: (some b5795, .cells [.int .i64 e5785.A, .int .i64 e5785.B, .int .i64 e5785.Per, .int .i64 e5785.Delay, .int .i64 (w64 (2 * s5621.1))] 65 .exact) :: (some b5788, .cells [.int .i64 e5785.A, .int .i64 e5785.B, .int .i64 e5785.Per, .int .i64 e5785.Delay] 50 .exact) :: (some l5298, bsy q5299) :: (none, .dead) :: (some b5294, .cells [.int .i64 p3320.Nodes, .slice a3321 n3321 c3321, .slice a3322 n3322 c3322] 25 .exact) :: (some b3336, .cells [.slice a5622 n5622 c5622] 22 .exact) :: (some b5809, .cells vs5809 4 m5809) :: (some b3330, .cells [.slice a3325 n3325 c3325] 28 .exact) :: (some b3326, .cells [.int .i64 p3320.Nodes, .slice a3321 n3321 c3321, .slice a3322 n3322 c3322] 25 .exact) :: own)) 7 13 ?_ ?_
          · rintro s5873 _ t0 h5875 X5874
            refine spure (v := .bool s5873) rfl (p_move rfl) (lo_t rfl rfl) rfl rfl ?_
            refine sjoinM (τ := Bool) (σ := Unit) (fun s5882 (_ : Unit) => [(7, .pointer (some ⟨b3336, 0, none⟩)), (8, .pointer (some ⟨b5849, 0, none⟩)), (38, .bool s5882)]) (fun s5882 (_ : Unit) hh => St φ lo hh ((some b5849, .cells [.int .i64 e5785.A, .int .i64 e5785.B, .int .i64 e5785.Per, .int .i64 e5785.Delay, .int .i64 (w64 ((w64 (2 * s5621.1)) + 1))] 65 .exact) :: (some b5795, .cells [.int .i64 e5785.A, .int .i64 e5785.B, .int .i64 e5785.Per, .int .i64 e5785.Delay, .int .i64 (w64 (2 * s5621.1))] 65 .exact) :: (some b5788, .cells [.int .i64 e5785.A, .int .i64 e5785.B, .int .i64 e5785.Per, .int .i64 e5785.Delay] 50 .exact) :: (some l5298, bsy q5299) :: (none, .dead) :: (some b5294, .cells [.int .i64 p3320.Nodes, .slice a3321 n3321 c3321, .slice a3322 n3322 c3322] 25 .exact) :: (some b3336, .cells [.slice a5622 n5622 c5622] 22 .exact) :: (some b5809, .cells vs5809 4 m5809) :: (some b3330, .cells [.slice a3325 n3325 c3325] 28 .exact) :: (some b3326, .cells [.int .i64 p3320.Nodes, .slice a3321 n3321 c3321, .slice a3322 n3322 c3322] 25 .exact) :: own)) 7 21 ?_ ?_
            · rintro s5882 _ t0 h5884 X5883
              refine send ?_
              refine nseq ?_
              refine dcond rfl rfl (fun k5885 => ?_) (fun k5885 => ?_)
              · refine dseq ?_
                refine ddraw 16 16 0 (by kernel_rfl) ?_
                refine sload (v := .slice a5622 n5622 c5622) rfl rfl (q_load wd_22 rfl) (St.ld X5883 (j := 6) rfl rfl) (same_self 20 rfl) rfl ?_
                refine sload (v := .agg #[.int .i64 e5785.A, .int .i64 e5785.B, .int .i64 e5785.Per, .int .i64 e5785.Delay, .int .i64 (w64 ((w64 (2 * s5621.1)) + 1))]) rfl rfl (q_load wd_65 rfl) (St.ld X5883 (j := 0) rfl rfl) (same_self 20 rfl) rfl ?_
                refine scall (en := fun d => (.int .i64 d)) rfl rfl ca_42 rfl rfl (f42_ok X5883 ((TopoEnd.mk e5785 (w64 ((w64 (2 * s5621.1)) + 1))))) rfl (fun e5886 => ?_)
                refine Sim.bindM fun e5890 he5891 => ?_
                obtain ⟨off5892, cs5892, hp5892, hc5892, hR5892, hl5892, hm5892, hs5892⟩ := OSl.iaC O5622 he5891 (kd := .i64) (n := 1) rfl
                have hR5892 : _ = [(.bool e5890 : Value)] := hR5892
                subst hR5892
                refine spure (v := .pointer (some ⟨b5809, off5892, none⟩)) rfl (p_ia rs_22 rfl) (lo_t (lo_osl X5883 (j := 7) rfl O5622) (lo_t rfl rfl)) hp5892 rfl ?_
                have O5895 := hs5892 [.bool true] (true) rfl
                refine sstore rfl rfl ts_4 rfl rfl (j := 7) rfl hm5892 rfl rfl (ble_iff.2 hl5892) rfl X5883 (fun h5893 X5894 => ?_)
                refine send ?_
                refine nseq ?_
                refine dexit ?_
                refine eblock rfl ?_
                refine ernd X5894 (j := 3) rfl (fun h5896 X5897 => ?_)
                refine lpure (v := .bool true) rfl (p_not rfl) rfl rfl ?_
                refine lpure (v := .bool true) rfl (p_pick rfl) rfl rfl ?_
                refine lend ?_
                refine nseq ?_
                refine dcondT rfl rfl ?_
                refine dret ?_
                refine rblock ?_
                refine rseq ?_
                refine rloop ?_
                refine rblock ?_
                refine kin_r res_0 ?_
                refine rend_d X5897 (j := 3) rfl (.inr ⟨_, rfl, rfl⟩) (fun h5898 X5899 => ?_)
                refine eblock rfl ?_
                refine eseq ?_
                refine xblock ?_
                exact kbackM ih5290 (s5621.2.set (e5886).toNat true) (a5622, n5622, c5622, some b5809, (.cells (setAt vs5809 off5892 [.bool true]) 4 m5809)) (sub_cons rfl (sub_cons rfl (sub_cons rfl sub_nil))) ⟨(St.pick X5899 (.skip _ (.skip _ (.skip _ (.skip _ (.skip _ (.skip _ (.keep _ (.keep _ (.keep _ (.keep _ (.refl _)))))))))))), O5895⟩
              · refine dskip ?_
                refine nblock ?_
                refine nrnd X5883 (j := 3) rfl (fun h5900 X5901 => ?_)
                refine lpure (v := .bool false) rfl (p_not rfl) rfl rfl ?_
                refine lpure (v := .bool false) rfl (p_pick rfl) rfl rfl ?_
                refine lend ?_
                refine nseq ?_
                refine dcondF rfl rfl ?_
                refine dskip ?_
                refine nblock ?_
                refine nseq ?_
                refine dreg ?_
                refine lpure (v := .int .i64 (w64 (s5621.1 + 1))) rfl (p_add rfl) rfl rfl ?_
                refine lpure (v := .int .i64 (w64 (s5621.1 + 1))) rfl (p_move rfl) rfl rfl ?_
                refine lend ?_
                exact kbackM ih5780 ((w64 (s5621.1 + 1)), s5621.2) (a5622, n5622, c5622, some b5809, .cells vs5809 4 m5809) (sub_cons rfl (sub_cons rfl (sub_cons rfl (sub_cons rfl sub_nil)))) ⟨(St.pick X5901 (.skip _ (.skip _ (.skip _ (.keep _ (.none _ (.skip _ (.keep _ (.keep _ (.keep _ (.keep _ (.keep _ (.refl _))))))))))))), O5622⟩
            · intro j5902 J5903
              refine sif (j := 31) (show _ = Value.bool s5873 from rfl) (fun k5904 => ?_) (fun k5904 => ?_)
              · refine sload (v := .slice a3325 n3325 c3325) rfl rfl (q_load wd_28 rfl) (St.ld X5874 (j := 8) rfl rfl) (same_self 20 rfl) rfl ?_
                refine spure (v := .pointer (some ⟨b5849, 4, none⟩)) rfl (p_fa fo_65_1 rfl) (lo_t (lo_own X5874 (j := 0) (o := 0) (s := none) (f := 0) rfl) rfl) rfl rfl ?_
                refine sload (v := .int .i64 (w64 ((w64 (2 * s5621.1)) + 1))) rfl rfl (q_load wd_3 rfl) (St.ld X5874 (j := 0) rfl rfl) (same_self 20 rfl) rfl ?_
                refine spure (v := .int .i64 (w64 (Int.tdiv (w64 ((w64 (2 * s5621.1)) + 1)) 2))) rfl (p_quo rfl) (lo_t rfl (lo_c rfl)) rfl rfl ?_
                refine scall (en := fun d => (.bool d)) rfl rfl ca_22 rfl rfl (f22_ok X5874 p3324 ((w64 (Int.tdiv (w64 ((w64 (2 * s5621.1)) + 1)) 2))) H3325) rfl (fun e5905 => ?_)
                refine spure (v := .bool (!e5905)) rfl (p_not rfl) (lo_t rfl rfl) rfl rfl ?_
                refine spure (v := .bool (!e5905)) rfl (p_pick rfl) (lo_t rfl (lo_t rfl (lo_c rfl))) rfl rfl ?_
                exact sjmpM J5903 (!e5905) () (sub_cons rfl (sub_cons rfl (sub_cons rfl sub_nil))) (St.pick X5874 (.keep _ (.keep _ (.keep _ (.keep _ (.none _ (.skip _ (.keep _ (.keep _ (.keep _ (.keep _ (.keep _ (.refl _)))))))))))))
              · refine sskip rfl rfl ?_
                refine sskip rfl rfl ?_
                refine sskip rfl rfl ?_
                refine sskip rfl rfl ?_
                refine sskip rfl rfl ?_
                refine sskip rfl rfl ?_
                refine spure (v := .bool false) rfl (p_pick rfl) (lo_t rfl (lo_t rfl (lo_c rfl))) rfl rfl ?_
                exact sjmpM J5903 false () (sub_cons rfl (sub_cons rfl (sub_cons rfl sub_nil))) (St.pick X5874 (.keep _ (.keep _ (.keep _ (.keep _ (.none _ (.skip _ (.keep _ (.keep _ (.keep _ (.keep _ (.keep _ (.refl _)))))))))))))
          · intro j5909 J5910
            refine sif (j := 23) (show _ = Value.bool e5861 from rfl) (fun k5911 => ?_) (fun k5911 => ?_)
            · refine sload (v := .slice a5622 n5622 c5622) rfl rfl (q_load wd_22 rfl) (St.ld X5856 (j := 6) rfl rfl) (same_self 20 rfl) rfl ?_
              refine sload (v := .agg #[.int .i64 e5785.A, .int .i64 e5785.B, .int .i64 e5785.Per, .int .i64 e5785.Delay, .int .i64 (w64 ((w64 (2 * s5621.1)) + 1))]) rfl rfl (q_load wd_65 rfl) (St.ld X5856 (j := 0) rfl rfl) (same_self 20 rfl) rfl ?_
              refine scall (en := fun d => (.int .i64 d)) rfl rfl ca_42 rfl rfl (f42_ok X5856 ((TopoEnd.mk e5785 (w64 ((w64 (2 * s5621.1)) + 1))))) rfl (fun e5912 => ?_)
              refine Sim.bindM fun e5916 he5917 => ?_
              obtain ⟨off5918, cs5918, hp5918, hc5918, hR5918, hl5918, hm5918, hs5918⟩ := OSl.iaC O5622 he5917 (kd := .i64) (n := 1) rfl
              have hR5918 : _ = [(.bool e5916 : Value)] := hR5918
              subst hR5918
              refine spure (v := .pointer (some ⟨b5809, off5918, none⟩)) rfl (p_ia rs_22 rfl) (lo_t (lo_osl X5856 (j := 7) rfl O5622) (lo_t rfl rfl)) hp5918 rfl ?_
              refine sload (v := .bool e5916) rfl rfl (q_load wd_4 rfl) (St.ld X5856 (j := 7) rfl (rdE1 hc5918 (k := 0) rfl rfl)) (same_self 20 rfl) rfl ?_
              refine spure (v := .bool (!e5916)) rfl (p_not rfl) (lo_t rfl rfl) rfl rfl ?_
              refine spure (v := .bool (!e5916)) rfl (p_pick rfl) (lo_t rfl (lo_t rfl (lo_c rfl))) rfl rfl ?_
              exact sjmpM J5910 (!e5916) () (sub_cons rfl (sub_cons rfl (sub_cons rfl (sub_cons rfl sub_nil)))) (St.pick X5856 (.keep _ (.keep _ (.keep _ (.keep _ (.none _ (.skip _ (.keep _ (.keep _ (.keep _ (.keep _ (.keep _ (.refl _)))))))))))))
            · refine sskip rfl rfl ?_
              refine sskip rfl rfl ?_
              refine sskip rfl rfl ?_
              refine sskip rfl rfl ?_
              refine sskip rfl rfl ?_
              refine sskip rfl rfl ?_
              refine spure (v := .bool false) rfl (p_pick rfl) (lo_t rfl (lo_t rfl (lo_c rfl))) rfl rfl ?_
              exact sjmpM J5910 false () (sub_cons rfl (sub_cons rfl (sub_cons rfl (sub_cons rfl sub_nil)))) (St.pick X5856 (.keep _ (.keep _ (.keep _ (.keep _ (.none _ (.skip _ (.keep _ (.keep _ (.keep _ (.keep _ (.keep _ (.refl _)))))))))))))
      · intro j5919 J5920
        refine sif (j := 31) (show _ = Value.bool s5819 from rfl) (fun k5921 => ?_) (fun k5921 => ?_)
        · refine sload (v := .slice a3325 n3325 c3325) rfl rfl (q_load wd_28 rfl) (St.ld X5820 (j := 7) rfl rfl) (same_self 20 rfl) rfl ?_
          refine spure (v := .pointer (some ⟨b5795, 4, none⟩)) rfl (p_fa fo_65_1 rfl) (lo_t (lo_own X5820 (j := 0) (o := 0) (s := none) (f := 0) rfl) rfl) rfl rfl ?_
          refine sload (v := .int .i64 (w64 (2 * s5621.1))) rfl rfl (q_load wd_3 rfl) (St.ld X5820 (j := 0) rfl rfl) (same_self 20 rfl) rfl ?_
          refine spure (v := .int .i64 (w64 (Int.tdiv (w64 (2 * s5621.1)) 2))) rfl (p_quo rfl) (lo_t rfl (lo_c rfl)) rfl rfl ?_
          refine scall (en := fun d => (.bool d)) rfl rfl ca_22 rfl rfl (f22_ok X5820 p3324 ((w64 (Int.tdiv (w64 (2 * s5621.1)) 2))) H3325) rfl (fun e5922 => ?_)
          refine spure (v := .bool (!e5922)) rfl (p_not rfl) (lo_t rfl rfl) rfl rfl ?_
          refine spure (v := .bool (!e5922)) rfl (p_pick rfl) (lo_t rfl (lo_t rfl (lo_c rfl))) rfl rfl ?_
          exact sjmpM J5920 (!e5922) () (sub_cons rfl (sub_cons rfl (sub_cons rfl sub_nil))) (St.pick X5820 (.keep _ (.keep _ (.keep _ (.none _ (.skip _ (.keep _ (.keep _ (.keep _ (.keep _ (.keep _ (.refl _))))))))))))
        · refine sskip rfl rfl ?_
          refine sskip rfl rfl ?_
          refine sskip rfl rfl ?_
          refine sskip rfl rfl ?_
          refine sskip rfl rfl ?_
          refine sskip rfl rfl ?_
          refine spure (v := .bool false) rfl (p_pick rfl) (lo_t rfl (lo_t rfl (lo_c rfl))) rfl rfl ?_
          exact sjmpM J5920 false () (sub_cons rfl (sub_cons rfl (sub_cons rfl sub_nil))) (St.pick X5820 (.keep _ (.keep _ (.keep _ (.none _ (.skip _ (.keep _ (.keep _ (.keep _ (.keep _ (.keep _ (.refl _))))))))))))
    · intro j5926 J5927
      refine sif (j := 23) (show _ = Value.bool e5807 from rfl) (fun k5928 => ?_) (fun k5928 => ?_)
      · refine sload (v := .slice a5622 n5622 c5622) rfl rfl (q_load wd_22 rfl) (St.ld X5802 (j := 5) rfl rfl) (same_self 20 rfl) rfl ?_
        refine sload (v := .agg #[.int .i64 e5785.A, .int .i64 e5785.B, .int .i64 e5785.Per, .int .i64 e5785.Delay, .int .i64 (w64 (2 * s5621.1))]) rfl rfl (q_load wd_65 rfl) (St.ld X5802 (j := 0) rfl rfl) (same_self 20 rfl) rfl ?_
        refine scall (en := fun d => (.int .i64 d)) rfl rfl ca_42 rfl rfl (f42_ok X5802 ((TopoEnd.mk e5785 (w64 (2 * s5621.1))))) rfl (fun e5929 => ?_)
        refine Sim.bindM fun e5933 he5934 => ?_
        obtain ⟨off5935, cs5935, hp5935, hc5935, hR5935, hl5935, hm5935, hs5935⟩ := OSl.iaC O5622 he5934 (kd := .i64) (n := 1) rfl
        have hR5935 : _ = [(.bool e5933 : Value)] := hR5935
        subst hR5935
        refine spure (v := .pointer (some ⟨b5809, off5935, none⟩)) rfl (p_ia rs_22 rfl) (lo_t (lo_osl X5802 (j := 6) rfl O5622) (lo_t rfl rfl)) hp5935 rfl ?_
        refine sload (v := .bool e5933) rfl rfl (q_load wd_4 rfl) (St.ld X5802 (j := 6) rfl (rdE1 hc5935 (k := 0) rfl rfl)) (same_self 20 rfl) rfl ?_
        refine spure (v := .bool (!e5933)) rfl (p_not rfl) (lo_t rfl rfl) rfl rfl ?_
        refine spure (v := .bool (!e5933)) rfl (p_pick rfl) (lo_t rfl (lo_t rfl (lo_c rfl))) rfl rfl ?_
        exact sjmpM J5927 (!e5933) () (sub_cons rfl (sub_cons rfl (sub_cons rfl (sub_cons rfl sub_nil)))) (St.pick X5802 (.keep _ (.keep _ (.keep _ (.none _ (.skip _ (.keep _ (.keep _ (.keep _ (.keep _ (.keep _ (.refl _))))))))))))
      · refine sskip rfl rfl ?_
        refine sskip rfl rfl ?_
        refine sskip rfl rfl ?_
        refine sskip rfl rfl ?_
        refine sskip rfl rfl ?_
        refine sskip rfl rfl ?_
        refine spure (v := .bool false) rfl (p_pick rfl) (lo_t rfl (lo_t rfl (lo_c rfl))) rfl rfl ?_
        exact sjmpM J5927 false () (sub_cons rfl (sub_cons rfl (sub_cons rfl (sub_cons rfl sub_nil)))) (St.pick X5802 (.keep _ (.keep _ (.keep _ (.none _ (.skip _ (.keep _ (.keep _ (.keep _ (.keep _ (.keep _ (.refl _))))))))))))
  · refine dexit ?_
    refine eseq ?_
    refine eloop ?_
    refine xblock ?_
    refine kin_n res_0 ?_
    refine rend_n X5782 (j := 0) rfl (fun h5936 X5937 => ?_)
    refine nblock ?_
    refine nseq ?_
    refine dexit ?_
    refine eblock rfl ?_
    refine eloop ?_
    refine xblock ?_
    refine nseq ?_
    refine dseq ?_
    refine dreg ?_
    refine lread (v := .slice a5622 n5622 c5622) rfl (q_load wd_22 rfl) (St.ld X5937 (j := 3) rfl rfl) rfl ?_
    refine lpure (v := .slice a5622 n5622 c5622) rfl (p_assign rfl) rfl rfl ?_
    refine lend ?_
    refine nseq ?_
    refine dret ?_
    refine rscope ?_
    exact kopen_r (res_1 resT) ⟨φ, a5622, n5622, c5622, ob5622, blk5622, (Fz.le_refl _), St.pick (St.front X5937 (j := 4) rfl) (.keep _ (.skip _ (.skip _ (.skip _ (.skip _ (.skip _ (.skip _ (.refl _)))))))), rfl, O5622⟩
/-! slices.Index[[]bool,bool] -/
theorem f51_ok {n : Nat} {φ : Fz} {lo : Nat} {h : Heap} {own : OwnL} (X : St φ lo h own) (p5952 : (List Bool)) (p5954 : Bool) {a5953 : Option Addr} {n5953 c5953 : Nat} (H5953 : RSl eBool φ (.slice a5953 n5953 c5953) p5952) : Sim ((recN Try.prog LL cutF (n + 1)).call 51 #[(.slice a5953 n5953 c5953), (.bool p5954)] h) (m_slices_Index_bool_bool p5952 p5954) (fun (d : Int) p => p = (.int .i64 d, h)) := by
  refine fcut Try.func51 rfl rfl rfl rfl X ?_
  intro h0 X0
  refine dseq ?_
  refine dreg ?_
  refine lpure (v := .int .i64 0) rfl (p_assign rfl) rfl rfl ?_
  refine lend ?_
  refine nseq ?_
  refine dseq ?_
  refine dseq ?_
  refine dreg ?_
  refine lpure (v := .slice a5953 n5953 c5953) rfl (p_move rfl) rfl rfl ?_
  refine lpure (v := .int .i64 (p5952.length : Int)) rfl (p_len rfl rfl rfl un_22 rfl) (RSl.lenC H5953) rfl ?_
  refine lpure (v := .int .i64 0) rfl (p_move rfl) rfl rfl ?_
  refine lend ?_
  refine nseq ?_
  refine dblock ?_
  refine dloopM (τ := Int) (σ := Unit) (fun s5971 (_ : Unit) => [(0, .slice a5953 n5953 c5953), (1, .bool p5954), (7, .int .i64 (p5952.length : Int)), (8, .int .i64 s5971)]) (fun s5971 (_ : Unit) hh => St φ h.n hh ([])) 0 () (sub_cons rfl (sub_cons rfl (sub_cons rfl (sub_cons rfl sub_nil)))) X0 ?_
  rintro n5981 ih5980 s5971 _ t0 h5983 X5982
  refine dseq ?_
  refine dreg ?_
  refine lpure (v := .bool (decide (s5971 < (p5952.length : Int)))) rfl (p_lt rfl) rfl rfl ?_
  refine lend ?_
  refine nseq ?_
  refine dseq ?_
  refine dcond rfl rfl (fun k5984 => ?_) (fun k5984 => ?_)
  · refine dskip ?_
    refine nseq ?_
    refine dseq ?_
    refine dblock ?_
    refine dseq ?_
    refine dreg ?_
    refine lpure (v := .int .i64 s5971) rfl (p_move rfl) rfl rfl ?_
    refine lpure (v := .int .i64 s5971) rfl (p_assign rfl) rfl rfl ?_
    refine lend ?_
    refine nseq ?_
    refine dseq ?_
    refine dreg ?_
    refine lpure (v := .bool p5954) rfl (p_move rfl) rfl rfl ?_
    refine lpure (v := .slice a5953 n5953 c5953) rfl (p_move rfl) rfl rfl ?_
    refine lpure (v := .int .i64 s5971) rfl (p_move rfl) rfl rfl ?_
    refine Sim.bindM fun e5985 he5986 => ?_
    obtain ⟨p5987, cs5987, hp5987, hF5987, hR5987⟩ := RSl.ia H5953 he5986 (kd := .i64) (n := 1) rfl
    have hR5987 : _ = [(.bool e5985 : Value)] := hR5987
    subst hR5987
    refine lpure (v := p5987) rfl (p_ia rs_22 rfl) hp5987 rfl ?_
    refine lread (v := .bool e5985) rfl (q_load wd_4 rfl) (FP.ld X5982 hF5987) rfl ?_
    refine lpure (v := .bool (p5954 == e5985)) rfl (p_bin rfl) (bin_eqB un_4) rfl ?_
    refine lend ?_
    refine nseq ?_
    refine dcond rfl rfl (fun k5988 => ?_) (fun k5988 => ?_)
    · refine dseq ?_
      refine dreg ?_
      refine lpure (v := .int .i64 s5971) rfl (p_move rfl) rfl rfl ?_
      refine lpure (v := .int .i64 s5971) rfl (p_assign rfl) rfl rfl ?_
      refine lend ?_
      refine nseq ?_
      refine dret ?_
      refine rblock ?_
      refine rseq ?_
      refine rloop ?_
      refine rblock ?_
      refine rseq ?_
      exact kcut_r (res_1 resT) X5982 rfl rfl
    · refine dskip ?_
      refine nblock ?_
      refine nseq ?_
      refine dreg ?_
      refine lpure (v := .int .i64 (w64 (s5971 + 1))) rfl (p_add rfl) rfl rfl ?_
      refine lpure (v := .int .i64 (w64 (s5971 + 1))) rfl (p_move rfl) rfl rfl ?_
      refine lend ?_
      exact kbackM ih5980 (w64 (s5971 + 1)) () (sub_cons rfl (sub_cons rfl (sub_cons rfl (sub_cons rfl sub_nil)))) X5982
  · refine dexit ?_
    refine eseq ?_
    refine eloop ?_
    refine xblock ?_
    refine nseq ?_
    refine dseq ?_
    refine dreg ?_
    refine lpure (v := .int .i64 (-1)) rfl (p_assign rfl) rfl rfl ?_
    refine lend ?_
    refine nseq ?_
    refine dret ?_
    exact kcut_r (res_1 resT) X5982 rfl rfl
/-! slices.Contains[[]bool,bool] -/
theorem f21_ok {n : Nat} {φ : Fz} {lo : Nat} {h : Heap} {own : OwnL} (X : St φ lo h own) (p5949 : (List Bool)) (p5951 : Bool) {a5950 : Option Addr} {n5950 c5950 : Nat} (H5950 : RSl eBool φ (.slice a5950 n5950 c5950) p5949) : Sim ((recN Try.prog LL cutF (n + 2)).call 21 #[(.slice a5950 n5950 c5950), (.bool p5951)] h) (m_slices_Contains_bool_bool p5949 p5951) (fun (d : Bool) p => p = (.bool d, h)) := by
  refine fcut Try.func21 rfl rfl rfl rfl X ?_
  intro h0 X0
  refine dseq ?_
  refine dreg ?_
  refine lpure (v := .bool false) rfl (p_assign rfl) rfl rfl ?_
  refine lend ?_
  refine nseq ?_
  refine dseq ?_
  refine dreg ?_
  refine lpure (v := .slice a5950 n5950 c5950) rfl (p_move rfl) rfl rfl ?_
  refine lpure (v := .bool p5951) rfl (p_move rfl) rfl rfl ?_
  refine lcall rfl rfl ca_51 rfl rfl (f51_ok X0 p5949 p5951 H5950) rfl (fun e5989 v5990 h5991 hq5992 => ?_)
  cases hq5992
  refine lpure (v := .bool (decide (0 ≤ e5989))) rfl (p_ge rfl) rfl rfl ?_
  refine lpure (v := .bool (decide (0 ≤ e5989))) rfl (p_assign rfl) rfl rfl ?_
  refine lend ?_
  refine nseq ?_
  refine dret ?_
  exact kcut_r (res_1 resT) X0 rfl rfl
/-! isochron/topo.Check -/
theorem f34_ok {n : Nat} {φ : Fz} {lo : Nat} {h : Heap} {own : OwnL} (X : St φ lo h own) (p64 : ApiTopo) {a65 : Option Addr} {n65 c65 : Nat} {a66 : Option Addr} {n66 c66 : Nat} (H65 : RSl eBool φ (.slice a65 n65 c65) p64.Station) (H66 : RSl eApiLink φ (.slice a66 n66 c66) p64.Links) : Sim ((recN Try.prog LL cutF (n + 6)).call 34 #[(.agg #[.int .i64 p64.Nodes, .slice a65 n65 c65, .slice a66 n66 c66])] h) (m_topo_Check p64) (fun (d : Int) p => p = (.int .i64 d, h)) := by
  refine fcut Try.func34 rfl rfl rfl rfl X ?_
  intro h0 X0
  refine dseq ?_
  refine dreg ?_
  refine lbox rfl rfl rfl rfl rfl X0 (fun b67 h69 X70 => ?_)
  refine lpure (v := .int .i64 0) rfl (p_assign rfl) rfl rfl ?_
  refine lend ?_
  refine nseq ?_
  refine dseq ?_
  refine dseq ?_
  refine dreg ?_
  refine lpure (v := .pointer (some ⟨b67, 0, none⟩)) rfl (p_fa fo_25_0 rfl) rfl rfl ?_
  refine lread (v := .int .i64 p64.Nodes) rfl (q_load wd_3 rfl) (St.ld X70 (j := 0) rfl rfl) rfl ?_
  refine lpure (v := .bool (decide (p64.Nodes < 2))) rfl (p_lt rfl) rfl rfl ?_
  refine lpure (v := .bool (decide (p64.Nodes < 2))) rfl (p_move rfl) rfl rfl ?_
  refine lsh (τ := Bool) (σ := Unit) (fun s72 (_ : Unit) => [(1, .pointer (some ⟨b67, 0, none⟩)), (13, .bool s72)]) (fun s72 (_ : Unit) hh => St φ h.n hh ([(some b67, .cells [.int .i64 p64.Nodes, .slice a65 n65 c65, .slice a66 n66 c66] 25 .exact)])) 4 ?_ ?_
  · rintro s72 _ t0 h74 X73
    refine lpure (v := .bool s72) rfl (p_move rfl) rfl rfl ?_
    refine lsh (τ := Bool) (σ := Unit) (fun s76 (_ : Unit) => [(1, .pointer (some ⟨b67, 0, none⟩)), (21, .bool s76)]) (fun s76 (_ : Unit) hh => St φ h.n hh ([(some b67, .cells [.int .i64 p64.Nodes, .slice a65 n65 c65, .slice a66 n66 c66] 25 .exact)])) 7 ?_ ?_
    · rintro s76 _ t0 h78 X77
      refine lpure (v := .bool s76) rfl (p_move rfl) rfl rfl ?_
      refine lsh (τ := Bool) (σ := Unit) (fun s80 (_ : Unit) => [(1, .pointer (some ⟨b67, 0, none⟩)), (27, .bool s80)]) (fun s80 (_ : Unit) hh => St φ h.n hh ([(some b67, .cells [.int .i64 p64.Nodes, .slice a65 n65 c65, .slice a66 n66 c66] 25 .exact)])) 5 ?_ ?_
      · rintro s80 _ t0 h82 X81
        refine lend ?_
        refine nseq ?_
        refine dcond rfl rfl (fun k83 => ?_) (fun k83 => ?_)
        · refine dseq ?_
          refine dreg ?_
          refine lpure (v := .int .i64 260) rfl (p_assign rfl) rfl rfl ?_
          refine lend ?_
          refine nseq ?_
          refine dret ?_
          refine rseq ?_
          exact kcut_r (res_1 resT) X81 rfl rfl
        · refine dskip ?_
          refine nseq ?_
          refine dseq ?_
          refine dseq ?_
          refine dreg ?_
          refine lpure (v := .pointer (some ⟨b67, 2, none⟩)) rfl (p_fa fo_25_2 rfl) rfl rfl ?_
          refine lread (v := .slice a66 n66 c66) rfl (q_load wd_23 rfl) (St.ld X81 (j := 0) rfl rfl) rfl ?_
          refine lpure (v := .int .i64 (p64.Links.length : Int)) rfl (p_len rfl rfl rfl un_23 rfl) (RSl.lenC H66) rfl ?_
          refine lpure (v := .int .i64 0) rfl (p_move rfl) rfl rfl ?_
          refine lend ?_
          refine nseq ?_
          refine dblock ?_
          refine dloopM (τ := Int) (σ := Unit) (fun s6379 (_ : Unit) => [(1, .pointer (some ⟨b67, 0, none⟩)), (30, .int .i64 (p64.Links.length : Int)), (31, .int .i64 s6379)]) (fun s6379 (_ : Unit) hh => St φ h.n hh ([(some b67, .cells [.int .i64 p64.Nodes, .slice a65 n65 c65, .slice a66 n66 c66] 25 .exact)])) 0 () (sub_cons rfl (sub_cons rfl (sub_cons rfl sub_nil))) X81 ?_
          rintro n6600 ih6599 s6379 _ t0 h6602 X6601
          refine dseq ?_
          refine dreg ?_
          refine lpure (v := .bool (decide (s6379 < (p64.Links.length : Int)))) rfl (p_lt rfl) rfl rfl ?_
          refine lend ?_
          refine nseq ?_
          refine dseq ?_
          refine dcond rfl rfl (fun k6603 => ?_) (fun k6603 => ?_)
          · refine dskip ?_
            refine nseq ?_
            refine dseq ?_
            refine dblock ?_
            refine dseq ?_
            refine dreg ?_
            refine lpure (v := .int .i64 s6379) rfl (p_move rfl) rfl rfl ?_
            refine lpure (v := .int .i64 s6379) rfl (p_assign rfl) rfl rfl ?_
            refine lend ?_
            refine nseq ?_
            refine dseq ?_
            refine dreg ?_
            refine lread (v := .agg #[.int .i64 p64.Nodes, .slice a65 n65 c65, .slice a66 n66 c66]) rfl (q_load wd_25 rfl) (St.ld X6601 (j := 0) rfl rfl) rfl ?_
            refine lpure (v := .int .i64 s6379) rfl (p_move rfl) rfl rfl ?_
            refine lcall rfl rfl ca_57 rfl rfl (f57_ok X6601 p64 s6379 H65 H66) rfl (fun e6604 v6605 h6606 hq6607 => ?_)
            cases hq6607
            refine lpure (v := .bool (!e6604)) rfl (p_not rfl) rfl rfl ?_
            refine lend ?_
            refine nseq ?_
            refine dcond rfl rfl (fun k6608 => ?_) (fun k6608 => ?_)
            · refine dseq ?_
              refine dreg ?_
              refine lpure (v := .int .i64 260) rfl (p_assign rfl) rfl rfl ?_
              refine lend ?_
              refine nseq ?_
              refine dret ?_
              refine rblock ?_
              refine rseq ?_
              refine rloop ?_
              refine rblock ?_
              refine rseq ?_
              exact kcut_r (res_1 resT) X6601 rfl rfl
            · refine dskip ?_
              refine nblock ?_
              refine nseq ?_
              refine dreg ?_
              refine lpure (v := .int .i64 (w64 (s6379 + 1))) rfl (p_add rfl) rfl rfl ?_
              refine lpure (v := .int .i64 (w64 (s6379 + 1))) rfl (p_move rfl) rfl rfl ?_
              refine lend ?_
              exact kbackM ih6599 (w64 (s6379 + 1)) () (sub_cons rfl (sub_cons rfl (sub_cons rfl sub_nil))) X6601
          · refine dexit ?_
            refine eseq ?_
            refine eloop ?_
            refine xblock ?_
            refine nseq ?_
            refine dseq ?_
            refine dseq ?_
            refine dreg ?_
            refine lpure (v := .pointer (some ⟨b67, 1, none⟩)) rfl (p_fa fo_25_1 rfl) rfl rfl ?_
            refine lread (v := .slice a65 n65 c65) rfl (q_load wd_22 rfl) (St.ld X6601 (j := 0) rfl rfl) rfl ?_
            refine lpure (v := .int .i64 (p64.Station.length : Int)) rfl (p_len rfl rfl rfl un_22 rfl) (RSl.lenC H65) rfl ?_
            refine lpure (v := .int .i64 0) rfl (p_move rfl) rfl rfl ?_
            refine lend ?_
            refine nseq ?_
            refine dblock ?_
            refine dloopM (τ := Int) (σ := Unit) (fun s6713 (_ : Unit) => [(1, .pointer (some ⟨b67, 0, none⟩)), (40, .slice a65 n65 c65), (41, .int .i64 (p64.Station.length : Int)), (42, .int .i64 s6713)]) (fun s6713 (_ : Unit) hh => St φ h.n hh ([(some b67, .cells [.int .i64 p64.Nodes, .slice a65 n65 c65, .slice a66 n66 c66] 25 .exact)])) 0 () (sub_cons rfl (sub_cons rfl (sub_cons rfl (sub_cons rfl sub_nil)))) X6601 ?_
            rintro n6767 ih6766 s6713 _ t0 h6769 X6768
            refine dseq ?_
            refine dreg ?_
            refine lpure (v := .bool (decide (s6713 < (p64.Station.length : Int)))) rfl (p_lt rfl) rfl rfl ?_
            refine lend ?_
            refine nseq ?_
            refine dseq ?_
            refine dcond rfl rfl (fun k6770 => ?_) (fun k6770 => ?_)
            · refine dskip ?_
              refine nseq ?_
              refine dseq ?_
              refine dblock ?_
              refine dseq ?_
              refine dreg ?_
              refine lpure (v := .int .i64 s6713) rfl (p_move rfl) rfl rfl ?_
              refine Sim.bindM fun e6771 he6772 => ?_
              obtain ⟨p6773, cs6773, hp6773, hF6773, hR6773⟩ := RSl.ia H65 he6772 (kd := .i64) (n := 1) rfl
              have hR6773 : _ = [(.bool e6771 : Value)] := hR6773
              subst hR6773
              refine lpure (v := p6773) rfl (p_ia rs_22 rfl) hp6773 rfl ?_
              refine lread (v := .bool e6771) rfl (q_load wd_4 rfl) (FP.ld X6768 hF6773) rfl ?_
              refine lpure (v := .int .i64 s6713) rfl (p_assign rfl) rfl rfl ?_
              refine lpure (v := .bool e6771) rfl (p_assign rfl) rfl rfl ?_
              refine lend ?_
              refine nseq ?_
              refine dseq ?_
              refine dreg ?_
              refine lpure (v := .bool e6771) rfl (p_move rfl) rfl rfl ?_
              refine lpure (v := .bool e6771) rfl (p_move rfl) rfl rfl ?_
              refine ljoinM (τ := Bool) (σ := Unit) (fun s6785 (_ : Unit) => [(1, .pointer (some ⟨b67, 0, none⟩)), (40, .slice a65 n65 c65), (41, .int .i64 (p64.Station.length : Int)), (42, .int .i64 s6713), (59, .bool s6785)]) (fun s6785 (_ : Unit) hh => St φ h.n hh ([(some b67, .cells [.int .i64 p64.Nodes, .slice a65 n65 c65, .slice a66 n66 c66] 25 .exact)])) 11 ?_ ?_
              · rintro s6785 _ t0 h6787 X6786
                refine lend ?_
                refine nseq ?_
                refine dcond rfl rfl (fun k6788 => ?_) (fun k6788 => ?_)
                · refine dseq ?_
                  refine dreg ?_
                  refine lpure (v := .int .i64 260) rfl (p_assign rfl) rfl rfl ?_
                  refine lend ?_
                  refine nseq ?_
                  refine dret ?_
                  refine rblock ?_
                  refine rseq ?_
                  refine rloop ?_
                  refine rblock ?_
                  refine rseq ?_
                  exact kcut_r (res_1 resT) X6786 rfl rfl
                · refine dskip ?_
                  refine nblock ?_
                  refine nseq ?_
                  refine dreg ?_
                  refine lpure (v := .int .i64 (w64 (s6713 + 1))) rfl (p_add rfl) rfl rfl ?_
                  refine lpure (v := .int .i64 (w64 (s6713 + 1))) rfl (p_move rfl) rfl rfl ?_
                  refine lend ?_
                  exact kbackM ih6766 (w64 (s6713 + 1)) () (sub_cons rfl (sub_cons rfl (sub_cons rfl (sub_cons rfl sub_nil)))) X6786
              · intro j6789 J6790
                refine lif (i := 48) (show _ = Value.bool e6771 from rfl) (fun k6791 => ?_) (fun k6791 => ?_)
                · refine lread (v := .agg #[.int .i64 p64.Nodes, .slice a65 n65 c65, .slice a66 n66 c66]) rfl (q_load wd_25 rfl) (St.ld X6768 (j := 0) rfl rfl) rfl ?_
                  refine lpure (v := .int .i64 s6713) rfl (p_move rfl) rfl rfl ?_
                  refine lcall rfl rfl ca_58 rfl rfl (f58_ok X6768 p64 s6713 H65 H66) rfl (fun e6792 v6793 h6794 hq6795 => ?_)
                  cases hq6795
                  refine lpure (v := .bool (decide (e6792 < 1))) rfl (p_lt rfl) rfl rfl ?_
                  refine lpure (v := .bool (decide (e6792 < 1))) rfl (p_move rfl) rfl rfl ?_
                  refine lif (i := 53) (show _ = Value.bool (decide (e6792 < 1)) from rfl) (fun k6796 => ?_) (fun k6796 => ?_)
                  · refine lskip rfl rfl ?_
                    refine lskip rfl rfl ?_
                    refine lskip rfl rfl ?_
                    refine lskip rfl rfl ?_
                    refine lpure (v := .bool true) rfl (p_pick rfl) rfl rfl ?_
                    refine lpure (v := .bool true) rfl (p_pick rfl) rfl rfl ?_
                    exact ljmpM J6790 true () (sub_cons rfl (sub_cons rfl (sub_cons rfl (sub_cons rfl (sub_cons rfl sub_nil))))) X6768
                  · refine lread (v := .agg #[.int .i64 p64.Nodes, .slice a65 n65 c65, .slice a66 n66 c66]) rfl (q_load wd_25 rfl) (St.ld X6768 (j := 0) rfl rfl) rfl ?_
                    refine lpure (v := .int .i64 s6713) rfl (p_move rfl) rfl rfl ?_
                    refine lcall rfl rfl ca_58 rfl rfl (f58_ok X6768 p64 s6713 H65 H66) rfl (fun e6797 v6798 h6799 hq6800 => ?_)
                    cases hq6800
                    refine lpure (v := .bool (decide (2 < e6797))) rfl (p_gt rfl) rfl rfl ?_
                    refine lpure (v := .bool (decide (2 < e6797))) rfl (p_pick rfl) rfl rfl ?_
                    refine lpure (v := .bool (decide (2 < e6797))) rfl (p_pick rfl) rfl rfl ?_
                    exact ljmpM J6790 (decide (2 < e6797)) () (sub_cons rfl (sub_cons rfl (sub_cons rfl (sub_cons rfl (sub_cons rfl sub_nil))))) X6768
                · refine lskip rfl rfl ?_
                  refine lskip rfl rfl ?_
                  refine lskip rfl rfl ?_
                  refine lskip rfl rfl ?_
                  refine lskip rfl rfl ?_
                  refine lskip rfl rfl ?_
                  refine lskip rfl rfl ?_
                  refine lskip rfl rfl ?_
                  refine lskip rfl rfl ?_
                  refine lskip rfl rfl ?_
                  refine lpure (v := .bool false) rfl (p_pick rfl) rfl rfl ?_
                  exact ljmpM J6790 false () (sub_cons rfl (sub_cons rfl (sub_cons rfl (sub_cons rfl (sub_cons rfl sub_nil))))) X6768
            · refine dexit ?_
              refine eseq ?_
              refine eloop ?_
              refine xblock ?_
              refine nseq ?_
              refine dseq ?_
              refine dseq ?_
              refine dreg ?_
              refine lread (v := .agg #[.int .i64 p64.Nodes, .slice a65 n65 c65, .slice a66 n66 c66]) rfl (q_load wd_25 rfl) (St.ld X6768 (j := 0) rfl rfl) rfl ?_
              refine lcall rfl rfl ca_47 rfl rfl (f47_ok X6768 p64 0 ([]) H65 H66 (.inl ⟨rfl, rfl⟩)) rfl ?_
              rintro e6801 _ h6803 ⟨φ6805, a6808, n6808, c6808, ob6808, blk6808, g6806, X6807, rfl, O6808⟩
              obtain ⟨φ6810, g6811, X6812, H6813⟩ := OSl.freeze X6807 (j := 0) rfl O6808
              refine lcall rfl rfl ca_21 rfl rfl (f21_ok X6812 e6801 false H6813) rfl (fun e6814 v6815 h6816 hq6817 => ?_)
              cases hq6817
              refine lend ?_
              refine nseq ?_
              refine dcond rfl rfl (fun k6818 => ?_) (fun k6818 => ?_)
              · refine dseq ?_
                refine dreg ?_
                refine lpure (v := .int .i64 260) rfl (p_assign rfl) rfl rfl ?_
                refine lend ?_
                refine nseq ?_
                refine dret ?_
                refine rseq ?_
                exact kcut_r (res_1 resT) X6807 rfl rfl
              · refine dskip ?_
                refine nseq ?_
                refine dseq ?_
                refine dreg ?_
                refine lpure (v := .int .i64 0) rfl (p_assign rfl) rfl rfl ?_
                refine lend ?_
                refine nseq ?_
                refine dret ?_
                exact kcut_r (res_1 resT) X6807 rfl rfl
      · intro j6819 J6820
        refine lcase (i := 22) (show _ = Value.bool s76 from rfl) (fun k6821 => ?_) (fun k6821 => ?_)
        · refine lskip rfl rfl ?_
          refine lskip rfl rfl ?_
          refine lskip rfl rfl ?_
          refine lskip rfl rfl ?_
          refine lpure (v := .bool true) rfl (p_pick rfl) rfl rfl ?_
          refine Sim.of_eq (congrArg j6819 (show (s76 || (decide (24 < (p64.Links.length : Int)))) = true from by rw [k6821] <;> rfl)) ?_
          exact ljmpM J6820 true () (sub_cons rfl (sub_cons rfl sub_nil)) X77
        · refine lpure (v := .pointer (some ⟨b67, 2, none⟩)) rfl (p_fa fo_25_2 rfl) rfl rfl ?_
          refine lread (v := .slice a66 n66 c66) rfl (q_load wd_23 rfl) (St.ld X77 (j := 0) rfl rfl) rfl ?_
          refine lpure (v := .int .i64 (p64.Links.length : Int)) rfl (p_len rfl rfl rfl un_23 rfl) (RSl.lenC H66) rfl ?_
          refine lpure (v := .bool (decide (24 < (p64.Links.length : Int)))) rfl (p_gt rfl) rfl rfl ?_
          refine lpure (v := .bool (decide (24 < (p64.Links.length : Int)))) rfl (p_pick rfl) rfl rfl ?_
          refine Sim.of_eq (congrArg j6819 (show (s76 || (decide (24 < (p64.Links.length : Int)))) = (decide (24 < (p64.Links.length : Int))) from by rw [k6821] <;> rfl)) ?_
          exact ljmpM J6820 (decide (24 < (p64.Links.length : Int))) () (sub_cons rfl (sub_cons rfl sub_nil)) X77
    · intro j6822 J6823
      refine lcase (i := 14) (show _ = Value.bool s72 from rfl) (fun k6824 => ?_) (fun k6824 => ?_)
      · refine lskip rfl rfl ?_
        refine lskip rfl rfl ?_
        refine lskip rfl rfl ?_
        refine lskip rfl rfl ?_
        refine lskip rfl rfl ?_
        refine lskip rfl rfl ?_
        refine lpure (v := .bool true) rfl (p_pick rfl) rfl rfl ?_
        refine Sim.of_eq (congrArg j6822 (show (s72 || (decide ((p64.Station.length : Int) ≠ p64.Nodes))) = true from by rw [k6824] <;> rfl)) ?_
        exact ljmpM J6823 true () (sub_cons rfl (sub_cons rfl sub_nil)) X73
      · refine lpure (v := .pointer (some ⟨b67, 1, none⟩)) rfl (p_fa fo_25_1 rfl) rfl rfl ?_
        refine lread (v := .slice a65 n65 c65) rfl (q_load wd_22 rfl) (St.ld X73 (j := 0) rfl rfl) rfl ?_
        refine lpure (v := .int .i64 (p64.Station.length : Int)) rfl (p_len rfl rfl rfl un_22 rfl) (RSl.lenC H65) rfl ?_
        refine lpure (v := .pointer (some ⟨b67, 0, none⟩)) rfl (p_fa fo_25_0 rfl) rfl rfl ?_
        refine lread (v := .int .i64 p64.Nodes) rfl (q_load wd_3 rfl) (St.ld X73 (j := 0) rfl rfl) rfl ?_
        refine lpure (v := .bool (decide ((p64.Station.length : Int) ≠ p64.Nodes))) rfl (p_ne rfl) rfl rfl ?_
        refine lpure (v := .bool (decide ((p64.Station.length : Int) ≠ p64.Nodes))) rfl (p_pick rfl) rfl rfl ?_
        refine Sim.of_eq (congrArg j6822 (show (s72 || (decide ((p64.Station.length : Int) ≠ p64.Nodes))) = (decide ((p64.Station.length : Int) ≠ p64.Nodes)) from by rw [k6824] <;> rfl)) ?_
        exact ljmpM J6823 (decide ((p64.Station.length : Int) ≠ p64.Nodes)) () (sub_cons rfl (sub_cons rfl sub_nil)) X73
  · intro j6825 J6826
    refine lcase (i := 9) (show _ = Value.bool (decide (p64.Nodes < 2)) from rfl) (fun k6827 => ?_) (fun k6827 => ?_)
    · refine lskip rfl rfl ?_
      refine lskip rfl rfl ?_
      refine lskip rfl rfl ?_
      refine lpure (v := .bool true) rfl (p_pick rfl) rfl rfl ?_
      refine Sim.of_eq (congrArg j6825 (show ((decide (p64.Nodes < 2)) || (decide (12 < p64.Nodes))) = true from by rw [k6827] <;> rfl)) ?_
      exact ljmpM J6826 true () (sub_cons rfl (sub_cons rfl sub_nil)) X70
    · refine lpure (v := .pointer (some ⟨b67, 0, none⟩)) rfl (p_fa fo_25_0 rfl) rfl rfl ?_
      refine lread (v := .int .i64 p64.Nodes) rfl (q_load wd_3 rfl) (St.ld X70 (j := 0) rfl rfl) rfl ?_
      refine lpure (v := .bool (decide (12 < p64.Nodes))) rfl (p_gt rfl) rfl rfl ?_
      refine lpure (v := .bool (decide (12 < p64.Nodes))) rfl (p_pick rfl) rfl rfl ?_
      refine Sim.of_eq (congrArg j6825 (show ((decide (p64.Nodes < 2)) || (decide (12 < p64.Nodes))) = (decide (12 < p64.Nodes)) from by rw [k6827] <;> rfl)) ?_
      exact ljmpM J6826 (decide (12 < p64.Nodes)) () (sub_cons rfl (sub_cons rfl sub_nil)) X70
/-! isochron/topo.From -/
theorem f23_ok {n : Nat} {φ : Fz} {lo : Nat} {h : Heap} {own : OwnL} (X : St φ lo h own) (p52 : ApiTopo) (p55 : Int) {a53 : Option Addr} {n53 c53 : Nat} {a54 : Option Addr} {n54 c54 : Nat} (H53 : RSl eBool φ (.slice a53 n53 c53) p52.Station) (H54 : RSl eApiLink φ (.slice a54 n54 c54) p52.Links) : Sim ((recN Try.prog LL cutF (n + 8)).call 23 #[(.agg #[.int .i64 p52.Nodes, .slice a53 n53 c53, .slice a54 n54 c54]), (.int .i64 p55)] h) (m_topo_From p52 p55) (fun (d : (Int × Int)) p => p = (.tuple #[.int .i64 d.1, .int .i64 d.2], h)) := by
  refine fcut Try.func23 rfl rfl rfl rfl X ?_
  intro h0 X0
  refine dseq ?_
  refine dreg ?_
  refine lbox rfl rfl rfl rfl rfl X0 (fun b56 h58 X59 => ?_)
  refine lpure (v := .int .i64 0) rfl (p_assign rfl) rfl rfl ?_
  refine lpure (v := .int .i64 0) rfl (p_assign rfl) rfl rfl ?_
  refine lend ?_
  refine nseq ?_
  refine dseq ?_
  refine dreg ?_
  refine lread (v := .agg #[.int .i64 p52.Nodes, .slice a53 n53 c53, .slice a54 n54 c54]) rfl (q_load wd_25 rfl) (St.ld X59 (j := 0) rfl rfl) rfl ?_
  refine lpure (v := .int .i64 p55) rfl (p_move rfl) rfl rfl ?_
  refine linl rfl rfl rfl rfl ca_53 rfl Try.func53 rfl rfl rfl rfl rfl ?_
  refine dseq ?_
  refine dreg ?_
  refine lbox rfl rfl rfl rfl rfl X59 (fun b60 h62 X63 => ?_)
  refine lpure (v := .int .i64 0) rfl (p_assign rfl) rfl rfl ?_
  refine lpure (v := .int .i64 0) rfl (p_assign rfl) rfl rfl ?_
  refine lend ?_
  refine nseq ?_
  refine dseq ?_
  refine dreg ?_
  refine lpure (v := .int .i64 0) rfl (p_assign rfl) rfl rfl ?_
  refine lend ?_
  refine nseq ?_
  refine dseq ?_
  refine dseq ?_
  refine dreg ?_
  refine lread (v := .agg #[.int .i64 p52.Nodes, .slice a53 n53 c53, .slice a54 n54 c54]) rfl (q_load wd_25 rfl) (St.ld X63 (j := 0) rfl rfl) rfl ?_
  refine lcall rfl rfl ca_34 rfl rfl (f34_ok X63 p52 H53 H54) rfl (fun e6828 v6829 h6830 hq6831 => ?_)
  cases hq6831
  refine lpure (v := .int .i64 e6828) rfl (p_assign rfl) rfl rfl ?_
  refine lend ?_
  refine nseq ?_
  refine dseq ?_
  refine dreg ?_
  refine lpure (v := .int .i64 e6828) rfl (p_move rfl) rfl rfl ?_
  refine lpure (v := .bool (decide (e6828 ≠ 0))) rfl (p_ne rfl) rfl rfl ?_
  refine lend ?_
  refine nseq ?_
  refine dcond rfl rfl (fun k6832 => ?_) (fun k6832 => ?_)
  · refine dseq ?_
    refine dreg ?_
    refine lpure (v := .int .i64 0) rfl (p_move rfl) rfl rfl ?_
    refine lpure (v := .int .i64 e6828) rfl (p_move rfl) rfl rfl ?_
    refine lpure (v := .int .i64 0) rfl (p_assign rfl) rfl rfl ?_
    refine lpure (v := .int .i64 e6828) rfl (p_assign rfl) rfl rfl ?_
    refine lend ?_
    refine nseq ?_
    refine dret ?_
    refine rseq ?_
    refine kin_r (res_2 resT resT) ?_
    refine lpure (v := .int .i64 0) rfl (p_extract rfl) rfl rfl ?_
    refine lpure (v := .int .i64 e6828) rfl (p_extract rfl) rfl rfl ?_
    refine lpure (v := .int .i64 0) rfl (p_assign rfl) rfl rfl ?_
    refine lpure (v := .int .i64 e6828) rfl (p_assign rfl) rfl rfl ?_
    refine lend ?_
    refine nseq ?_
    refine dret ?_
    exact kcut_r (res_2 resT resT) X63 rfl rfl
  · refine dskip ?_
    refine nseq ?_
    refine dseq ?_
    refine dseq ?_
    refine dreg ?_
    refine lpure (v := .int .i64 p55) rfl (p_move rfl) rfl rfl ?_
    refine lpure (v := .bool (decide (p55 < 0))) rfl (p_lt rfl) rfl rfl ?_
    refine lpure (v := .bool (decide (p55 < 0))) rfl (p_move rfl) rfl rfl ?_
    refine lsh (τ := Bool) (σ := Unit) (fun s6834 (_ : Unit) => [(1, .int .i64 p55), (2, .func (.func 41) #[] #[]), (3, .pointer (some ⟨b60, 0, none⟩)), (8, .int .i64 0), (25, .bool s6834)]) (fun s6834 (_ : Unit) hh => St φ h.n hh ([(some b60, .cells [.int .i64 p52.Nodes, .slice a53 n53 c53, .slice a54 n54 c54] 25 .exact), (some b56, .cells [.int .i64 p52.Nodes, .slice a53 n53 c53, .slice a54 n54 c54] 25 .exact)])) 7 ?_ ?_
    · rintro s6834 _ t0 h6836 X6835
      refine lend ?_
      refine nseq ?_
      refine dcond rfl rfl (fun k6837 => ?_) (fun k6837 => ?_)
      · refine dseq ?_
        refine dreg ?_
        refine lpure (v := .int .i64 0) rfl (p_move rfl) rfl rfl ?_
        refine lpure (v := .int .i64 0) rfl (p_assign rfl) rfl rfl ?_
        refine lpure (v := .int .i64 2) rfl (p_assign rfl) rfl rfl ?_
        refine lend ?_
        refine nseq ?_
        refine dret ?_
        refine rseq ?_
        refine kin_r (res_2 resT resT) ?_
        refine lpure (v := .int .i64 0) rfl (p_extract rfl) rfl rfl ?_
        refine lpure (v := .int .i64 2) rfl (p_extract rfl) rfl rfl ?_
        refine lpure (v := .int .i64 0) rfl (p_assign rfl) rfl rfl ?_
        refine lpure (v := .int .i64 2) rfl (p_assign rfl) rfl rfl ?_
        refine lend ?_
        refine nseq ?_
        refine dret ?_
        exact kcut_r (res_2 resT resT) X6835 rfl rfl
      · refine dskip ?_
        refine nseq ?_
        refine dseq ?_
        refine dreg ?_
        refine lpure (v := .func (.func 41) #[] #[]) rfl (p_move rfl) rfl rfl ?_
        refine lpure (v := .pointer (some ⟨b60, 2, none⟩)) rfl (p_fa fo_25_2 rfl) rfl rfl ?_
        refine lread (v := .slice a54 n54 c54) rfl (q_load wd_23 rfl) (St.ld X6835 (j := 0) rfl rfl) rfl ?_
        refine lpure (v := .int .i64 p55) rfl (p_move rfl) rfl rfl ?_
        refine lpure (v := .int .i64 (w64 (Int.tdiv p55 2))) rfl (p_quo rfl) rfl rfl ?_
        refine Sim.bindM fun e6838 he6839 => ?_
        obtain ⟨p6840, cs6840, hp6840, hF6840, hR6840⟩ := RSl.ia H54 he6839 (kd := .i64) (n := 4) rfl
        obtain rfl := eApiLink_el hR6840
        refine lpure (v := p6840) rfl (p_ia rs_23 rfl) hp6840 rfl ?_
        refine lread (v := .agg #[.int .i64 e6838.A, .int .i64 e6838.B, .int .i64 e6838.Per, .int .i64 e6838.Delay]) rfl (q_load wd_50 rfl) (FP.ldw X6835 hF6840 rfl rfl) rfl ?_
        refine lpure (v := .int .i64 p55) rfl (p_move rfl) rfl rfl ?_
        refine lpure (v := .agg #[.int .i64 e6838.A, .int .i64 e6838.B, .int .i64 e6838.Per, .int .i64 e6838.Delay, .int .i64 p55]) rfl (p_build rfl) (build_st' tz_65 pl_65 rfl) rfl ?_
        refine lcallv rfl rfl rfl rfl ca_41 rfl rfl (f41_ok X6835 ((TopoEnd.mk e6838 p55))) rfl (fun e6841 v6842 h6843 hq6844 => ?_)
        cases hq6844
        refine lpure (v := .int .i64 e6841) rfl (p_assign rfl) rfl rfl ?_
        refine lpure (v := .int .i64 0) rfl (p_assign rfl) rfl rfl ?_
        refine lend ?_
        refine nseq ?_
        refine dret ?_
        refine kin_r (res_2 resT resT) ?_
        refine lpure (v := .int .i64 e6841) rfl (p_extract rfl) rfl rfl ?_
        refine lpure (v := .int .i64 0) rfl (p_extract rfl) rfl rfl ?_
        refine lpure (v := .int .i64 e6841) rfl (p_assign rfl) rfl rfl ?_
        refine lpure (v := .int .i64 0) rfl (p_assign rfl) rfl rfl ?_
        refine lend ?_
        refine nseq ?_
        refine dret ?_
        exact kcut_r (res_2 resT resT) X6835 rfl rfl
    · intro j6845 J6846
      refine lcase (i := 18) (show _ = Value.bool (decide (p55 < 0)) from rfl) (fun k6847 => ?_) (fun k6847 => ?_)
      · refine lskip rfl rfl ?_
        refine lskip rfl rfl ?_
        refine lskip rfl rfl ?_
        refine lskip rfl rfl ?_
        refine lskip rfl rfl ?_
        refine lskip rfl rfl ?_
        refine lpure (v := .bool true) rfl (p_pick rfl) rfl rfl ?_
        refine Sim.of_eq (congrArg j6845 (show ((decide (p55 < 0)) || (decide ((w64 (2 * (p52.Links.length : Int))) ≤ p55))) = true from by rw [k6847] <;> rfl)) ?_
        exact ljmpM J6846 true () (sub_cons rfl (sub_cons rfl (sub_cons rfl (sub_cons rfl (sub_cons rfl sub_nil))))) X63
      · refine lpure (v := .int .i64 p55) rfl (p_move rfl) rfl rfl ?_
        refine lpure (v := .pointer (some ⟨b60, 2, none⟩)) rfl (p_fa fo_25_2 rfl) rfl rfl ?_
        refine lread (v := .slice a54 n54 c54) rfl (q_load wd_23 rfl) (St.ld X63 (j := 0) rfl rfl) rfl ?_
        refine lpure (v := .int .i64 (p52.Links.length : Int)) rfl (p_len rfl rfl rfl un_23 rfl) (RSl.lenC H54) rfl ?_
        refine lpure (v := .int .i64 (w64 (2 * (p52.Links.length : Int)))) rfl (p_mul rfl) rfl rfl ?_
        refine lpure (v := .bool (decide ((w64 (2 * (p52.Links.length : Int))) ≤ p55))) rfl (p_ge rfl) rfl rfl ?_
        refine lpure (v := .bool (decide ((w64 (2 * (p52.Links.length : Int))) ≤ p55))) rfl (p_pick rfl) rfl rfl ?_
        refine Sim.of_eq (congrArg j6845 (show ((decide (p55 < 0)) || (decide ((w64 (2 * (p52.Links.length : Int))) ≤ p55))) = (decide ((w64 (2 * (p52.Links.length : Int))) ≤ p55)) from by rw [k6847] <;> rfl)) ?_
        exact ljmpM J6846 (decide ((w64 (2 * (p52.Links.length : Int))) ≤ p55)) () (sub_cons rfl (sub_cons rfl (sub_cons rfl (sub_cons rfl (sub_cons rfl sub_nil))))) X63
/-! isochron/topo.To -/
theorem f24_ok {n : Nat} {φ : Fz} {lo : Nat} {h : Heap} {own : OwnL} (X : St φ lo h own) (p6860 : ApiTopo) (p6863 : Int) {a6861 : Option Addr} {n6861 c6861 : Nat} {a6862 : Option Addr} {n6862 c6862 : Nat} (H6861 : RSl eBool φ (.slice a6861 n6861 c6861) p6860.Station) (H6862 : RSl eApiLink φ (.slice a6862 n6862 c6862) p6860.Links) : Sim ((recN Try.prog LL cutF (n + 8)).call 24 #[(.agg #[.int .i64 p6860.Nodes, .slice a6861 n6861 c6861, .slice a6862 n6862 c6862]), (.int .i64 p6863)] h) (m_topo_To p6860 p6863) (fun (d : (Int × Int)) p => p = (.tuple #[.int .i64 d.1, .int .i64 d.2], h)) := by
  refine fcut Try.func24 rfl rfl rfl rfl X ?_
  intro h0 X0
  refine dseq ?_
  refine dreg ?_
  refine lbox rfl rfl rfl rfl rfl X0 (fun b6864 h6866 X6867 => ?_)
  refine lpure (v := .int .i64 0) rfl (p_assign rfl) rfl rfl ?_
  refine lpure (v := .int .i64 0) rfl (p_assign rfl) rfl rfl ?_
  refine lend ?_
  refine nseq ?_
  refine dseq ?_
  refine dreg ?_
  refine lread (v := .agg #[.int .i64 p6860.Nodes, .slice a6861 n6861 c6861, .slice a6862 n6862 c6862]) rfl (q_load wd_25 rfl) (St.ld X6867 (j := 0) rfl rfl) rfl ?_
  refine lpure (v := .int .i64 p6863) rfl (p_move rfl) rfl rfl ?_
  refine linl rfl rfl rfl rfl ca_53 rfl Try.func53 rfl rfl rfl rfl rfl ?_
  refine dseq ?_
  refine dreg ?_
  refine lbox rfl rfl rfl rfl rfl X6867 (fun b6868 h6870 X6871 => ?_)
  refine lpure (v := .int .i64 0) rfl (p_assign rfl) rfl rfl ?_
  refine lpure (v := .int .i64 0) rfl (p_assign rfl) rfl rfl ?_
  refine lend ?_
  refine nseq ?_
  refine dseq ?_
  refine dreg ?_
  refine lpure (v := .int .i64 0) rfl (p_assign rfl) rfl rfl ?_
  refine lend ?_
  refine nseq ?_
  refine dseq ?_
  refine dseq ?_
  refine dreg ?_
  refine lread (v := .agg #[.int .i64 p6860.Nodes, .slice a6861 n6861 c6861, .slice a6862 n6862 c6862]) rfl (q_load wd_25 rfl) (St.ld X6871 (j := 0) rfl rfl) rfl ?_
  refine lcall rfl rfl ca_34 rfl rfl (f34_ok X6871 p6860 H6861 H6862) rfl (fun e6872 v6873 h6874 hq6875 => ?_)
  cases hq6875
  refine lpure (v := .int .i64 e6872) rfl (p_assign rfl) rfl rfl ?_
  refine lend ?_
  refine nseq ?_
  refine dseq ?_
  refine dreg ?_
  refine lpure (v := .int .i64 e6872) rfl (p_move rfl) rfl rfl ?_
  refine lpure (v := .bool (decide (e6872 ≠ 0))) rfl (p_ne rfl) rfl rfl ?_
  refine lend ?_
  refine nseq ?_
  refine dcond rfl rfl (fun k6876 => ?_) (fun k6876 => ?_)
  · refine dseq ?_
    refine dreg ?_
    refine lpure (v := .int .i64 0) rfl (p_move rfl) rfl rfl ?_
    refine lpure (v := .int .i64 e6872) rfl (p_move rfl) rfl rfl ?_
    refine lpure (v := .int .i64 0) rfl (p_assign rfl) rfl rfl ?_
    refine lpure (v := .int .i64 e6872) rfl (p_assign rfl) rfl rfl ?_
    refine lend ?_
    refine nseq ?_
    refine dret ?_
    refine rseq ?_
    refine kin_r (res_2 resT resT) ?_
    refine lpure (v := .int .i64 0) rfl (p_extract rfl) rfl rfl ?_
    refine lpure (v := .int .i64 e6872) rfl (p_extract rfl) rfl rfl ?_
    refine lpure (v := .int .i64 0) rfl (p_assign rfl) rfl rfl ?_
    refine lpure (v := .int .i64 e6872) rfl (p_assign rfl) rfl rfl ?_
    refine lend ?_
    refine nseq ?_
    refine dret ?_
    exact kcut_r (res_2 resT resT) X6871 rfl rfl
  · refine dskip ?_
    refine nseq ?_
    refine dseq ?_
    refine dseq ?_
    refine dreg ?_
    refine lpure (v := .int .i64 p6863) rfl (p_move rfl) rfl rfl ?_
    refine lpure (v := .bool (decide (p6863 < 0))) rfl (p_lt rfl) rfl rfl ?_
    refine lpure (v := .bool (decide (p6863 < 0))) rfl (p_move rfl) rfl rfl ?_
    refine lsh (τ := Bool) (σ := Unit) (fun s6878 (_ : Unit) => [(1, .int .i64 p6863), (2, .func (.func 42) #[] #[]), (3, .pointer (some ⟨b6868, 0, none⟩)), (8, .int .i64 0), (25, .bool s6878)]) (fun s6878 (_ : Unit) hh => St φ h.n hh ([(some b6868, .cells [.int .i64 p6860.Nodes, .slice a6861 n6861 c6861, .slice a6862 n6862 c6862] 25 .exact), (some b6864, .cells [.int .i64 p6860.Nodes, .slice a6861 n6861 c6861, .slice a6862 n6862 c6862] 25 .exact)])) 7 ?_ ?_
    · rintro s6878 _ t0 h6880 X6879
      refine lend ?_
      refine nseq ?_
      refine dcond rfl rfl (fun k6881 => ?_) (fun k6881 => ?_)
      · refine dseq ?_
        refine dreg ?_
        refine lpure (v := .int .i64 0) rfl (p_move rfl) rfl rfl ?_
        refine lpure (v := .int .i64 0) rfl (p_assign rfl) rfl rfl ?_
        refine lpure (v := .int .i64 2) rfl (p_assign rfl) rfl rfl ?_
        refine lend ?_
        refine nseq ?_
        refine dret ?_
        refine rseq ?_
        refine kin_r (res_2 resT resT) ?_
        refine lpure (v := .int .i64 0) rfl (p_extract rfl) rfl rfl ?_
        refine lpure (v := .int .i64 2) rfl (p_extract rfl) rfl rfl ?_
        refine lpure (v := .int .i64 0) rfl (p_assign rfl) rfl rfl ?_
        refine lpure (v := .int .i64 2) rfl (p_assign rfl) rfl rfl ?_
        refine lend ?_
        refine nseq ?_
        refine dret ?_
        exact kcut_r (res_2 resT resT) X6879 rfl rfl
      · refine dskip ?_
        refine nseq ?_
        refine dseq ?_
        refine dreg ?_
        refine lpure (v := .func (.func 42) #[] #[]) rfl (p_move rfl) rfl rfl ?_
        refine lpure (v := .pointer (some ⟨b6868, 2, none⟩)) rfl (p_fa fo_25_2 rfl) rfl rfl ?_
        refine lread (v := .slice a6862 n6862 c6862) rfl (q_load wd_23 rfl) (St.ld X6879 (j := 0) rfl rfl) rfl ?_
        refine lpure (v := .int .i64 p6863) rfl (p_move rfl) rfl rfl ?_
        refine lpure (v := .int .i64 (w64 (Int.tdiv p6863 2))) rfl (p_quo rfl) rfl rfl ?_
        refine Sim.bindM fun e6882 he6883 => ?_
        obtain ⟨p6884, cs6884, hp6884, hF6884, hR6884⟩ := RSl.ia H6862 he6883 (kd := .i64) (n := 4) rfl
        obtain rfl := eApiLink_el hR6884
        refine lpure (v := p6884) rfl (p_ia rs_23 rfl) hp6884 rfl ?_
        refine lread (v := .agg #[.int .i64 e6882.A, .int .i64 e6882.B, .int .i64 e6882.Per, .int .i64 e6882.Delay]) rfl (q_load wd_50 rfl) (FP.ldw X6879 hF6884 rfl rfl) rfl ?_
        refine lpure (v := .int .i64 p6863) rfl (p_move rfl) rfl rfl ?_
        refine lpure (v := .agg #[.int .i64 e6882.A, .int .i64 e6882.B, .int .i64 e6882.Per, .int .i64 e6882.Delay, .int .i64 p6863]) rfl (p_build rfl) (build_st' tz_65 pl_65 rfl) rfl ?_
        refine lcallv rfl rfl rfl rfl ca_42 rfl rfl (f42_ok X6879 ((TopoEnd.mk e6882 p6863))) rfl (fun e6885 v6886 h6887 hq6888 => ?_)
        cases hq6888
        refine lpure (v := .int .i64 e6885) rfl (p_assign rfl) rfl rfl ?_
        refine lpure (v := .int .i64 0) rfl (p_assign rfl) rfl rfl ?_
        refine lend ?_
        refine nseq ?_
        refine dret ?_
        refine kin_r (res_2 resT resT) ?_
        refine lpure (v := .int .i64 e6885) rfl (p_extract rfl) rfl rfl ?_
        refine lpure (v := .int .i64 0) rfl (p_extract rfl) rfl rfl ?_
        refine lpure (v := .int .i64 e6885) rfl (p_assign rfl) rfl rfl ?_
        refine lpure (v := .int .i64 0) rfl (p_assign rfl) rfl rfl ?_
        refine lend ?_
        refine nseq ?_
        refine dret ?_
        exact kcut_r (res_2 resT resT) X6879 rfl rfl
    · intro j6889 J6890
      refine lcase (i := 18) (show _ = Value.bool (decide (p6863 < 0)) from rfl) (fun k6891 => ?_) (fun k6891 => ?_)
      · refine lskip rfl rfl ?_
        refine lskip rfl rfl ?_
        refine lskip rfl rfl ?_
        refine lskip rfl rfl ?_
        refine lskip rfl rfl ?_
        refine lskip rfl rfl ?_
        refine lpure (v := .bool true) rfl (p_pick rfl) rfl rfl ?_
        refine Sim.of_eq (congrArg j6889 (show ((decide (p6863 < 0)) || (decide ((w64 (2 * (p6860.Links.length : Int))) ≤ p6863))) = true from by rw [k6891] <;> rfl)) ?_
        exact ljmpM J6890 true () (sub_cons rfl (sub_cons rfl (sub_cons rfl (sub_cons rfl (sub_cons rfl sub_nil))))) X6871
      · refine lpure (v := .int .i64 p6863) rfl (p_move rfl) rfl rfl ?_
        refine lpure (v := .pointer (some ⟨b6868, 2, none⟩)) rfl (p_fa fo_25_2 rfl) rfl rfl ?_
        refine lread (v := .slice a6862 n6862 c6862) rfl (q_load wd_23 rfl) (St.ld X6871 (j := 0) rfl rfl) rfl ?_
        refine lpure (v := .int .i64 (p6860.Links.length : Int)) rfl (p_len rfl rfl rfl un_23 rfl) (RSl.lenC H6862) rfl ?_
        refine lpure (v := .int .i64 (w64 (2 * (p6860.Links.length : Int)))) rfl (p_mul rfl) rfl rfl ?_
        refine lpure (v := .bool (decide ((w64 (2 * (p6860.Links.length : Int))) ≤ p6863))) rfl (p_ge rfl) rfl rfl ?_
        refine lpure (v := .bool (decide ((w64 (2 * (p6860.Links.length : Int))) ≤ p6863))) rfl (p_pick rfl) rfl rfl ?_
        refine Sim.of_eq (congrArg j6889 (show ((decide (p6863 < 0)) || (decide ((w64 (2 * (p6860.Links.length : Int))) ≤ p6863))) = (decide ((w64 (2 * (p6860.Links.length : Int))) ≤ p6863)) from by rw [k6891] <;> rfl)) ?_
        exact ljmpM J6890 (decide ((w64 (2 * (p6860.Links.length : Int))) ≤ p6863)) () (sub_cons rfl (sub_cons rfl (sub_cons rfl (sub_cons rfl (sub_cons rfl sub_nil))))) X6871
/-! (isochron/topo.end).per -/
theorem f54_ok {n : Nat} {φ : Fz} {lo : Nat} {h : Heap} {own : OwnL} (X : St φ lo h own) (p6929 : TopoEnd) : Sim ((recN Try.prog LL cutF (n + 1)).call 54 #[(.agg #[.int .i64 p6929.Link.A, .int .i64 p6929.Link.B, .int .i64 p6929.Link.Per, .int .i64 p6929.Link.Delay, .int .i64 p6929.port])] h) (m_topo_end_per p6929) (fun (d : Int) p => p = (.int .i64 d, h)) := by
  refine fcut Try.func54 rfl rfl rfl rfl X ?_
  intro h0 X0
  refine dseq ?_
  refine dreg ?_
  refine lbox rfl rfl rfl rfl rfl X0 (fun b6930 h6932 X6933 => ?_)
  refine lpure (v := .int .i64 0) rfl (p_assign rfl) rfl rfl ?_
  refine lend ?_
  refine nseq ?_
  refine dseq ?_
  refine dreg ?_
  refine lpure (v := .pointer (some ⟨b6930, 0, none⟩)) rfl (p_fa fo_65_0 rfl) rfl rfl ?_
  refine lpure (v := .pointer (some ⟨b6930, 2, none⟩)) rfl (p_fa fo_50_2 rfl) rfl rfl ?_
  refine lread (v := .int .i64 p6929.Link.Per) rfl (q_load wd_3 rfl) (St.ld X6933 (j := 0) rfl rfl) rfl ?_
  refine lpure (v := .int .i64 p6929.Link.Per) rfl (p_assign rfl) rfl rfl ?_
  refine lend ?_
  refine nseq ?_
  refine dret ?_
  exact kcut_r (res_1 resT) X6933 rfl rfl
/-! isochron/topo.Per -/
theorem f25_ok {n : Nat} {φ : Fz} {lo : Nat} {h : Heap} {own : OwnL} (X : St φ lo h own) (p6904 : ApiTopo) (p6907 : Int) {a6905 : Option Addr} {n6905 c6905 : Nat} {a6906 : Option Addr} {n6906 c6906 : Nat} (H6905 : RSl eBool φ (.slice a6905 n6905 c6905) p6904.Station) (H6906 : RSl eApiLink φ (.slice a6906 n6906 c6906) p6904.Links) : Sim ((recN Try.prog LL cutF (n + 8)).call 25 #[(.agg #[.int .i64 p6904.Nodes, .slice a6905 n6905 c6905, .slice a6906 n6906 c6906]), (.int .i64 p6907)] h) (m_topo_Per p6904 p6907) (fun (d : (Int × Int)) p => p = (.tuple #[.int .i64 d.1, .int .i64 d.2], h)) := by
  refine fcut Try.func25 rfl rfl rfl rfl X ?_
  intro h0 X0
  refine dseq ?_
  refine dreg ?_
  refine lbox rfl rfl rfl rfl rfl X0 (fun b6908 h6910 X6911 => ?_)
  refine lpure (v := .int .i64 0) rfl (p_assign rfl) rfl rfl ?_
  refine lpure (v := .int .i64 0) rfl (p_assign rfl) rfl rfl ?_
  refine lend ?_
  refine nseq ?_
  refine dseq ?_
  refine dreg ?_
  refine lread (v := .agg #[.int .i64 p6904.Nodes, .slice a6905 n6905 c6905, .slice a6906 n6906 c6906]) rfl (q_load wd_25 rfl) (St.ld X6911 (j := 0) rfl rfl) rfl ?_
  refine lpure (v := .int .i64 p6907) rfl (p_move rfl) rfl rfl ?_
  refine linl rfl rfl rfl rfl ca_53 rfl Try.func53 rfl rfl rfl rfl rfl ?_
  refine dseq ?_
  refine dreg ?_
  refine lbox rfl rfl rfl rfl rfl X6911 (fun b6912 h6914 X6915 => ?_)
  refine lpure (v := .int .i64 0) rfl (p_assign rfl) rfl rfl ?_
  refine lpure (v := .int .i64 0) rfl (p_assign rfl) rfl rfl ?_
  refine lend ?_
  refine nseq ?_
  refine dseq ?_
  refine dreg ?_
  refine lpure (v := .int .i64 0) rfl (p_assign rfl) rfl rfl ?_
  refine lend ?_
  refine nseq ?_
  refine dseq ?_
  refine dseq ?_
  refine dreg ?_
  refine lread (v := .agg #[.int .i64 p6904.Nodes, .slice a6905 n6905 c6905, .slice a6906 n6906 c6906]) rfl (q_load wd_25 rfl) (St.ld X6915 (j := 0) rfl rfl) rfl ?_
  refine lcall rfl rfl ca_34 rfl rfl (f34_ok X6915 p6904 H6905 H6906) rfl (fun e6916 v6917 h6918 hq6919 => ?_)
  cases hq6919
  refine lpure (v := .int .i64 e6916) rfl (p_assign rfl) rfl rfl ?_
  refine lend ?_
  refine nseq ?_
  refine dseq ?_
  refine dreg ?_
  refine lpure (v := .int .i64 e6916) rfl (p_move rfl) rfl rfl ?_
  refine lpure (v := .bool (decide (e6916 ≠ 0))) rfl (p_ne rfl) rfl rfl ?_
  refine lend ?_
  refine nseq ?_
  refine dcond rfl rfl (fun k6920 => ?_) (fun k6920 => ?_)
  · refine dseq ?_
    refine dreg ?_
    refine lpure (v := .int .i64 0) rfl (p_move rfl) rfl rfl ?_
    refine lpure (v := .int .i64 e6916) rfl (p_move rfl) rfl rfl ?_
    refine lpure (v := .int .i64 0) rfl (p_assign rfl) rfl rfl ?_
    refine lpure (v := .int .i64 e6916) rfl (p_assign rfl) rfl rfl ?_
    refine lend ?_
    refine nseq ?_
    refine dret ?_
    refine rseq ?_
    refine kin_r (res_2 resT resT) ?_
    refine lpure (v := .int .i64 0) rfl (p_extract rfl) rfl rfl ?_
    refine lpure (v := .int .i64 e6916) rfl (p_extract rfl) rfl rfl ?_
    refine lpure (v := .int .i64 0) rfl (p_assign rfl) rfl rfl ?_
    refine lpure (v := .int .i64 e6916) rfl (p_assign rfl) rfl rfl ?_
    refine lend ?_
    refine nseq ?_
    refine dret ?_
    exact kcut_r (res_2 resT resT) X6915 rfl rfl
  · refine dskip ?_
    refine nseq ?_
    refine dseq ?_
    refine dseq ?_
    refine dreg ?_
    refine lpure (v := .int .i64 p6907) rfl (p_move rfl) rfl rfl ?_
    refine lpure (v := .bool (decide (p6907 < 0))) rfl (p_lt rfl) rfl rfl ?_
    refine lpure (v := .bool (decide (p6907 < 0))) rfl (p_move rfl) rfl rfl ?_
    refine lsh (τ := Bool) (σ := Unit) (fun s6922 (_ : Unit) => [(1, .int .i64 p6907), (2, .func (.func 54) #[] #[]), (3, .pointer (some ⟨b6912, 0, none⟩)), (8, .int .i64 0), (25, .bool s6922)]) (fun s6922 (_ : Unit) hh => St φ h.n hh ([(some b6912, .cells [.int .i64 p6904.Nodes, .slice a6905 n6905 c6905, .slice a6906 n6906 c6906] 25 .exact), (some b6908, .cells [.int .i64 p6904.Nodes, .slice a6905 n6905 c6905, .slice a6906 n6906 c6906] 25 .exact)])) 7 ?_ ?_
    · rintro s6922 _ t0 h6924 X6923
      refine lend ?_
      refine nseq ?_
      refine dcond rfl rfl (fun k6925 => ?_) (fun k6925 => ?_)
      · refine dseq ?_
        refine dreg ?_
        refine lpure (v := .int .i64 0) rfl (p_move rfl) rfl rfl ?_
        refine lpure (v := .int .i64 0) rfl (p_assign rfl) rfl rfl ?_
        refine lpure (v := .int .i64 2) rfl (p_assign rfl) rfl rfl ?_
        refine lend ?_
        refine nseq ?_
        refine dret ?_
        refine rseq ?_
        refine kin_r (res_2 resT resT) ?_
        refine lpure (v := .int .i64 0) rfl (p_extract rfl) rfl rfl ?_
        refine lpure (v := .int .i64 2) rfl (p_extract rfl) rfl rfl ?_
        refine lpure (v := .int .i64 0) rfl (p_assign rfl) rfl rfl ?_
        refine lpure (v := .int .i64 2) rfl (p_assign rfl) rfl rfl ?_
        refine lend ?_
        refine nseq ?_
        refine dret ?_
        exact kcut_r (res_2 resT resT) X6923 rfl rfl
      · refine dskip ?_
        refine nseq ?_
        refine dseq ?_
        refine dreg ?_
        refine lpure (v := .func (.func 54) #[] #[]) rfl (p_move rfl) rfl rfl ?_
        refine lpure (v := .pointer (some ⟨b6912, 2, none⟩)) rfl (p_fa fo_25_2 rfl) rfl rfl ?_
        refine lread (v := .slice a6906 n6906 c6906) rfl (q_load wd_23 rfl) (St.ld X6923 (j := 0) rfl rfl) rfl ?_
        refine lpure (v := .int .i64 p6907) rfl (p_move rfl) rfl rfl ?_
        refine lpure (v := .int .i64 (w64 (Int.tdiv p6907 2))) rfl (p_quo rfl) rfl rfl ?_
        refine Sim.bindM fun e6926 he6927 => ?_
        obtain ⟨p6928, cs6928, hp6928, hF6928, hR6928⟩ := RSl.ia H6906 he6927 (kd := .i64) (n := 4) rfl
        obtain rfl := eApiLink_el hR6928
        refine lpure (v := p6928) rfl (p_ia rs_23 rfl) hp6928 rfl ?_
        refine lread (v := .agg #[.int .i64 e6926.A, .int .i64 e6926.B, .int .i64 e6926.Per, .int .i64 e6926.Delay]) rfl (q_load wd_50 rfl) (FP.ldw X6923 hF6928 rfl rfl) rfl ?_
        refine lpure (v := .int .i64 p6907) rfl (p_move rfl) rfl rfl ?_
        refine lpure (v := .agg #[.int .i64 e6926.A, .int .i64 e6926.B, .int .i64 e6926.Per, .int .i64 e6926.Delay, .int .i64 p6907]) rfl (p_build rfl) (build_st' tz_65 pl_65 rfl) rfl ?_
        refine lcallv rfl rfl rfl rfl ca_54 rfl rfl (f54_ok X6923 ((TopoEnd.mk e6926 p6907))) rfl (fun e6934 v6935 h6936 hq6937 => ?_)
        cases hq6937
        refine lpure (v := .int .i64 e6934) rfl (p_assign rfl) rfl rfl ?_
        refine lpure (v := .int .i64 0) rfl (p_assign rfl) rfl rfl ?_
        refine lend ?_
        refine nseq ?_
        refine dret ?_
        refine kin_r (res_2 resT resT) ?_
        refine lpure (v := .int .i64 e6934) rfl (p_extract rfl) rfl rfl ?_
        refine lpure (v := .int .i64 0) rfl (p_extract rfl) rfl rfl ?_
        refine lpure (v := .int .i64 e6934) rfl (p_assign rfl) rfl rfl ?_
        refine lpure (v := .int .i64 0) rfl (p_assign rfl) rfl rfl ?_
        refine lend ?_
        refine nseq ?_
        refine dret ?_
        exact kcut_r (res_2 resT resT) X6923 rfl rfl
    · intro j6938 J6939
      refine lcase (i := 18) (show _ = Value.bool (decide (p6907 < 0)) from rfl) (fun k6940 => ?_) (fun k6940 => ?_)
      · refine lskip rfl rfl ?_
        refine lskip rfl rfl ?_
        refine lskip rfl rfl ?_
        refine lskip rfl rfl ?_
        refine lskip rfl rfl ?_
        refine lskip rfl rfl ?_
        refine lpure (v := .bool true) rfl (p_pick rfl) rfl rfl ?_
        refine Sim.of_eq (congrArg j6938 (show ((decide (p6907 < 0)) || (decide ((w64 (2 * (p6904.Links.length : Int))) ≤ p6907))) = true from by rw [k6940] <;> rfl)) ?_
        exact ljmpM J6939 true () (sub_cons rfl (sub_cons rfl (sub_cons rfl (sub_cons rfl (sub_cons rfl sub_nil))))) X6915
      · refine lpure (v := .int .i64 p6907) rfl (p_move rfl) rfl rfl ?_
        refine lpure (v := .pointer (some ⟨b6912, 2, none⟩)) rfl (p_fa fo_25_2 rfl) rfl rfl ?_
        refine lread (v := .slice a6906 n6906 c6906) rfl (q_load wd_23 rfl) (St.ld X6915 (j := 0) rfl rfl) rfl ?_
        refine lpure (v := .int .i64 (p6904.Links.length : Int)) rfl (p_len rfl rfl rfl un_23 rfl) (RSl.lenC H6906) rfl ?_
        refine lpure (v := .int .i64 (w64 (2 * (p6904.Links.length : Int)))) rfl (p_mul rfl) rfl rfl ?_
        refine lpure (v := .bool (decide ((w64 (2 * (p6904.Links.length : Int))) ≤ p6907))) rfl (p_ge rfl) rfl rfl ?_
        refine lpure (v := .bool (decide ((w64 (2 * (p6904.Links.length : Int))) ≤ p6907))) rfl (p_pick rfl) rfl rfl ?_
        refine Sim.of_eq (congrArg j6938 (show ((decide (p6907 < 0)) || (decide ((w64 (2 * (p6904.Links.length : Int))) ≤ p6907))) = (decide ((w64 (2 * (p6904.Links.length : Int))) ≤ p6907)) from by rw [k6940] <;> rfl)) ?_
        exact ljmpM J6939 (decide ((w64 (2 * (p6904.Links.length : Int))) ≤ p6907)) () (sub_cons rfl (sub_cons rfl (sub_cons rfl (sub_cons rfl (sub_cons rfl sub_nil))))) X6915
/-! (isochron/topo.end).delay -/
theorem f55_ok {n : Nat} {φ : Fz} {lo : Nat} {h : Heap} {own : OwnL} (X : St φ lo h own) (p6978 : TopoEnd) : Sim ((recN Try.prog LL cutF (n + 1)).call 55 #[(.agg #[.int .i64 p6978.Link.A, .int .i64 p6978.Link.B, .int .i64 p6978.Link.Per, .int .i64 p6978.Link.Delay, .int .i64 p6978.port])] h) (m_topo_end_delay p6978) (fun (d : Int) p => p = (.int .i64 d, h)) := by
  refine fcut Try.func55 rfl rfl rfl rfl X ?_
  intro h0 X0
  refine dseq ?_
  refine dreg ?_
  refine lbox rfl rfl rfl rfl rfl X0 (fun b6979 h6981 X6982 => ?_)
  refine lpure (v := .int .i64 0) rfl (p_assign rfl) rfl rfl ?_
  refine lend ?_
  refine nseq ?_
  refine dseq ?_
  refine dreg ?_
  refine lpure (v := .pointer (some ⟨b6979, 0, none⟩)) rfl (p_fa fo_65_0 rfl) rfl rfl ?_
  refine lpure (v := .pointer (some ⟨b6979, 3, none⟩)) rfl (p_fa fo_50_3 rfl) rfl rfl ?_
  refine lread (v := .int .i64 p6978.Link.Delay) rfl (q_load wd_3 rfl) (St.ld X6982 (j := 0) rfl rfl) rfl ?_
  refine lpure (v := .int .i64 p6978.Link.Delay) rfl (p_assign rfl) rfl rfl ?_
  refine lend ?_
  refine nseq ?_
  refine dret ?_
  exact kcut_r (res_1 resT) X6982 rfl rfl
/-! isochron/topo.Delay -/
theorem f26_ok {n : Nat} {φ : Fz} {lo : Nat} {h : Heap} {own : OwnL} (X : St φ lo h own) (p6953 : ApiTopo) (p6956 : Int) {a6954 : Option Addr} {n6954 c6954 : Nat} {a6955 : Option Addr} {n6955 c6955 : Nat} (H6954 : RSl eBool φ (.slice a6954 n6954 c6954) p6953.Station) (H6955 : RSl eApiLink φ (.slice a6955 n6955 c6955) p6953.Links) : Sim ((recN Try.prog LL cutF (n + 8)).call 26 #[(.agg #[.int .i64 p6953.Nodes, .slice a6954 n6954 c6954, .slice a6955 n6955 c6955]), (.int .i64 p6956)] h) (m_topo_Delay p6953 p6956) (fun (d : (Int × Int)) p => p = (.tuple #[.int .i64 d.1, .int .i64 d.2], h)) := by
  refine fcut Try.func26 rfl rfl rfl rfl X ?_
  intro h0 X0
  refine dseq ?_
  refine dreg ?_
  refine lbox rfl rfl rfl rfl rfl X0 (fun b6957 h6959 X6960 => ?_)
  refine lpure (v := .int .i64 0) rfl (p_assign rfl) rfl rfl ?_
  refine lpure (v := .int .i64 0) rfl (p_assign rfl) rfl rfl ?_
  refine lend ?_
  refine nseq ?_
  refine dseq ?_
  refine dreg ?_
  refine lread (v := .agg #[.int .i64 p6953.Nodes, .slice a6954 n6954 c6954, .slice a6955 n6955 c6955]) rfl (q_load wd_25 rfl) (St.ld X6960 (j := 0) rfl rfl) rfl ?_
  refine lpure (v := .int .i64 p6956) rfl (p_move rfl) rfl rfl ?_
  refine linl rfl rfl rfl rfl ca_53 rfl Try.func53 rfl rfl rfl rfl rfl ?_
  refine dseq ?_
  refine dreg ?_
  refine lbox rfl rfl rfl rfl rfl X6960 (fun b6961 h6963 X6964 => ?_)
  refine lpure (v := .int .i64 0) rfl (p_assign rfl) rfl rfl ?_
  refine lpure (v := .int .i64 0) rfl (p_assign rfl) rfl rfl ?_
  refine lend ?_
  refine nseq ?_
  refine dseq ?_
  refine dreg ?_
  refine lpure (v := .int .i64 0) rfl (p_assign rfl) rfl rfl ?_
  refine lend ?_
  refine nseq ?_
  refine dseq ?_
  refine dseq ?_
  refine dreg ?_
  refine lread (v := .agg #[.int .i64 p6953.Nodes, .slice a6954 n6954 c6954, .slice a6955 n6955 c6955]) rfl (q_load wd_25 rfl) (St.ld X6964 (j := 0) rfl rfl) rfl ?_
  refine lcall rfl rfl ca_34 rfl rfl (f34_ok X6964 p6953 H6954 H6955) rfl (fun e6965 v6966 h6967 hq6968 => ?_)
  cases hq6968
  refine lpure (v := .int .i64 e6965) rfl (p_assign rfl) rfl rfl ?_
  refine lend ?_
  refine nseq ?_
  refine dseq ?_
  refine dreg ?_
  refine lpure (v := .int .i64 e6965) rfl (p_move rfl) rfl rfl ?_
  refine lpure (v := .bool (decide (e6965 ≠ 0))) rfl (p_ne rfl) rfl rfl ?_
  refine lend ?_
  refine nseq ?_
  refine dcond rfl rfl (fun k6969 => ?_) (fun k6969 => ?_)
  · refine dseq ?_
    refine dreg ?_
    refine lpure (v := .int .i64 0) rfl (p_move rfl) rfl rfl ?_
    refine lpure (v := .int .i64 e6965) rfl (p_move rfl) rfl rfl ?_
    refine lpure (v := .int .i64 0) rfl (p_assign rfl) rfl rfl ?_
    refine lpure (v := .int .i64 e6965) rfl (p_assign rfl) rfl rfl ?_
    refine lend ?_
    refine nseq ?_
    refine dret ?_
    refine rseq ?_
    refine kin_r (res_2 resT resT) ?_
    refine lpure (v := .int .i64 0) rfl (p_extract rfl) rfl rfl ?_
    refine lpure (v := .int .i64 e6965) rfl (p_extract rfl) rfl rfl ?_
    refine lpure (v := .int .i64 0) rfl (p_assign rfl) rfl rfl ?_
    refine lpure (v := .int .i64 e6965) rfl (p_assign rfl) rfl rfl ?_
    refine lend ?_
    refine nseq ?_
    refine dret ?_
    exact kcut_r (res_2 resT resT) X6964 rfl rfl
  · refine dskip ?_
    refine nseq ?_
    refine dseq ?_
    refine dseq ?_
    refine dreg ?_
    refine lpure (v := .int .i64 p6956) rfl (p_move rfl) rfl rfl ?_
    refine lpure (v := .bool (decide (p6956 < 0))) rfl (p_lt rfl) rfl rfl ?_
    refine lpure (v := .bool (decide (p6956 < 0))) rfl (p_move rfl) rfl rfl ?_
    refine lsh (τ := Bool) (σ := Unit) (fun s6971 (_ : Unit) => [(1, .int .i64 p6956), (2, .func (.func 55) #[] #[]), (3, .pointer (some ⟨b6961, 0, none⟩)), (8, .int .i64 0), (25, .bool s6971)]) (fun s6971 (_ : Unit) hh => St φ h.n hh ([(some b6961, .cells [.int .i64 p6953.Nodes, .slice a6954 n6954 c6954, .slice a6955 n6955 c6955] 25 .exact), (some b6957, .cells [.int .i64 p6953.Nodes, .slice a6954 n6954 c6954, .slice a6955 n6955 c6955] 25 .exact)])) 7 ?_ ?_
    · rintro s6971 _ t0 h6973 X6972
      refine lend ?_
      refine nseq ?_
      refine dcond rfl rfl (fun k6974 => ?_) (fun k6974 => ?_)
      · refine dseq ?_
        refine dreg ?_
        refine lpure (v := .int .i64 0) rfl (p_move rfl) rfl rfl ?_
        refine lpure (v := .int .i64 0) rfl (p_assign rfl) rfl rfl ?_
        refine lpure (v := .int .i64 2) rfl (p_assign rfl) rfl rfl ?_
        refine lend ?_
        refine nseq ?_
        refine dret ?_
        refine rseq ?_
        refine kin_r (res_2 resT resT) ?_
        refine lpure (v := .int .i64 0) rfl (p_extract rfl) rfl rfl ?_
        refine lpure (v := .int .i64 2) rfl (p_extract rfl) rfl rfl ?_
        refine lpure (v := .int .i64 0) rfl (p_assign rfl) rfl rfl ?_
        refine lpure (v := .int .i64 2) rfl (p_assign rfl) rfl rfl ?_
        refine lend ?_
        refine nseq ?_
        refine dret ?_
        exact kcut_r (res_2 resT resT) X6972 rfl rfl
      · refine dskip ?_
        refine nseq ?_
        refine dseq ?_
        refine dreg ?_
        refine lpure (v := .func (.func 55) #[] #[]) rfl (p_move rfl) rfl rfl ?_
        refine lpure (v := .pointer (some ⟨b6961, 2, none⟩)) rfl (p_fa fo_25_2 rfl) rfl rfl ?_
        refine lread (v := .slice a6955 n6955 c6955) rfl (q_load wd_23 rfl) (St.ld X6972 (j := 0) rfl rfl) rfl ?_
        refine lpure (v := .int .i64 p6956) rfl (p_move rfl) rfl rfl ?_
        refine lpure (v := .int .i64 (w64 (Int.tdiv p6956 2))) rfl (p_quo rfl) rfl rfl ?_
        refine Sim.bindM fun e6975 he6976 => ?_
        obtain ⟨p6977, cs6977, hp6977, hF6977, hR6977⟩ := RSl.ia H6955 he6976 (kd := .i64) (n := 4) rfl
        obtain rfl := eApiLink_el hR6977
        refine lpure (v := p6977) rfl (p_ia rs_23 rfl) hp6977 rfl ?_
        refine lread (v := .agg #[.int .i64 e6975.A, .int .i64 e6975.B, .int .i64 e6975.Per, .int .i64 e6975.Delay]) rfl (q_load wd_50 rfl) (FP.ldw X6972 hF6977 rfl rfl) rfl ?_
        refine lpure (v := .int .i64 p6956) rfl (p_move rfl) rfl rfl ?_
        refine lpure (v := .agg #[.int .i64 e6975.A, .int .i64 e6975.B, .int .i64 e6975.Per, .int .i64 e6975.Delay, .int .i64 p6956]) rfl (p_build rfl) (build_st' tz_65 pl_65 rfl) rfl ?_
        refine lcallv rfl rfl rfl rfl ca_55 rfl rfl (f55_ok X6972 ((TopoEnd.mk e6975 p6956))) rfl (fun e6983 v6984 h6985 hq6986 => ?_)
        cases hq6986
        refine lpure (v := .int .i64 e6983) rfl (p_assign rfl) rfl rfl ?_
        refine lpure (v := .int .i64 0) rfl (p_assign rfl) rfl rfl ?_
        refine lend ?_
        refine nseq ?_
        refine dret ?_
        refine kin_r (res_2 resT resT) ?_
        refine lpure (v := .int .i64 e6983) rfl (p_extract rfl) rfl rfl ?_
        refine lpure (v := .int .i64 0) rfl (p_extract rfl) rfl rfl ?_
        refine lpure (v := .int .i64 e6983) rfl (p_assign rfl) rfl rfl ?_
        refine lpure (v := .int .i64 0) rfl (p_assign rfl) rfl rfl ?_
        refine lend ?_
        refine nseq ?_
        refine dret ?_
        exact kcut_r (res_2 resT resT) X6972 rfl rfl
    · intro j6987 J6988
      refine lcase (i := 18) (show _ = Value.bool (decide (p6956 < 0)) from rfl) (fun k6989 => ?_) (fun k6989 => ?_)
      · refine lskip rfl rfl ?_
        refine lskip rfl rfl ?_
        refine lskip rfl rfl ?_
        refine lskip rfl rfl ?_
        refine lskip rfl rfl ?_
        refine lskip rfl rfl ?_
        refine lpure (v := .bool true) rfl (p_pick rfl) rfl rfl ?_
        refine Sim.of_eq (congrArg j6987 (show ((decide (p6956 < 0)) || (decide ((w64 (2 * (p6953.Links.length : Int))) ≤ p6956))) = true from by rw [k6989] <;> rfl)) ?_
        exact ljmpM J6988 true () (sub_cons rfl (sub_cons rfl (sub_cons rfl (sub_cons rfl (sub_cons rfl sub_nil))))) X6964
      · refine lpure (v := .int .i64 p6956) rfl (p_move rfl) rfl rfl ?_
        refine lpure (v := .pointer (some ⟨b6961, 2, none⟩)) rfl (p_fa fo_25_2 rfl) rfl rfl ?_
        refine lread (v := .slice a6955 n6955 c6955) rfl (q_load wd_23 rfl) (St.ld X6964 (j := 0) rfl rfl) rfl ?_
        refine lpure (v := .int .i64 (p6953.Links.length : Int)) rfl (p_len rfl rfl rfl un_23 rfl) (RSl.lenC H6955) rfl ?_
        refine lpure (v := .int .i64 (w64 (2 * (p6953.Links.length : Int)))) rfl (p_mul rfl) rfl rfl ?_
        refine lpure (v := .bool (decide ((w64 (2 * (p6953.Links.length : Int))) ≤ p6956))) rfl (p_ge rfl) rfl rfl ?_
        refine lpure (v := .bool (decide ((w64 (2 * (p6953.Links.length : Int))) ≤ p6956))) rfl (p_pick rfl) rfl rfl ?_
        refine Sim.of_eq (congrArg j6987 (show ((decide (p6956 < 0)) || (decide ((w64 (2 * (p6953.Links.length : Int))) ≤ p6956))) = (decide ((w64 (2 * (p6953.Links.length : Int))) ≤ p6956)) from by rw [k6989] <;> rfl)) ?_
        exact ljmpM J6988 (decide ((w64 (2 * (p6953.Links.length : Int))) ≤ p6956)) () (sub_cons rfl (sub_cons rfl (sub_cons rfl (sub_cons rfl (sub_cons rfl sub_nil))))) X6964
/-! isochron/topo.Ports -/
theorem f11_ok {n : Nat} {φ : Fz} {lo : Nat} {h : Heap} {own : OwnL} (X : St φ lo h own) (p7367 : ApiTopo) (p7370 : Int) {a7368 : Option Addr} {n7368 c7368 : Nat} {a7369 : Option Addr} {n7369 c7369 : Nat} (H7368 : RSl eBool φ (.slice a7368 n7368 c7368) p7367.Station) (H7369 : RSl eApiLink φ (.slice a7369 n7369 c7369) p7367.Links) : Sim ((recN Try.prog LL cutF (n + 7)).call 11 #[(.agg #[.int .i64 p7367.Nodes, .slice a7368 n7368 c7368, .slice a7369 n7369 c7369]), (.int .i64 p7370)] h) (m_topo_Ports p7367 p7370) (fun (d : ((List Int) × Int)) p => ∃ φ2 : Fz, ∃ a7732 : Option Addr, ∃ n7732 : Nat, ∃ c7732 : Nat, ∃ ob7732 : Option Nat, ∃ blk7732 : Blk, Fz.le φ φ2 ∧ St φ2 lo p.2 ((ob7732, blk7732) :: own) ∧ p.1 = .tuple #[.slice a7732 n7732 c7732, .int .i64 d.2] ∧ OSl (eInt .i64) φ2 3 ob7732 blk7732 (.slice a7732 n7732 c7732) d.1) := by
  refine fopen Try.func11 rfl rfl rfl rfl ?_
  refine dseq ?_
  refine dreg ?_
  refine lbox rfl rfl rfl rfl rfl X (fun b7371 h7373 X7374 => ?_)
  refine lbox rfl rfl rfl rfl rfl X7374 (fun b7375 h7377 X7378 => ?_)
  refine lpure (v := .slice none 0 0) rfl (p_assign rfl) rfl rfl ?_
  refine lpure (v := .int .i64 0) rfl (p_assign rfl) rfl rfl ?_
  refine lend ?_
  refine nseq ?_
  refine dseq ?_
  refine dseq ?_
  refine dreg ?_
  refine lread (v := .agg #[.int .i64 p7367.Nodes, .slice a7368 n7368 c7368, .slice a7369 n7369 c7369]) rfl (q_load wd_25 rfl) (St.ld X7378 (j := 1) rfl rfl) rfl ?_
  refine lcall rfl rfl ca_34 rfl rfl (f34_ok X7378 p7367 H7368 H7369) rfl (fun e7379 v7380 h7381 hq7382 => ?_)
  cases hq7382
  refine lpure (v := .int .i64 e7379) rfl (p_assign rfl) rfl rfl ?_
  refine lend ?_
  refine nseq ?_
  refine dseq ?_
  refine dreg ?_
  refine lpure (v := .int .i64 e7379) rfl (p_move rfl) rfl rfl ?_
  refine lpure (v := .bool (decide (e7379 ≠ 0))) rfl (p_ne rfl) rfl rfl ?_
  refine lend ?_
  refine nseq ?_
  refine dcond rfl rfl (fun k7383 => ?_) (fun k7383 => ?_)
  · refine dseq ?_
    refine dreg ?_
    refine lpure (v := .int .i64 e7379) rfl (p_move rfl) rfl rfl ?_
    refine lpure (v := .slice none 0 0) rfl (p_assign rfl) rfl rfl ?_
    refine lpure (v := .int .i64 e7379) rfl (p_assign rfl) rfl rfl ?_
    refine lend ?_
    refine nseq ?_
    refine dret ?_
    refine rseq ?_
    exact kopen_r (res_2 resT resT) ⟨φ, none, 0, 0, none, (.dead), (Fz.le_refl _), St.pick X7378 (.none _ (.skip _ (.skip _ (.refl _)))), rfl, OSl.nil⟩
  · refine dskip ?_
    refine nseq ?_
    refine dseq ?_
    refine dseq ?_
    refine dreg ?_
    refine lread (v := .agg #[.int .i64 p7367.Nodes, .slice a7368 n7368 c7368, .slice a7369 n7369 c7369]) rfl (q_load wd_25 rfl) (St.ld X7378 (j := 1) rfl rfl) rfl ?_
    refine lread (v := .int .i64 p7370) rfl (q_load wd_3 rfl) (St.ld X7378 (j := 0) rfl rfl) rfl ?_
    refine lcall rfl rfl ca_39 rfl rfl (f39_ok X7378 p7367 p7370 H7368 H7369) rfl (fun e7384 v7385 h7386 hq7387 => ?_)
    cases hq7387
    refine lpure (v := .bool (!e7384)) rfl (p_not rfl) rfl rfl ?_
    refine lend ?_
    refine nseq ?_
    refine dcond rfl rfl (fun k7388 => ?_) (fun k7388 => ?_)
    · refine dseq ?_
      refine dreg ?_
      refine lpure (v := .slice none 0 0) rfl (p_assign rfl) rfl rfl ?_
      refine lpure (v := .int .i64 2) rfl (p_assign rfl) rfl rfl ?_
      refine lend ?_
      refine nseq ?_
      refine dret ?_
      refine rseq ?_
      exact kopen_r (res_2 resT resT) ⟨φ, none, 0, 0, none, (.dead), (Fz.le_refl _), St.pick X7378 (.none _ (.skip _ (.skip _ (.refl _)))), rfl, OSl.nil⟩
    · refine dskip ?_
      refine nseq ?_
      refine dseq ?_
      refine dreg ?_
      refine lalloc rfl tz_28 rfl rfl rfl X7378 (fun b7389 h7391 X7392 => ?_)
      refine lend ?_
      refine nseq ?_
      refine dseq ?_
      refine dseq ?_
      refine dreg ?_
      refine lread (v := .agg #[.int .i64 p7367.Nodes, .slice a7368 n7368 c7368, .slice a7369 n7369 c7369]) rfl (q_load wd_25 rfl) (St.ld X7392 (j := 2) rfl rfl) rfl ?_
      refine linl rfl rfl rfl rfl ca_40 rfl Try.func40 rfl rfl rfl rfl rfl ?_
      refine dseq ?_
      refine dreg ?_
      refine lbox rfl rfl rfl rfl rfl X7392 (fun b7393 h7395 X7396 => ?_)
      refine lpure (v := .nilFunc) rfl (p_assign rfl) rfl rfl ?_
      refine lend ?_
      refine nseq ?_
      refine dseq ?_
      refine dreg ?_
      refine lpure (v := .func (.func 62) #[] #[.pointer (some ⟨b7393, 0, none⟩)]) rfl (p_makeFunc rfl) rfl rfl ?_
      refine lpure (v := .func (.func 62) #[] #[.pointer (some ⟨b7393, 0, none⟩)]) rfl (p_assign rfl) rfl rfl ?_
      refine lend ?_
      refine nseq ?_
      refine dret ?_
      refine kin_r (res_1 resT) ?_
      refine lend ?_
      refine nseq ?_
      refine dblock ?_
      refine drange rfl rfl ca_62 Try.func62 rfl rfl X7396 (fun _ => rfl) ?_
      intro l7397 q7398 df7399 h7401 Q7400 X7402
      refine dseq ?_
      refine dreg ?_
      refine lpure (v := .pointer (some ⟨b7393, 2, none⟩)) rfl (p_fa fo_25_2 rfl) rfl rfl ?_
      refine lread (v := .slice a7369 n7369 c7369) rfl (q_load wd_23 rfl) (St.ld X7402 (j := 2) rfl rfl) rfl ?_
      refine lpure (v := .int .i64 (p7367.Links.length : Int)) rfl (p_len rfl rfl rfl un_23 rfl) (RSl.lenC H7369) rfl ?_
      refine lpure (v := .int .i64 0) rfl (p_move rfl) rfl rfl ?_
      refine lend ?_
      refine nseq ?_
      refine dblock ?_
      refine dloopM (τ := Int × (List Int)) (σ := Option Addr × Nat × Nat × Option Nat × Blk) (fun s7570 (a7572, n7572, c7572, ob7572, blk7572) => [(0, .func (.yield l7397) #[] #[]), (6, .slice a7369 n7369 c7369), (7, .int .i64 (p7367.Links.length : Int)), (8, .int .i64 s7570.1)]) (fun s7570 (a7572, n7572, c7572, ob7572, blk7572) hh => St φ lo hh ((ob7572, blk7572) :: (some l7397, rdy q7398) :: (none, .dead) :: (some b7393, .cells [.int .i64 p7367.Nodes, .slice a7368 n7368 c7368, .slice a7369 n7369 c7369] 25 .exact) :: (some b7389, .cells [.slice a7572 n7572 c7572] 28 .exact) :: (some b7375, .cells [.int .i64 p7370] 3 .exact) :: (some b7371, .cells [.int .i64 p7367.Nodes, .slice a7368 n7368 c7368, .slice a7369 n7369 c7369] 25 .exact) :: own) ∧ OSl (eInt .i64) φ 3 ob7572 blk7572 (.slice a7572 n7572 c7572) s7570.2) (0, []) (none, 0, 0, none, .dead) (sub_cons rfl (sub_cons rfl (sub_cons rfl (sub_cons rfl sub_nil)))) ⟨(St.pick X7402 (.none _ (.keep _ (.none _ (.skip _ (.keep _ (.keep _ (.keep _ (.keep _ (.refl _)))))))))), OSl.nil⟩ ?_
      rintro n7653 ih7652 s7570 ⟨a7572, n7572, c7572, ob7572, blk7572⟩ t0 h7655 ⟨X7654, O7572⟩
      refine dseq ?_
      refine dreg ?_
      refine lpure (v := .bool (decide (s7570.1 < (p7367.Links.length : Int)))) rfl (p_lt rfl) rfl rfl ?_
      refine lend ?_
      refine nseq ?_
      refine dseq ?_
      refine dcond rfl rfl (fun k7656 => ?_) (fun k7656 => ?_)
      · refine dskip ?_
        refine nseq ?_
        refine dseq ?_
        refine dblock ?_
        refine dseq ?_
        refine dreg ?_
        refine lpure (v := .int .i64 s7570.1) rfl (p_move rfl) rfl rfl ?_
        refine Sim.bindM fun e7657 he7658 => ?_
        obtain ⟨p7659, cs7659, hp7659, hF7659, hR7659⟩ := RSl.ia H7369 he7658 (kd := .i64) (n := 4) rfl
        obtain rfl := eApiLink_el hR7659
        refine lpure (v := p7659) rfl (p_ia rs_23 rfl) hp7659 rfl ?_
        refine lread (v := .agg #[.int .i64 e7657.A, .int .i64 e7657.B, .int .i64 e7657.Per, .int .i64 e7657.Delay]) rfl (q_load wd_50 rfl) (FP.ldw X7654 hF7659 rfl rfl) rfl ?_
        refine lalloc rfl tz_50 rfl rfl rfl X7654 (fun b7660 h7662 X7663 => ?_)
        refine lpure (v := .int .i64 s7570.1) rfl (p_assign rfl) rfl rfl ?_
        refine lstore rfl ts_50 rfl rfl (j := 0) rfl rfl rfl rfl rfl rfl X7663 (fun h7664 X7665 => ?_)
        refine lend ?_
        refine nseq ?_
        refine dseq ?_
        refine dreg ?_
        refine lpure (v := .func (.yield l7397) #[] #[]) rfl (p_move rfl) rfl rfl ?_
        refine lread (v := .agg #[.int .i64 e7657.A, .int .i64 e7657.B, .int .i64 e7657.Per, .int .i64 e7657.Delay]) rfl (q_load wd_50 rfl) (St.ld X7665 (j := 0) rfl rfl) rfl ?_
        refine lpure (v := .int .i64 s7570.1) rfl (p_move rfl) rfl rfl ?_
        refine lpure (v := .int .i64 (w64 (2 * s7570.1))) rfl (p_mul rfl) rfl rfl ?_
        refine lpure (v := .agg #[.int .i64 e7657.A, .int .i64 e7657.B, .int .i64 e7657.Per, .int .i64 e7657.Delay, .int .i64 (w64 (2 * s7570.1))]) rfl (p_build rfl) (build_st' tz_65 pl_65 rfl) rfl ?_
        refine lround rfl rfl rfl rfl rfl rfl X7665 (j := 2) rfl Q7400 rfl rfl rfl rfl rfl (fun t7666 => ?_)
        refine dreg ?_
        refine lalloc rfl tz_65 rfl rfl rfl X7665 (fun b7667 h7669 X7670 => ?_)
        refine lstore rfl ts_65 rfl rfl (j := 0) rfl rfl rfl rfl rfl rfl X7670 (fun h7671 X7672 => ?_)
        refine lend ?_
        refine basg X7672 (j := 3) rfl (fun h7673 X7674 => ?_)
        refine dblock ?_
        refine dseq ?_
        refine ddraw 0 0 0 (by kernel_rfl) ?_
        refine sload (v := .agg #[.int .i64 e7657.A, .int .i64 e7657.B, .int .i64 e7657.Per, .int .i64 e7657.Delay, .int .i64 (w64 (2 * s7570.1))]) rfl rfl (q_load wd_65 rfl) (St.ld X7674 (j := 0) rfl rfl) (same_self 20 rfl) rfl ?_
        refine scall (en := fun d => (.int .i64 d)) rfl rfl ca_41 rfl rfl (f41_ok X7674 ((TopoEnd.mk e7657 (w64 (2 * s7570.1))))) rfl (fun e7675 => ?_)
        refine sload (v := .int .i64 p7370) rfl rfl (q_load wd_3 rfl) (St.ld X7674 (j := 7) rfl rfl) (same_self 20 rfl) rfl ?_
        refine spure (v := .bool (decide (e7675 = p7370))) rfl (p_eq rfl) (lo_t rfl (lo_t rfl rfl)) rfl rfl ?_
        refine send ?_
        refine nseq ?_
        refine djoinM (τ := (List Int)) (σ := Option Addr × Nat × Nat × Option Nat × Blk) (fun s7685 (a7686, n7686, c7686, ob7686, blk7686) => []) (fun s7685 (a7686, n7686, c7686, ob7686, blk7686) hh => St φ lo hh ((some b7667, .cells [.int .i64 e7657.A, .int .i64 e7657.B, .int .i64 e7657.Per, .int .i64 e7657.Delay, .int .i64 (w64 (2 * s7570.1))] 65 .exact) :: (some b7660, .cells [.int .i64 e7657.A, .int .i64 e7657.B, .int .i64 e7657.Per, .int .i64 e7657.Delay] 50 .exact) :: (ob7686, blk7686) :: (some l7397, bsy q7398) :: (none, .dead) :: (some b7393, .cells [.int .i64 p7367.Nodes, .slice a7368 n7368 c7368, .slice a7369 n7369 c7369] 25 .exact) :: (some b7389, .cells [.slice a7686 n7686 c7686] 28 .exact) :: (some b7375, .cells [.int .i64 p7370] 3 .exact) :: (some b7371, .cells [.int .i64 p7367.Nodes, .slice a7368 n7368 c7368, .slice a7369 n7369 c7369] 25 .exact) :: own) ∧ OSl (eInt .i64) φ 3 ob7686 blk7686 (.slice a7686 n7686 c7686) s7685) ?_ ?_
        · rintro s7685 ⟨a7686, n7686, c7686, ob7686, blk7686⟩ t0 h7688 ⟨X7687, O7686⟩
          refine nblock ?_
          refine nrnd X7687 (j := 3) rfl (fun h7691 X7692 => ?_)
          refine lpure (v := .bool false) rfl (p_not rfl) rfl rfl ?_
          refine lpure (v := .bool false) rfl (p_move rfl) rfl rfl ?_
          refine lpure (v := .func (.yield l7397) #[] #[]) rfl (p_move rfl) rfl rfl ?_
          refine lread (v := .agg #[.int .i64 e7657.A, .int .i64 e7657.B, .int .i64 e7657.Per, .int .i64 e7657.Delay]) rfl (q_load wd_50 rfl) (St.ld X7692 (j := 1) rfl rfl) rfl ?_
          refine lpure (v := .int .i64 s7570.1) rfl (p_move rfl) rfl rfl ?_
          refine lpure (v := .int .i64 (w64 (2 * s7570.1))) rfl (p_mul rfl) rfl rfl ?_
          refine lpure (v := .int .i64 (w64 ((w64 (2 * s7570.1)) + 1))) rfl (p_add rfl) rfl rfl ?_
          refine lpure (v := .agg #[.int .i64 e7657.A, .int .i64 e7657.B, .int .i64 e7657.Per, .int .i64 e7657.Delay, .int .i64 (w64 ((w64 (2 * s7570.1)) + 1))]) rfl (p_build rfl) (build_st' tz_65 pl_65 rfl) rfl ?_
          refine lround rfl rfl rfl rfl rfl rfl X7692 (j := 3) rfl Q7400 rfl rfl rfl rfl rfl (fun t7693 => ?_)
          refine dreg ?_
          refine lalloc rfl tz_65 rfl rfl rfl X7692 (fun b7694 h7696 X7697 => ?_)
          refine lstore rfl ts_65 rfl rfl (j := 0) rfl rfl rfl rfl rfl rfl X7697 (fun h7698 X7699 => ?_)
          refine lend ?_
          refine basg X7699 (j := 4) rfl (fun h7700 X7701 => ?_)
          refine dblock ?_
          refine dseq ?_
          refine ddraw 0 0 0 (by kernel_rfl) ?_
          refine sload (v := .agg #[.int .i64 e7657.A, .int .i64 e7657.B, .int .i64 e7657.Per, .int .i64 e7657.Delay, .int .i64 (w64 ((w64 (2 * s7570.1)) + 1))]) rfl rfl (q_load wd_65 rfl) (St.ld X7701 (j := 0) rfl rfl) (same_self 20 rfl) rfl ?_
          refine scall (en := fun d => (.int .i64 d)) rfl rfl ca_41 rfl rfl (f41_ok X7701 ((TopoEnd.mk e7657 (w64 ((w64 (2 * s7570.1)) + 1))))) rfl (fun e7702 => ?_)
          refine sload (v := .int .i64 p7370) rfl rfl (q_load wd_3 rfl) (St.ld X7701 (j := 8) rfl rfl) (same_self 20 rfl) rfl ?_
          refine spure (v := .bool (decide (e7702 = p7370))) rfl (p_eq rfl) (lo_t rfl (lo_t rfl rfl)) rfl rfl ?_
          refine send ?_
          refine nseq ?_
          refine djoinM (τ := (List Int)) (σ := Option Addr × Nat × Nat × Option Nat × Blk) (fun s7712 (a7713, n7713, c7713, ob7713, blk7713) => []) (fun s7712 (a7713, n7713, c7713, ob7713, blk7713) hh => St φ lo hh ((some b7694, .cells [.int .i64 e7657.A, .int .i64 e7657.B, .int .i64 e7657.Per, .int .i64 e7657.Delay, .int .i64 (w64 ((w64 (2 * s7570.1)) + 1))] 65 .exact) :: (some b7667, .cells [.int .i64 e7657.A, .int .i64 e7657.B, .int .i64 e7657.Per, .int .i64 e7657.Delay, .int .i64 (w64 (2 * s7570.1))] 65 .exact) :: (some b7660, .cells [.int .i64 e7657.A, .int .i64 e7657.B, .int .i64 e7657.Per, .int .i64 e7657.Delay] 50 .exact) :: (ob7713, blk7713) :: (some l7397, bsy q7398) :: (none, .dead) :: (some b7393, .cells [.int .i64 p7367.Nodes, .slice a7368 n7368 c7368, .slice a7369 n7369 c7369] 25 .exact) :: (some b7389, .cells [.slice a7713 n7713 c7713] 28 .exact) :: (some b7375, .cells [.int .i64 p7370] 3 .exact) :: (some b7371, .cells [.int .i64 p7367.Nodes, .slice a7368 n7368 c7368, .slice a7369 n7369 c7369] 25 .exact) :: own) ∧ OSl (eInt .i64) φ 3 ob7713 blk7713 (.slice a7713 n7713 c7713) s7712) ?_ ?_
          · rintro s7712 ⟨a7713, n7713, c7713, ob7713, blk7713⟩ t0 h7715 ⟨X7714, O7713⟩
            refine nblock ?_
            refine nrnd X7714 (j := 4) rfl (fun h7718 X7719 => ?_)
            refine lpure (v := .bool false) rfl (p_not rfl) rfl rfl ?_
            refine lpure (v := .bool false) rfl (p_pick rfl) rfl rfl ?_
            refine lend ?_
            refine nseq ?_
            refine dcondF rfl rfl ?_
            refine dskip ?_
            refine nblock ?_
            refine nseq ?_
            refine dreg ?_
            refine lpure (v := .int .i64 (w64 (s7570.1 + 1))) rfl (p_add rfl) rfl rfl ?_
            refine lpure (v := .int .i64 (w64 (s7570.1 + 1))) rfl (p_move rfl) rfl rfl ?_
            refine lend ?_
            exact kbackM ih7652 ((w64 (s7570.1 + 1)), s7712) (a7713, n7713, c7713, ob7713, blk7713) (sub_cons rfl (sub_cons rfl (sub_cons rfl (sub_cons rfl sub_nil)))) ⟨(St.pick X7719 (.skip _ (.skip _ (.skip _ (.keep _ (.keep _ (.none _ (.skip _ (.keep _ (.keep _ (.keep _ (.keep _ (.refl _))))))))))))), O7713⟩
          · intro j7716 J7717
            refine dcond rfl rfl (fun k7706 => ?_) (fun k7706 => ?_)
            · refine dreg ?_
              refine lread (v := .slice a7686 n7686 c7686) rfl (q_load wd_28 rfl) (St.ld X7701 (j := 7) rfl rfl) rfl ?_
              refine lpure (v := .pointer (some ⟨b7694, 4, none⟩)) rfl (p_fa fo_65_1 rfl) rfl rfl ?_
              refine lread (v := .int .i64 (w64 ((w64 (2 * s7570.1)) + 1))) rfl (q_load wd_3 rfl) (St.ld X7701 (j := 0) rfl rfl) rfl ?_
              obtain ⟨h7720, b7720, hv7720, X7720, O7720⟩ := OSl.lay (E := (eInt .i64)) (φ := φ) (cs := [.int .i64 (w64 ((w64 (2 * s7570.1)) + 1))]) (l := [(w64 ((w64 (2 * s7570.1)) + 1))]) (len := 1) (parts := [(0, .int .i64 (w64 ((w64 (2 * s7570.1)) + 1)))]) un_28 ts_3 rfl rfl rfl tz_3 rfl rfl (show RowD (eInt .i64) φ [.int .i64 (w64 ((w64 (2 * s7570.1)) + 1))] [(w64 ((w64 (2 * s7570.1)) + 1))] from ⟨[.int .i64 (w64 ((w64 (2 * s7570.1)) + 1))], _, rfl, rfl, rfl⟩) rfl rfl X7701
              refine lheap rfl (h_buildSlice rfl) hv7720 rfl ?_
              obtain ⟨ws7722, hw7722⟩ := OSl.read O7720 X7720 (k := 0) rfl (n := 1) rfl
              refine Sim.mustM fun k7722 => ?_
              obtain ⟨h7722, a7722, c7722, ob7722, blk7722, hv7722, X7722, O7722⟩ := OSl.append O7686 X7720 (j := 4) rfl hw7722 k7722 (ts := #[28, 28]) rfl un_28 (argOk_of ax_28_28) ts_3 rfl rfl tb_3 rfl tz_3 rfl
              refine lheap rfl (h_builtin rfl rfl) hv7722 rfl ?_
              refine lstore rfl ts_28 rfl rfl (j := 8) rfl rfl rfl rfl rfl rfl X7722 (fun h7723 X7724 => ?_)
              refine lend ?_
              exact jmpM J7717 (s7685 ++ ([(w64 ((w64 (2 * s7570.1)) + 1))])) (a7722, (s7685.length + ([(w64 ((w64 (2 * s7570.1)) + 1))]).length), c7722, ob7722, blk7722) sub_nil ⟨(St.pick X7724 (.skip _ (.keep _ (.keep _ (.keep _ (.keep _ (.keep _ (.none _ (.skip _ (.keep _ (.keep _ (.keep _ (.keep _ (.refl _)))))))))))))), O7722⟩
            · refine dskip ?_
              exact jmpM J7717 s7685 (a7686, n7686, c7686, ob7686, blk7686) sub_nil ⟨(St.pick X7701 (.keep _ (.keep _ (.keep _ (.keep _ (.keep _ (.none _ (.skip _ (.keep _ (.keep _ (.keep _ (.keep _ (.refl _))))))))))))), O7686⟩
        · intro j7689 J7690
          refine dcond rfl rfl (fun k7679 => ?_) (fun k7679 => ?_)
          · refine dreg ?_
            refine lread (v := .slice a7572 n7572 c7572) rfl (q_load wd_28 rfl) (St.ld X7674 (j := 6) rfl rfl) rfl ?_
            refine lpure (v := .pointer (some ⟨b7667, 4, none⟩)) rfl (p_fa fo_65_1 rfl) rfl rfl ?_
            refine lread (v := .int .i64 (w64 (2 * s7570.1))) rfl (q_load wd_3 rfl) (St.ld X7674 (j := 0) rfl rfl) rfl ?_
            obtain ⟨h7725, b7725, hv7725, X7725, O7725⟩ := OSl.lay (E := (eInt .i64)) (φ := φ) (cs := [.int .i64 (w64 (2 * s7570.1))]) (l := [(w64 (2 * s7570.1))]) (len := 1) (parts := [(0, .int .i64 (w64 (2 * s7570.1)))]) un_28 ts_3 rfl rfl rfl tz_3 rfl rfl (show RowD (eInt .i64) φ [.int .i64 (w64 (2 * s7570.1))] [(w64 (2 * s7570.1))] from ⟨[.int .i64 (w64 (2 * s7570.1))], _, rfl, rfl, rfl⟩) rfl rfl X7674
            refine lheap rfl (h_buildSlice rfl) hv7725 rfl ?_
            obtain ⟨ws7727, hw7727⟩ := OSl.read O7725 X7725 (k := 0) rfl (n := 1) rfl
            refine Sim.mustM fun k7727 => ?_
            obtain ⟨h7727, a7727, c7727, ob7727, blk7727, hv7727, X7727, O7727⟩ := OSl.append O7572 X7725 (j := 3) rfl hw7727 k7727 (ts := #[28, 28]) rfl un_28 (argOk_of ax_28_28) ts_3 rfl rfl tb_3 rfl tz_3 rfl
            refine lheap rfl (h_builtin rfl rfl) hv7727 rfl ?_
            refine lstore rfl ts_28 rfl rfl (j := 7) rfl rfl rfl rfl rfl rfl X7727 (fun h7728 X7729 => ?_)
            refine lend ?_
            exact jmpM J7690 (s7570.2 ++ ([(w64 (2 * s7570.1))])) (a7727, (s7570.2.length + ([(w64 (2 * s7570.1))]).length), c7727, ob7727, blk7727) sub_nil ⟨(St.pick X7729 (.skip _ (.keep _ (.keep _ (.keep _ (.keep _ (.none _ (.skip _ (.keep _ (.keep _ (.keep _ (.keep _ (.refl _))))))))))))), O7727⟩
          · refine dskip ?_
            exact jmpM J7690 s7570.2 (a7572, n7572, c7572, ob7572, blk7572) sub_nil ⟨(St.pick X7674 (.keep _ (.keep _ (.keep _ (.keep _ (.none _ (.skip _ (.keep _ (.keep _ (.keep _ (.keep _ (.refl _)))))))))))), O7572⟩
      · refine dexit ?_
        refine eseq ?_
        refine eloop ?_
        refine xblock ?_
        refine kin_n res_0 ?_
        refine rend_n X7654 (j := 1) rfl (fun h7730 X7731 => ?_)
        refine nblock ?_
        refine nseq ?_
        refine dseq ?_
        refine dreg ?_
        refine lread (v := .slice a7572 n7572 c7572) rfl (q_load wd_28 rfl) (St.ld X7731 (j := 4) rfl rfl) rfl ?_
        refine lpure (v := .slice a7572 n7572 c7572) rfl (p_assign rfl) rfl rfl ?_
        refine lpure (v := .int .i64 0) rfl (p_assign rfl) rfl rfl ?_
        refine lend ?_
        refine nseq ?_
        refine dret ?_
        exact kopen_r (res_2 resT resT) ⟨φ, a7572, n7572, c7572, ob7572, blk7572, (Fz.le_refl _), St.pick X7731 (.keep _ (.skip _ (.skip _ (.skip _ (.skip _ (.skip _ (.skip _ (.refl _)))))))), rfl, O7572⟩
/-! isochron/topo.Find -/
theorem f12_ok {n : Nat} {φ : Fz} {lo : Nat} {h : Heap} {own : OwnL} (X : St φ lo h own) (p7751 : ApiTopo) (p7754 : Int) (p7755 : Int) {a7752 : Option Addr} {n7752 c7752 : Nat} {a7753 : Option Addr} {n7753 c7753 : Nat} (H7752 : RSl eBool φ (.slice a7752 n7752 c7752) p7751.Station) (H7753 : RSl eApiLink φ (.slice a7753 n7753 c7753) p7751.Links) : Sim ((recN Try.prog LL cutF (n + 7)).call 12 #[(.agg #[.int .i64 p7751.Nodes, .slice a7752 n7752 c7752, .slice a7753 n7753 c7753]), (.int .i64 p7754), (.int .i64 p7755)] h) (m_topo_Find p7751 p7754 p7755) (fun (d : (Int × Int)) p => p = (.tuple #[.int .i64 d.1, .int .i64 d.2], h)) := by
  refine fcut Try.func12 rfl rfl rfl rfl X ?_
  intro h0 X0
  refine dseq ?_
  refine dreg ?_
  refine lbox rfl rfl rfl rfl rfl X0 (fun b7756 h7758 X7759 => ?_)
  refine lbox rfl rfl rfl rfl rfl X7759 (fun b7760 h7762 X7763 => ?_)
  refine lbox rfl rfl rfl rfl rfl X7763 (fun b7764 h7766 X7767 => ?_)
  refine lalloc rfl tz_3 rfl rfl rfl X7767 (fun b7768 h7770 X7771 => ?_)
  refine lalloc rfl tz_29 rfl rfl rfl X7771 (fun b7772 h7774 X7775 => ?_)
  refine lend ?_
  refine nseq ?_
  refine dseq ?_
  refine dseq ?_
  refine dreg ?_
  refine lread (v := .agg #[.int .i64 p7751.Nodes, .slice a7752 n7752 c7752, .slice a7753 n7753 c7753]) rfl (q_load wd_25 rfl) (St.ld X7775 (j := 4) rfl rfl) rfl ?_
  refine lcall rfl rfl ca_34 rfl rfl (f34_ok X7775 p7751 H7752 H7753) rfl (fun e7776 v7777 h7778 hq7779 => ?_)
  cases hq7779
  refine lpure (v := .int .i64 e7776) rfl (p_assign rfl) rfl rfl ?_
  refine lend ?_
  refine nseq ?_
  refine dseq ?_
  refine dreg ?_
  refine lpure (v := .int .i64 e7776) rfl (p_move rfl) rfl rfl ?_
  refine lpure (v := .bool (decide (e7776 ≠ 0))) rfl (p_ne rfl) rfl rfl ?_
  refine lend ?_
  refine nseq ?_
  refine dcond rfl rfl (fun k7780 => ?_) (fun k7780 => ?_)
  · refine dseq ?_
    refine dreg ?_
    refine lpure (v := .int .i64 e7776) rfl (p_move rfl) rfl rfl ?_
    refine lstore rfl ts_3 rfl rfl (j := 1) rfl rfl rfl rfl rfl rfl X7775 (fun h7781 X7782 => ?_)
    refine lstore rfl ts_29 rfl rfl (j := 0) rfl rfl rfl rfl rfl rfl X7782 (fun h7783 X7784 => ?_)
    refine lend ?_
    refine nseq ?_
    refine dret ?_
    refine rseq ?_
    exact kcut_r (res_2 (resC wd_3 (St.ld X7784 (j := 1) rfl rfl)) (resC wd_29 (St.ld X7784 (j := 0) rfl rfl))) X7784 rfl rfl
  · refine dskip ?_
    refine nseq ?_
    refine dseq ?_
    refine dseq ?_
    refine dreg ?_
    refine lread (v := .agg #[.int .i64 p7751.Nodes, .slice a7752 n7752 c7752, .slice a7753 n7753 c7753]) rfl (q_load wd_25 rfl) (St.ld X7775 (j := 4) rfl rfl) rfl ?_
    refine lread (v := .int .i64 p7754) rfl (q_load wd_3 rfl) (St.ld X7775 (j := 3) rfl rfl) rfl ?_
    refine lcall rfl rfl ca_39 rfl rfl (f39_ok X7775 p7751 p7754 H7752 H7753) rfl (fun e7785 v7786 h7787 hq7788 => ?_)
    cases hq7788
    refine lpure (v := .bool (!e7785)) rfl (p_not rfl) rfl rfl ?_
    refine lpure (v := .bool (!e7785)) rfl (p_move rfl) rfl rfl ?_
    refine ljoinM (τ := Bool) (σ := Unit) (fun s7795 (_ : Unit) => [(3, .pointer (some ⟨b7756, 0, none⟩)), (4, .pointer (some ⟨b7760, 0, none⟩)), (5, .pointer (some ⟨b7764, 0, none⟩)), (6, .pointer (some ⟨b7768, 0, none⟩)), (7, .pointer (some ⟨b7772, 0, none⟩)), (24, .bool s7795)]) (fun s7795 (_ : Unit) hh => St φ h.n hh ([(some b7772, .cells [.int .i64 0] 29 .exact), (some b7768, .cells [.int .i64 0] 3 .exact), (some b7764, .cells [.int .i64 p7755] 3 .exact), (some b7760, .cells [.int .i64 p7754] 3 .exact), (some b7756, .cells [.int .i64 p7751.Nodes, .slice a7752 n7752 c7752, .slice a7753 n7753 c7753] 25 .exact)])) 5 ?_ ?_
    · rintro s7795 _ t0 h7797 X7796
      refine lend ?_
      refine nseq ?_
      refine dcond rfl rfl (fun k7798 => ?_) (fun k7798 => ?_)
      · refine dseq ?_
        refine dreg ?_
        refine lstore rfl ts_3 rfl rfl (j := 1) rfl rfl rfl rfl rfl rfl X7796 (fun h7799 X7800 => ?_)
        refine lstore rfl ts_29 rfl rfl (j := 0) rfl rfl rfl rfl rfl rfl X7800 (fun h7801 X7802 => ?_)
        refine lend ?_
        refine nseq ?_
        refine dret ?_
        refine rseq ?_
        exact kcut_r (res_2 (resC wd_3 (St.ld X7802 (j := 1) rfl rfl)) (resC wd_29 (St.ld X7802 (j := 0) rfl rfl))) X7802 rfl rfl
      · refine dskip ?_
        refine nseq ?_
        refine dseq ?_
        refine dseq ?_
        refine dreg ?_
        refine lread (v := .agg #[.int .i64 p7751.Nodes, .slice a7752 n7752 c7752, .slice a7753 n7753 c7753]) rfl (q_load wd_25 rfl) (St.ld X7796 (j := 4) rfl rfl) rfl ?_
        refine linl rfl rfl rfl rfl ca_40 rfl Try.func40 rfl rfl rfl rfl rfl ?_
        refine dseq ?_
        refine dreg ?_
        refine lbox rfl rfl rfl rfl rfl X7796 (fun b7803 h7805 X7806 => ?_)
        refine lpure (v := .nilFunc) rfl (p_assign rfl) rfl rfl ?_
        refine lend ?_
        refine nseq ?_
        refine dseq ?_
        refine dreg ?_
        refine lpure (v := .func (.func 62) #[] #[.pointer (some ⟨b7803, 0, none⟩)]) rfl (p_makeFunc rfl) rfl rfl ?_
        refine lpure (v := .func (.func 62) #[] #[.pointer (some ⟨b7803, 0, none⟩)]) rfl (p_assign rfl) rfl rfl ?_
        refine lend ?_
        refine nseq ?_
        refine dret ?_
        refine kin_r (res_1 resT) ?_
        refine lend ?_
        refine nseq ?_
        refine dblock ?_
        refine drange rfl rfl ca_62 Try.func62 rfl rfl X7806 (fun _ => rfl) ?_
        intro l7807 q7808 df7809 h7811 Q7810 X7812
        refine dseq ?_
        refine dreg ?_
        refine lpure (v := .pointer (some ⟨b7803, 2, none⟩)) rfl (p_fa fo_25_2 rfl) rfl rfl ?_
        refine lread (v := .slice a7753 n7753 c7753) rfl (q_load wd_23 rfl) (St.ld X7812 (j := 2) rfl rfl) rfl ?_
        refine lpure (v := .int .i64 (p7751.Links.length : Int)) rfl (p_len rfl rfl rfl un_23 rfl) (RSl.lenC H7753) rfl ?_
        refine lpure (v := .int .i64 0) rfl (p_move rfl) rfl rfl ?_
        refine lend ?_
        refine nseq ?_
        refine dblock ?_
        refine dloopM (τ := Int) (σ := Unit) (fun s8013 (_ : Unit) => [(0, .func (.yield l7807) #[] #[]), (6, .slice a7753 n7753 c7753), (7, .int .i64 (p7751.Links.length : Int)), (8, .int .i64 s8013)]) (fun s8013 (_ : Unit) hh => St φ h.n hh ([(some l7807, rdy q7808), (none, .dead), (some b7803, .cells [.int .i64 p7751.Nodes, .slice a7752 n7752 c7752, .slice a7753 n7753 c7753] 25 .exact), (some b7772, .cells [.int .i64 0] 29 .exact), (some b7768, .cells [.int .i64 0] 3 .exact), (some b7764, .cells [.int .i64 p7755] 3 .exact), (some b7760, .cells [.int .i64 p7754] 3 .exact), (some b7756, .cells [.int .i64 p7751.Nodes, .slice a7752 n7752 c7752, .slice a7753 n7753 c7753] 25 .exact)])) 0 () (sub_cons rfl (sub_cons rfl (sub_cons rfl (sub_cons rfl sub_nil)))) (St.pick X7812 (.keep _ (.none _ (.skip _ (.keep _ (.keep _ (.keep _ (.keep _ (.keep _ (.keep _ (.nil _))))))))))) ?_
        rintro n8114 ih8113 s8013 _ t0 h8116 X8115
        refine dseq ?_
        refine dreg ?_
        refine lpure (v := .bool (decide (s8013 < (p7751.Links.length : Int)))) rfl (p_lt rfl) rfl rfl ?_
        refine lend ?_
        refine nseq ?_
        refine dseq ?_
        refine dcond rfl rfl (fun k8117 => ?_) (fun k8117 => ?_)
        · refine dskip ?_
          refine nseq ?_
          refine dseq ?_
          refine dblock ?_
          refine dseq ?_
          refine dreg ?_
          refine lpure (v := .int .i64 s8013) rfl (p_move rfl) rfl rfl ?_
          refine Sim.bindM fun e8118 he8119 => ?_
          obtain ⟨p8120, cs8120, hp8120, hF8120, hR8120⟩ := RSl.ia H7753 he8119 (kd := .i64) (n := 4) rfl
          obtain rfl := eApiLink_el hR8120
          refine lpure (v := p8120) rfl (p_ia rs_23 rfl) hp8120 rfl ?_
          refine lread (v := .agg #[.int .i64 e8118.A, .int .i64 e8118.B, .int .i64 e8118.Per, .int .i64 e8118.Delay]) rfl (q_load wd_50 rfl) (FP.ldw X8115 hF8120 rfl rfl) rfl ?_
          refine lalloc rfl tz_50 rfl rfl rfl X8115 (fun b8121 h8123 X8124 => ?_)
          refine lpure (v := .int .i64 s8013) rfl (p_assign rfl) rfl rfl ?_
          refine lstore rfl ts_50 rfl rfl (j := 0) rfl rfl rfl rfl rfl rfl X8124 (fun h8125 X8126 => ?_)
          refine lend ?_
          refine nseq ?_
          refine dseq ?_
          refine dreg ?_
          refine lpure (v := .func (.yield l7807) #[] #[]) rfl (p_move rfl) rfl rfl ?_
          refine lread (v := .agg #[.int .i64 e8118.A, .int .i64 e8118.B, .int .i64 e8118.Per, .int .i64 e8118.Delay]) rfl (q_load wd_50 rfl) (St.ld X8126 (j := 0) rfl rfl) rfl ?_
          refine lpure (v := .int .i64 s8013) rfl (p_move rfl) rfl rfl ?_
          refine lpure (v := .int .i64 (w64 (2 * s8013))) rfl (p_mul rfl) rfl rfl ?_
          refine lpure (v := .agg #[.int .i64 e8118.A, .int .i64 e8118.B, .int .i64 e8118.Per, .int .i64 e8118.Delay, .int .i64 (w64 (2 * s8013))]) rfl (p_build rfl) (build_st' tz_65 pl_65 rfl) rfl ?_
          refine lround rfl rfl rfl rfl rfl rfl X8126 (j := 1) rfl Q7810 rfl rfl rfl rfl rfl (fun t8127 => ?_)
          refine dreg ?_
          refine lalloc rfl tz_65 rfl rfl rfl X8126 (fun b8128 h8130 X8131 => ?_)
          refine lstore rfl ts_65 rfl rfl (j := 0) rfl rfl rfl rfl rfl rfl X8131 (fun h8132 X8133 => ?_)
          refine lend ?_
          refine basg X8133 (j := 2) rfl (fun h8134 X8135 => ?_)
          refine dblock ?_
          refine dseq ?_
          refine ddraw 0 0 0 (by kernel_rfl) ?_
          refine sload (v := .agg #[.int .i64 e8118.A, .int .i64 e8118.B, .int .i64 e8118.Per, .int .i64 e8118.Delay, .int .i64 (w64 (2 * s8013))]) rfl rfl (q_load wd_65 rfl) (St.ld X8135 (j := 0) rfl rfl) (same_self 20 rfl) rfl ?_
          refine scall (en := fun d => (.int .i64 d)) rfl rfl ca_41 rfl rfl (f41_ok X8135 ((TopoEnd.mk e8118 (w64 (2 * s8013))))) rfl (fun e8136 => ?_)
          refine sload (v := .int .i64 p7754) rfl rfl (q_load wd_3 rfl) (St.ld X8135 (j := 8) rfl rfl) (same_self 20 rfl) rfl ?_
          refine spure (v := .bool (decide (e8136 = p7754))) rfl (p_eq rfl) (lo_t rfl (lo_t rfl rfl)) rfl rfl ?_
          refine spure (v := .bool (decide (e8136 = p7754))) rfl (p_move rfl) (lo_t rfl rfl) rfl rfl ?_
          refine sjoinM (τ := Bool) (σ := Unit) (fun s8146 (_ : Unit) => [(6, .pointer (some ⟨b7768, 0, none⟩)), (7, .pointer (some ⟨b7772, 0, none⟩)), (9, .pointer (some ⟨b8128, 0, none⟩)), (37, .bool s8146)]) (fun s8146 (_ : Unit) hh => St φ h.n hh ([(some b8128, .cells [.int .i64 e8118.A, .int .i64 e8118.B, .int .i64 e8118.Per, .int .i64 e8118.Delay, .int .i64 (w64 (2 * s8013))] 65 .exact), (some b8121, .cells [.int .i64 e8118.A, .int .i64 e8118.B, .int .i64 e8118.Per, .int .i64 e8118.Delay] 50 .exact), (some l7807, bsy q7808), (none, .dead), (some b7803, .cells [.int .i64 p7751.Nodes, .slice a7752 n7752 c7752, .slice a7753 n7753 c7753] 25 .exact), (some b7772, .cells [.int .i64 0] 29 .exact), (some b7768, .cells [.int .i64 0] 3 .exact), (some b7764, .cells [.int .i64 p7755] 3 .exact), (some b7760, .cells [.int .i64 p7754] 3 .exact), (some b7756, .cells [.int .i64 p7751.Nodes, .slice a7752 n7752 c7752, .slice a7753 n7753 c7753] 25 .exact)])) 5 10 ?_ ?_
          · rintro s8146 _ t0 h8148 X8147
            refine send ?_
            refine nseq ?_
            refine dcond rfl rfl (fun k8149 => ?_) (fun k8149 => ?_)
            · refine dseq ?_
              refine dreg ?_
              refine lpure (v := .pointer (some ⟨b8128, 4, none⟩)) rfl (p_fa fo_65_1 rfl) rfl rfl ?_
              refine lread (v := .int .i64 (w64 (2 * s8013))) rfl (q_load wd_3 rfl) (St.ld X8147 (j := 0) rfl rfl) rfl ?_
              refine lstore rfl ts_3 rfl rfl (j := 6) rfl rfl rfl rfl rfl rfl X8147 (fun h8150 X8151 => ?_)
              refine lstore rfl ts_29 rfl rfl (j := 5) rfl rfl rfl rfl rfl rfl X8151 (fun h8152 X8153 => ?_)
              refine lend ?_
              refine nseq ?_
              refine dret ?_
              refine rblock ?_
              refine rrnd X8153 (j := 2) rfl (fun h8154 X8155 => ?_)
              refine lpure (v := .bool true) rfl (p_not rfl) rfl rfl ?_
              refine lpure (v := .bool true) rfl (p_move rfl) rfl rfl ?_
              refine lskip rfl rfl ?_
              refine lskip rfl rfl ?_
              refine lskip rfl rfl ?_
              refine lskip rfl rfl ?_
              refine lskip rfl rfl ?_
              refine lskip rfl rfl ?_
              refine lskip rfl rfl ?_
              refine lskip rfl rfl ?_
              refine lpure (v := .bool true) rfl (p_pick rfl) rfl rfl ?_
              refine lend ?_
              refine nseq ?_
              refine dcondT rfl rfl ?_
              refine dret ?_
              refine rblock ?_
              refine rseq ?_
              refine rloop ?_
              refine rblock ?_
              refine kin_r res_0 ?_
              refine rend_d X8155 (j := 2) rfl (.inl ⟨rfl, rfl⟩) (fun h8156 X8157 => ?_)
              refine rblock ?_
              refine rseq ?_
              exact kcut_r (res_2 (resC wd_3 (St.ld X8157 (j := 6) rfl rfl)) (resC wd_29 (St.ld X8157 (j := 5) rfl rfl))) X8157 rfl rfl
            · refine dskip ?_
              refine nblock ?_
              refine nrnd X8147 (j := 2) rfl (fun h8158 X8159 => ?_)
              refine lpure (v := .bool false) rfl (p_not rfl) rfl rfl ?_
              refine lpure (v := .bool false) rfl (p_move rfl) rfl rfl ?_
              refine lpure (v := .func (.yield l7807) #[] #[]) rfl (p_move rfl) rfl rfl ?_
              refine lread (v := .agg #[.int .i64 e8118.A, .int .i64 e8118.B, .int .i64 e8118.Per, .int .i64 e8118.Delay]) rfl (q_load wd_50 rfl) (St.ld X8159 (j := 1) rfl rfl) rfl ?_
              refine lpure (v := .int .i64 s8013) rfl (p_move rfl) rfl rfl ?_
              refine lpure (v := .int .i64 (w64 (2 * s8013))) rfl (p_mul rfl) rfl rfl ?_
              refine lpure (v := .int .i64 (w64 ((w64 (2 * s8013)) + 1))) rfl (p_add rfl) rfl rfl ?_
              refine lpure (v := .agg #[.int .i64 e8118.A, .int .i64 e8118.B, .int .i64 e8118.Per, .int .i64 e8118.Delay, .int .i64 (w64 ((w64 (2 * s8013)) + 1))]) rfl (p_build rfl) (build_st' tz_65 pl_65 rfl) rfl ?_
              refine lround rfl rfl rfl rfl rfl rfl X8159 (j := 2) rfl Q7810 rfl rfl rfl rfl rfl (fun t8160 => ?_)
              refine dreg ?_
              refine lalloc rfl tz_65 rfl rfl rfl X8159 (fun b8161 h8163 X8164 => ?_)
              refine lstore rfl ts_65 rfl rfl (j := 0) rfl rfl rfl rfl rfl rfl X8164 (fun h8165 X8166 => ?_)
              refine lend ?_
              refine basg X8166 (j := 3) rfl (fun h8167 X8168 => ?_)
              refine dblock ?_
              refine dseq ?_
              refine ddraw 0 0 0 (by kernel_rfl) ?_
              refine sload (v := .agg #[.int .i64 e8118.A, .int .i64 e8118.B, .int .i64 e8118.Per, .int .i64 e8118.Delay, .int .i64 (w64 ((w64 (2 * s8013)) + 1))]) rfl rfl (q_load wd_65 rfl) (St.ld X8168 (j := 0) rfl rfl) (same_self 20 rfl) rfl ?_
              refine scall (en := fun d => (.int .i64 d)) rfl rfl ca_41 rfl rfl (f41_ok X8168 ((TopoEnd.mk e8118 (w64 ((w64 (2 * s8013)) + 1))))) rfl (fun e8169 => ?_)
              refine sload (v := .int .i64 p7754) rfl rfl (q_load wd_3 rfl) (St.ld X8168 (j := 9) rfl rfl) (same_self 20 rfl) rfl ?_
              refine spure (v := .bool (decide (e8169 = p7754))) rfl (p_eq rfl) (lo_t rfl (lo_t rfl rfl)) rfl rfl ?_
              refine spure (v := .bool (decide (e8169 = p7754))) rfl (p_move rfl) (lo_t rfl rfl) rfl rfl ?_
              refine sjoinM (τ := Bool) (σ := Unit) (fun s8179 (_ : Unit) => [(6, .pointer (some ⟨b7768, 0, none⟩)), (7, .pointer (some ⟨b7772, 0, none⟩)), (9, .pointer (some ⟨b8161, 0, none⟩)), (37, .bool s8179)]) (fun s8179 (_ : Unit) hh => St φ h.n hh ([(some b8161, .cells [.int .i64 e8118.A, .int .i64 e8118.B, .int .i64 e8118.Per, .int .i64 e8118.Delay, .int .i64 (w64 ((w64 (2 * s8013)) + 1))] 65 .exact), (some b8128, .cells [.int .i64 e8118.A, .int .i64 e8118.B, .int .i64 e8118.Per, .int .i64 e8118.Delay, .int .i64 (w64 (2 * s8013))] 65 .exact), (some b8121, .cells [.int .i64 e8118.A, .int .i64 e8118.B, .int .i64 e8118.Per, .int .i64 e8118.Delay] 50 .exact), (some l7807, bsy q7808), (none, .dead), (some b7803, .cells [.int .i64 p7751.Nodes, .slice a7752 n7752 c7752, .slice a7753 n7753 c7753] 25 .exact), (some b7772, .cells [.int .i64 0] 29 .exact), (some b7768, .cells [.int .i64 0] 3 .exact), (some b7764, .cells [.int .i64 p7755] 3 .exact), (some b7760, .cells [.int .i64 p7754] 3 .exact), (some b7756, .cells [.int .i64 p7751.Nodes, .slice a7752 n7752 c7752, .slice a7753 n7753 c7753] 25 .exact)])) 5 10 ?_ ?_
              · rintro s8179 _ t0 h8181 X8180
                refine send ?_
                refine nseq ?_
                refine dcond rfl rfl (fun k8182 => ?_) (fun k8182 => ?_)
                · refine dseq ?_
                  refine dreg ?_
                  refine lpure (v := .pointer (some ⟨b8161, 4, none⟩)) rfl (p_fa fo_65_1 rfl) rfl rfl ?_
                  refine lread (v := .int .i64 (w64 ((w64 (2 * s8013)) + 1))) rfl (q_load wd_3 rfl) (St.ld X8180 (j := 0) rfl rfl) rfl ?_
                  refine lstore rfl ts_3 rfl rfl (j := 7) rfl rfl rfl rfl rfl rfl X8180 (fun h8183 X8184 => ?_)
                  refine lstore rfl ts_29 rfl rfl (j := 6) rfl rfl rfl rfl rfl rfl X8184 (fun h8185 X8186 => ?_)
                  refine lend ?_
                  refine nseq ?_
                  refine dret ?_
                  refine rblock ?_
                  refine rrnd X8186 (j := 3) rfl (fun h8187 X8188 => ?_)
                  refine lpure (v := .bool true) rfl (p_not rfl) rfl rfl ?_
                  refine lpure (v := .bool true) rfl (p_pick rfl) rfl rfl ?_
                  refine lend ?_
                  refine nseq ?_
                  refine dcondT rfl rfl ?_
                  refine dret ?_
                  refine rblock ?_
                  refine rseq ?_
                  refine rloop ?_
                  refine rblock ?_
                  refine kin_r res_0 ?_
                  refine rend_d X8188 (j := 3) rfl (.inl ⟨rfl, rfl⟩) (fun h8189 X8190 => ?_)
                  refine rblock ?_
                  refine rseq ?_
                  exact kcut_r (res_2 (resC wd_3 (St.ld X8190 (j := 7) rfl rfl)) (resC wd_29 (St.ld X8190 (j := 6) rfl rfl))) X8190 rfl rfl
                · refine dskip ?_
                  refine nblock ?_
                  refine nrnd X8180 (j := 3) rfl (fun h8191 X8192 => ?_)
                  refine lpure (v := .bool false) rfl (p_not rfl) rfl rfl ?_
                  refine lpure (v := .bool false) rfl (p_pick rfl) rfl rfl ?_
                  refine lend ?_
                  refine nseq ?_
                  refine dcondF rfl rfl ?_
                  refine dskip ?_
                  refine nblock ?_
                  refine nseq ?_
                  refine dreg ?_
                  refine lpure (v := .int .i64 (w64 (s8013 + 1))) rfl (p_add rfl) rfl rfl ?_
                  refine lpure (v := .int .i64 (w64 (s8013 + 1))) rfl (p_move rfl) rfl rfl ?_
                  refine lend ?_
                  exact kbackM ih8113 (w64 (s8013 + 1)) () (sub_cons rfl (sub_cons rfl (sub_cons rfl (sub_cons rfl sub_nil)))) (St.pick X8192 (.skip _ (.skip _ (.skip _ (.keep _ (.none _ (.skip _ (.keep _ (.keep _ (.keep _ (.keep _ (.keep _ (.keep _ (.nil _))))))))))))))
              · intro j8193 J8194
                refine sif (j := 32) (show _ = Value.bool (decide (e8169 = p7754)) from rfl) (fun k8195 => ?_) (fun k8195 => ?_)
                · refine sload (v := .agg #[.int .i64 e8118.A, .int .i64 e8118.B, .int .i64 e8118.Per, .int .i64 e8118.Delay, .int .i64 (w64 ((w64 (2 * s8013)) + 1))]) rfl rfl (q_load wd_65 rfl) (St.ld X8168 (j := 0) rfl rfl) (same_self 20 rfl) rfl ?_
                  refine scall (en := fun d => (.int .i64 d)) rfl rfl ca_42 rfl rfl (f42_ok X8168 ((TopoEnd.mk e8118 (w64 ((w64 (2 * s8013)) + 1))))) rfl (fun e8196 => ?_)
                  refine sload (v := .int .i64 p7755) rfl rfl (q_load wd_3 rfl) (St.ld X8168 (j := 8) rfl rfl) (same_self 20 rfl) rfl ?_
                  refine spure (v := .bool (decide (e8196 = p7755))) rfl (p_eq rfl) (lo_t rfl (lo_t rfl rfl)) rfl rfl ?_
                  refine spure (v := .bool (decide (e8196 = p7755))) rfl (p_pick rfl) (lo_t rfl (lo_t rfl (lo_c rfl))) rfl rfl ?_
                  exact sjmpM J8194 (decide (e8196 = p7755)) () (sub_cons rfl (sub_cons rfl (sub_cons rfl (sub_cons rfl sub_nil)))) (St.pick X8168 (.keep _ (.keep _ (.keep _ (.keep _ (.none _ (.skip _ (.keep _ (.keep _ (.keep _ (.keep _ (.keep _ (.keep _ (.nil _))))))))))))))
                · refine sskip rfl rfl ?_
                  refine sskip rfl rfl ?_
                  refine sskip rfl rfl ?_
                  refine sskip rfl rfl ?_
                  refine spure (v := .bool false) rfl (p_pick rfl) (lo_t rfl (lo_t rfl (lo_c rfl))) rfl rfl ?_
                  exact sjmpM J8194 false () (sub_cons rfl (sub_cons rfl (sub_cons rfl (sub_cons rfl sub_nil)))) (St.pick X8168 (.keep _ (.keep _ (.keep _ (.keep _ (.none _ (.skip _ (.keep _ (.keep _ (.keep _ (.keep _ (.keep _ (.keep _ (.nil _))))))))))))))
          · intro j8200 J8201
            refine sif (j := 32) (show _ = Value.bool (decide (e8136 = p7754)) from rfl) (fun k8202 => ?_) (fun k8202 => ?_)
            · refine sload (v := .agg #[.int .i64 e8118.A, .int .i64 e8118.B, .int .i64 e8118.Per, .int .i64 e8118.Delay, .int .i64 (w64 (2 * s8013))]) rfl rfl (q_load wd_65 rfl) (St.ld X8135 (j := 0) rfl rfl) (same_self 20 rfl) rfl ?_
              refine scall (en := fun d => (.int .i64 d)) rfl rfl ca_42 rfl rfl (f42_ok X8135 ((TopoEnd.mk e8118 (w64 (2 * s8013))))) rfl (fun e8203 => ?_)
              refine sload (v := .int .i64 p7755) rfl rfl (q_load wd_3 rfl) (St.ld X8135 (j := 7) rfl rfl) (same_self 20 rfl) rfl ?_
              refine spure (v := .bool (decide (e8203 = p7755))) rfl (p_eq rfl) (lo_t rfl (lo_t rfl rfl)) rfl rfl ?_
              refine spure (v := .bool (decide (e8203 = p7755))) rfl (p_pick rfl) (lo_t rfl (lo_t rfl (lo_c rfl))) rfl rfl ?_
              exact sjmpM J8201 (decide (e8203 = p7755)) () (sub_cons rfl (sub_cons rfl (sub_cons rfl (sub_cons rfl sub_nil)))) (St.pick X8135 (.keep _ (.keep _ (.keep _ (.none _ (.skip _ (.keep _ (.keep _ (.keep _ (.keep _ (.keep _ (.keep _ (.nil _)))))))))))))
            · refine sskip rfl rfl ?_
              refine sskip rfl rfl ?_
              refine sskip rfl rfl ?_
              refine sskip rfl rfl ?_
              refine spure (v := .bool false) rfl (p_pick rfl) (lo_t rfl (lo_t rfl (lo_c rfl))) rfl rfl ?_
              exact sjmpM J8201 false () (sub_cons rfl (sub_cons rfl (sub_cons rfl (sub_cons rfl sub_nil)))) (St.pick X8135 (.keep _ (.keep _ (.keep _ (.none _ (.skip _ (.keep _ (.keep _ (.keep _ (.keep _ (.keep _ (.keep _ (.nil _)))))))))))))
        · refine dexit ?_
          refine eseq ?_
          refine eloop ?_
          refine xblock ?_
          refine kin_n res_0 ?_
          refine rend_n X8115 (j := 0) rfl (fun h8207 X8208 => ?_)
          refine nblock ?_
          refine nseq ?_
          refine dseq ?_
          refine dreg ?_
          refine lstore rfl ts_3 rfl rfl (j := 4) rfl rfl rfl rfl rfl rfl X8208 (fun h8209 X8210 => ?_)
          refine lstore rfl ts_29 rfl rfl (j := 3) rfl rfl rfl rfl rfl rfl X8210 (fun h8211 X8212 => ?_)
          refine lend ?_
          refine nseq ?_
          refine dret ?_
          exact kcut_r (res_2 (resC wd_3 (St.ld X8212 (j := 4) rfl rfl)) (resC wd_29 (St.ld X8212 (j := 3) rfl rfl))) X8212 rfl rfl
    · intro j8213 J8214
      refine lif (i := 19) (show _ = Value.bool (!e7785) from rfl) (fun k8215 => ?_) (fun k8215 => ?_)
      · refine lskip rfl rfl ?_
        refine lskip rfl rfl ?_
        refine lskip rfl rfl ?_
        refine lskip rfl rfl ?_
        refine lpure (v := .bool true) rfl (p_pick rfl) rfl rfl ?_
        exact ljmpM J8214 true () (sub_cons rfl (sub_cons rfl (sub_cons rfl (sub_cons rfl (sub_cons rfl (sub_cons rfl sub_nil)))))) X7775
      · refine lread (v := .agg #[.int .i64 p7751.Nodes, .slice a7752 n7752 c7752, .slice a7753 n7753 c7753]) rfl (q_load wd_25 rfl) (St.ld X7775 (j := 4) rfl rfl) rfl ?_
        refine lread (v := .int .i64 p7755) rfl (q_load wd_3 rfl) (St.ld X7775 (j := 2) rfl rfl) rfl ?_
        refine lcall rfl rfl ca_39 rfl rfl (f39_ok X7775 p7751 p7755 H7752 H7753) rfl (fun e8216 v8217 h8218 hq8219 => ?_)
        cases hq8219
        refine lpure (v := .bool (!e8216)) rfl (p_not rfl) rfl rfl ?_
        refine lpure (v := .bool (!e8216)) rfl (p_pick rfl) rfl rfl ?_
        exact ljmpM J8214 (!e8216) () (sub_cons rfl (sub_cons rfl (sub_cons rfl (sub_cons rfl (sub_cons rfl (sub_cons rfl sub_nil)))))) X7775
/-! isochron/topo.Reach -/
theorem f17_ok {n : Nat} {φ : Fz} {lo : Nat} {h : Heap} {own : OwnL} (X : St φ lo h own) (p8387 : ApiTopo) (p8390 : Int) (p8391 : (List Int)) {a8388 : Option Addr} {n8388 c8388 : Nat} {a8389 : Option Addr} {n8389 c8389 : Nat} {a8392 : Option Addr} {n8392 c8392 : Nat} (H8388 : RSl eBool φ (.slice a8388 n8388 c8388) p8387.Station) (H8389 : RSl eApiLink φ (.slice a8389 n8389 c8389) p8387.Links) (H8392 : RSl (eInt .i64) φ (.slice a8392 n8392 c8392) p8391) : Sim ((recN Try.prog LL cutF (n + 7)).call 17 #[(.agg #[.int .i64 p8387.Nodes, .slice a8388 n8388 c8388, .slice a8389 n8389 c8389]), (.int .i64 p8390), (.slice a8392 n8392 c8392)] h) (m_topo_Reach p8387 p8390 p8391) (fun (d : ((List Bool) × Int)) p => ∃ φ2 : Fz, ∃ a8548 : Option Addr, ∃ n8548 : Nat, ∃ c8548 : Nat, ∃ ob8548 : Option Nat, ∃ blk8548 : Blk, Fz.le φ φ2 ∧ St φ2 lo p.2 ((ob8548, blk8548) :: own) ∧ p.1 = .tuple #[.slice a8548 n8548 c8548, .int .i64 d.2] ∧ OSl eBool φ2 4 ob8548 blk8548 (.slice a8548 n8548 c8548) d.1) := by
  refine fopen Try.func17 rfl rfl rfl rfl ?_
  refine dseq ?_
  refine dreg ?_
  refine lbox rfl rfl rfl rfl rfl X (fun b8393 h8395 X8396 => ?_)
  refine lpure (v := .slice none 0 0) rfl (p_assign rfl) rfl rfl ?_
  refine lpure (v := .int .i64 0) rfl (p_assign rfl) rfl rfl ?_
  refine lend ?_
  refine nseq ?_
  refine dseq ?_
  refine dseq ?_
  refine dreg ?_
  refine lread (v := .agg #[.int .i64 p8387.Nodes, .slice a8388 n8388 c8388, .slice a8389 n8389 c8389]) rfl (q_load wd_25 rfl) (St.ld X8396 (j := 0) rfl rfl) rfl ?_
  refine lcall rfl rfl ca_34 rfl rfl (f34_ok X8396 p8387 H8388 H8389) rfl (fun e8397 v8398 h8399 hq8400 => ?_)
  cases hq8400
  refine lpure (v := .int .i64 e8397) rfl (p_assign rfl) rfl rfl ?_
  refine lend ?_
  refine nseq ?_
  refine dseq ?_
  refine dreg ?_
  refine lpure (v := .int .i64 e8397) rfl (p_move rfl) rfl rfl ?_
  refine lpure (v := .bool (decide (e8397 ≠ 0))) rfl (p_ne rfl) rfl rfl ?_
  refine lend ?_
  refine nseq ?_
  refine dcond rfl rfl (fun k8401 => ?_) (fun k8401 => ?_)
  · refine dseq ?_
    refine dreg ?_
    refine lpure (v := .int .i64 e8397) rfl (p_move rfl) rfl rfl ?_
    refine lpure (v := .slice none 0 0) rfl (p_assign rfl) rfl rfl ?_
    refine lpure (v := .int .i64 e8397) rfl (p_assign rfl) rfl rfl ?_
    refine lend ?_
    refine nseq ?_
    refine dret ?_
    refine rseq ?_
    exact kopen_r (res_2 resT resT) ⟨φ, none, 0, 0, none, (.dead), (Fz.le_refl _), St.pick X8396 (.none _ (.skip _ (.refl _))), rfl, OSl.nil⟩
  · refine dskip ?_
    refine nseq ?_
    refine dseq ?_
    refine dseq ?_
    refine dreg ?_
    refine lread (v := .agg #[.int .i64 p8387.Nodes, .slice a8388 n8388 c8388, .slice a8389 n8389 c8389]) rfl (q_load wd_25 rfl) (St.ld X8396 (j := 0) rfl rfl) rfl ?_
    refine lpure (v := .int .i64 p8390) rfl (p_move rfl) rfl rfl ?_
    refine lcall rfl rfl ca_39 rfl rfl (f39_ok X8396 p8387 p8390 H8388 H8389) rfl (fun e8402 v8403 h8404 hq8405 => ?_)
    cases hq8405
    refine lpure (v := .bool (!e8402)) rfl (p_not rfl) rfl rfl ?_
    refine lpure (v := .bool (!e8402)) rfl (p_move rfl) rfl rfl ?_
    refine ljoinM (τ := Bool) (σ := Unit) (fun s8470 (_ : Unit) => [(1, .int .i64 p8390), (2, .slice a8392 n8392 c8392), (3, .pointer (some ⟨b8393, 0, none⟩)), (22, .bool s8470)]) (fun s8470 (_ : Unit) hh => St φ lo hh ((some b8393, .cells [.int .i64 p8387.Nodes, .slice a8388 n8388 c8388, .slice a8389 n8389 c8389] 25 .exact) :: own)) 4 ?_ ?_
    · rintro s8470 _ t0 h8472 X8471
      refine lend ?_
      refine nseq ?_
      refine dcond rfl rfl (fun k8473 => ?_) (fun k8473 => ?_)
      · refine dseq ?_
        refine dreg ?_
        refine lpure (v := .slice none 0 0) rfl (p_assign rfl) rfl rfl ?_
        refine lpure (v := .int .i64 2) rfl (p_assign rfl) rfl rfl ?_
        refine lend ?_
        refine nseq ?_
        refine dret ?_
        refine rseq ?_
        exact kopen_r (res_2 resT resT) ⟨φ, none, 0, 0, none, (.dead), (Fz.le_refl _), St.pick X8471 (.none _ (.skip _ (.refl _))), rfl, OSl.nil⟩
      · refine dskip ?_
        refine nseq ?_
        refine dseq ?_
        refine dreg ?_
        refine lread (v := .agg #[.int .i64 p8387.Nodes, .slice a8388 n8388 c8388, .slice a8389 n8389 c8389]) rfl (q_load wd_25 rfl) (St.ld X8471 (j := 0) rfl rfl) rfl ?_
        refine lpure (v := .int .i64 p8390) rfl (p_move rfl) rfl rfl ?_
        refine lpure (v := .slice a8392 n8392 c8392) rfl (p_move rfl) rfl rfl ?_
        refine lcall rfl rfl ca_47 rfl rfl (f47_ok X8471 p8387 p8390 p8391 H8388 H8389 H8392) rfl ?_
        rintro e8474 _ h8476 ⟨φ8478, a8481, n8481, c8481, ob8481, blk8481, g8479, X8480, rfl, O8481⟩
        refine lpure (v := .slice a8481 n8481 c8481) rfl (p_assign rfl) rfl rfl ?_
        refine lpure (v := .int .i64 0) rfl (p_assign rfl) rfl rfl ?_
        refine lend ?_
        refine nseq ?_
        refine dret ?_
        exact kopen_r (res_2 resT resT) ⟨φ8478, a8481, n8481, c8481, ob8481, blk8481, g8479, St.pick X8480 (.keep _ (.skip _ (.refl _))), rfl, O8481⟩
    · intro j8483 J8484
      refine lif (i := 18) (show _ = Value.bool (!e8402) from rfl) (fun k8485 => ?_) (fun k8485 => ?_)
      · refine lskip rfl rfl ?_
        refine lskip rfl rfl ?_
        refine lskip rfl rfl ?_
        refine lpure (v := .bool true) rfl (p_pick rfl) rfl rfl ?_
        exact ljmpM J8484 true () (sub_cons rfl (sub_cons rfl (sub_cons rfl (sub_cons rfl sub_nil)))) X8396
      · refine lpure (v := .slice a8392 n8392 c8392) rfl (p_move rfl) rfl rfl ?_
        refine lpure (v := .func (.func 46) #[] #[.pointer (some ⟨b8393, 0, none⟩)]) rfl (p_makeFunc rfl) rfl rfl ?_
        refine linl rfl rfl rfl rfl ca_45 rfl Try.func45 rfl rfl rfl rfl rfl ?_
        refine dseq ?_
        refine dreg ?_
        refine lpure (v := .bool false) rfl (p_assign rfl) rfl rfl ?_
        refine lend ?_
        refine nseq ?_
        refine dseq ?_
        refine dreg ?_
        refine lpure (v := .slice a8392 n8392 c8392) rfl (p_move rfl) rfl rfl ?_
        refine lpure (v := .func (.func 46) #[] #[.pointer (some ⟨b8393, 0, none⟩)]) rfl (p_move rfl) rfl rfl ?_
        refine linl rfl rfl rfl rfl ca_64 rfl Try.func64 rfl rfl rfl rfl rfl ?_
        refine dseq ?_
        refine dreg ?_
        refine lpure (v := .int .i64 0) rfl (p_assign rfl) rfl rfl ?_
        refine lend ?_
        refine nseq ?_
        refine dseq ?_
        refine dseq ?_
        refine dreg ?_
        refine lpure (v := .slice a8392 n8392 c8392) rfl (p_move rfl) rfl rfl ?_
        refine lpure (v := .int .i64 (p8391.length : Int)) rfl (p_len rfl rfl rfl un_28 rfl) (RSl.lenC H8392) rfl ?_
        refine lpure (v := .int .i64 0) rfl (p_move rfl) rfl rfl ?_
        refine lend ?_
        refine nseq ?_
        refine dblock ?_
        refine dloopM (τ := Int) (σ := Unit) (fun s8516 (_ : Unit) => [(0, .slice a8392 n8392 c8392), (1, .func (.func 46) #[] #[.pointer (some ⟨b8393, 0, none⟩)]), (7, .int .i64 (p8391.length : Int)), (8, .int .i64 s8516)]) (fun s8516 (_ : Unit) hh => St φ lo hh ((some b8393, .cells [.int .i64 p8387.Nodes, .slice a8388 n8388 c8388, .slice a8389 n8389 c8389] 25 .exact) :: own)) 0 () (sub_cons rfl (sub_cons rfl (sub_cons rfl (sub_cons rfl sub_nil)))) X8396 ?_
        rintro n8533 ih8532 s8516 _ t0 h8535 X8534
        refine dseq ?_
        refine dreg ?_
        refine lpure (v := .bool (decide (s8516 < (p8391.length : Int)))) rfl (p_lt rfl) rfl rfl ?_
        refine lend ?_
        refine nseq ?_
        refine dseq ?_
        refine dcond rfl rfl (fun k8536 => ?_) (fun k8536 => ?_)
        · refine dskip ?_
          refine nseq ?_
          refine dseq ?_
          refine dblock ?_
          refine dseq ?_
          refine dreg ?_
          refine lpure (v := .int .i64 s8516) rfl (p_move rfl) rfl rfl ?_
          refine lpure (v := .int .i64 s8516) rfl (p_assign rfl) rfl rfl ?_
          refine lend ?_
          refine nseq ?_
          refine dseq ?_
          refine dreg ?_
          refine lpure (v := .func (.func 46) #[] #[.pointer (some ⟨b8393, 0, none⟩)]) rfl (p_move rfl) rfl rfl ?_
          refine lpure (v := .slice a8392 n8392 c8392) rfl (p_move rfl) rfl rfl ?_
          refine lpure (v := .int .i64 s8516) rfl (p_move rfl) rfl rfl ?_
          refine Sim.bindM fun e8537 he8538 => ?_
          obtain ⟨p8539, cs8539, hp8539, hF8539, hR8539⟩ := RSl.ia H8392 he8538 (kd := .i64) (n := 1) rfl
          have hR8539 : _ = [(.int .i64 e8537 : Value)] := hR8539
          subst hR8539
          refine lpure (v := p8539) rfl (p_ia rs_28 rfl) hp8539 rfl ?_
          refine lread (v := .int .i64 e8537) rfl (q_load wd_3 rfl) (FP.ld X8534 hF8539) rfl ?_
          refine linl rfl rfl rfl rfl ca_46 rfl Try.func46 rfl rfl rfl rfl rfl ?_
          refine dseq ?_
          refine dreg ?_
          refine lpure (v := .bool false) rfl (p_assign rfl) rfl rfl ?_
          refine lend ?_
          refine nseq ?_
          refine dseq ?_
          refine dreg ?_
          refine lpure (v := .int .i64 e8537) rfl (p_move rfl) rfl rfl ?_
          refine lpure (v := .bool (decide (e8537 < 0))) rfl (p_lt rfl) rfl rfl ?_
          refine lpure (v := .bool (decide (e8537 < 0))) rfl (p_move rfl) rfl rfl ?_
          refine lsh (τ := Bool) (σ := Unit) (fun s8541 (_ : Unit) => [(12, .bool s8541)]) (fun s8541 (_ : Unit) hh => St φ lo hh ((some b8393, .cells [.int .i64 p8387.Nodes, .slice a8388 n8388 c8388, .slice a8389 n8389 c8389] 25 .exact) :: own)) 6 ?_ ?_
          · rintro s8541 _ t0 h8543 X8542
            refine lpure (v := .bool s8541) rfl (p_assign rfl) rfl rfl ?_
            refine lend ?_
            refine nseq ?_
            refine dret ?_
            refine kin_r (res_1 resT) ?_
            refine lend ?_
            refine nseq ?_
            refine dcond rfl rfl (fun k8544 => ?_) (fun k8544 => ?_)
            · refine dseq ?_
              refine dreg ?_
              refine lpure (v := .int .i64 s8516) rfl (p_move rfl) rfl rfl ?_
              refine lpure (v := .int .i64 s8516) rfl (p_assign rfl) rfl rfl ?_
              refine lend ?_
              refine nseq ?_
              refine dret ?_
              refine rblock ?_
              refine rseq ?_
              refine rloop ?_
              refine rblock ?_
              refine rseq ?_
              refine kin_r (res_1 resT) ?_
              refine lpure (v := .bool (decide (0 ≤ s8516))) rfl (p_ge rfl) rfl rfl ?_
              refine lpure (v := .bool (decide (0 ≤ s8516))) rfl (p_assign rfl) rfl rfl ?_
              refine lend ?_
              refine nseq ?_
              refine dret ?_
              refine kin_r (res_1 resT) ?_
              refine lpure (v := .bool (decide (0 ≤ s8516))) rfl (p_pick rfl) rfl rfl ?_
              exact ljmpM J8484 (decide (0 ≤ s8516)) () (sub_cons rfl (sub_cons rfl (sub_cons rfl (sub_cons rfl sub_nil)))) X8542
            · refine dskip ?_
              refine nblock ?_
              refine nseq ?_
              refine dreg ?_
              refine lpure (v := .int .i64 (w64 (s8516 + 1))) rfl (p_add rfl) rfl rfl ?_
              refine lpure (v := .int .i64 (w64 (s8516 + 1))) rfl (p_move rfl) rfl rfl ?_
              refine lend ?_
              exact kbackM ih8532 (w64 (s8516 + 1)) () (sub_cons rfl (sub_cons rfl (sub_cons rfl (sub_cons rfl sub_nil)))) X8542
          · intro j8545 J8546
            refine lcase (i := 6) (show _ = Value.bool (decide (e8537 < 0)) from rfl) (fun k8547 => ?_) (fun k8547 => ?_)
            · refine lskip rfl rfl ?_
              refine lskip rfl rfl ?_
              refine lskip rfl rfl ?_
              refine lskip rfl rfl ?_
              refine lskip rfl rfl ?_
              refine lpure (v := .bool true) rfl (p_pick rfl) rfl rfl ?_
              refine Sim.of_eq (congrArg j8545 (show ((decide (e8537 < 0)) || (decide ((p8387.Links.length : Int) ≤ e8537))) = true from by rw [k8547] <;> rfl)) ?_
              exact ljmpM J8546 true () (sub_cons rfl sub_nil) X8534
            · refine lpure (v := .int .i64 e8537) rfl (p_move rfl) rfl rfl ?_
              refine lpure (v := .pointer (some ⟨b8393, 2, none⟩)) rfl (p_fa fo_25_2 rfl) rfl rfl ?_
              refine lread (v := .slice a8389 n8389 c8389) rfl (q_load wd_23 rfl) (St.ld X8534 (j := 0) rfl rfl) rfl ?_
              refine lpure (v := .int .i64 (p8387.Links.length : Int)) rfl (p_len rfl rfl rfl un_23 rfl) (RSl.lenC H8389) rfl ?_
              refine lpure (v := .bool (decide ((p8387.Links.length : Int) ≤ e8537))) rfl (p_ge rfl) rfl rfl ?_
              refine lpure (v := .bool (decide ((p8387.Links.length : Int) ≤ e8537))) rfl (p_pick rfl) rfl rfl ?_
              refine Sim.of_eq (congrArg j8545 (show ((decide (e8537 < 0)) || (decide ((p8387.Links.length : Int) ≤ e8537))) = (decide ((p8387.Links.length : Int) ≤ e8537)) from by rw [k8547] <;> rfl)) ?_
              exact ljmpM J8546 (decide ((p8387.Links.length : Int) ≤ e8537)) () (sub_cons rfl sub_nil) X8534
        · refine dexit ?_
          refine eseq ?_
          refine eloop ?_
          refine xblock ?_
          refine nseq ?_
          refine dseq ?_
          refine dreg ?_
          refine lpure (v := .int .i64 (-1)) rfl (p_assign rfl) rfl rfl ?_
          refine lend ?_
          refine nseq ?_
          refine dret ?_
          refine kin_r (res_1 resT) ?_
          refine lpure (v := .bool false) rfl (p_ge rfl) rfl rfl ?_
          refine lpure (v := .bool false) rfl (p_assign rfl) rfl rfl ?_
          refine lend ?_
          refine nseq ?_
          refine dret ?_
          refine kin_r (res_1 resT) ?_
          refine lpure (v := .bool false) rfl (p_pick rfl) rfl rfl ?_
          exact ljmpM J8484 false () (sub_cons rfl (sub_cons rfl (sub_cons rfl (sub_cons rfl sub_nil)))) X8534
/-! slices.Equal[[]int,int] -/
theorem f14_ok {n : Nat} {φ : Fz} {lo : Nat} {h : Heap} {own : OwnL} (X : St φ lo h own) (p8611 : (List Int)) (p8613 : (List Int)) {a8612 : Option Addr} {n8612 c8612 : Nat} {a8614 : Option Addr} {n8614 c8614 : Nat} (H8612 : RSl (eInt .i64) φ (.slice a8612 n8612 c8612) p8611) (H8614 : RSl (eInt .i64) φ (.slice a8614 n8614 c8614) p8613) : Sim ((recN Try.prog LL cutF (n + 1)).call 14 #[(.slice a8612 n8612 c8612), (.slice a8614 n8614 c8614)] h) (m_slices_Equal_int_int p8611 p8613) (fun (d : Bool) p => p = (.bool d, h)) := by
  refine fcut Try.func14 rfl rfl rfl rfl X ?_
  intro h0 X0
  refine dseq ?_
  refine dreg ?_
  refine lpure (v := .bool false) rfl (p_assign rfl) rfl rfl ?_
  refine lend ?_
  refine nseq ?_
  refine dseq ?_
  refine dseq ?_
  refine dreg ?_
  refine lpure (v := .slice a8612 n8612 c8612) rfl (p_move rfl) rfl rfl ?_
  refine lpure (v := .int .i64 (p8611.length : Int)) rfl (p_len rfl rfl rfl un_28 rfl) (RSl.lenC H8612) rfl ?_
  refine lpure (v := .slice a8614 n8614 c8614) rfl (p_move rfl) rfl rfl ?_
  refine lpure (v := .int .i64 (p8613.length : Int)) rfl (p_len rfl rfl rfl un_28 rfl) (RSl.lenC H8614) rfl ?_
  refine lpure (v := .bool (decide ((p8611.length : Int) ≠ (p8613.length : Int)))) rfl (p_ne rfl) rfl rfl ?_
  refine lend ?_
  refine nseq ?_
  refine dcond rfl rfl (fun k8615 => ?_) (fun k8615 => ?_)
  · refine dseq ?_
    refine dreg ?_
    refine lpure (v := .bool false) rfl (p_assign rfl) rfl rfl ?_
    refine lend ?_
    refine nseq ?_
    refine dret ?_
    refine rseq ?_
    exact kcut_r (res_1 resT) X0 rfl rfl
  · refine dskip ?_
    refine nseq ?_
    refine dseq ?_
    refine dseq ?_
    refine dreg ?_
    refine lpure (v := .slice a8612 n8612 c8612) rfl (p_move rfl) rfl rfl ?_
    refine lpure (v := .int .i64 (p8611.length : Int)) rfl (p_len rfl rfl rfl un_28 rfl) (RSl.lenC H8612) rfl ?_
    refine lpure (v := .int .i64 0) rfl (p_move rfl) rfl rfl ?_
    refine lend ?_
    refine nseq ?_
    refine dblock ?_
    refine dloopM (τ := Int) (σ := Unit) (fun s8638 (_ : Unit) => [(0, .slice a8612 n8612 c8612), (1, .slice a8614 n8614 c8614), (12, .int .i64 (p8611.length : Int)), (13, .int .i64 s8638)]) (fun s8638 (_ : Unit) hh => St φ h.n hh ([])) 0 () (sub_cons rfl (sub_cons rfl (sub_cons rfl (sub_cons rfl sub_nil)))) X0 ?_
    rintro n8651 ih8650 s8638 _ t0 h8653 X8652
    refine dseq ?_
    refine dreg ?_
    refine lpure (v := .bool (decide (s8638 < (p8611.length : Int)))) rfl (p_lt rfl) rfl rfl ?_
    refine lend ?_
    refine nseq ?_
    refine dseq ?_
    refine dcond rfl rfl (fun k8654 => ?_) (fun k8654 => ?_)
    · refine dskip ?_
      refine nseq ?_
      refine dseq ?_
      refine dblock ?_
      refine dseq ?_
      refine dreg ?_
      refine lpure (v := .int .i64 s8638) rfl (p_move rfl) rfl rfl ?_
      refine lpure (v := .int .i64 s8638) rfl (p_assign rfl) rfl rfl ?_
      refine lend ?_
      refine nseq ?_
      refine dseq ?_
      refine ddraw 0 0 0 (by kernel_rfl) ?_
      refine spure (v := .slice a8612 n8612 c8612) rfl (p_move rfl) (lo_t (lo_sl X8652 H8612) rfl) rfl rfl ?_
      refine spure (v := .int .i64 s8638) rfl (p_move rfl) (lo_t rfl rfl) rfl rfl ?_
      refine Sim.bindM fun e8655 he8656 => ?_
      obtain ⟨p8657, cs8657, hp8657, hF8657, hR8657⟩ := RSl.ia H8612 he8656 (kd := .i64) (n := 1) rfl
      have hR8657 : _ = [(.int .i64 e8655 : Value)] := hR8657
      subst hR8657
      refine spure (v := p8657) rfl (p_ia rs_28 rfl) (lo_t (lo_sl X8652 H8612) (lo_t rfl rfl)) hp8657 rfl ?_
      refine sload (v := .int .i64 e8655) rfl rfl (q_load wd_3 rfl) (FP.ld X8652 hF8657) (same_self 20 rfl) rfl ?_
      refine spure (v := .slice a8614 n8614 c8614) rfl (p_move rfl) (lo_t (lo_sl X8652 H8614) rfl) rfl rfl ?_
      refine spure (v := .int .i64 s8638) rfl (p_move rfl) (lo_t rfl rfl) rfl rfl ?_
      refine Sim.bindM fun e8658 he8659 => ?_
      obtain ⟨p8660, cs8660, hp8660, hF8660, hR8660⟩ := RSl.ia H8614 he8659 (kd := .i64) (n := 1) rfl
      have hR8660 : _ = [(.int .i64 e8658 : Value)] := hR8660
      subst hR8660
      refine spure (v := p8660) rfl (p_ia rs_28 rfl) (lo_t (lo_sl X8652 H8614) (lo_t rfl rfl)) hp8660 rfl ?_
      refine sload (v := .int .i64 e8658) rfl rfl (q_load wd_3 rfl) (FP.ld X8652 hF8660) (same_self 20 rfl) rfl ?_
      refine spure (v := .bool (decide (e8655 ≠ e8658))) rfl (p_ne rfl) (lo_t rfl (lo_t rfl rfl)) rfl rfl ?_
      refine send ?_
      refine nseq ?_
      refine dcond rfl rfl (fun k8661 => ?_) (fun k8661 => ?_)
      · refine dseq ?_
        refine dreg ?_
        refine lpure (v := .bool false) rfl (p_assign rfl) rfl rfl ?_
        refine lend ?_
        refine nseq ?_
        refine dret ?_
        refine rblock ?_
        refine rseq ?_
        refine rloop ?_
        refine rblock ?_
        refine rseq ?_
        exact kcut_r (res_1 resT) X8652 rfl rfl
      · refine dskip ?_
        refine nblock ?_
        refine nseq ?_
        refine dreg ?_
        refine lpure (v := .int .i64 (w64 (s8638 + 1))) rfl (p_add rfl) rfl rfl ?_
        refine lpure (v := .int .i64 (w64 (s8638 + 1))) rfl (p_move rfl) rfl rfl ?_
        refine lend ?_
        exact kbackM ih8650 (w64 (s8638 + 1)) () (sub_cons rfl (sub_cons rfl (sub_cons rfl (sub_cons rfl sub_nil)))) X8652
    · refine dexit ?_
      refine eseq ?_
      refine eloop ?_
      refine xblock ?_
      refine nseq ?_
      refine dseq ?_
      refine dreg ?_
      refine lpure (v := .bool true) rfl (p_assign rfl) rfl rfl ?_
      refine lend ?_
      refine nseq ?_
      refine dret ?_
      exact kcut_r (res_1 resT) X8652 rfl rfl
end Go.AM
