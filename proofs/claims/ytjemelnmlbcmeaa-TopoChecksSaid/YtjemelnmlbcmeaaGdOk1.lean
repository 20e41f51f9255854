/- Printed: functions of the given program as functions over plain data, and that the machine does what they say; no claim of its own; no condition. -/
import Derived.Test.YtjemelnmlbcmeaaGdFacts
set_option maxRecDepth 100000
set_option maxHeartbeats 4000000
set_option linter.unusedVariables false
set_option linter.unusedSimpArgs false
namespace Go.AM
open Go Go.Proofs

/-! isochron/isochronlaw16.line -/
theorem f38_ok {n : Nat} {φ : Fz} {lo : Nat} {h : Heap} {own : OwnL} (X : St φ lo h own) : Sim ((recN Try.prog LL cutF (n + 1)).call 38 #[] h) (m_isochronlaw16_line) (fun (d : ApiTopo) p => ∃ φ2 : Fz, ∃ a35 : Option Addr, ∃ n35 : Nat, ∃ c35 : Nat, ∃ ob35 : Option Nat, ∃ blk35 : Blk, ∃ a37 : Option Addr, ∃ n37 : Nat, ∃ c37 : Nat, ∃ ob37 : Option Nat, ∃ blk37 : Blk, Fz.le φ φ2 ∧ St φ2 lo p.2 ((ob35, blk35) :: (ob37, blk37) :: own) ∧ p.1 = .agg #[.int .i64 d.Nodes, .slice a35 n35 c35, .slice a37 n37 c37] ∧ OSl eBool φ2 4 ob35 blk35 (.slice a35 n35 c35) d.Station ∧ OSl eApiLink φ2 50 ob37 blk37 (.slice a37 n37 c37) d.Links) := by
  refine fopen Try.func38 rfl rfl rfl rfl ?_
  refine dseq ?_
  refine dreg ?_
  refine lalloc rfl tz_25 rfl rfl rfl X (fun b25 h27 X28 => ?_)
  refine lend ?_
  refine nseq ?_
  refine dseq ?_
  refine dreg ?_
  obtain ⟨h29, b29, hv29, X29, O29⟩ := OSl.lay (E := eBool) (φ := φ) (cs := [.bool true, .bool false, .bool false, .bool true]) (l := [true, false, false, true]) (len := 4) (parts := [(0, .bool true), (1, .bool false), (2, .bool false), (3, .bool true)]) un_22 ts_4 rfl rfl rfl tz_4 rfl rfl (show RowD eBool φ [.bool true, .bool false, .bool false, .bool true] [true, false, false, true] from ⟨[.bool true], _, rfl, rfl, ⟨[.bool false], _, rfl, rfl, ⟨[.bool false], _, rfl, rfl, ⟨[.bool true], _, rfl, rfl, rfl⟩⟩⟩⟩) rfl rfl X28
  refine lheap rfl (h_buildSlice rfl) hv29 rfl ?_
  refine lpure (v := .agg #[.int .i64 0, .int .i64 1, .int .i64 8, .int .i64 50]) rfl (p_build rfl) (build_st' tz_50 pl_50 rfl) rfl ?_
  refine lpure (v := .agg #[.int .i64 1, .int .i64 2, .int .i64 8, .int .i64 0]) rfl (p_build rfl) (build_st' tz_50 pl_50 rfl) rfl ?_
  refine lpure (v := .agg #[.int .i64 2, .int .i64 3, .int .i64 80, .int .i64 7]) rfl (p_build rfl) (build_st' tz_50 pl_50 rfl) rfl ?_
  obtain ⟨h31, b31, hv31, X31, O31⟩ := OSl.lay (E := eApiLink) (φ := φ) (cs := [.int .i64 0, .int .i64 1, .int .i64 8, .int .i64 50, .int .i64 1, .int .i64 2, .int .i64 8, .int .i64 0, .int .i64 2, .int .i64 3, .int .i64 80, .int .i64 7]) (l := [(ApiLink.mk 0 1 8 50), (ApiLink.mk 1 2 8 0), (ApiLink.mk 2 3 80 7)]) (len := 3) (parts := [(0, .agg #[.int .i64 0, .int .i64 1, .int .i64 8, .int .i64 50]), (1, .agg #[.int .i64 1, .int .i64 2, .int .i64 8, .int .i64 0]), (2, .agg #[.int .i64 2, .int .i64 3, .int .i64 80, .int .i64 7])]) un_23 ts_50 rfl rfl rfl tz_50 rfl rfl (show RowD eApiLink φ [.int .i64 0, .int .i64 1, .int .i64 8, .int .i64 50, .int .i64 1, .int .i64 2, .int .i64 8, .int .i64 0, .int .i64 2, .int .i64 3, .int .i64 80, .int .i64 7] [(ApiLink.mk 0 1 8 50), (ApiLink.mk 1 2 8 0), (ApiLink.mk 2 3 80 7)] from ⟨[.int .i64 0, .int .i64 1, .int .i64 8, .int .i64 50], _, rfl, ⟨_, _, rfl, rfl, ⟨_, _, rfl, rfl, ⟨_, _, rfl, rfl, ⟨_, _, rfl, rfl, rfl⟩⟩⟩⟩, ⟨[.int .i64 1, .int .i64 2, .int .i64 8, .int .i64 0], _, rfl, ⟨_, _, rfl, rfl, ⟨_, _, rfl, rfl, ⟨_, _, rfl, rfl, ⟨_, _, rfl, rfl, rfl⟩⟩⟩⟩, ⟨[.int .i64 2, .int .i64 3, .int .i64 80, .int .i64 7], _, rfl, ⟨_, _, rfl, rfl, ⟨_, _, rfl, rfl, ⟨_, _, rfl, rfl, ⟨_, _, rfl, rfl, rfl⟩⟩⟩⟩, rfl⟩⟩⟩) rfl rfl X29
  refine lheap rfl (h_buildSlice rfl) hv31 rfl ?_
  refine lpure (v := .agg #[.int .i64 4, .slice (some ⟨b29, 0, none⟩) 4 4, .slice (some ⟨b31, 0, none⟩) 3 3]) rfl (p_build rfl) (build_st' tz_25 pl_25 rfl) rfl ?_
  refine lstore rfl ts_25 rfl rfl (j := 2) rfl rfl rfl rfl rfl rfl X31 (fun h33 X34 => ?_)
  refine lend ?_
  refine nseq ?_
  refine dret ?_
  exact kopen_r (res_1 (resC wd_25 (St.ld X34 (j := 2) rfl rfl))) ⟨φ, ((some ⟨b29, 0, none⟩)), 4, 4, (some b29), ((.cells [.bool true, .bool false, .bool false, .bool true] 4 .exact)), ((some ⟨b31, 0, none⟩)), 3, 3, (some b31), ((.cells [.int .i64 0, .int .i64 1, .int .i64 8, .int .i64 50, .int .i64 1, .int .i64 2, .int .i64 8, .int .i64 0, .int .i64 2, .int .i64 3, .int .i64 80, .int .i64 7] 50 .exact)), (Fz.le_refl _), St.pick (St.front X34 (j := 1) rfl) (.keep _ (.keep _ (.skip _ (.refl _)))), rfl, O29, O31⟩
/-! isochron/topo.isNode -/
theorem f39_ok {n : Nat} {φ : Fz} {lo : Nat} {h : Heap} {own : OwnL} (X : St φ lo h own) (p119 : ApiTopo) (p122 : Int) {a120 : Option Addr} {n120 c120 : Nat} {a121 : Option Addr} {n121 c121 : Nat} (H120 : RSl eBool φ (.slice a120 n120 c120) p119.Station) (H121 : RSl eApiLink φ (.slice a121 n121 c121) p119.Links) : Sim ((recN Try.prog LL cutF (n + 1)).call 39 #[(.agg #[.int .i64 p119.Nodes, .slice a120 n120 c120, .slice a121 n121 c121]), (.int .i64 p122)] h) (m_topo_isNode p119 p122) (fun (d : Bool) p => p = (.bool d, h)) := by
  refine fcut Try.func39 rfl rfl rfl rfl X ?_
  intro h0 X0
  refine dseq ?_
  refine dreg ?_
  refine lbox rfl rfl rfl rfl rfl X0 (fun b123 h125 X126 => ?_)
  refine lpure (v := .bool false) rfl (p_assign rfl) rfl rfl ?_
  refine lend ?_
  refine nseq ?_
  refine dseq ?_
  refine dreg ?_
  refine lpure (v := .int .i64 p122) rfl (p_move rfl) rfl rfl ?_
  refine lpure (v := .bool (decide (0 ≤ p122))) rfl (p_ge rfl) rfl rfl ?_
  refine lpure (v := .bool (decide (0 ≤ p122))) rfl (p_move rfl) rfl rfl ?_
  refine lsh (τ := Bool) (σ := Unit) (fun s128 (_ : Unit) => [(12, .bool s128)]) (fun s128 (_ : Unit) hh => St φ h.n hh ([(some b123, .cells [.int .i64 p119.Nodes, .slice a120 n120 c120, .slice a121 n121 c121] 25 .exact)])) 5 ?_ ?_
  · rintro s128 _ t0 h130 X129
    refine lpure (v := .bool s128) rfl (p_assign rfl) rfl rfl ?_
    refine lend ?_
    refine nseq ?_
    refine dret ?_
    exact kcut_r (res_1 resT) X129 rfl rfl
  · intro j131 J132
    refine lcase (i := 7) (show _ = Value.bool (decide (0 ≤ p122)) from rfl) (fun k133 => ?_) (fun k133 => ?_)
    · refine lpure (v := .int .i64 p122) rfl (p_move rfl) rfl rfl ?_
      refine lpure (v := .pointer (some ⟨b123, 0, none⟩)) rfl (p_fa fo_25_0 rfl) rfl rfl ?_
      refine lread (v := .int .i64 p119.Nodes) rfl (q_load wd_3 rfl) (St.ld X126 (j := 0) rfl rfl) rfl ?_
      refine lpure (v := .bool (decide (p122 < p119.Nodes))) rfl (p_lt rfl) rfl rfl ?_
      refine lpure (v := .bool (decide (p122 < p119.Nodes))) rfl (p_pick rfl) rfl rfl ?_
      refine Sim.of_eq (congrArg j131 (show ((decide (0 ≤ p122)) && (decide (p122 < p119.Nodes))) = (decide (p122 < p119.Nodes)) from by rw [k133] <;> rfl)) ?_
      exact ljmpM J132 (decide (p122 < p119.Nodes)) () (sub_cons rfl sub_nil) X126
    · refine lskip rfl rfl ?_
      refine lskip rfl rfl ?_
      refine lskip rfl rfl ?_
      refine lskip rfl rfl ?_
      refine lpure (v := .bool false) rfl (p_pick rfl) rfl rfl ?_
      refine Sim.of_eq (congrArg j131 (show ((decide (0 ≤ p122)) && (decide (p122 < p119.Nodes))) = false from by rw [k133] <;> rfl)) ?_
      exact ljmpM J132 false () (sub_cons rfl sub_nil) X126
/-! isochron/topo.validLink -/
theorem f57_ok {n : Nat} {φ : Fz} {lo : Nat} {h : Heap} {own : OwnL} (X : St φ lo h own) (p92 : ApiTopo) (p95 : Int) {a93 : Option Addr} {n93 c93 : Nat} {a94 : Option Addr} {n94 c94 : Nat} (H93 : RSl eBool φ (.slice a93 n93 c93) p92.Station) (H94 : RSl eApiLink φ (.slice a94 n94 c94) p92.Links) : Sim ((recN Try.prog LL cutF (n + 5)).call 57 #[(.agg #[.int .i64 p92.Nodes, .slice a93 n93 c93, .slice a94 n94 c94]), (.int .i64 p95)] h) (m_topo_validLink p92 p95) (fun (d : Bool) p => p = (.bool d, h)) := by
  refine fcut Try.func57 rfl rfl rfl rfl X ?_
  intro h0 X0
  refine dseq ?_
  refine dreg ?_
  refine lbox rfl rfl rfl rfl rfl X0 (fun b96 h98 X99 => ?_)
  refine lbox rfl rfl rfl rfl rfl X99 (fun b100 h102 X103 => ?_)
  refine lpure (v := .bool false) rfl (p_assign rfl) rfl rfl ?_
  refine lend ?_
  refine nseq ?_
  refine dseq ?_
  refine dreg ?_
  refine lpure (v := .pointer (some ⟨b96, 2, none⟩)) rfl (p_fa fo_25_2 rfl) rfl rfl ?_
  refine lread (v := .slice a94 n94 c94) rfl (q_load wd_23 rfl) (St.ld X103 (j := 1) rfl rfl) rfl ?_
  refine lread (v := .int .i64 p95) rfl (q_load wd_3 rfl) (St.ld X103 (j := 0) rfl rfl) rfl ?_
  refine Sim.bindM fun e104 he105 => ?_
  obtain ⟨p106, cs106, hp106, hF106, hR106⟩ := RSl.ia H94 he105 (kd := .i64) (n := 4) rfl
  obtain rfl := eApiLink_el hR106
  refine lpure (v := p106) rfl (p_ia rs_23 rfl) hp106 rfl ?_
  refine lread (v := .agg #[.int .i64 e104.A, .int .i64 e104.B, .int .i64 e104.Per, .int .i64 e104.Delay]) rfl (q_load wd_50 rfl) (FP.ldw X103 hF106 rfl rfl) rfl ?_
  refine lalloc rfl tz_50 rfl rfl rfl X103 (fun b107 h109 X110 => ?_)
  refine lstore rfl ts_50 rfl rfl (j := 0) rfl rfl rfl rfl rfl rfl X110 (fun h111 X112 => ?_)
  refine lend ?_
  refine nseq ?_
  refine dseq ?_
  refine dreg ?_
  refine lpure (v := .func (.func 65) #[] #[.pointer (some ⟨b96, 0, none⟩), .pointer (some ⟨b107, 0, none⟩)]) rfl (p_makeFunc rfl) rfl rfl ?_
  refine lpure (v := .func (.func 66) #[] #[.pointer (some ⟨b96, 0, none⟩), .pointer (some ⟨b107, 0, none⟩)]) rfl (p_makeFunc rfl) rfl rfl ?_
  refine lpure (v := .func (.func 67) #[] #[.pointer (some ⟨b107, 0, none⟩)]) rfl (p_makeFunc rfl) rfl rfl ?_
  refine lpure (v := .func (.func 68) #[] #[.pointer (some ⟨b96, 0, none⟩), .pointer (some ⟨b100, 0, none⟩), .pointer (some ⟨b107, 0, none⟩)]) rfl (p_makeFunc rfl) rfl rfl ?_
  refine lpure (v := .agg #[.func (.func 65) #[] #[.pointer (some ⟨b96, 0, none⟩), .pointer (some ⟨b107, 0, none⟩)], .func (.func 66) #[] #[.pointer (some ⟨b96, 0, none⟩), .pointer (some ⟨b107, 0, none⟩)], .func (.func 67) #[] #[.pointer (some ⟨b107, 0, none⟩)], .func (.func 68) #[] #[.pointer (some ⟨b96, 0, none⟩), .pointer (some ⟨b100, 0, none⟩), .pointer (some ⟨b107, 0, none⟩)]]) rfl (p_build rfl) (build_ar' tz_85 ae_85 rfl) rfl ?_
  refine lalloc rfl tz_85 rfl rfl rfl X112 (fun b113 h115 X116 => ?_)
  refine lstore rfl ts_85 rfl rfl (j := 0) rfl rfl rfl rfl rfl rfl X116 (fun h117 X118 => ?_)
  refine lend ?_
  refine nseq ?_
  refine dseq ?_
  refine dseq ?_
  refine dreg ?_
  refine lread (v := .agg #[.func (.func 65) #[] #[.pointer (some ⟨b96, 0, none⟩), .pointer (some ⟨b107, 0, none⟩)], .func (.func 66) #[] #[.pointer (some ⟨b96, 0, none⟩), .pointer (some ⟨b107, 0, none⟩)], .func (.func 67) #[] #[.pointer (some ⟨b107, 0, none⟩)], .func (.func 68) #[] #[.pointer (some ⟨b96, 0, none⟩), .pointer (some ⟨b100, 0, none⟩), .pointer (some ⟨b107, 0, none⟩)]]) rfl (q_load wd_85 rfl) (St.ld X118 (j := 0) rfl rfl) rfl ?_
  refine lpure (v := .int .i64 0) rfl (p_move rfl) rfl rfl ?_
  refine lend ?_
  refine nseq ?_
  refine dblock ?_
  refine dunroll 999999 rfl ?_
  refine dseq ?_
  refine dreg ?_
  refine lpure (v := .bool true) rfl (p_lt rfl) rfl rfl ?_
  refine lend ?_
  refine nseq ?_
  refine dseq ?_
  refine dcondT rfl rfl ?_
  refine dskip ?_
  refine nseq ?_
  refine dseq ?_
  refine dblock ?_
  refine dseq ?_
  refine dreg ?_
  refine lpure (v := .func (.func 65) #[] #[.pointer (some ⟨b96, 0, none⟩), .pointer (some ⟨b107, 0, none⟩)]) rfl (p_index as_85 rfl) rfl rfl ?_
  refine lpure (v := .func (.func 65) #[] #[.pointer (some ⟨b96, 0, none⟩), .pointer (some ⟨b107, 0, none⟩)]) rfl (p_assign rfl) rfl rfl ?_
  refine lend ?_
  refine nseq ?_
  refine dseq ?_
  refine dreg ?_
  refine lpure (v := .func (.func 65) #[] #[.pointer (some ⟨b96, 0, none⟩), .pointer (some ⟨b107, 0, none⟩)]) rfl (p_move rfl) rfl rfl ?_
  refine linl rfl rfl rfl rfl ca_65 rfl Try.func65 rfl rfl rfl rfl rfl ?_
  refine dseq ?_
  refine dreg ?_
  refine lpure (v := .bool false) rfl (p_assign rfl) rfl rfl ?_
  refine lend ?_
  refine nseq ?_
  refine dseq ?_
  refine dreg ?_
  refine lread (v := .agg #[.int .i64 p92.Nodes, .slice a93 n93 c93, .slice a94 n94 c94]) rfl (q_load wd_25 rfl) (St.ld X118 (j := 3) rfl rfl) rfl ?_
  refine lpure (v := .pointer (some ⟨b107, 0, none⟩)) rfl (p_fa fo_50_0 rfl) rfl rfl ?_
  refine lread (v := .int .i64 e104.A) rfl (q_load wd_3 rfl) (St.ld X118 (j := 1) rfl rfl) rfl ?_
  refine lcall rfl rfl ca_39 rfl rfl (f39_ok X118 p92 (e104.A) H93 H94) rfl (fun e134 v135 h136 hq137 => ?_)
  cases hq137
  refine lpure (v := .bool e134) rfl (p_move rfl) rfl rfl ?_
  refine ljoinM (τ := Bool) (σ := Unit) (fun s144 (_ : Unit) => [(1, .pointer (some ⟨b107, 0, none⟩)), (12, .bool s144)]) (fun s144 (_ : Unit) hh => St φ h.n hh ([(some b113, .cells [.func (.func 65) #[] #[.pointer (some ⟨b96, 0, none⟩), .pointer (some ⟨b107, 0, none⟩)], .func (.func 66) #[] #[.pointer (some ⟨b96, 0, none⟩), .pointer (some ⟨b107, 0, none⟩)], .func (.func 67) #[] #[.pointer (some ⟨b107, 0, none⟩)], .func (.func 68) #[] #[.pointer (some ⟨b96, 0, none⟩), .pointer (some ⟨b100, 0, none⟩), .pointer (some ⟨b107, 0, none⟩)]] 85 .exact), (some b107, .cells [.int .i64 e104.A, .int .i64 e104.B, .int .i64 e104.Per, .int .i64 e104.Delay] 50 .exact), (some b100, .cells [.int .i64 p95] 3 .exact), (some b96, .cells [.int .i64 p92.Nodes, .slice a93 n93 c93, .slice a94 n94 c94] 25 .exact)])) 5 ?_ ?_
  · rintro s144 _ t0 h146 X145
    refine lpure (v := .bool s144) rfl (p_move rfl) rfl rfl ?_
    refine lsh (τ := Bool) (σ := Unit) (fun s148 (_ : Unit) => [(19, .bool s148)]) (fun s148 (_ : Unit) hh => St φ h.n hh ([(some b113, .cells [.func (.func 65) #[] #[.pointer (some ⟨b96, 0, none⟩), .pointer (some ⟨b107, 0, none⟩)], .func (.func 66) #[] #[.pointer (some ⟨b96, 0, none⟩), .pointer (some ⟨b107, 0, none⟩)], .func (.func 67) #[] #[.pointer (some ⟨b107, 0, none⟩)], .func (.func 68) #[] #[.pointer (some ⟨b96, 0, none⟩), .pointer (some ⟨b100, 0, none⟩), .pointer (some ⟨b107, 0, none⟩)]] 85 .exact), (some b107, .cells [.int .i64 e104.A, .int .i64 e104.B, .int .i64 e104.Per, .int .i64 e104.Delay] 50 .exact), (some b100, .cells [.int .i64 p95] 3 .exact), (some b96, .cells [.int .i64 p92.Nodes, .slice a93 n93 c93, .slice a94 n94 c94] 25 .exact)])) 6 ?_ ?_
    · rintro s148 _ t0 h150 X149
      refine lpure (v := .bool s148) rfl (p_assign rfl) rfl rfl ?_
      refine lend ?_
      refine nseq ?_
      refine dret ?_
      refine kin_r (res_1 resT) ?_
      refine lpure (v := .bool (!s148)) rfl (p_not rfl) rfl rfl ?_
      refine lend ?_
      refine nseq ?_
      refine dcond rfl rfl (fun k151 => ?_) (fun k151 => ?_)
      · refine dseq ?_
        refine dreg ?_
        refine lpure (v := .bool false) rfl (p_assign rfl) rfl rfl ?_
        refine lend ?_
        refine nseq ?_
        refine dret ?_
        refine rblock ?_
        refine rseq ?_
        refine rloop ?_
        refine rblock ?_
        refine rseq ?_
        exact kcut_r (res_1 resT) X149 rfl rfl
      · refine dskip ?_
        refine nblock ?_
        refine nseq ?_
        refine dreg ?_
        refine lpure (v := .int .i64 1) rfl (p_add rfl) rfl rfl ?_
        refine lpure (v := .int .i64 1) rfl (p_move rfl) rfl rfl ?_
        refine lend ?_
        refine nunroll 999998 rfl ?_
        refine dseq ?_
        refine dreg ?_
        refine lpure (v := .bool true) rfl (p_lt rfl) rfl rfl ?_
        refine lend ?_
        refine nseq ?_
        refine dseq ?_
        refine dcondT rfl rfl ?_
        refine dskip ?_
        refine nseq ?_
        refine dseq ?_
        refine dblock ?_
        refine dseq ?_
        refine dreg ?_
        refine lpure (v := .func (.func 66) #[] #[.pointer (some ⟨b96, 0, none⟩), .pointer (some ⟨b107, 0, none⟩)]) rfl (p_index as_85 rfl) rfl rfl ?_
        refine lpure (v := .func (.func 66) #[] #[.pointer (some ⟨b96, 0, none⟩), .pointer (some ⟨b107, 0, none⟩)]) rfl (p_assign rfl) rfl rfl ?_
        refine lend ?_
        refine nseq ?_
        refine dseq ?_
        refine dreg ?_
        refine lpure (v := .func (.func 66) #[] #[.pointer (some ⟨b96, 0, none⟩), .pointer (some ⟨b107, 0, none⟩)]) rfl (p_move rfl) rfl rfl ?_
        refine linl rfl rfl rfl rfl ca_66 rfl Try.func66 rfl rfl rfl rfl rfl ?_
        refine dseq ?_
        refine dreg ?_
        refine lpure (v := .bool false) rfl (p_assign rfl) rfl rfl ?_
        refine lend ?_
        refine nseq ?_
        refine dseq ?_
        refine dreg ?_
        refine lpure (v := .pointer (some ⟨b96, 1, none⟩)) rfl (p_fa fo_25_1 rfl) rfl rfl ?_
        refine lread (v := .slice a93 n93 c93) rfl (q_load wd_22 rfl) (St.ld X149 (j := 3) rfl rfl) rfl ?_
        refine lpure (v := .pointer (some ⟨b107, 0, none⟩)) rfl (p_fa fo_50_0 rfl) rfl rfl ?_
        refine lread (v := .int .i64 e104.A) rfl (q_load wd_3 rfl) (St.ld X149 (j := 1) rfl rfl) rfl ?_
        refine Sim.bindM fun e152 he153 => ?_
        obtain ⟨p154, cs154, hp154, hF154, hR154⟩ := RSl.ia H93 he153 (kd := .i64) (n := 1) rfl
        have hR154 : _ = [(.bool e152 : Value)] := hR154
        subst hR154
        refine lpure (v := p154) rfl (p_ia rs_22 rfl) hp154 rfl ?_
        refine lread (v := .bool e152) rfl (q_load wd_4 rfl) (FP.ld X149 hF154) rfl ?_
        refine lpure (v := .bool (!e152)) rfl (p_not rfl) rfl rfl ?_
        refine lpure (v := .bool (!e152)) rfl (p_move rfl) rfl rfl ?_
        refine ljoinM (τ := Bool) (σ := Unit) (fun s160 (_ : Unit) => [(18, .bool s160)]) (fun s160 (_ : Unit) hh => St φ h.n hh ([(some b113, .cells [.func (.func 65) #[] #[.pointer (some ⟨b96, 0, none⟩), .pointer (some ⟨b107, 0, none⟩)], .func (.func 66) #[] #[.pointer (some ⟨b96, 0, none⟩), .pointer (some ⟨b107, 0, none⟩)], .func (.func 67) #[] #[.pointer (some ⟨b107, 0, none⟩)], .func (.func 68) #[] #[.pointer (some ⟨b96, 0, none⟩), .pointer (some ⟨b100, 0, none⟩), .pointer (some ⟨b107, 0, none⟩)]] 85 .exact), (some b107, .cells [.int .i64 e104.A, .int .i64 e104.B, .int .i64 e104.Per, .int .i64 e104.Delay] 50 .exact), (some b100, .cells [.int .i64 p95] 3 .exact), (some b96, .cells [.int .i64 p92.Nodes, .slice a93 n93 c93, .slice a94 n94 c94] 25 .exact)])) 8 ?_ ?_
        · rintro s160 _ t0 h162 X161
          refine lpure (v := .bool s160) rfl (p_assign rfl) rfl rfl ?_
          refine lend ?_
          refine nseq ?_
          refine dret ?_
          refine kin_r (res_1 resT) ?_
          refine lpure (v := .bool (!s160)) rfl (p_not rfl) rfl rfl ?_
          refine lend ?_
          refine nseq ?_
          refine dcond rfl rfl (fun k163 => ?_) (fun k163 => ?_)
          · refine dseq ?_
            refine dreg ?_
            refine lpure (v := .bool false) rfl (p_assign rfl) rfl rfl ?_
            refine lend ?_
            refine nseq ?_
            refine dret ?_
            refine rblock ?_
            refine rseq ?_
            refine rloop ?_
            refine rblock ?_
            refine rseq ?_
            exact kcut_r (res_1 resT) X161 rfl rfl
          · refine dskip ?_
            refine nblock ?_
            refine nseq ?_
            refine dreg ?_
            refine lpure (v := .int .i64 2) rfl (p_add rfl) rfl rfl ?_
            refine lpure (v := .int .i64 2) rfl (p_move rfl) rfl rfl ?_
            refine lend ?_
            refine nunroll 999997 rfl ?_
            refine dseq ?_
            refine dreg ?_
            refine lpure (v := .bool true) rfl (p_lt rfl) rfl rfl ?_
            refine lend ?_
            refine nseq ?_
            refine dseq ?_
            refine dcondT rfl rfl ?_
            refine dskip ?_
            refine nseq ?_
            refine dseq ?_
            refine dblock ?_
            refine dseq ?_
            refine dreg ?_
            refine lpure (v := .func (.func 67) #[] #[.pointer (some ⟨b107, 0, none⟩)]) rfl (p_index as_85 rfl) rfl rfl ?_
            refine lpure (v := .func (.func 67) #[] #[.pointer (some ⟨b107, 0, none⟩)]) rfl (p_assign rfl) rfl rfl ?_
            refine lend ?_
            refine nseq ?_
            refine dseq ?_
            refine dreg ?_
            refine lpure (v := .func (.func 67) #[] #[.pointer (some ⟨b107, 0, none⟩)]) rfl (p_move rfl) rfl rfl ?_
            refine linl rfl rfl rfl rfl ca_67 rfl Try.func67 rfl rfl rfl rfl rfl ?_
            refine dseq ?_
            refine dreg ?_
            refine lpure (v := .bool false) rfl (p_assign rfl) rfl rfl ?_
            refine lend ?_
            refine nseq ?_
            refine dseq ?_
            refine dreg ?_
            refine lpure (v := .pointer (some ⟨b107, 2, none⟩)) rfl (p_fa fo_50_2 rfl) rfl rfl ?_
            refine lread (v := .int .i64 e104.Per) rfl (q_load wd_3 rfl) (St.ld X161 (j := 1) rfl rfl) rfl ?_
            refine lpure (v := .bool (decide (1 ≤ e104.Per))) rfl (p_ge rfl) rfl rfl ?_
            refine lpure (v := .bool (decide (1 ≤ e104.Per))) rfl (p_move rfl) rfl rfl ?_
            refine lsh (τ := Bool) (σ := Unit) (fun s165 (_ : Unit) => [(0, .pointer (some ⟨b107, 0, none⟩)), (9, .bool s165)]) (fun s165 (_ : Unit) hh => St φ h.n hh ([(some b113, .cells [.func (.func 65) #[] #[.pointer (some ⟨b96, 0, none⟩), .pointer (some ⟨b107, 0, none⟩)], .func (.func 66) #[] #[.pointer (some ⟨b96, 0, none⟩), .pointer (some ⟨b107, 0, none⟩)], .func (.func 67) #[] #[.pointer (some ⟨b107, 0, none⟩)], .func (.func 68) #[] #[.pointer (some ⟨b96, 0, none⟩), .pointer (some ⟨b100, 0, none⟩), .pointer (some ⟨b107, 0, none⟩)]] 85 .exact), (some b107, .cells [.int .i64 e104.A, .int .i64 e104.B, .int .i64 e104.Per, .int .i64 e104.Delay] 50 .exact), (some b100, .cells [.int .i64 p95] 3 .exact), (some b96, .cells [.int .i64 p92.Nodes, .slice a93 n93 c93, .slice a94 n94 c94] 25 .exact)])) 4 ?_ ?_
            · rintro s165 _ t0 h167 X166
              refine lpure (v := .bool s165) rfl (p_move rfl) rfl rfl ?_
              refine lsh (τ := Bool) (σ := Unit) (fun s169 (_ : Unit) => [(0, .pointer (some ⟨b107, 0, none⟩)), (14, .bool s169)]) (fun s169 (_ : Unit) hh => St φ h.n hh ([(some b113, .cells [.func (.func 65) #[] #[.pointer (some ⟨b96, 0, none⟩), .pointer (some ⟨b107, 0, none⟩)], .func (.func 66) #[] #[.pointer (some ⟨b96, 0, none⟩), .pointer (some ⟨b107, 0, none⟩)], .func (.func 67) #[] #[.pointer (some ⟨b107, 0, none⟩)], .func (.func 68) #[] #[.pointer (some ⟨b96, 0, none⟩), .pointer (some ⟨b100, 0, none⟩), .pointer (some ⟨b107, 0, none⟩)]] 85 .exact), (some b107, .cells [.int .i64 e104.A, .int .i64 e104.B, .int .i64 e104.Per, .int .i64 e104.Delay] 50 .exact), (some b100, .cells [.int .i64 p95] 3 .exact), (some b96, .cells [.int .i64 p92.Nodes, .slice a93 n93 c93, .slice a94 n94 c94] 25 .exact)])) 4 ?_ ?_
              · rintro s169 _ t0 h171 X170
                refine lpure (v := .bool s169) rfl (p_move rfl) rfl rfl ?_
                refine lsh (τ := Bool) (σ := Unit) (fun s173 (_ : Unit) => [(19, .bool s173)]) (fun s173 (_ : Unit) hh => St φ h.n hh ([(some b113, .cells [.func (.func 65) #[] #[.pointer (some ⟨b96, 0, none⟩), .pointer (some ⟨b107, 0, none⟩)], .func (.func 66) #[] #[.pointer (some ⟨b96, 0, none⟩), .pointer (some ⟨b107, 0, none⟩)], .func (.func 67) #[] #[.pointer (some ⟨b107, 0, none⟩)], .func (.func 68) #[] #[.pointer (some ⟨b96, 0, none⟩), .pointer (some ⟨b100, 0, none⟩), .pointer (some ⟨b107, 0, none⟩)]] 85 .exact), (some b107, .cells [.int .i64 e104.A, .int .i64 e104.B, .int .i64 e104.Per, .int .i64 e104.Delay] 50 .exact), (some b100, .cells [.int .i64 p95] 3 .exact), (some b96, .cells [.int .i64 p92.Nodes, .slice a93 n93 c93, .slice a94 n94 c94] 25 .exact)])) 4 ?_ ?_
                · rintro s173 _ t0 h175 X174
                  refine lpure (v := .bool s173) rfl (p_assign rfl) rfl rfl ?_
                  refine lend ?_
                  refine nseq ?_
                  refine dret ?_
                  refine kin_r (res_1 resT) ?_
                  refine lpure (v := .bool (!s173)) rfl (p_not rfl) rfl rfl ?_
                  refine lend ?_
                  refine nseq ?_
                  refine dcond rfl rfl (fun k176 => ?_) (fun k176 => ?_)
                  · refine dseq ?_
                    refine dreg ?_
                    refine lpure (v := .bool false) rfl (p_assign rfl) rfl rfl ?_
                    refine lend ?_
                    refine nseq ?_
                    refine dret ?_
                    refine rblock ?_
                    refine rseq ?_
                    refine rloop ?_
                    refine rblock ?_
                    refine rseq ?_
                    exact kcut_r (res_1 resT) X174 rfl rfl
                  · refine dskip ?_
                    refine nblock ?_
                    refine nseq ?_
                    refine dreg ?_
                    refine lpure (v := .int .i64 3) rfl (p_add rfl) rfl rfl ?_
                    refine lpure (v := .int .i64 3) rfl (p_move rfl) rfl rfl ?_
                    refine lend ?_
                    refine nunroll 999996 rfl ?_
                    refine dseq ?_
                    refine dreg ?_
                    refine lpure (v := .bool true) rfl (p_lt rfl) rfl rfl ?_
                    refine lend ?_
                    refine nseq ?_
                    refine dseq ?_
                    refine dcondT rfl rfl ?_
                    refine dskip ?_
                    refine nseq ?_
                    refine dseq ?_
                    refine dblock ?_
                    refine dseq ?_
                    refine dreg ?_
                    refine lpure (v := .func (.func 68) #[] #[.pointer (some ⟨b96, 0, none⟩), .pointer (some ⟨b100, 0, none⟩), .pointer (some ⟨b107, 0, none⟩)]) rfl (p_index as_85 rfl) rfl rfl ?_
                    refine lpure (v := .func (.func 68) #[] #[.pointer (some ⟨b96, 0, none⟩), .pointer (some ⟨b100, 0, none⟩), .pointer (some ⟨b107, 0, none⟩)]) rfl (p_assign rfl) rfl rfl ?_
                    refine lend ?_
                    refine nseq ?_
                    refine dseq ?_
                    refine dreg ?_
                    refine lpure (v := .func (.func 68) #[] #[.pointer (some ⟨b96, 0, none⟩), .pointer (some ⟨b100, 0, none⟩), .pointer (some ⟨b107, 0, none⟩)]) rfl (p_move rfl) rfl rfl ?_
                    refine linl rfl rfl rfl rfl ca_68 rfl Try.func68 rfl rfl rfl rfl rfl ?_
                    refine dseq ?_
                    refine dreg ?_
                    refine lpure (v := .bool false) rfl (p_assign rfl) rfl rfl ?_
                    refine lend ?_
                    refine nseq ?_
                    refine dseq ?_
                    refine dreg ?_
                    refine lpure (v := .pointer (some ⟨b96, 2, none⟩)) rfl (p_fa fo_25_2 rfl) rfl rfl ?_
                    refine lread (v := .slice a94 n94 c94) rfl (q_load wd_23 rfl) (St.ld X174 (j := 3) rfl rfl) rfl ?_
                    refine lread (v := .int .i64 p95) rfl (q_load wd_3 rfl) (St.ld X174 (j := 2) rfl rfl) rfl ?_
                    refine Sim.mustM fun k177 => ?_
                    have k177 := of_decide_eq_true k177
                    obtain ⟨a177, n177, c177, hv177, H177⟩ := RSl.slice H94 X174 un_23 ts_50 rfl bnd_none (bnd_int (show 0 ≤ p95 from by omega)) (by omega) (by omega)
                    refine lread rfl (q_slice rfl (evo_ok rfl) (evo_ok rfl) (evo_ok rfl)) hv177 rfl ?_
                    refine lpure (v := .func (.func 70) #[] #[.pointer (some ⟨b107, 0, none⟩)]) rfl (p_makeFunc rfl) rfl rfl ?_
                    refine linl rfl rfl rfl rfl ca_69 rfl Try.func69 rfl rfl rfl rfl rfl ?_
                    refine dseq ?_
                    refine dreg ?_
                    refine lpure (v := .bool false) rfl (p_assign rfl) rfl rfl ?_
                    refine lend ?_
                    refine nseq ?_
                    refine dseq ?_
                    refine dreg ?_
                    refine lpure (v := .slice a177 n177 c177) rfl (p_move rfl) rfl rfl ?_
                    refine lpure (v := .func (.func 70) #[] #[.pointer (some ⟨b107, 0, none⟩)]) rfl (p_move rfl) rfl rfl ?_
                    refine linl rfl rfl rfl rfl ca_82 rfl Try.func82 rfl rfl rfl rfl rfl ?_
                    refine dseq ?_
                    refine dreg ?_
                    refine lpure (v := .int .i64 0) rfl (p_assign rfl) rfl rfl ?_
                    refine lend ?_
                    refine nseq ?_
                    refine dseq ?_
                    refine dseq ?_
                    refine dreg ?_
                    refine lpure (v := .slice a177 n177 c177) rfl (p_move rfl) rfl rfl ?_
                    refine lpure (v := .int .i64 ((p92.Links.take (p95).toNat).length : Int)) rfl (p_len rfl rfl rfl un_23 rfl) (RSl.lenC H177) rfl ?_
                    refine lpure (v := .int .i64 0) rfl (p_move rfl) rfl rfl ?_
                    refine lend ?_
                    refine nseq ?_
                    refine dblock ?_
                    refine dloopM (τ := Int) (σ := Unit) (fun s233 (_ : Unit) => [(0, .slice a177 n177 c177), (1, .func (.func 70) #[] #[.pointer (some ⟨b107, 0, none⟩)]), (7, .int .i64 ((p92.Links.take (p95).toNat).length : Int)), (8, .int .i64 s233)]) (fun s233 (_ : Unit) hh => St φ h.n hh ([(some b113, .cells [.func (.func 65) #[] #[.pointer (some ⟨b96, 0, none⟩), .pointer (some ⟨b107, 0, none⟩)], .func (.func 66) #[] #[.pointer (some ⟨b96, 0, none⟩), .pointer (some ⟨b107, 0, none⟩)], .func (.func 67) #[] #[.pointer (some ⟨b107, 0, none⟩)], .func (.func 68) #[] #[.pointer (some ⟨b96, 0, none⟩), .pointer (some ⟨b100, 0, none⟩), .pointer (some ⟨b107, 0, none⟩)]] 85 .exact), (some b107, .cells [.int .i64 e104.A, .int .i64 e104.B, .int .i64 e104.Per, .int .i64 e104.Delay] 50 .exact), (some b100, .cells [.int .i64 p95] 3 .exact), (some b96, .cells [.int .i64 p92.Nodes, .slice a93 n93 c93, .slice a94 n94 c94] 25 .exact)])) 0 () (sub_cons rfl (sub_cons rfl (sub_cons rfl (sub_cons rfl sub_nil)))) X174 ?_
                    rintro n263 ih262 s233 _ t0 h265 X264
                    refine dseq ?_
                    refine dreg ?_
                    refine lpure (v := .bool (decide (s233 < ((p92.Links.take (p95).toNat).length : Int)))) rfl (p_lt rfl) rfl rfl ?_
                    refine lend ?_
                    refine nseq ?_
                    refine dseq ?_
                    refine dcond rfl rfl (fun k266 => ?_) (fun k266 => ?_)
                    · refine dskip ?_
                      refine nseq ?_
                      refine dseq ?_
                      refine dblock ?_
                      refine dseq ?_
                      refine dreg ?_
                      refine lpure (v := .int .i64 s233) rfl (p_move rfl) rfl rfl ?_
                      refine lpure (v := .int .i64 s233) rfl (p_assign rfl) rfl rfl ?_
                      refine lend ?_
                      refine nseq ?_
                      refine dseq ?_
                      refine dreg ?_
                      refine lpure (v := .func (.func 70) #[] #[.pointer (some ⟨b107, 0, none⟩)]) rfl (p_move rfl) rfl rfl ?_
                      refine lpure (v := .slice a177 n177 c177) rfl (p_move rfl) rfl rfl ?_
                      refine lpure (v := .int .i64 s233) rfl (p_move rfl) rfl rfl ?_
                      refine Sim.bindM fun e267 he268 => ?_
                      obtain ⟨p269, cs269, hp269, hF269, hR269⟩ := RSl.ia H177 he268 (kd := .i64) (n := 4) rfl
                      obtain rfl := eApiLink_el hR269
                      refine lpure (v := p269) rfl (p_ia rs_23 rfl) hp269 rfl ?_
                      refine lread (v := .agg #[.int .i64 e267.A, .int .i64 e267.B, .int .i64 e267.Per, .int .i64 e267.Delay]) rfl (q_load wd_50 rfl) (FP.ldw X264 hF269 rfl rfl) rfl ?_
                      refine linl rfl rfl rfl rfl ca_70 rfl Try.func70 rfl rfl rfl rfl rfl ?_
                      refine dseq ?_
                      refine dreg ?_
                      refine lbox rfl rfl rfl rfl rfl X264 (fun b270 h272 X273 => ?_)
                      refine lpure (v := .bool false) rfl (p_assign rfl) rfl rfl ?_
                      refine lend ?_
                      refine nseq ?_
                      refine dseq ?_
                      refine dreg ?_
                      refine lpure (v := .pointer (some ⟨b270, 0, none⟩)) rfl (p_fa fo_50_0 rfl) rfl rfl ?_
                      refine lread (v := .int .i64 e267.A) rfl (q_load wd_3 rfl) (St.ld X273 (j := 0) rfl rfl) rfl ?_
                      refine lpure (v := .pointer (some ⟨b107, 0, none⟩)) rfl (p_fa fo_50_0 rfl) rfl rfl ?_
                      refine lread (v := .int .i64 e104.A) rfl (q_load wd_3 rfl) (St.ld X273 (j := 2) rfl rfl) rfl ?_
                      refine lpure (v := .bool (decide (e267.A = e104.A))) rfl (p_eq rfl) rfl rfl ?_
                      refine lpure (v := .bool (decide (e267.A = e104.A))) rfl (p_move rfl) rfl rfl ?_
                      refine lsh (τ := Bool) (σ := Unit) (fun s275 (_ : Unit) => [(1, .pointer (some ⟨b107, 0, none⟩)), (2, .pointer (some ⟨b270, 0, none⟩)), (15, .bool s275)]) (fun s275 (_ : Unit) hh => St φ h.n hh ([(some b270, .cells [.int .i64 e267.A, .int .i64 e267.B, .int .i64 e267.Per, .int .i64 e267.Delay] 50 .exact), (some b113, .cells [.func (.func 65) #[] #[.pointer (some ⟨b96, 0, none⟩), .pointer (some ⟨b107, 0, none⟩)], .func (.func 66) #[] #[.pointer (some ⟨b96, 0, none⟩), .pointer (some ⟨b107, 0, none⟩)], .func (.func 67) #[] #[.pointer (some ⟨b107, 0, none⟩)], .func (.func 68) #[] #[.pointer (some ⟨b96, 0, none⟩), .pointer (some ⟨b100, 0, none⟩), .pointer (some ⟨b107, 0, none⟩)]] 85 .exact), (some b107, .cells [.int .i64 e104.A, .int .i64 e104.B, .int .i64 e104.Per, .int .i64 e104.Delay] 50 .exact), (some b100, .cells [.int .i64 p95] 3 .exact), (some b96, .cells [.int .i64 p92.Nodes, .slice a93 n93 c93, .slice a94 n94 c94] 25 .exact)])) 6 ?_ ?_
                      · rintro s275 _ t0 h277 X276
                        refine lpure (v := .bool s275) rfl (p_move rfl) rfl rfl ?_
                        refine lsh (τ := Bool) (σ := Unit) (fun s279 (_ : Unit) => [(29, .bool s279)]) (fun s279 (_ : Unit) hh => St φ h.n hh ([(some b270, .cells [.int .i64 e267.A, .int .i64 e267.B, .int .i64 e267.Per, .int .i64 e267.Delay] 50 .exact), (some b113, .cells [.func (.func 65) #[] #[.pointer (some ⟨b96, 0, none⟩), .pointer (some ⟨b107, 0, none⟩)], .func (.func 66) #[] #[.pointer (some ⟨b96, 0, none⟩), .pointer (some ⟨b107, 0, none⟩)], .func (.func 67) #[] #[.pointer (some ⟨b107, 0, none⟩)], .func (.func 68) #[] #[.pointer (some ⟨b96, 0, none⟩), .pointer (some ⟨b100, 0, none⟩), .pointer (some ⟨b107, 0, none⟩)]] 85 .exact), (some b107, .cells [.int .i64 e104.A, .int .i64 e104.B, .int .i64 e104.Per, .int .i64 e104.Delay] 50 .exact), (some b100, .cells [.int .i64 p95] 3 .exact), (some b96, .cells [.int .i64 p92.Nodes, .slice a93 n93 c93, .slice a94 n94 c94] 25 .exact)])) 13 ?_ ?_
                        · rintro s279 _ t0 h281 X280
                          refine lpure (v := .bool s279) rfl (p_assign rfl) rfl rfl ?_
                          refine lend ?_
                          refine nseq ?_
                          refine dret ?_
                          refine kin_r (res_1 resT) ?_
                          refine lend ?_
                          refine nseq ?_
                          refine dcond rfl rfl (fun k282 => ?_) (fun k282 => ?_)
                          · refine dseq ?_
                            refine dreg ?_
                            refine lpure (v := .int .i64 s233) rfl (p_move rfl) rfl rfl ?_
                            refine lpure (v := .int .i64 s233) rfl (p_assign rfl) rfl rfl ?_
                            refine lend ?_
                            refine nseq ?_
                            refine dret ?_
                            refine rblock ?_
                            refine rseq ?_
                            refine rloop ?_
                            refine rblock ?_
                            refine rseq ?_
                            refine kin_r (res_1 resT) ?_
                            refine lpure (v := .bool (decide (0 ≤ s233))) rfl (p_ge rfl) rfl rfl ?_
                            refine lpure (v := .bool (decide (0 ≤ s233))) rfl (p_assign rfl) rfl rfl ?_
                            refine lend ?_
                            refine nseq ?_
                            refine dret ?_
                            refine kin_r (res_1 resT) ?_
                            refine lpure (v := .bool (!(decide (0 ≤ s233)))) rfl (p_not rfl) rfl rfl ?_
                            refine lpure (v := .bool (!(decide (0 ≤ s233)))) rfl (p_assign rfl) rfl rfl ?_
                            refine lend ?_
                            refine nseq ?_
                            refine dret ?_
                            refine kin_r (res_1 resT) ?_
                            refine lpure (v := .bool (!(!(decide (0 ≤ s233))))) rfl (p_not rfl) rfl rfl ?_
                            refine lend ?_
                            refine nseq ?_
                            refine dcond rfl rfl (fun k283 => ?_) (fun k283 => ?_)
                            · refine dseq ?_
                              refine dreg ?_
                              refine lpure (v := .bool false) rfl (p_assign rfl) rfl rfl ?_
                              refine lend ?_
                              refine nseq ?_
                              refine dret ?_
                              refine rblock ?_
                              refine rseq ?_
                              refine rloop ?_
                              refine rblock ?_
                              refine rseq ?_
                              exact kcut_r (res_1 resT) X280 rfl rfl
                            · refine dskip ?_
                              refine nblock ?_
                              refine nseq ?_
                              refine dreg ?_
                              refine lpure (v := .int .i64 4) rfl (p_add rfl) rfl rfl ?_
                              refine lpure (v := .int .i64 4) rfl (p_move rfl) rfl rfl ?_
                              refine lend ?_
                              refine nunroll 999995 rfl ?_
                              refine dseq ?_
                              refine dreg ?_
                              refine lpure (v := .bool false) rfl (p_lt rfl) rfl rfl ?_
                              refine lend ?_
                              refine nseq ?_
                              refine dseq ?_
                              refine dcondF rfl rfl ?_
                              refine dexit ?_
                              refine eseq ?_
                              refine eloop ?_
                              refine xblock ?_
                              refine nseq ?_
                              refine dseq ?_
                              refine dreg ?_
                              refine lpure (v := .bool true) rfl (p_assign rfl) rfl rfl ?_
                              refine lend ?_
                              refine nseq ?_
                              refine dret ?_
                              exact kcut_r (res_1 resT) X280 rfl rfl
                          · refine dskip ?_
                            refine nblock ?_
                            refine nseq ?_
                            refine dreg ?_
                            refine lpure (v := .int .i64 (w64 (s233 + 1))) rfl (p_add rfl) rfl rfl ?_
                            refine lpure (v := .int .i64 (w64 (s233 + 1))) rfl (p_move rfl) rfl rfl ?_
                            refine lend ?_
                            exact kbackM ih262 (w64 (s233 + 1)) () (sub_cons rfl (sub_cons rfl (sub_cons rfl (sub_cons rfl sub_nil)))) (St.pick X280 (.skip _ (.keep _ (.keep _ (.keep _ (.keep _ (.nil _)))))))
                        · intro j284 J285
                          refine lcase (i := 16) (show _ = Value.bool s275 from rfl) (fun k286 => ?_) (fun k286 => ?_)
                          · refine lskip rfl rfl ?_
                            refine lskip rfl rfl ?_
                            refine lskip rfl rfl ?_
                            refine lskip rfl rfl ?_
                            refine lskip rfl rfl ?_
                            refine lskip rfl rfl ?_
                            refine lskip rfl rfl ?_
                            refine lskip rfl rfl ?_
                            refine lskip rfl rfl ?_
                            refine lskip rfl rfl ?_
                            refine lskip rfl rfl ?_
                            refine lskip rfl rfl ?_
                            refine lpure (v := .bool true) rfl (p_pick rfl) rfl rfl ?_
                            refine Sim.of_eq (congrArg j284 (show (s275 || ((decide (e267.A = e104.B)) && (decide (e267.B = e104.A)))) = true from by rw [k286] <;> rfl)) ?_
                            exact ljmpM J285 true () (sub_cons rfl sub_nil) X276
                          · refine lpure (v := .pointer (some ⟨b270, 0, none⟩)) rfl (p_fa fo_50_0 rfl) rfl rfl ?_
                            refine lread (v := .int .i64 e267.A) rfl (q_load wd_3 rfl) (St.ld X276 (j := 0) rfl rfl) rfl ?_
                            refine lpure (v := .pointer (some ⟨b107, 1, none⟩)) rfl (p_fa fo_50_1 rfl) rfl rfl ?_
                            refine lread (v := .int .i64 e104.B) rfl (q_load wd_3 rfl) (St.ld X276 (j := 2) rfl rfl) rfl ?_
                            refine lpure (v := .bool (decide (e267.A = e104.B))) rfl (p_eq rfl) rfl rfl ?_
                            refine lpure (v := .bool (decide (e267.A = e104.B))) rfl (p_move rfl) rfl rfl ?_
                            refine lcase (i := 22) (show _ = Value.bool (decide (e267.A = e104.B)) from rfl) (fun k287 => ?_) (fun k287 => ?_)
                            · refine lpure (v := .pointer (some ⟨b270, 1, none⟩)) rfl (p_fa fo_50_1 rfl) rfl rfl ?_
                              refine lread (v := .int .i64 e267.B) rfl (q_load wd_3 rfl) (St.ld X276 (j := 0) rfl rfl) rfl ?_
                              refine lpure (v := .pointer (some ⟨b107, 0, none⟩)) rfl (p_fa fo_50_0 rfl) rfl rfl ?_
                              refine lread (v := .int .i64 e104.A) rfl (q_load wd_3 rfl) (St.ld X276 (j := 2) rfl rfl) rfl ?_
                              refine lpure (v := .bool (decide (e267.B = e104.A))) rfl (p_eq rfl) rfl rfl ?_
                              refine lpure (v := .bool (decide (e267.B = e104.A))) rfl (p_pick rfl) rfl rfl ?_
                              refine lpure (v := .bool (decide (e267.B = e104.A))) rfl (p_pick rfl) rfl rfl ?_
                              refine Sim.of_eq (congrArg j284 (show (s275 || ((decide (e267.A = e104.B)) && (decide (e267.B = e104.A)))) = (decide (e267.B = e104.A)) from by rw [k286, k287] <;> rfl)) ?_
                              exact ljmpM J285 (decide (e267.B = e104.A)) () (sub_cons rfl sub_nil) X276
                            · refine lskip rfl rfl ?_
                              refine lskip rfl rfl ?_
                              refine lskip rfl rfl ?_
                              refine lskip rfl rfl ?_
                              refine lskip rfl rfl ?_
                              refine lpure (v := .bool false) rfl (p_pick rfl) rfl rfl ?_
                              refine lpure (v := .bool false) rfl (p_pick rfl) rfl rfl ?_
                              refine Sim.of_eq (congrArg j284 (show (s275 || ((decide (e267.A = e104.B)) && (decide (e267.B = e104.A)))) = false from by rw [k286, k287] <;> rfl)) ?_
                              exact ljmpM J285 false () (sub_cons rfl sub_nil) X276
                      · intro j288 J289
                        refine lcase (i := 9) (show _ = Value.bool (decide (e267.A = e104.A)) from rfl) (fun k290 => ?_) (fun k290 => ?_)
                        · refine lpure (v := .pointer (some ⟨b270, 1, none⟩)) rfl (p_fa fo_50_1 rfl) rfl rfl ?_
                          refine lread (v := .int .i64 e267.B) rfl (q_load wd_3 rfl) (St.ld X273 (j := 0) rfl rfl) rfl ?_
                          refine lpure (v := .pointer (some ⟨b107, 1, none⟩)) rfl (p_fa fo_50_1 rfl) rfl rfl ?_
                          refine lread (v := .int .i64 e104.B) rfl (q_load wd_3 rfl) (St.ld X273 (j := 2) rfl rfl) rfl ?_
                          refine lpure (v := .bool (decide (e267.B = e104.B))) rfl (p_eq rfl) rfl rfl ?_
                          refine lpure (v := .bool (decide (e267.B = e104.B))) rfl (p_pick rfl) rfl rfl ?_
                          refine Sim.of_eq (congrArg j288 (show ((decide (e267.A = e104.A)) && (decide (e267.B = e104.B))) = (decide (e267.B = e104.B)) from by rw [k290] <;> rfl)) ?_
                          exact ljmpM J289 (decide (e267.B = e104.B)) () (sub_cons rfl (sub_cons rfl (sub_cons rfl sub_nil))) X273
                        · refine lskip rfl rfl ?_
                          refine lskip rfl rfl ?_
                          refine lskip rfl rfl ?_
                          refine lskip rfl rfl ?_
                          refine lskip rfl rfl ?_
                          refine lpure (v := .bool false) rfl (p_pick rfl) rfl rfl ?_
                          refine Sim.of_eq (congrArg j288 (show ((decide (e267.A = e104.A)) && (decide (e267.B = e104.B))) = false from by rw [k290] <;> rfl)) ?_
                          exact ljmpM J289 false () (sub_cons rfl (sub_cons rfl (sub_cons rfl sub_nil))) X273
                    · refine dexit ?_
                      refine eseq ?_
                      refine eloop ?_
                      refine xblock ?_
                      refine nseq ?_
                      refine dseq ?_
                      refine dreg ?_
                      refine lpure (v := .int .i64 (-1)) rfl (p_assign rfl) rfl rfl ?_
                      refine lend ?_
                      refine nseq ?_
                      refine dret ?_
                      refine kin_r (res_1 resT) ?_
                      refine lpure (v := .bool false) rfl (p_ge rfl) rfl rfl ?_
                      refine lpure (v := .bool false) rfl (p_assign rfl) rfl rfl ?_
                      refine lend ?_
                      refine nseq ?_
                      refine dret ?_
                      refine kin_r (res_1 resT) ?_
                      refine lpure (v := .bool true) rfl (p_not rfl) rfl rfl ?_
                      refine lpure (v := .bool true) rfl (p_assign rfl) rfl rfl ?_
                      refine lend ?_
                      refine nseq ?_
                      refine dret ?_
                      refine kin_r (res_1 resT) ?_
                      refine lpure (v := .bool false) rfl (p_not rfl) rfl rfl ?_
                      refine lend ?_
                      refine nseq ?_
                      refine dcondF rfl rfl ?_
                      refine dskip ?_
                      refine nblock ?_
                      refine nseq ?_
                      refine dreg ?_
                      refine lpure (v := .int .i64 4) rfl (p_add rfl) rfl rfl ?_
                      refine lpure (v := .int .i64 4) rfl (p_move rfl) rfl rfl ?_
                      refine lend ?_
                      refine nunroll 999995 rfl ?_
                      refine dseq ?_
                      refine dreg ?_
                      refine lpure (v := .bool false) rfl (p_lt rfl) rfl rfl ?_
                      refine lend ?_
                      refine nseq ?_
                      refine dseq ?_
                      refine dcondF rfl rfl ?_
                      refine dexit ?_
                      refine eseq ?_
                      refine eloop ?_
                      refine xblock ?_
                      refine nseq ?_
                      refine dseq ?_
                      refine dreg ?_
                      refine lpure (v := .bool true) rfl (p_assign rfl) rfl rfl ?_
                      refine lend ?_
                      refine nseq ?_
                      refine dret ?_
                      exact kcut_r (res_1 resT) X264 rfl rfl
                · intro j291 J292
                  refine lcase (i := 15) (show _ = Value.bool s169 from rfl) (fun k293 => ?_) (fun k293 => ?_)
                  · refine lpure (v := .pointer (some ⟨b107, 3, none⟩)) rfl (p_fa fo_50_3 rfl) rfl rfl ?_
                    refine lread (v := .int .i64 e104.Delay) rfl (q_load wd_3 rfl) (St.ld X170 (j := 1) rfl rfl) rfl ?_
                    refine lpure (v := .bool (decide (e104.Delay ≤ 10000))) rfl (p_le rfl) rfl rfl ?_
                    refine lpure (v := .bool (decide (e104.Delay ≤ 10000))) rfl (p_pick rfl) rfl rfl ?_
                    refine Sim.of_eq (congrArg j291 (show (s169 && (decide (e104.Delay ≤ 10000))) = (decide (e104.Delay ≤ 10000)) from by rw [k293] <;> rfl)) ?_
                    exact ljmpM J292 (decide (e104.Delay ≤ 10000)) () (sub_cons rfl sub_nil) X170
                  · refine lskip rfl rfl ?_
                    refine lskip rfl rfl ?_
                    refine lskip rfl rfl ?_
                    refine lpure (v := .bool false) rfl (p_pick rfl) rfl rfl ?_
                    refine Sim.of_eq (congrArg j291 (show (s169 && (decide (e104.Delay ≤ 10000))) = false from by rw [k293] <;> rfl)) ?_
                    exact ljmpM J292 false () (sub_cons rfl sub_nil) X170
              · intro j294 J295
                refine lcase (i := 10) (show _ = Value.bool s165 from rfl) (fun k296 => ?_) (fun k296 => ?_)
                · refine lpure (v := .pointer (some ⟨b107, 3, none⟩)) rfl (p_fa fo_50_3 rfl) rfl rfl ?_
                  refine lread (v := .int .i64 e104.Delay) rfl (q_load wd_3 rfl) (St.ld X166 (j := 1) rfl rfl) rfl ?_
                  refine lpure (v := .bool (decide (0 ≤ e104.Delay))) rfl (p_ge rfl) rfl rfl ?_
                  refine lpure (v := .bool (decide (0 ≤ e104.Delay))) rfl (p_pick rfl) rfl rfl ?_
                  refine Sim.of_eq (congrArg j294 (show (s165 && (decide (0 ≤ e104.Delay))) = (decide (0 ≤ e104.Delay)) from by rw [k296] <;> rfl)) ?_
                  exact ljmpM J295 (decide (0 ≤ e104.Delay)) () (sub_cons rfl (sub_cons rfl sub_nil)) X166
                · refine lskip rfl rfl ?_
                  refine lskip rfl rfl ?_
                  refine lskip rfl rfl ?_
                  refine lpure (v := .bool false) rfl (p_pick rfl) rfl rfl ?_
                  refine Sim.of_eq (congrArg j294 (show (s165 && (decide (0 ≤ e104.Delay))) = false from by rw [k296] <;> rfl)) ?_
                  exact ljmpM J295 false () (sub_cons rfl (sub_cons rfl sub_nil)) X166
            · intro j297 J298
              refine lcase (i := 5) (show _ = Value.bool (decide (1 ≤ e104.Per)) from rfl) (fun k299 => ?_) (fun k299 => ?_)
              · refine lpure (v := .pointer (some ⟨b107, 2, none⟩)) rfl (p_fa fo_50_2 rfl) rfl rfl ?_
                refine lread (v := .int .i64 e104.Per) rfl (q_load wd_3 rfl) (St.ld X161 (j := 1) rfl rfl) rfl ?_
                refine lpure (v := .bool (decide (e104.Per ≤ 1000))) rfl (p_le rfl) rfl rfl ?_
                refine lpure (v := .bool (decide (e104.Per ≤ 1000))) rfl (p_pick rfl) rfl rfl ?_
                refine Sim.of_eq (congrArg j297 (show ((decide (1 ≤ e104.Per)) && (decide (e104.Per ≤ 1000))) = (decide (e104.Per ≤ 1000)) from by rw [k299] <;> rfl)) ?_
                exact ljmpM J298 (decide (e104.Per ≤ 1000)) () (sub_cons rfl (sub_cons rfl sub_nil)) X161
              · refine lskip rfl rfl ?_
                refine lskip rfl rfl ?_
                refine lskip rfl rfl ?_
                refine lpure (v := .bool false) rfl (p_pick rfl) rfl rfl ?_
                refine Sim.of_eq (congrArg j297 (show ((decide (1 ≤ e104.Per)) && (decide (e104.Per ≤ 1000))) = false from by rw [k299] <;> rfl)) ?_
                exact ljmpM J298 false () (sub_cons rfl (sub_cons rfl sub_nil)) X161
        · intro j300 J301
          refine lif (i := 10) (show _ = Value.bool (!e152) from rfl) (fun k302 => ?_) (fun k302 => ?_)
          · refine lskip rfl rfl ?_
            refine lskip rfl rfl ?_
            refine lskip rfl rfl ?_
            refine lskip rfl rfl ?_
            refine lskip rfl rfl ?_
            refine lskip rfl rfl ?_
            refine lskip rfl rfl ?_
            refine lpure (v := .bool true) rfl (p_pick rfl) rfl rfl ?_
            exact ljmpM J301 true () (sub_cons rfl sub_nil) X149
          · refine lpure (v := .pointer (some ⟨b96, 1, none⟩)) rfl (p_fa fo_25_1 rfl) rfl rfl ?_
            refine lread (v := .slice a93 n93 c93) rfl (q_load wd_22 rfl) (St.ld X149 (j := 3) rfl rfl) rfl ?_
            refine lpure (v := .pointer (some ⟨b107, 1, none⟩)) rfl (p_fa fo_50_1 rfl) rfl rfl ?_
            refine lread (v := .int .i64 e104.B) rfl (q_load wd_3 rfl) (St.ld X149 (j := 1) rfl rfl) rfl ?_
            refine Sim.bindM fun e303 he304 => ?_
            obtain ⟨p305, cs305, hp305, hF305, hR305⟩ := RSl.ia H93 he304 (kd := .i64) (n := 1) rfl
            have hR305 : _ = [(.bool e303 : Value)] := hR305
            subst hR305
            refine lpure (v := p305) rfl (p_ia rs_22 rfl) hp305 rfl ?_
            refine lread (v := .bool e303) rfl (q_load wd_4 rfl) (FP.ld X149 hF305) rfl ?_
            refine lpure (v := .bool (!e303)) rfl (p_not rfl) rfl rfl ?_
            refine lpure (v := .bool (!e303)) rfl (p_pick rfl) rfl rfl ?_
            exact ljmpM J301 (!e303) () (sub_cons rfl sub_nil) X149
    · intro j306 J307
      refine lcase (i := 13) (show _ = Value.bool s144 from rfl) (fun k308 => ?_) (fun k308 => ?_)
      · refine lpure (v := .pointer (some ⟨b107, 0, none⟩)) rfl (p_fa fo_50_0 rfl) rfl rfl ?_
        refine lread (v := .int .i64 e104.A) rfl (q_load wd_3 rfl) (St.ld X145 (j := 1) rfl rfl) rfl ?_
        refine lpure (v := .pointer (some ⟨b107, 1, none⟩)) rfl (p_fa fo_50_1 rfl) rfl rfl ?_
        refine lread (v := .int .i64 e104.B) rfl (q_load wd_3 rfl) (St.ld X145 (j := 1) rfl rfl) rfl ?_
        refine lpure (v := .bool (decide (e104.A ≠ e104.B))) rfl (p_ne rfl) rfl rfl ?_
        refine lpure (v := .bool (decide (e104.A ≠ e104.B))) rfl (p_pick rfl) rfl rfl ?_
        refine Sim.of_eq (congrArg j306 (show (s144 && (decide (e104.A ≠ e104.B))) = (decide (e104.A ≠ e104.B)) from by rw [k308] <;> rfl)) ?_
        exact ljmpM J307 (decide (e104.A ≠ e104.B)) () (sub_cons rfl sub_nil) X145
      · refine lskip rfl rfl ?_
        refine lskip rfl rfl ?_
        refine lskip rfl rfl ?_
        refine lskip rfl rfl ?_
        refine lskip rfl rfl ?_
        refine lpure (v := .bool false) rfl (p_pick rfl) rfl rfl ?_
        refine Sim.of_eq (congrArg j306 (show (s144 && (decide (e104.A ≠ e104.B))) = false from by rw [k308] <;> rfl)) ?_
        exact ljmpM J307 false () (sub_cons rfl sub_nil) X145
  · intro j309 J310
    refine lif (i := 7) (show _ = Value.bool e134 from rfl) (fun k311 => ?_) (fun k311 => ?_)
    · refine lread (v := .agg #[.int .i64 p92.Nodes, .slice a93 n93 c93, .slice a94 n94 c94]) rfl (q_load wd_25 rfl) (St.ld X118 (j := 3) rfl rfl) rfl ?_
      refine lpure (v := .pointer (some ⟨b107, 1, none⟩)) rfl (p_fa fo_50_1 rfl) rfl rfl ?_
      refine lread (v := .int .i64 e104.B) rfl (q_load wd_3 rfl) (St.ld X118 (j := 1) rfl rfl) rfl ?_
      refine lcall rfl rfl ca_39 rfl rfl (f39_ok X118 p92 (e104.B) H93 H94) rfl (fun e312 v313 h314 hq315 => ?_)
      cases hq315
      refine lpure (v := .bool e312) rfl (p_pick rfl) rfl rfl ?_
      exact ljmpM J310 e312 () (sub_cons rfl (sub_cons rfl sub_nil)) X118
    · refine lskip rfl rfl ?_
      refine lskip rfl rfl ?_
      refine lskip rfl rfl ?_
      refine lskip rfl rfl ?_
      refine lpure (v := .bool false) rfl (p_pick rfl) rfl rfl ?_
      exact ljmpM J310 false () (sub_cons rfl (sub_cons rfl sub_nil)) X118
/-! (isochron/topo.end).from -/
theorem f41_ok {n : Nat} {φ : Fz} {lo : Nat} {h : Heap} {own : OwnL} (X : St φ lo h own) (p382 : TopoEnd) : Sim ((recN Try.prog LL cutF (n + 1)).call 41 #[(.agg #[.int .i64 p382.Link.A, .int .i64 p382.Link.B, .int .i64 p382.Link.Per, .int .i64 p382.Link.Delay, .int .i64 p382.port])] h) (m_topo_end_from p382) (fun (d : Int) p => p = (.int .i64 d, h)) := by
  refine fcut Try.func41 rfl rfl rfl rfl X ?_
  intro h0 X0
  refine dseq ?_
  refine dreg ?_
  refine lbox rfl rfl rfl rfl rfl X0 (fun b383 h385 X386 => ?_)
  refine lpure (v := .int .i64 0) rfl (p_assign rfl) rfl rfl ?_
  refine lend ?_
  refine nseq ?_
  refine dseq ?_
  refine dseq ?_
  refine dreg ?_
  refine lpure (v := .pointer (some ⟨b383, 4, none⟩)) rfl (p_fa fo_65_1 rfl) rfl rfl ?_
  refine lread (v := .int .i64 p382.port) rfl (q_load wd_3 rfl) (St.ld X386 (j := 0) rfl rfl) rfl ?_
  refine lpure (v := .int .i64 (Int.tmod p382.port 2)) rfl (p_rem rfl) rfl rfl ?_
  refine lpure (v := .bool (decide ((Int.tmod p382.port 2) = 0))) rfl (p_eq rfl) rfl rfl ?_
  refine lend ?_
  refine nseq ?_
  refine dcond rfl rfl (fun k387 => ?_) (fun k387 => ?_)
  · refine dseq ?_
    refine dreg ?_
    refine lpure (v := .pointer (some ⟨b383, 0, none⟩)) rfl (p_fa fo_65_0 rfl) rfl rfl ?_
    refine lpure (v := .pointer (some ⟨b383, 0, none⟩)) rfl (p_fa fo_50_0 rfl) rfl rfl ?_
    refine lread (v := .int .i64 p382.Link.A) rfl (q_load wd_3 rfl) (St.ld X386 (j := 0) rfl rfl) rfl ?_
    refine lpure (v := .int .i64 p382.Link.A) rfl (p_assign rfl) rfl rfl ?_
    refine lend ?_
    refine nseq ?_
    refine dret ?_
    refine rseq ?_
    exact kcut_r (res_1 resT) X386 rfl rfl
  · refine dskip ?_
    refine nseq ?_
    refine dseq ?_
    refine dreg ?_
    refine lpure (v := .pointer (some ⟨b383, 0, none⟩)) rfl (p_fa fo_65_0 rfl) rfl rfl ?_
    refine lpure (v := .pointer (some ⟨b383, 1, none⟩)) rfl (p_fa fo_50_1 rfl) rfl rfl ?_
    refine lread (v := .int .i64 p382.Link.B) rfl (q_load wd_3 rfl) (St.ld X386 (j := 0) rfl rfl) rfl ?_
    refine lpure (v := .int .i64 p382.Link.B) rfl (p_assign rfl) rfl rfl ?_
    refine lend ?_
    refine nseq ?_
    refine dret ?_
    exact kcut_r (res_1 resT) X386 rfl rfl
/-! isochron/topo.degree -/
theorem f58_ok {n : Nat} {φ : Fz} {lo : Nat} {h : Heap} {own : OwnL} (X : St φ lo h own) (p330 : ApiTopo) (p333 : Int) {a331 : Option Addr} {n331 c331 : Nat} {a332 : Option Addr} {n332 c332 : Nat} (H331 : RSl eBool φ (.slice a331 n331 c331) p330.Station) (H332 : RSl eApiLink φ (.slice a332 n332 c332) p330.Links) : Sim ((recN Try.prog LL cutF (n + 4)).call 58 #[(.agg #[.int .i64 p330.Nodes, .slice a331 n331 c331, .slice a332 n332 c332]), (.int .i64 p333)] h) (m_topo_degree p330 p333) (fun (d : Int) p => p = (.int .i64 d, h)) := by
  refine fcut Try.func58 rfl rfl rfl rfl X ?_
  intro h0 X0
  refine dseq ?_
  refine dreg ?_
  refine lbox rfl rfl rfl rfl rfl X0 (fun b334 h336 X337 => ?_)
  refine lbox rfl rfl rfl rfl rfl X337 (fun b338 h340 X341 => ?_)
  refine lpure (v := .int .i64 0) rfl (p_assign rfl) rfl rfl ?_
  refine lend ?_
  refine nseq ?_
  refine dseq ?_
  refine dreg ?_
  refine lalloc rfl tz_3 rfl rfl rfl X341 (fun b342 h344 X345 => ?_)
  refine lstore rfl ts_3 rfl rfl (j := 0) rfl rfl rfl rfl rfl rfl X345 (fun h346 X347 => ?_)
  refine lend ?_
  refine nseq ?_
  refine dseq ?_
  refine dseq ?_
  refine dreg ?_
  refine lread (v := .agg #[.int .i64 p330.Nodes, .slice a331 n331 c331, .slice a332 n332 c332]) rfl (q_load wd_25 rfl) (St.ld X347 (j := 2) rfl rfl) rfl ?_
  refine linl rfl rfl rfl rfl ca_40 rfl Try.func40 rfl rfl rfl rfl rfl ?_
  refine dseq ?_
  refine dreg ?_
  refine lbox rfl rfl rfl rfl rfl X347 (fun b348 h350 X351 => ?_)
  refine lpure (v := .nilFunc) rfl (p_assign rfl) rfl rfl ?_
  refine lend ?_
  refine nseq ?_
  refine dseq ?_
  refine dreg ?_
  refine lpure (v := .func (.func 62) #[] #[.pointer (some ⟨b348, 0, none⟩)]) rfl (p_makeFunc rfl) rfl rfl ?_
  refine lpure (v := .func (.func 62) #[] #[.pointer (some ⟨b348, 0, none⟩)]) rfl (p_assign rfl) rfl rfl ?_
  refine lend ?_
  refine nseq ?_
  refine dret ?_
  refine kin_r (res_1 resT) ?_
  refine lend ?_
  refine nseq ?_
  refine dblock ?_
  refine drange rfl rfl ca_62 Try.func62 rfl rfl X351 (fun _ => rfl) ?_
  intro l352 q353 df354 h356 Q355 X357
  refine dseq ?_
  refine dreg ?_
  refine lpure (v := .pointer (some ⟨b348, 2, none⟩)) rfl (p_fa fo_25_2 rfl) rfl rfl ?_
  refine lread (v := .slice a332 n332 c332) rfl (q_load wd_23 rfl) (St.ld X357 (j := 2) rfl rfl) rfl ?_
  refine lpure (v := .int .i64 (p330.Links.length : Int)) rfl (p_len rfl rfl rfl un_23 rfl) (RSl.lenC H332) rfl ?_
  refine lpure (v := .int .i64 0) rfl (p_move rfl) rfl rfl ?_
  refine lend ?_
  refine nseq ?_
  refine dblock ?_
  refine dloopM (τ := Int × Int) (σ := Unit) (fun s496 (_ : Unit) => [(0, .func (.yield l352) #[] #[]), (6, .slice a332 n332 c332), (7, .int .i64 (p330.Links.length : Int)), (8, .int .i64 s496.1)]) (fun s496 (_ : Unit) hh => St φ h.n hh ([(some l352, rdy q353), (none, .dead), (some b348, .cells [.int .i64 p330.Nodes, .slice a331 n331 c331, .slice a332 n332 c332] 25 .exact), (some b342, .cells [.int .i64 s496.2] 3 .exact), (some b338, .cells [.int .i64 p333] 3 .exact), (some b334, .cells [.int .i64 p330.Nodes, .slice a331 n331 c331, .slice a332 n332 c332] 25 .exact)])) (0, 0) () (sub_cons rfl (sub_cons rfl (sub_cons rfl (sub_cons rfl sub_nil)))) (St.pick X357 (.keep _ (.none _ (.skip _ (.keep _ (.keep _ (.keep _ (.keep _ (.nil _))))))))) ?_
  rintro n563 ih562 s496 _ t0 h565 X564
  refine dseq ?_
  refine dreg ?_
  refine lpure (v := .bool (decide (s496.1 < (p330.Links.length : Int)))) rfl (p_lt rfl) rfl rfl ?_
  refine lend ?_
  refine nseq ?_
  refine dseq ?_
  refine dcond rfl rfl (fun k566 => ?_) (fun k566 => ?_)
  · refine dskip ?_
    refine nseq ?_
    refine dseq ?_
    refine dblock ?_
    refine dseq ?_
    refine dreg ?_
    refine lpure (v := .int .i64 s496.1) rfl (p_move rfl) rfl rfl ?_
    refine Sim.bindM fun e567 he568 => ?_
    obtain ⟨p569, cs569, hp569, hF569, hR569⟩ := RSl.ia H332 he568 (kd := .i64) (n := 4) rfl
    obtain rfl := eApiLink_el hR569
    refine lpure (v := p569) rfl (p_ia rs_23 rfl) hp569 rfl ?_
    refine lread (v := .agg #[.int .i64 e567.A, .int .i64 e567.B, .int .i64 e567.Per, .int .i64 e567.Delay]) rfl (q_load wd_50 rfl) (FP.ldw X564 hF569 rfl rfl) rfl ?_
    refine lalloc rfl tz_50 rfl rfl rfl X564 (fun b570 h572 X573 => ?_)
    refine lpure (v := .int .i64 s496.1) rfl (p_assign rfl) rfl rfl ?_
    refine lstore rfl ts_50 rfl rfl (j := 0) rfl rfl rfl rfl rfl rfl X573 (fun h574 X575 => ?_)
    refine lend ?_
    refine nseq ?_
    refine dseq ?_
    refine dreg ?_
    refine lpure (v := .func (.yield l352) #[] #[]) rfl (p_move rfl) rfl rfl ?_
    refine lread (v := .agg #[.int .i64 e567.A, .int .i64 e567.B, .int .i64 e567.Per, .int .i64 e567.Delay]) rfl (q_load wd_50 rfl) (St.ld X575 (j := 0) rfl rfl) rfl ?_
    refine lpure (v := .int .i64 s496.1) rfl (p_move rfl) rfl rfl ?_
    refine lpure (v := .int .i64 (w64 (2 * s496.1))) rfl (p_mul rfl) rfl rfl ?_
    refine lpure (v := .agg #[.int .i64 e567.A, .int .i64 e567.B, .int .i64 e567.Per, .int .i64 e567.Delay, .int .i64 (w64 (2 * s496.1))]) rfl (p_build rfl) (build_st' tz_65 pl_65 rfl) rfl ?_
    refine lround rfl rfl rfl rfl rfl rfl X575 (j := 1) rfl Q355 rfl rfl rfl rfl rfl (fun t576 => ?_)
    refine dreg ?_
    refine lalloc rfl tz_65 rfl rfl rfl X575 (fun b577 h579 X580 => ?_)
    refine lstore rfl ts_65 rfl rfl (j := 0) rfl rfl rfl rfl rfl rfl X580 (fun h581 X582 => ?_)
    refine lend ?_
    refine basg X582 (j := 2) rfl (fun h583 X584 => ?_)
    refine dblock ?_
    refine dseq ?_
    refine ddraw 0 0 0 (by kernel_rfl) ?_
    refine sload (v := .agg #[.int .i64 e567.A, .int .i64 e567.B, .int .i64 e567.Per, .int .i64 e567.Delay, .int .i64 (w64 (2 * s496.1))]) rfl rfl (q_load wd_65 rfl) (St.ld X584 (j := 0) rfl rfl) (same_self 20 rfl) rfl ?_
    refine scall (en := fun d => (.int .i64 d)) rfl rfl ca_41 rfl rfl (f41_ok X584 ((TopoEnd.mk e567 (w64 (2 * s496.1))))) rfl (fun e585 => ?_)
    refine sload (v := .int .i64 p333) rfl rfl (q_load wd_3 rfl) (St.ld X584 (j := 6) rfl rfl) (same_self 20 rfl) rfl ?_
    refine spure (v := .bool (decide (e585 = p333))) rfl (p_eq rfl) (lo_t rfl (lo_t rfl rfl)) rfl rfl ?_
    refine send ?_
    refine nseq ?_
    refine djoinM (τ := Int) (σ := Unit) (fun s592 (_ : Unit) => []) (fun s592 (_ : Unit) hh => St φ h.n hh ([(some b577, .cells [.int .i64 e567.A, .int .i64 e567.B, .int .i64 e567.Per, .int .i64 e567.Delay, .int .i64 (w64 (2 * s496.1))] 65 .exact), (some b570, .cells [.int .i64 e567.A, .int .i64 e567.B, .int .i64 e567.Per, .int .i64 e567.Delay] 50 .exact), (some l352, bsy q353), (none, .dead), (some b348, .cells [.int .i64 p330.Nodes, .slice a331 n331 c331, .slice a332 n332 c332] 25 .exact), (some b342, .cells [.int .i64 s592] 3 .exact), (some b338, .cells [.int .i64 p333] 3 .exact), (some b334, .cells [.int .i64 p330.Nodes, .slice a331 n331 c331, .slice a332 n332 c332] 25 .exact)])) ?_ ?_
    · rintro s592 _ t0 h594 X593
      refine nblock ?_
      refine nrnd X593 (j := 2) rfl (fun h597 X598 => ?_)
      refine lpure (v := .bool false) rfl (p_not rfl) rfl rfl ?_
      refine lpure (v := .bool false) rfl (p_move rfl) rfl rfl ?_
      refine lpure (v := .func (.yield l352) #[] #[]) rfl (p_move rfl) rfl rfl ?_
      refine lread (v := .agg #[.int .i64 e567.A, .int .i64 e567.B, .int .i64 e567.Per, .int .i64 e567.Delay]) rfl (q_load wd_50 rfl) (St.ld X598 (j := 1) rfl rfl) rfl ?_
      refine lpure (v := .int .i64 s496.1) rfl (p_move rfl) rfl rfl ?_
      refine lpure (v := .int .i64 (w64 (2 * s496.1))) rfl (p_mul rfl) rfl rfl ?_
      refine lpure (v := .int .i64 (w64 ((w64 (2 * s496.1)) + 1))) rfl (p_add rfl) rfl rfl ?_
      refine lpure (v := .agg #[.int .i64 e567.A, .int .i64 e567.B, .int .i64 e567.Per, .int .i64 e567.Delay, .int .i64 (w64 ((w64 (2 * s496.1)) + 1))]) rfl (p_build rfl) (build_st' tz_65 pl_65 rfl) rfl ?_
      refine lround rfl rfl rfl rfl rfl rfl X598 (j := 2) rfl Q355 rfl rfl rfl rfl rfl (fun t599 => ?_)
      refine dreg ?_
      refine lalloc rfl tz_65 rfl rfl rfl X598 (fun b600 h602 X603 => ?_)
      refine lstore rfl ts_65 rfl rfl (j := 0) rfl rfl rfl rfl rfl rfl X603 (fun h604 X605 => ?_)
      refine lend ?_
      refine basg X605 (j := 3) rfl (fun h606 X607 => ?_)
      refine dblock ?_
      refine dseq ?_
      refine ddraw 0 0 0 (by kernel_rfl) ?_
      refine sload (v := .agg #[.int .i64 e567.A, .int .i64 e567.B, .int .i64 e567.Per, .int .i64 e567.Delay, .int .i64 (w64 ((w64 (2 * s496.1)) + 1))]) rfl rfl (q_load wd_65 rfl) (St.ld X607 (j := 0) rfl rfl) (same_self 20 rfl) rfl ?_
      refine scall (en := fun d => (.int .i64 d)) rfl rfl ca_41 rfl rfl (f41_ok X607 ((TopoEnd.mk e567 (w64 ((w64 (2 * s496.1)) + 1))))) rfl (fun e608 => ?_)
      refine sload (v := .int .i64 p333) rfl rfl (q_load wd_3 rfl) (St.ld X607 (j := 7) rfl rfl) (same_self 20 rfl) rfl ?_
      refine spure (v := .bool (decide (e608 = p333))) rfl (p_eq rfl) (lo_t rfl (lo_t rfl rfl)) rfl rfl ?_
      refine send ?_
      refine nseq ?_
      refine djoinM (τ := Int) (σ := Unit) (fun s615 (_ : Unit) => []) (fun s615 (_ : Unit) hh => St φ h.n hh ([(some b600, .cells [.int .i64 e567.A, .int .i64 e567.B, .int .i64 e567.Per, .int .i64 e567.Delay, .int .i64 (w64 ((w64 (2 * s496.1)) + 1))] 65 .exact), (some b577, .cells [.int .i64 e567.A, .int .i64 e567.B, .int .i64 e567.Per, .int .i64 e567.Delay, .int .i64 (w64 (2 * s496.1))] 65 .exact), (some b570, .cells [.int .i64 e567.A, .int .i64 e567.B, .int .i64 e567.Per, .int .i64 e567.Delay] 50 .exact), (some l352, bsy q353), (none, .dead), (some b348, .cells [.int .i64 p330.Nodes, .slice a331 n331 c331, .slice a332 n332 c332] 25 .exact), (some b342, .cells [.int .i64 s615] 3 .exact), (some b338, .cells [.int .i64 p333] 3 .exact), (some b334, .cells [.int .i64 p330.Nodes, .slice a331 n331 c331, .slice a332 n332 c332] 25 .exact)])) ?_ ?_
      · rintro s615 _ t0 h617 X616
        refine nblock ?_
        refine nrnd X616 (j := 3) rfl (fun h620 X621 => ?_)
        refine lpure (v := .bool false) rfl (p_not rfl) rfl rfl ?_
        refine lpure (v := .bool false) rfl (p_pick rfl) rfl rfl ?_
        refine lend ?_
        refine nseq ?_
        refine dcondF rfl rfl ?_
        refine dskip ?_
        refine nblock ?_
        refine nseq ?_
        refine dreg ?_
        refine lpure (v := .int .i64 (w64 (s496.1 + 1))) rfl (p_add rfl) rfl rfl ?_
        refine lpure (v := .int .i64 (w64 (s496.1 + 1))) rfl (p_move rfl) rfl rfl ?_
        refine lend ?_
        exact kbackM ih562 ((w64 (s496.1 + 1)), s615) () (sub_cons rfl (sub_cons rfl (sub_cons rfl (sub_cons rfl sub_nil)))) (St.pick X621 (.skip _ (.skip _ (.skip _ (.keep _ (.none _ (.skip _ (.keep _ (.keep _ (.keep _ (.keep _ (.nil _))))))))))))
      · intro j618 J619
        refine dcond rfl rfl (fun k612 => ?_) (fun k612 => ?_)
        · refine dreg ?_
          refine lread (v := .int .i64 s592) rfl (q_load wd_3 rfl) (St.ld X607 (j := 6) rfl rfl) rfl ?_
          refine lpure (v := .int .i64 (w64 (s592 + 1))) rfl (p_add rfl) rfl rfl ?_
          refine lstore rfl ts_3 rfl rfl (j := 6) rfl rfl rfl rfl rfl rfl X607 (fun h622 X623 => ?_)
          refine lend ?_
          exact jmpM J619 (w64 (s592 + 1)) () sub_nil (St.pick X623 (.keep _ (.keep _ (.keep _ (.keep _ (.none _ (.skip _ (.keep _ (.keep _ (.keep _ (.keep _ (.nil _))))))))))))
        · refine dskip ?_
          exact jmpM J619 s592 () sub_nil (St.pick X607 (.keep _ (.keep _ (.keep _ (.keep _ (.none _ (.skip _ (.keep _ (.keep _ (.keep _ (.keep _ (.nil _))))))))))))
    · intro j595 J596
      refine dcond rfl rfl (fun k589 => ?_) (fun k589 => ?_)
      · refine dreg ?_
        refine lread (v := .int .i64 s496.2) rfl (q_load wd_3 rfl) (St.ld X584 (j := 5) rfl rfl) rfl ?_
        refine lpure (v := .int .i64 (w64 (s496.2 + 1))) rfl (p_add rfl) rfl rfl ?_
        refine lstore rfl ts_3 rfl rfl (j := 5) rfl rfl rfl rfl rfl rfl X584 (fun h624 X625 => ?_)
        refine lend ?_
        exact jmpM J596 (w64 (s496.2 + 1)) () sub_nil (St.pick X625 (.keep _ (.keep _ (.keep _ (.none _ (.skip _ (.keep _ (.keep _ (.keep _ (.keep _ (.nil _)))))))))))
      · refine dskip ?_
        exact jmpM J596 s496.2 () sub_nil (St.pick X584 (.keep _ (.keep _ (.keep _ (.none _ (.skip _ (.keep _ (.keep _ (.keep _ (.keep _ (.nil _)))))))))))
  · refine dexit ?_
    refine eseq ?_
    refine eloop ?_
    refine xblock ?_
    refine kin_n res_0 ?_
    refine rend_n X564 (j := 0) rfl (fun h626 X627 => ?_)
    refine nblock ?_
    refine nseq ?_
    refine dseq ?_
    refine dreg ?_
    refine lread (v := .int .i64 s496.2) rfl (q_load wd_3 rfl) (St.ld X627 (j := 3) rfl rfl) rfl ?_
    refine lpure (v := .int .i64 s496.2) rfl (p_assign rfl) rfl rfl ?_
    refine lend ?_
    refine nseq ?_
    refine dret ?_
    exact kcut_r (res_1 resT) X627 rfl rfl
/-! (isochron/topo.end).to -/
theorem f42_ok {n : Nat} {φ : Fz} {lo : Nat} {h : Heap} {own : OwnL} (X : St φ lo h own) (p727 : TopoEnd) : Sim ((recN Try.prog LL cutF (n + 2)).call 42 #[(.agg #[.int .i64 p727.Link.A, .int .i64 p727.Link.B, .int .i64 p727.Link.Per, .int .i64 p727.Link.Delay, .int .i64 p727.port])] h) (m_topo_end_to p727) (fun (d : Int) p => p = (.int .i64 d, h)) := by
  refine fcut Try.func42 rfl rfl rfl rfl X ?_
  intro h0 X0
  refine dseq ?_
  refine dreg ?_
  refine lbox rfl rfl rfl rfl rfl X0 (fun b728 h730 X731 => ?_)
  refine lpure (v := .int .i64 0) rfl (p_assign rfl) rfl rfl ?_
  refine lend ?_
  refine nseq ?_
  refine dseq ?_
  refine ddraw 0 0 0 (by kernel_rfl) ?_
  refine spure (v := .pointer (some ⟨b728, 0, none⟩)) rfl (p_fa fo_65_0 rfl) (lo_t (lo_own X731 (j := 0) (o := 0) (s := none) (f := 0) rfl) rfl) rfl rfl ?_
  refine spure (v := .pointer (some ⟨b728, 0, none⟩)) rfl (p_fa fo_50_0 rfl) (lo_t (lo_own X731 (j := 0) (o := 0) (s := none) (f := 0) rfl) rfl) rfl rfl ?_
  refine sload (v := .int .i64 p727.Link.A) rfl rfl (q_load wd_3 rfl) (St.ld X731 (j := 0) rfl rfl) (same_self 20 rfl) rfl ?_
  refine spure (v := .pointer (some ⟨b728, 0, none⟩)) rfl (p_fa fo_65_0 rfl) (lo_t (lo_own X731 (j := 0) (o := 0) (s := none) (f := 0) rfl) rfl) rfl rfl ?_
  refine spure (v := .pointer (some ⟨b728, 1, none⟩)) rfl (p_fa fo_50_1 rfl) (lo_t (lo_own X731 (j := 0) (o := 0) (s := none) (f := 0) rfl) rfl) rfl rfl ?_
  refine sload (v := .int .i64 p727.Link.B) rfl rfl (q_load wd_3 rfl) (St.ld X731 (j := 0) rfl rfl) (same_self 20 rfl) rfl ?_
  refine spure (v := .int .i64 (w64 (p727.Link.A + p727.Link.B))) rfl (p_add rfl) (lo_t rfl (lo_t rfl rfl)) rfl rfl ?_
  refine sload (v := .agg #[.int .i64 p727.Link.A, .int .i64 p727.Link.B, .int .i64 p727.Link.Per, .int .i64 p727.Link.Delay, .int .i64 p727.port]) rfl rfl (q_load wd_65 rfl) (St.ld X731 (j := 0) rfl rfl) (same_self 20 rfl) rfl ?_
  refine scall (en := fun d => (.int .i64 d)) rfl rfl ca_41 rfl rfl (f41_ok X731 p727) rfl (fun e732 => ?_)
  refine spure (v := .int .i64 (w64 ((w64 (p727.Link.A + p727.Link.B)) - e732))) rfl (p_sub rfl) (lo_t rfl (lo_t rfl rfl)) rfl rfl ?_
  refine spure (v := .int .i64 (w64 ((w64 (p727.Link.A + p727.Link.B)) - e732))) rfl (p_assign rfl) (lo_t rfl rfl) rfl rfl ?_
  refine send ?_
  refine nseq ?_
  refine dret ?_
  exact kcut_r (res_1 resT) X731 rfl rfl
/-! slices.Index[[]int,int] -/
theorem f52_ok {n : Nat} {φ : Fz} {lo : Nat} {h : Heap} {own : OwnL} (X : St φ lo h own) (p751 : (List Int)) (p753 : Int) {a752 : Option Addr} {n752 c752 : Nat} (H752 : RSl (eInt .i64) φ (.slice a752 n752 c752) p751) : Sim ((recN Try.prog LL cutF (n + 1)).call 52 #[(.slice a752 n752 c752), (.int .i64 p753)] h) (m_slices_Index_int_int p751 p753) (fun (d : Int) p => p = (.int .i64 d, h)) := by
  refine fcut Try.func52 rfl rfl rfl rfl X ?_
  intro h0 X0
  refine dseq ?_
  refine dreg ?_
  refine lpure (v := .int .i64 0) rfl (p_assign rfl) rfl rfl ?_
  refine lend ?_
  refine nseq ?_
  refine dseq ?_
  refine dseq ?_
  refine dreg ?_
  refine lpure (v := .slice a752 n752 c752) rfl (p_move rfl) rfl rfl ?_
  refine lpure (v := .int .i64 (p751.length : Int)) rfl (p_len rfl rfl rfl un_28 rfl) (RSl.lenC H752) rfl ?_
  refine lpure (v := .int .i64 0) rfl (p_move rfl) rfl rfl ?_
  refine lend ?_
  refine nseq ?_
  refine dblock ?_
  refine dloopM (τ := Int) (σ := Unit) (fun s770 (_ : Unit) => [(0, .slice a752 n752 c752), (1, .int .i64 p753), (7, .int .i64 (p751.length : Int)), (8, .int .i64 s770)]) (fun s770 (_ : Unit) hh => St φ h.n hh ([])) 0 () (sub_cons rfl (sub_cons rfl (sub_cons rfl (sub_cons rfl sub_nil)))) X0 ?_
  rintro n780 ih779 s770 _ t0 h782 X781
  refine dseq ?_
  refine dreg ?_
  refine lpure (v := .bool (decide (s770 < (p751.length : Int)))) rfl (p_lt rfl) rfl rfl ?_
  refine lend ?_
  refine nseq ?_
  refine dseq ?_
  refine dcond rfl rfl (fun k783 => ?_) (fun k783 => ?_)
  · refine dskip ?_
    refine nseq ?_
    refine dseq ?_
    refine dblock ?_
    refine dseq ?_
    refine dreg ?_
    refine lpure (v := .int .i64 s770) rfl (p_move rfl) rfl rfl ?_
    refine lpure (v := .int .i64 s770) rfl (p_assign rfl) rfl rfl ?_
    refine lend ?_
    refine nseq ?_
    refine dseq ?_
    refine dreg ?_
    refine lpure (v := .int .i64 p753) rfl (p_move rfl) rfl rfl ?_
    refine lpure (v := .slice a752 n752 c752) rfl (p_move rfl) rfl rfl ?_
    refine lpure (v := .int .i64 s770) rfl (p_move rfl) rfl rfl ?_
    refine Sim.bindM fun e784 he785 => ?_
    obtain ⟨p786, cs786, hp786, hF786, hR786⟩ := RSl.ia H752 he785 (kd := .i64) (n := 1) rfl
    have hR786 : _ = [(.int .i64 e784 : Value)] := hR786
    subst hR786
    refine lpure (v := p786) rfl (p_ia rs_28 rfl) hp786 rfl ?_
    refine lread (v := .int .i64 e784) rfl (q_load wd_3 rfl) (FP.ld X781 hF786) rfl ?_
    refine lpure (v := .bool (decide (p753 = e784))) rfl (p_eq rfl) rfl rfl ?_
    refine lend ?_
    refine nseq ?_
    refine dcond rfl rfl (fun k787 => ?_) (fun k787 => ?_)
    · refine dseq ?_
      refine dreg ?_
      refine lpure (v := .int .i64 s770) rfl (p_move rfl) rfl rfl ?_
      refine lpure (v := .int .i64 s770) rfl (p_assign rfl) rfl rfl ?_
      refine lend ?_
      refine nseq ?_
      refine dret ?_
      refine rblock ?_
      refine rseq ?_
      refine rloop ?_
      refine rblock ?_
      refine rseq ?_
      exact kcut_r (res_1 resT) X781 rfl rfl
    · refine dskip ?_
      refine nblock ?_
      refine nseq ?_
      refine dreg ?_
      refine lpure (v := .int .i64 (w64 (s770 + 1))) rfl (p_add rfl) rfl rfl ?_
      refine lpure (v := .int .i64 (w64 (s770 + 1))) rfl (p_move rfl) rfl rfl ?_
      refine lend ?_
      exact kbackM ih779 (w64 (s770 + 1)) () (sub_cons rfl (sub_cons rfl (sub_cons rfl (sub_cons rfl sub_nil)))) X781
  · refine dexit ?_
    refine eseq ?_
    refine eloop ?_
    refine xblock ?_
    refine nseq ?_
    refine dseq ?_
    refine dreg ?_
    refine lpure (v := .int .i64 (-1)) rfl (p_assign rfl) rfl rfl ?_
    refine lend ?_
    refine nseq ?_
    refine dret ?_
    exact kcut_r (res_1 resT) X781 rfl rfl
/-! slices.Contains[[]int,int] -/
theorem f22_ok {n : Nat} {φ : Fz} {lo : Nat} {h : Heap} {own : OwnL} (X : St φ lo h own) (p748 : (List Int)) (p750 : Int) {a749 : Option Addr} {n749 c749 : Nat} (H749 : RSl (eInt .i64) φ (.slice a749 n749 c749) p748) : Sim ((recN Try.prog LL cutF (n + 2)).call 22 #[(.slice a749 n749 c749), (.int .i64 p750)] h) (m_slices_Contains_int_int p748 p750) (fun (d : Bool) p => p = (.bool d, h)) := by
  refine fcut Try.func22 rfl rfl rfl rfl X ?_
  intro h0 X0
  refine dseq ?_
  refine dreg ?_
  refine lpure (v := .bool false) rfl (p_assign rfl) rfl rfl ?_
  refine lend ?_
  refine nseq ?_
  refine dseq ?_
  refine dreg ?_
  refine lpure (v := .slice a749 n749 c749) rfl (p_move rfl) rfl rfl ?_
  refine lpure (v := .int .i64 p750) rfl (p_move rfl) rfl rfl ?_
  refine lcall rfl rfl ca_52 rfl rfl (f52_ok X0 p748 p750 H749) rfl (fun e788 v789 h790 hq791 => ?_)
  cases hq791
  refine lpure (v := .bool (decide (0 ≤ e788))) rfl (p_ge rfl) rfl rfl ?_
  refine lpure (v := .bool (decide (0 ≤ e788))) rfl (p_assign rfl) rfl rfl ?_
  refine lend ?_
  refine nseq ?_
  refine dret ?_
  exact kcut_r (res_1 resT) X0 rfl rfl
/-! isochron/topo.reach -/
theorem f47_ok {n : Nat} {φ : Fz} {lo : Nat} {h : Heap} {own : OwnL} (X : St φ lo h own) (p3324 : ApiTopo) (p3327 : Int) (p3328 : (List Int)) {a3325 : Option Addr} {n3325 c3325 : Nat} {a3326 : Option Addr} {n3326 c3326 : Nat} {a3329 : Option Addr} {n3329 c3329 : Nat} (H3325 : RSl eBool φ (.slice a3325 n3325 c3325) p3324.Station) (H3326 : RSl eApiLink φ (.slice a3326 n3326 c3326) p3324.Links) (H3329 : RSl (eInt .i64) φ (.slice a3329 n3329 c3329) p3328) : Sim ((recN Try.prog LL cutF (n + 5)).call 47 #[(.agg #[.int .i64 p3324.Nodes, .slice a3325 n3325 c3325, .slice a3326 n3326 c3326]), (.int .i64 p3327), (.slice a3329 n3329 c3329)] h) (m_topo_reach p3324 p3327 p3328) (fun (d : (List Bool)) p => ∃ φ2 : Fz, ∃ a5942 : Option Addr, ∃ n5942 : Nat, ∃ c5942 : Nat, ∃ ob5942 : Option Nat, ∃ blk5942 : Blk, Fz.le φ φ2 ∧ St φ2 lo p.2 ((ob5942, blk5942) :: own) ∧ p.1 = .slice a5942 n5942 c5942 ∧ OSl eBool φ2 4 ob5942 blk5942 (.slice a5942 n5942 c5942) d) := by
  refine fopen Try.func47 rfl rfl rfl rfl ?_
  refine dseq ?_
  refine dreg ?_
  refine lbox rfl rfl rfl rfl rfl X (fun b3330 h3332 X3333 => ?_)
  refine lbox rfl rfl rfl rfl rfl X3333 (fun b3334 h3336 X3337 => ?_)
  refine lpure (v := .slice none 0 0) rfl (p_assign rfl) rfl rfl ?_
  refine lend ?_
  refine nseq ?_
  refine dscope ?_
  refine dseq ?_
  refine dreg ?_
  refine lpure (v := .pointer (some ⟨b3330, 0, none⟩)) rfl (p_fa fo_25_0 rfl) rfl rfl ?_
  refine lread (v := .int .i64 p3324.Nodes) rfl (q_load wd_3 rfl) (St.ld X3337 (j := 1) rfl rfl) rfl ?_
  refine Sim.mustM fun k3338 => ?_
  have k3338 := of_decide_eq_true k3338
  obtain ⟨h3338, b3338, vs3338, hv3338, X3338, O3338⟩ := OSl.mk (E := eBool) (φ := φ) (a0 := false) (k := .i64) (k' := .i64) (l := p3324.Nodes) (c := p3324.Nodes) un_22 tb_4 rfl ts_4 rfl rfl tz_4 rfl rfl rfl (by omega) (by omega) (by omega) X3337
  refine lheap rfl (h_makeSlice rfl) hv3338 rfl ?_
  refine lalloc rfl tz_22 rfl rfl rfl X3338 (fun b3340 h3342 X3343 => ?_)
  refine lstore rfl ts_22 rfl rfl (j := 0) rfl rfl rfl rfl rfl rfl X3343 (fun h3344 X3345 => ?_)
  refine lend ?_
  refine nseq ?_
  refine dseq ?_
  refine dreg ?_
  refine lread (v := .slice (some ⟨b3338, 0, none⟩) (p3324.Nodes).toNat (p3324.Nodes).toNat) rfl (q_load wd_22 rfl) (St.ld X3345 (j := 0) rfl rfl) rfl ?_
  refine lpure (v := .int .i64 p3327) rfl (p_move rfl) rfl rfl ?_
  refine Sim.bindM fun e3346 he3347 => ?_
  obtain ⟨off3348, cs3348, hp3348, hc3348, hR3348, hl3348, hm3348, hs3348⟩ := OSl.iaC O3338 he3347 (kd := .i64) (n := 1) rfl
  have hR3348 : _ = [(.bool e3346 : Value)] := hR3348
  subst hR3348
  refine lpure (v := .pointer (some ⟨b3338, off3348, none⟩)) rfl (p_ia rs_22 rfl) hp3348 rfl ?_
  have O3351 := hs3348 [.bool true] (true) rfl
  refine lstore rfl ts_4 rfl rfl (j := 1) rfl hm3348 rfl rfl (ble_iff.2 hl3348) rfl X3345 (fun h3349 X3350 => ?_)
  refine lend ?_
  refine nseq ?_
  refine dseq ?_
  refine dlabel ?_
  refine nseq ?_
  refine dseq ?_
  refine dblock ?_
  refine dloopM (τ := (List Bool)) (σ := Option Addr × Nat × Nat × Option Nat × Blk) (fun s4645 (a4646, n4646, c4646, ob4646, blk4646) => [(3, .pointer (some ⟨b3330, 0, none⟩)), (5, .pointer (some ⟨b3334, 0, none⟩)), (7, .pointer (some ⟨b3340, 0, none⟩))]) (fun s4645 (a4646, n4646, c4646, ob4646, blk4646) hh => St φ lo hh ((some b3340, .cells [.slice a4646 n4646 c4646] 22 .exact) :: (ob4646, blk4646) :: (some b3334, .cells [.slice a3329 n3329 c3329] 28 .exact) :: (some b3330, .cells [.int .i64 p3324.Nodes, .slice a3325 n3325 c3325, .slice a3326 n3326 c3326] 25 .exact) :: own) ∧ OSl eBool φ 4 ob4646 blk4646 (.slice a4646 n4646 c4646) s4645) ((List.replicate (p3324.Nodes).toNat false).set (p3327).toNat true) ((some ⟨b3338, 0, none⟩), (p3324.Nodes).toNat, (p3324.Nodes).toNat, some b3338, (.cells (setAt vs3338 off3348 [.bool true]) 4 .exact)) (sub_cons rfl (sub_cons rfl (sub_cons rfl sub_nil))) ⟨X3350, O3351⟩ ?_
  rintro n5295 ih5294 s4645 ⟨a4646, n4646, c4646, ob4646, blk4646⟩ t0 h5297 ⟨X5296, O4646⟩
  refine dblock ?_
  refine dseq ?_
  refine dseq ?_
  refine dreg ?_
  refine lread (v := .agg #[.int .i64 p3324.Nodes, .slice a3325 n3325 c3325, .slice a3326 n3326 c3326]) rfl (q_load wd_25 rfl) (St.ld X5296 (j := 3) rfl rfl) rfl ?_
  refine linl rfl rfl rfl rfl ca_40 rfl Try.func40 rfl rfl rfl rfl rfl ?_
  refine dseq ?_
  refine dreg ?_
  refine lbox rfl rfl rfl rfl rfl X5296 (fun b5298 h5300 X5301 => ?_)
  refine lpure (v := .nilFunc) rfl (p_assign rfl) rfl rfl ?_
  refine lend ?_
  refine nseq ?_
  refine dseq ?_
  refine dreg ?_
  refine lpure (v := .func (.func 62) #[] #[.pointer (some ⟨b5298, 0, none⟩)]) rfl (p_makeFunc rfl) rfl rfl ?_
  refine lpure (v := .func (.func 62) #[] #[.pointer (some ⟨b5298, 0, none⟩)]) rfl (p_assign rfl) rfl rfl ?_
  refine lend ?_
  refine nseq ?_
  refine dret ?_
  refine kin_r (res_1 resT) ?_
  refine lend ?_
  refine nseq ?_
  refine dblock ?_
  refine drange rfl rfl ca_62 Try.func62 rfl rfl X5301 (fun _ => rfl) ?_
  intro l5302 q5303 df5304 h5306 Q5305 X5307
  refine dseq ?_
  refine dreg ?_
  refine lpure (v := .pointer (some ⟨b5298, 2, none⟩)) rfl (p_fa fo_25_2 rfl) rfl rfl ?_
  refine lread (v := .slice a3326 n3326 c3326) rfl (q_load wd_23 rfl) (St.ld X5307 (j := 2) rfl rfl) rfl ?_
  refine lpure (v := .int .i64 (p3324.Links.length : Int)) rfl (p_len rfl rfl rfl un_23 rfl) (RSl.lenC H3326) rfl ?_
  refine lpure (v := .int .i64 0) rfl (p_move rfl) rfl rfl ?_
  refine lend ?_
  refine nseq ?_
  refine dblock ?_
  refine dloopM (τ := Int × (List Bool)) (σ := Option Addr × Nat × Nat × Option Nat × Blk) (fun s5625 (a5626, n5626, c5626, ob5626, blk5626) => [(0, .func (.yield l5302) #[] #[]), (6, .slice a3326 n3326 c3326), (7, .int .i64 (p3324.Links.length : Int)), (8, .int .i64 s5625.1)]) (fun s5625 (a5626, n5626, c5626, ob5626, blk5626) hh => St φ lo hh ((some l5302, rdy q5303) :: (none, .dead) :: (some b5298, .cells [.int .i64 p3324.Nodes, .slice a3325 n3325 c3325, .slice a3326 n3326 c3326] 25 .exact) :: (some b3340, .cells [.slice a5626 n5626 c5626] 22 .exact) :: (ob5626, blk5626) :: (some b3334, .cells [.slice a3329 n3329 c3329] 28 .exact) :: (some b3330, .cells [.int .i64 p3324.Nodes, .slice a3325 n3325 c3325, .slice a3326 n3326 c3326] 25 .exact) :: own) ∧ OSl eBool φ 4 ob5626 blk5626 (.slice a5626 n5626 c5626) s5625.2) (0, s4645) (a4646, n4646, c4646, ob4646, blk4646) (sub_cons rfl (sub_cons rfl (sub_cons rfl (sub_cons rfl sub_nil)))) ⟨(St.pick X5307 (.keep _ (.none _ (.skip _ (.keep _ (.keep _ (.keep _ (.keep _ (.keep _ (.refl _)))))))))), O4646⟩ ?_
  rintro n5785 ih5784 s5625 ⟨a5626, n5626, c5626, ob5626, blk5626⟩ t0 h5787 ⟨X5786, O5626⟩
  refine dseq ?_
  refine dreg ?_
  refine lpure (v := .bool (decide (s5625.1 < (p3324.Links.length : Int)))) rfl (p_lt rfl) rfl rfl ?_
  refine lend ?_
  refine nseq ?_
  refine dseq ?_
  refine dcond rfl rfl (fun k5788 => ?_) (fun k5788 => ?_)
  · refine dskip ?_
    refine nseq ?_
    refine dseq ?_
    refine dblock ?_
    refine dseq ?_
    refine dreg ?_
    refine lpure (v := .int .i64 s5625.1) rfl (p_move rfl) rfl rfl ?_
    refine Sim.bindM fun e5789 he5790 => ?_
    obtain ⟨p5791, cs5791, hp5791, hF5791, hR5791⟩ := RSl.ia H3326 he5790 (kd := .i64) (n := 4) rfl
    obtain rfl := eApiLink_el hR5791
    refine lpure (v := p5791) rfl (p_ia rs_23 rfl) hp5791 rfl ?_
    refine lread (v := .agg #[.int .i64 e5789.A, .int .i64 e5789.B, .int .i64 e5789.Per, .int .i64 e5789.Delay]) rfl (q_load wd_50 rfl) (FP.ldw X5786 hF5791 rfl rfl) rfl ?_
    refine lalloc rfl tz_50 rfl rfl rfl X5786 (fun b5792 h5794 X5795 => ?_)
    refine lpure (v := .int .i64 s5625.1) rfl (p_assign rfl) rfl rfl ?_
    refine lstore rfl ts_50 rfl rfl (j := 0) rfl rfl rfl rfl rfl rfl X5795 (fun h5796 X5797 => ?_)
    refine lend ?_
    refine nseq ?_
    refine dseq ?_
    refine dreg ?_
    refine lpure (v := .func (.yield l5302) #[] #[]) rfl (p_move rfl) rfl rfl ?_
    refine lread (v := .agg #[.int .i64 e5789.A, .int .i64 e5789.B, .int .i64 e5789.Per, .int .i64 e5789.Delay]) rfl (q_load wd_50 rfl) (St.ld X5797 (j := 0) rfl rfl) rfl ?_
    refine lpure (v := .int .i64 s5625.1) rfl (p_move rfl) rfl rfl ?_
    refine lpure (v := .int .i64 (w64 (2 * s5625.1))) rfl (p_mul rfl) rfl rfl ?_
    refine lpure (v := .agg #[.int .i64 e5789.A, .int .i64 e5789.B, .int .i64 e5789.Per, .int .i64 e5789.Delay, .int .i64 (w64 (2 * s5625.1))]) rfl (p_build rfl) (build_st' tz_65 pl_65 rfl) rfl ?_
    refine lround rfl rfl rfl rfl rfl rfl X5797 (j := 1) rfl Q5305 rfl rfl rfl rfl rfl (fun t5798 => ?_)
    refine dreg ?_
    refine lalloc rfl tz_65 rfl rfl rfl X5797 (fun b5799 h5801 X5802 => ?_)
    refine lstore rfl ts_65 rfl rfl (j := 0) rfl rfl rfl rfl rfl rfl X5802 (fun h5803 X5804 => ?_)
    refine lend ?_
    refine basg X5804 (j := 2) rfl (fun h5805 X5806 => ?_)
    refine dblock ?_
    refine dseq ?_
    refine ddraw 0 0 0 (by kernel_rfl) ?_
    refine sload (v := .slice a5626 n5626 c5626) rfl rfl (q_load wd_22 rfl) (St.ld X5806 (j := 5) rfl rfl) (same_self 20 rfl) rfl ?_
    refine sload (v := .agg #[.int .i64 e5789.A, .int .i64 e5789.B, .int .i64 e5789.Per, .int .i64 e5789.Delay, .int .i64 (w64 (2 * s5625.1))]) rfl rfl (q_load wd_65 rfl) (St.ld X5806 (j := 0) rfl rfl) (same_self 20 rfl) rfl ?_
    refine scall (en := fun d => (.int .i64 d)) rfl rfl ca_41 rfl rfl (f41_ok X5806 ((TopoEnd.mk e5789 (w64 (2 * s5625.1))))) rfl (fun e5807 => ?_)
    refine Sim.bindM fun e5811 he5812 => ?_
    obtain ⟨b5813, vs5813, m5813, off5813, cs5813, rfl, rfl, hp5813, hc5813, hR5813, hl5813, hm5813, hs5813⟩ := OSl.ia O5626 he5812 (kd := .i64) (n := 1) rfl
    have hR5813 : _ = [(.bool e5811 : Value)] := hR5813
    subst hR5813
    refine spure (v := .pointer (some ⟨b5813, off5813, none⟩)) rfl (p_ia rs_22 rfl) (lo_t (lo_osl X5806 (j := 6) rfl O5626) (lo_t rfl rfl)) hp5813 rfl ?_
    refine sload (v := .bool e5811) rfl rfl (q_load wd_4 rfl) (St.ld X5806 (j := 6) rfl (rdE1 hc5813 (k := 0) rfl rfl)) (same_self 20 rfl) rfl ?_
    refine spure (v := .bool e5811) rfl (p_move rfl) (lo_t rfl rfl) rfl rfl ?_
    refine sjoinM (τ := Bool) (σ := Unit) (fun s5823 (_ : Unit) => [(5, .pointer (some ⟨b3334, 0, none⟩)), (7, .pointer (some ⟨b3340, 0, none⟩)), (8, .pointer (some ⟨b5799, 0, none⟩)), (30, .bool s5823)]) (fun s5823 (_ : Unit) hh => St φ lo hh ((some b5799, .cells [.int .i64 e5789.A, .int .i64 e5789.B, .int .i64 e5789.Per, .int .i64 e5789.Delay, .int .i64 (w64 (2 * s5625.1))] 65 .exact) :: (some b5792, .cells [.int .i64 e5789.A, .int .i64 e5789.B, .int .i64 e5789.Per, .int .i64 e5789.Delay] 50 .exact) :: (some l5302, bsy q5303) :: (none, .dead) :: (some b5298, .cells [.int .i64 p3324.Nodes, .slice a3325 n3325 c3325, .slice a3326 n3326 c3326] 25 .exact) :: (some b3340, .cells [.slice a5626 n5626 c5626] 22 .exact) :: (some b5813, .cells vs5813 4 m5813) :: (some b3334, .cells [.slice a3329 n3329 c3329] 28 .exact) :: (some b3330, .cells [.int .i64 p3324.Nodes, .slice a3325 n3325 c3325, .slice a3326 n3326 c3326] 25 .exact) :: own)) 7 13 ?_ ?_
    · rintro s5823 _ t0 h5825 X5824
      refine spure (v := .bool s5823) rfl (p_move rfl) (lo_t rfl rfl) rfl rfl ?_
      refine sjoinM (τ := Bool) (σ := Unit) (fun s5832 (_ : Unit) => [(7, .pointer (some ⟨b3340, 0, none⟩)), (8, .pointer (some ⟨b5799, 0, none⟩)), (38, .bool s5832)]) (fun s5832 (_ : Unit) hh => St φ lo hh ((some b5799, .cells [.int .i64 e5789.A, .int .i64 e5789.B, .int .i64 e5789.Per, .int .i64 e5789.Delay, .int .i64 (w64 (2 * s5625.1))] 65 .exact) :: (some b5792, .cells [.int .i64 e5789.A, .int .i64 e5789.B, .int .i64 e5789.Per, .int .i64 e5789.Delay] 50 .exact) :: (some l5302, bsy q5303) :: (none, .dead) :: (some b5298, .cells [.int .i64 p3324.Nodes, .slice a3325 n3325 c3325, .slice a3326 n3326 c3326] 25 .exact) :: (some b3340, .cells [.slice a5626 n5626 c5626] 22 .exact) :: (some b5813, .cells vs5813 4 m5813) :: (some b3334, .cells [.slice a3329 n3329 c3329] 28 .exact) :: (some b3330, .cells [.int .i64 p3324.Nodes, .slice a3325 n3325 c3325, .slice a3326 n3326 c3326] 25 .exact) :: own)) 7 21 ?_ ?_
      · rintro s5832 _ t0 h5834 X5833
        refine send ?_
        refine nseq ?_
        refine dcond rfl rfl (fun k5835 => ?_) (fun k5835 => ?_)
        · refine dseq ?_
          refine ddraw 16 16 0 (by kernel_rfl) ?_
          refine sload (v := .slice a5626 n5626 c5626) rfl rfl (q_load wd_22 rfl) (St.ld X5833 (j := 5) rfl rfl) (same_self 20 rfl) rfl ?_
          refine sload (v := .agg #[.int .i64 e5789.A, .int .i64 e5789.B, .int .i64 e5789.Per, .int .i64 e5789.Delay, .int .i64 (w64 (2 * s5625.1))]) rfl rfl (q_load wd_65 rfl) (St.ld X5833 (j := 0) rfl rfl) (same_self 20 rfl) rfl ?_
          refine scall (en := fun d => (.int .i64 d)) rfl rfl ca_42 rfl rfl (f42_ok X5833 ((TopoEnd.mk e5789 (w64 (2 * s5625.1))))) rfl (fun e5836 => ?_)
          refine Sim.bindM fun e5840 he5841 => ?_
          obtain ⟨off5842, cs5842, hp5842, hc5842, hR5842, hl5842, hm5842, hs5842⟩ := OSl.iaC O5626 he5841 (kd := .i64) (n := 1) rfl
          have hR5842 : _ = [(.bool e5840 : Value)] := hR5842
          subst hR5842
          refine spure (v := .pointer (some ⟨b5813, off5842, none⟩)) rfl (p_ia rs_22 rfl) (lo_t (lo_osl X5833 (j := 6) rfl O5626) (lo_t rfl rfl)) hp5842 rfl ?_
          have O5845 := hs5842 [.bool true] (true) rfl
          refine sstore rfl rfl ts_4 rfl rfl (j := 6) rfl hm5842 rfl rfl (ble_iff.2 hl5842) rfl X5833 (fun h5843 X5844 => ?_)
          refine send ?_
          refine nseq ?_
          refine dexit ?_
          refine eblock rfl ?_
          refine ernd X5844 (j := 2) rfl (fun h5846 X5847 => ?_)
          refine lpure (v := .bool true) rfl (p_not rfl) rfl rfl ?_
          refine lpure (v := .bool true) rfl (p_move rfl) rfl rfl ?_
          refine lskip rfl rfl ?_
          refine lskip rfl rfl ?_
          refine lskip rfl rfl ?_
          refine lskip rfl rfl ?_
          refine lskip rfl rfl ?_
          refine lskip rfl rfl ?_
          refine lskip rfl rfl ?_
          refine lskip rfl rfl ?_
          refine lpure (v := .bool true) rfl (p_pick rfl) rfl rfl ?_
          refine lend ?_
          refine nseq ?_
          refine dcondT rfl rfl ?_
          refine dret ?_
          refine rblock ?_
          refine rseq ?_
          refine rloop ?_
          refine rblock ?_
          refine kin_r res_0 ?_
          refine rend_d X5847 (j := 2) rfl (.inr ⟨_, rfl, rfl⟩) (fun h5848 X5849 => ?_)
          refine eblock rfl ?_
          refine eseq ?_
          refine xblock ?_
          exact kbackM ih5294 (s5625.2.set (e5836).toNat true) (a5626, n5626, c5626, some b5813, (.cells (setAt vs5813 off5842 [.bool true]) 4 m5813)) (sub_cons rfl (sub_cons rfl (sub_cons rfl sub_nil))) ⟨(St.pick X5849 (.skip _ (.skip _ (.skip _ (.skip _ (.skip _ (.keep _ (.keep _ (.keep _ (.keep _ (.refl _))))))))))), O5845⟩
        · refine dskip ?_
          refine nblock ?_
          refine nrnd X5833 (j := 2) rfl (fun h5850 X5851 => ?_)
          refine lpure (v := .bool false) rfl (p_not rfl) rfl rfl ?_
          refine lpure (v := .bool false) rfl (p_move rfl) rfl rfl ?_
          refine lpure (v := .func (.yield l5302) #[] #[]) rfl (p_move rfl) rfl rfl ?_
          refine lread (v := .agg #[.int .i64 e5789.A, .int .i64 e5789.B, .int .i64 e5789.Per, .int .i64 e5789.Delay]) rfl (q_load wd_50 rfl) (St.ld X5851 (j := 1) rfl rfl) rfl ?_
          refine lpure (v := .int .i64 s5625.1) rfl (p_move rfl) rfl rfl ?_
          refine lpure (v := .int .i64 (w64 (2 * s5625.1))) rfl (p_mul rfl) rfl rfl ?_
          refine lpure (v := .int .i64 (w64 ((w64 (2 * s5625.1)) + 1))) rfl (p_add rfl) rfl rfl ?_
          refine lpure (v := .agg #[.int .i64 e5789.A, .int .i64 e5789.B, .int .i64 e5789.Per, .int .i64 e5789.Delay, .int .i64 (w64 ((w64 (2 * s5625.1)) + 1))]) rfl (p_build rfl) (build_st' tz_65 pl_65 rfl) rfl ?_
          refine lround rfl rfl rfl rfl rfl rfl X5851 (j := 2) rfl Q5305 rfl rfl rfl rfl rfl (fun t5852 => ?_)
          refine dreg ?_
          refine lalloc rfl tz_65 rfl rfl rfl X5851 (fun b5853 h5855 X5856 => ?_)
          refine lstore rfl ts_65 rfl rfl (j := 0) rfl rfl rfl rfl rfl rfl X5856 (fun h5857 X5858 => ?_)
          refine lend ?_
          refine basg X5858 (j := 3) rfl (fun h5859 X5860 => ?_)
          refine dblock ?_
          refine dseq ?_
          refine ddraw 0 0 0 (by kernel_rfl) ?_
          refine sload (v := .slice a5626 n5626 c5626) rfl rfl (q_load wd_22 rfl) (St.ld X5860 (j := 6) rfl rfl) (same_self 20 rfl) rfl ?_
          refine sload (v := .agg #[.int .i64 e5789.A, .int .i64 e5789.B, .int .i64 e5789.Per, .int .i64 e5789.Delay, .int .i64 (w64 ((w64 (2 * s5625.1)) + 1))]) rfl rfl (q_load wd_65 rfl) (St.ld X5860 (j := 0) rfl rfl) (same_self 20 rfl) rfl ?_
          refine scall (en := fun d => (.int .i64 d)) rfl rfl ca_41 rfl rfl (f41_ok X5860 ((TopoEnd.mk e5789 (w64 ((w64 (2 * s5625.1)) + 1))))) rfl (fun e5861 => ?_)
          refine Sim.bindM fun e5865 he5866 => ?_
          obtain ⟨off5867, cs5867, hp5867, hc5867, hR5867, hl5867, hm5867, hs5867⟩ := OSl.iaC O5626 he5866 (kd := .i64) (n := 1) rfl
          have hR5867 : _ = [(.bool e5865 : Value)] := hR5867
          subst hR5867
          refine spure (v := .pointer (some ⟨b5813, off5867, none⟩)) rfl (p_ia rs_22 rfl) (lo_t (lo_osl X5860 (j := 7) rfl O5626) (lo_t rfl rfl)) hp5867 rfl ?_
          refine sload (v := .bool e5865) rfl rfl (q_load wd_4 rfl) (St.ld X5860 (j := 7) rfl (rdE1 hc5867 (k := 0) rfl rfl)) (same_self 20 rfl) rfl ?_
          refine spure (v := .bool e5865) rfl (p_move rfl) (lo_t rfl rfl) rfl rfl ?_
          refine sjoinM (τ := Bool) (σ := Unit) (fun s5877 (_ : Unit) => [(5, .pointer (some ⟨b3334, 0, none⟩)), (7, .pointer (some ⟨b3340, 0, none⟩)), (8, .pointer (some ⟨b5853, 0, none⟩)), (30, .bool s5877)]) (fun s5877 (_ : Unit) hh => St φ lo hh ((some b5853, .cells [.int .i64 e5789.A, .int .i64 e5789.B, .int .i64 e5789.Per, .int .i64 e5789.Delay, .int .i64 (w64 ((w64 (2 * s5625.1)) + 1))] 65 .exact) :: (some b5799, .cells [.int .i64 e5789.A, .int .i64 e5789.B, .int .i64 e5789.Per, .int .i64 e5789.Delay, .int .i64 (w64 (2 * s5625.1))] 65 .exact) :: (some b5792, .cells [.int .i64 e5789.A, .int .i64 e5789.B, .int .i64 e5789.Per, .int .i64 e5789.Delay] 50 .exact) :: (some l5302, bsy q5303) :: (none, .dead) :: (some b5298, .cells [.int .i64 p3324.Nodes, .slice a3325 n3325 c3325, .slice a3326 n3326 c3326] 25 .exact) :: (some b3340, .cells [.slice a5626 n5626 c5626] 22 .exact) :: (some b5813, .cells vs5813 4 m5813) :: (some b3334, .cells [.slice a3329 n3329 c3329] 28 .exact) :: (some b3330, .cells [.int .i64 p3324.Nodes, .slice a3325 n3325 c3325, .slice a3326 n3326 c3326] 25 .exact) :: own)) 7 13 ?_ ?_
          · rintro s5877 _ t0 h5879 X5878
            refine spure (v := .bool s5877) rfl (p_move rfl) (lo_t rfl rfl) rfl rfl ?_
            refine sjoinM (τ := Bool) (σ := Unit) (fun s5886 (_ : Unit) => [(7, .pointer (some ⟨b3340, 0, none⟩)), (8, .pointer (some ⟨b5853, 0, none⟩)), (38, .bool s5886)]) (fun s5886 (_ : Unit) hh => St φ lo hh ((some b5853, .cells [.int .i64 e5789.A, .int .i64 e5789.B, .int .i64 e5789.Per, .int .i64 e5789.Delay, .int .i64 (w64 ((w64 (2 * s5625.1)) + 1))] 65 .exact) :: (some b5799, .cells [.int .i64 e5789.A, .int .i64 e5789.B, .int .i64 e5789.Per, .int .i64 e5789.Delay, .int .i64 (w64 (2 * s5625.1))] 65 .exact) :: (some b5792, .cells [.int .i64 e5789.A, .int .i64 e5789.B, .int .i64 e5789.Per, .int .i64 e5789.Delay] 50 .exact) :: (some l5302, bsy q5303) :: (none, .dead) :: (some b5298, .cells [.int .i64 p3324.Nodes, .slice a3325 n3325 c3325, .slice a3326 n3326 c3326] 25 .exact) :: (some b3340, .cells [.slice a5626 n5626 c5626] 22 .exact) :: (some b5813, .cells vs5813 4 m5813) :: (some b3334, .cells [.slice a3329 n3329 c3329] 28 .exact) :: (some b3330, .cells [.int .i64 p3324.Nodes, .slice a3325 n3325 c3325, .slice a3326 n3326 c3326] 25 .exact) :: own)) 7 21 ?_ ?_
            · rintro s5886 _ t0 h5888 X5887
              refine send ?_
              refine nseq ?_
              refine dcond rfl rfl (fun k5889 => ?_) (fun k5889 => ?_)
              · refine dseq ?_
                refine ddraw 16 16 0 (by kernel_rfl) ?_
                refine sload (v := .slice a5626 n5626 c5626) rfl rfl (q_load wd_22 rfl) (St.ld X5887 (j := 6) rfl rfl) (same_self 20 rfl) rfl ?_
                refine sload (v := .agg #[.int .i64 e5789.A, .int .i64 e5789.B, .int .i64 e5789.Per, .int .i64 e5789.Delay, .int .i64 (w64 ((w64 (2 * s5625.1)) + 1))]) rfl rfl (q_load wd_65 rfl) (St.ld X5887 (j := 0) rfl rfl) (same_self 20 rfl) rfl ?_
                refine scall (en := fun d => (.int .i64 d)) rfl rfl ca_42 rfl rfl (f42_ok X5887 ((TopoEnd.mk e5789 (w64 ((w64 (2 * s5625.1)) + 1))))) rfl (fun e5890 => ?_)
                refine Sim.bindM fun e5894 he5895 => ?_
                obtain ⟨off5896, cs5896, hp5896, hc5896, hR5896, hl5896, hm5896, hs5896⟩ := OSl.iaC O5626 he5895 (kd := .i64) (n := 1) rfl
                have hR5896 : _ = [(.bool e5894 : Value)] := hR5896
                subst hR5896
                refine spure (v := .pointer (some ⟨b5813, off5896, none⟩)) rfl (p_ia rs_22 rfl) (lo_t (lo_osl X5887 (j := 7) rfl O5626) (lo_t rfl rfl)) hp5896 rfl ?_
                have O5899 := hs5896 [.bool true] (true) rfl
                refine sstore rfl rfl ts_4 rfl rfl (j := 7) rfl hm5896 rfl rfl (ble_iff.2 hl5896) rfl X5887 (fun h5897 X5898 => ?_)
                refine send ?_
                refine nseq ?_
                refine dexit ?_
                refine eblock rfl ?_
                refine ernd X5898 (j := 3) rfl (fun h5900 X5901 => ?_)
                refine lpure (v := .bool true) rfl (p_not rfl) rfl rfl ?_
                refine lpure (v := .bool true) rfl (p_pick rfl) rfl rfl ?_
                refine lend ?_
                refine nseq ?_
                refine dcondT rfl rfl ?_
                refine dret ?_
                refine rblock ?_
                refine rseq ?_
                refine rloop ?_
                refine rblock ?_
                refine kin_r res_0 ?_
                refine rend_d X5901 (j := 3) rfl (.inr ⟨_, rfl, rfl⟩) (fun h5902 X5903 => ?_)
                refine eblock rfl ?_
                refine eseq ?_
                refine xblock ?_
                exact kbackM ih5294 (s5625.2.set (e5890).toNat true) (a5626, n5626, c5626, some b5813, (.cells (setAt vs5813 off5896 [.bool true]) 4 m5813)) (sub_cons rfl (sub_cons rfl (sub_cons rfl sub_nil))) ⟨(St.pick X5903 (.skip _ (.skip _ (.skip _ (.skip _ (.skip _ (.skip _ (.keep _ (.keep _ (.keep _ (.keep _ (.refl _)))))))))))), O5899⟩
              · refine dskip ?_
                refine nblock ?_
                refine nrnd X5887 (j := 3) rfl (fun h5904 X5905 => ?_)
                refine lpure (v := .bool false) rfl (p_not rfl) rfl rfl ?_
                refine lpure (v := .bool false) rfl (p_pick rfl) rfl rfl ?_
                refine lend ?_
                refine nseq ?_
                refine dcondF rfl rfl ?_
                refine dskip ?_
                refine nblock ?_
                refine nseq ?_
                refine dreg ?_
                refine lpure (v := .int .i64 (w64 (s5625.1 + 1))) rfl (p_add rfl) rfl rfl ?_
                refine lpure (v := .int .i64 (w64 (s5625.1 + 1))) rfl (p_move rfl) rfl rfl ?_
                refine lend ?_
                exact kbackM ih5784 ((w64 (s5625.1 + 1)), s5625.2) (a5626, n5626, c5626, some b5813, .cells vs5813 4 m5813) (sub_cons rfl (sub_cons rfl (sub_cons rfl (sub_cons rfl sub_nil)))) ⟨(St.pick X5905 (.skip _ (.skip _ (.skip _ (.keep _ (.none _ (.skip _ (.keep _ (.keep _ (.keep _ (.keep _ (.keep _ (.refl _))))))))))))), O5626⟩
            · intro j5906 J5907
              refine sif (j := 31) (show _ = Value.bool s5877 from rfl) (fun k5908 => ?_) (fun k5908 => ?_)
              · refine sload (v := .slice a3329 n3329 c3329) rfl rfl (q_load wd_28 rfl) (St.ld X5878 (j := 8) rfl rfl) (same_self 20 rfl) rfl ?_
                refine spure (v := .pointer (some ⟨b5853, 4, none⟩)) rfl (p_fa fo_65_1 rfl) (lo_t (lo_own X5878 (j := 0) (o := 0) (s := none) (f := 0) rfl) rfl) rfl rfl ?_
                refine sload (v := .int .i64 (w64 ((w64 (2 * s5625.1)) + 1))) rfl rfl (q_load wd_3 rfl) (St.ld X5878 (j := 0) rfl rfl) (same_self 20 rfl) rfl ?_
                refine spure (v := .int .i64 (w64 (Int.tdiv (w64 ((w64 (2 * s5625.1)) + 1)) 2))) rfl (p_quo rfl) (lo_t rfl (lo_c rfl)) rfl rfl ?_
                refine scall (en := fun d => (.bool d)) rfl rfl ca_22 rfl rfl (f22_ok X5878 p3328 ((w64 (Int.tdiv (w64 ((w64 (2 * s5625.1)) + 1)) 2))) H3329) rfl (fun e5909 => ?_)
                refine spure (v := .bool (!e5909)) rfl (p_not rfl) (lo_t rfl rfl) rfl rfl ?_
                refine spure (v := .bool (!e5909)) rfl (p_pick rfl) (lo_t rfl (lo_t rfl (lo_c rfl))) rfl rfl ?_
                exact sjmpM J5907 (!e5909) () (sub_cons rfl (sub_cons rfl (sub_cons rfl sub_nil))) (St.pick X5878 (.keep _ (.keep _ (.keep _ (.keep _ (.none _ (.skip _ (.keep _ (.keep _ (.keep _ (.keep _ (.keep _ (.refl _)))))))))))))
              · refine sskip rfl rfl ?_
                refine sskip rfl rfl ?_
                refine sskip rfl rfl ?_
                refine sskip rfl rfl ?_
                refine sskip rfl rfl ?_
                refine sskip rfl rfl ?_
                refine spure (v := .bool false) rfl (p_pick rfl) (lo_t rfl (lo_t rfl (lo_c rfl))) rfl rfl ?_
                exact sjmpM J5907 false () (sub_cons rfl (sub_cons rfl (sub_cons rfl sub_nil))) (St.pick X5878 (.keep _ (.keep _ (.keep _ (.keep _ (.none _ (.skip _ (.keep _ (.keep _ (.keep _ (.keep _ (.keep _ (.refl _)))))))))))))
          · intro j5913 J5914
            refine sif (j := 23) (show _ = Value.bool e5865 from rfl) (fun k5915 => ?_) (fun k5915 => ?_)
            · refine sload (v := .slice a5626 n5626 c5626) rfl rfl (q_load wd_22 rfl) (St.ld X5860 (j := 6) rfl rfl) (same_self 20 rfl) rfl ?_
              refine sload (v := .agg #[.int .i64 e5789.A, .int .i64 e5789.B, .int .i64 e5789.Per, .int .i64 e5789.Delay, .int .i64 (w64 ((w64 (2 * s5625.1)) + 1))]) rfl rfl (q_load wd_65 rfl) (St.ld X5860 (j := 0) rfl rfl) (same_self 20 rfl) rfl ?_
              refine scall (en := fun d => (.int .i64 d)) rfl rfl ca_42 rfl rfl (f42_ok X5860 ((TopoEnd.mk e5789 (w64 ((w64 (2 * s5625.1)) + 1))))) rfl (fun e5916 => ?_)
              refine Sim.bindM fun e5920 he5921 => ?_
              obtain ⟨off5922, cs5922, hp5922, hc5922, hR5922, hl5922, hm5922, hs5922⟩ := OSl.iaC O5626 he5921 (kd := .i64) (n := 1) rfl
              have hR5922 : _ = [(.bool e5920 : Value)] := hR5922
              subst hR5922
              refine spure (v := .pointer (some ⟨b5813, off5922, none⟩)) rfl (p_ia rs_22 rfl) (lo_t (lo_osl X5860 (j := 7) rfl O5626) (lo_t rfl rfl)) hp5922 rfl ?_
              refine sload (v := .bool e5920) rfl rfl (q_load wd_4 rfl) (St.ld X5860 (j := 7) rfl (rdE1 hc5922 (k := 0) rfl rfl)) (same_self 20 rfl) rfl ?_
              refine spure (v := .bool (!e5920)) rfl (p_not rfl) (lo_t rfl rfl) rfl rfl ?_
              refine spure (v := .bool (!e5920)) rfl (p_pick rfl) (lo_t rfl (lo_t rfl (lo_c rfl))) rfl rfl ?_
              exact sjmpM J5914 (!e5920) () (sub_cons rfl (sub_cons rfl (sub_cons rfl (sub_cons rfl sub_nil)))) (St.pick X5860 (.keep _ (.keep _ (.keep _ (.keep _ (.none _ (.skip _ (.keep _ (.keep _ (.keep _ (.keep _ (.keep _ (.refl _)))))))))))))
            · refine sskip rfl rfl ?_
              refine sskip rfl rfl ?_
              refine sskip rfl rfl ?_
              refine sskip rfl rfl ?_
              refine sskip rfl rfl ?_
              refine sskip rfl rfl ?_
              refine spure (v := .bool false) rfl (p_pick rfl) (lo_t rfl (lo_t rfl (lo_c rfl))) rfl rfl ?_
              exact sjmpM J5914 false () (sub_cons rfl (sub_cons rfl (sub_cons rfl (sub_cons rfl sub_nil)))) (St.pick X5860 (.keep _ (.keep _ (.keep _ (.keep _ (.none _ (.skip _ (.keep _ (.keep _ (.keep _ (.keep _ (.keep _ (.refl _)))))))))))))
      · intro j5923 J5924
        refine sif (j := 31) (show _ = Value.bool s5823 from rfl) (fun k5925 => ?_) (fun k5925 => ?_)
        · refine sload (v := .slice a3329 n3329 c3329) rfl rfl (q_load wd_28 rfl) (St.ld X5824 (j := 7) rfl rfl) (same_self 20 rfl) rfl ?_
          refine spure (v := .pointer (some ⟨b5799, 4, none⟩)) rfl (p_fa fo_65_1 rfl) (lo_t (lo_own X5824 (j := 0) (o := 0) (s := none) (f := 0) rfl) rfl) rfl rfl ?_
          refine sload (v := .int .i64 (w64 (2 * s5625.1))) rfl rfl (q_load wd_3 rfl) (St.ld X5824 (j := 0) rfl rfl) (same_self 20 rfl) rfl ?_
          refine spure (v := .int .i64 (w64 (Int.tdiv (w64 (2 * s5625.1)) 2))) rfl (p_quo rfl) (lo_t rfl (lo_c rfl)) rfl rfl ?_
          refine scall (en := fun d => (.bool d)) rfl rfl ca_22 rfl rfl (f22_ok X5824 p3328 ((w64 (Int.tdiv (w64 (2 * s5625.1)) 2))) H3329) rfl (fun e5926 => ?_)
          refine spure (v := .bool (!e5926)) rfl (p_not rfl) (lo_t rfl rfl) rfl rfl ?_
          refine spure (v := .bool (!e5926)) rfl (p_pick rfl) (lo_t rfl (lo_t rfl (lo_c rfl))) rfl rfl ?_
          exact sjmpM J5924 (!e5926) () (sub_cons rfl (sub_cons rfl (sub_cons rfl sub_nil))) (St.pick X5824 (.keep _ (.keep _ (.keep _ (.none _ (.skip _ (.keep _ (.keep _ (.keep _ (.keep _ (.keep _ (.refl _))))))))))))
        · refine sskip rfl rfl ?_
          refine sskip rfl rfl ?_
          refine sskip rfl rfl ?_
          refine sskip rfl rfl ?_
          refine sskip rfl rfl ?_
          refine sskip rfl rfl ?_
          refine spure (v := .bool false) rfl (p_pick rfl) (lo_t rfl (lo_t rfl (lo_c rfl))) rfl rfl ?_
          exact sjmpM J5924 false () (sub_cons rfl (sub_cons rfl (sub_cons rfl sub_nil))) (St.pick X5824 (.keep _ (.keep _ (.keep _ (.none _ (.skip _ (.keep _ (.keep _ (.keep _ (.keep _ (.keep _ (.refl _))))))))))))
    · intro j5930 J5931
      refine sif (j := 23) (show _ = Value.bool e5811 from rfl) (fun k5932 => ?_) (fun k5932 => ?_)
      · refine sload (v := .slice a5626 n5626 c5626) rfl rfl (q_load wd_22 rfl) (St.ld X5806 (j := 5) rfl rfl) (same_self 20 rfl) rfl ?_
        refine sload (v := .agg #[.int .i64 e5789.A, .int .i64 e5789.B, .int .i64 e5789.Per, .int .i64 e5789.Delay, .int .i64 (w64 (2 * s5625.1))]) rfl rfl (q_load wd_65 rfl) (St.ld X5806 (j := 0) rfl rfl) (same_self 20 rfl) rfl ?_
        refine scall (en := fun d => (.int .i64 d)) rfl rfl ca_42 rfl rfl (f42_ok X5806 ((TopoEnd.mk e5789 (w64 (2 * s5625.1))))) rfl (fun e5933 => ?_)
        refine Sim.bindM fun e5937 he5938 => ?_
        obtain ⟨off5939, cs5939, hp5939, hc5939, hR5939, hl5939, hm5939, hs5939⟩ := OSl.iaC O5626 he5938 (kd := .i64) (n := 1) rfl
        have hR5939 : _ = [(.bool e5937 : Value)] := hR5939
        subst hR5939
        refine spure (v := .pointer (some ⟨b5813, off5939, none⟩)) rfl (p_ia rs_22 rfl) (lo_t (lo_osl X5806 (j := 6) rfl O5626) (lo_t rfl rfl)) hp5939 rfl ?_
        refine sload (v := .bool e5937) rfl rfl (q_load wd_4 rfl) (St.ld X5806 (j := 6) rfl (rdE1 hc5939 (k := 0) rfl rfl)) (same_self 20 rfl) rfl ?_
        refine spure (v := .bool (!e5937)) rfl (p_not rfl) (lo_t rfl rfl) rfl rfl ?_
        refine spure (v := .bool (!e5937)) rfl (p_pick rfl) (lo_t rfl (lo_t rfl (lo_c rfl))) rfl rfl ?_
        exact sjmpM J5931 (!e5937) () (sub_cons rfl (sub_cons rfl (sub_cons rfl (sub_cons rfl sub_nil)))) (St.pick X5806 (.keep _ (.keep _ (.keep _ (.none _ (.skip _ (.keep _ (.keep _ (.keep _ (.keep _ (.keep _ (.refl _))))))))))))
      · refine sskip rfl rfl ?_
        refine sskip rfl rfl ?_
        refine sskip rfl rfl ?_
        refine sskip rfl rfl ?_
        refine sskip rfl rfl ?_
        refine sskip rfl rfl ?_
        refine spure (v := .bool false) rfl (p_pick rfl) (lo_t rfl (lo_t rfl (lo_c rfl))) rfl rfl ?_
        exact sjmpM J5931 false () (sub_cons rfl (sub_cons rfl (sub_cons rfl (sub_cons rfl sub_nil)))) (St.pick X5806 (.keep _ (.keep _ (.keep _ (.none _ (.skip _ (.keep _ (.keep _ (.keep _ (.keep _ (.keep _ (.refl _))))))))))))
  · refine dexit ?_
    refine eseq ?_
    refine eloop ?_
    refine xblock ?_
    refine kin_n res_0 ?_
    refine rend_n X5786 (j := 0) rfl (fun h5940 X5941 => ?_)
    refine nblock ?_
    refine nseq ?_
    refine dexit ?_
    refine eblock rfl ?_
    refine eloop ?_
    refine xblock ?_
    refine nseq ?_
    refine dseq ?_
    refine dreg ?_
    refine lread (v := .slice a5626 n5626 c5626) rfl (q_load wd_22 rfl) (St.ld X5941 (j := 3) rfl rfl) rfl ?_
    refine lpure (v := .slice a5626 n5626 c5626) rfl (p_assign rfl) rfl rfl ?_
    refine lend ?_
    refine nseq ?_
    refine dret ?_
    refine rscope ?_
    exact kopen_r (res_1 resT) ⟨φ, a5626, n5626, c5626, ob5626, blk5626, (Fz.le_refl _), St.pick (St.front X5941 (j := 4) rfl) (.keep _ (.skip _ (.skip _ (.skip _ (.skip _ (.skip _ (.skip _ (.refl _)))))))), rfl, O5626⟩
/-! slices.Index[[]bool,bool] -/
theorem f51_ok {n : Nat} {φ : Fz} {lo : Nat} {h : Heap} {own : OwnL} (X : St φ lo h own) (p5956 : (List Bool)) (p5958 : Bool) {a5957 : Option Addr} {n5957 c5957 : Nat} (H5957 : RSl eBool φ (.slice a5957 n5957 c5957) p5956) : Sim ((recN Try.prog LL cutF (n + 1)).call 51 #[(.slice a5957 n5957 c5957), (.bool p5958)] h) (m_slices_Index_bool_bool p5956 p5958) (fun (d : Int) p => p = (.int .i64 d, h)) := by
  refine fcut Try.func51 rfl rfl rfl rfl X ?_
  intro h0 X0
  refine dseq ?_
  refine dreg ?_
  refine lpure (v := .int .i64 0) rfl (p_assign rfl) rfl rfl ?_
  refine lend ?_
  refine nseq ?_
  refine dseq ?_
  refine dseq ?_
  refine dreg ?_
  refine lpure (v := .slice a5957 n5957 c5957) rfl (p_move rfl) rfl rfl ?_
  refine lpure (v := .int .i64 (p5956.length : Int)) rfl (p_len rfl rfl rfl un_22 rfl) (RSl.lenC H5957) rfl ?_
  refine lpure (v := .int .i64 0) rfl (p_move rfl) rfl rfl ?_
  refine lend ?_
  refine nseq ?_
  refine dblock ?_
  refine dloopM (τ := Int) (σ := Unit) (fun s5975 (_ : Unit) => [(0, .slice a5957 n5957 c5957), (1, .bool p5958), (7, .int .i64 (p5956.length : Int)), (8, .int .i64 s5975)]) (fun s5975 (_ : Unit) hh => St φ h.n hh ([])) 0 () (sub_cons rfl (sub_cons rfl (sub_cons rfl (sub_cons rfl sub_nil)))) X0 ?_
  rintro n5985 ih5984 s5975 _ t0 h5987 X5986
  refine dseq ?_
  refine dreg ?_
  refine lpure (v := .bool (decide (s5975 < (p5956.length : Int)))) rfl (p_lt rfl) rfl rfl ?_
  refine lend ?_
  refine nseq ?_
  refine dseq ?_
  refine dcond rfl rfl (fun k5988 => ?_) (fun k5988 => ?_)
  · refine dskip ?_
    refine nseq ?_
    refine dseq ?_
    refine dblock ?_
    refine dseq ?_
    refine dreg ?_
    refine lpure (v := .int .i64 s5975) rfl (p_move rfl) rfl rfl ?_
    refine lpure (v := .int .i64 s5975) rfl (p_assign rfl) rfl rfl ?_
    refine lend ?_
    refine nseq ?_
    refine dseq ?_
    refine dreg ?_
    refine lpure (v := .bool p5958) rfl (p_move rfl) rfl rfl ?_
    refine lpure (v := .slice a5957 n5957 c5957) rfl (p_move rfl) rfl rfl ?_
    refine lpure (v := .int .i64 s5975) rfl (p_move rfl) rfl rfl ?_
    refine Sim.bindM fun e5989 he5990 => ?_
    obtain ⟨p5991, cs5991, hp5991, hF5991, hR5991⟩ := RSl.ia H5957 he5990 (kd := .i64) (n := 1) rfl
    have hR5991 : _ = [(.bool e5989 : Value)] := hR5991
    subst hR5991
    refine lpure (v := p5991) rfl (p_ia rs_22 rfl) hp5991 rfl ?_
    refine lread (v := .bool e5989) rfl (q_load wd_4 rfl) (FP.ld X5986 hF5991) rfl ?_
    refine lpure (v := .bool (p5958 == e5989)) rfl (p_bin rfl) (bin_eqB un_4) rfl ?_
    refine lend ?_
    refine nseq ?_
    refine dcond rfl rfl (fun k5992 => ?_) (fun k5992 => ?_)
    · refine dseq ?_
      refine dreg ?_
      refine lpure (v := .int .i64 s5975) rfl (p_move rfl) rfl rfl ?_
      refine lpure (v := .int .i64 s5975) rfl (p_assign rfl) rfl rfl ?_
      refine lend ?_
      refine nseq ?_
      refine dret ?_
      refine rblock ?_
      refine rseq ?_
      refine rloop ?_
      refine rblock ?_
      refine rseq ?_
      exact kcut_r (res_1 resT) X5986 rfl rfl
    · refine dskip ?_
      refine nblock ?_
      refine nseq ?_
      refine dreg ?_
      refine lpure (v := .int .i64 (w64 (s5975 + 1))) rfl (p_add rfl) rfl rfl ?_
      refine lpure (v := .int .i64 (w64 (s5975 + 1))) rfl (p_move rfl) rfl rfl ?_
      refine lend ?_
      exact kbackM ih5984 (w64 (s5975 + 1)) () (sub_cons rfl (sub_cons rfl (sub_cons rfl (sub_cons rfl sub_nil)))) X5986
  · refine dexit ?_
    refine eseq ?_
    refine eloop ?_
    refine xblock ?_
    refine nseq ?_
    refine dseq ?_
    refine dreg ?_
    refine lpure (v := .int .i64 (-1)) rfl (p_assign rfl) rfl rfl ?_
    refine lend ?_
    refine nseq ?_
    refine dret ?_
    exact kcut_r (res_1 resT) X5986 rfl rfl
/-! slices.Contains[[]bool,bool] -/
theorem f21_ok {n : Nat} {φ : Fz} {lo : Nat} {h : Heap} {own : OwnL} (X : St φ lo h own) (p5953 : (List Bool)) (p5955 : Bool) {a5954 : Option Addr} {n5954 c5954 : Nat} (H5954 : RSl eBool φ (.slice a5954 n5954 c5954) p5953) : Sim ((recN Try.prog LL cutF (n + 2)).call 21 #[(.slice a5954 n5954 c5954), (.bool p5955)] h) (m_slices_Contains_bool_bool p5953 p5955) (fun (d : Bool) p => p = (.bool d, h)) := by
  refine fcut Try.func21 rfl rfl rfl rfl X ?_
  intro h0 X0
  refine dseq ?_
  refine dreg ?_
  refine lpure (v := .bool false) rfl (p_assign rfl) rfl rfl ?_
  refine lend ?_
  refine nseq ?_
  refine dseq ?_
  refine dreg ?_
  refine lpure (v := .slice a5954 n5954 c5954) rfl (p_move rfl) rfl rfl ?_
  refine lpure (v := .bool p5955) rfl (p_move rfl) rfl rfl ?_
  refine lcall rfl rfl ca_51 rfl rfl (f51_ok X0 p5953 p5955 H5954) rfl (fun e5993 v5994 h5995 hq5996 => ?_)
  cases hq5996
  refine lpure (v := .bool (decide (0 ≤ e5993))) rfl (p_ge rfl) rfl rfl ?_
  refine lpure (v := .bool (decide (0 ≤ e5993))) rfl (p_assign rfl) rfl rfl ?_
  refine lend ?_
  refine nseq ?_
  refine dret ?_
  exact kcut_r (res_1 resT) X0 rfl rfl
/-! isochron/topo.Check -/
theorem f34_ok {n : Nat} {φ : Fz} {lo : Nat} {h : Heap} {own : OwnL} (X : St φ lo h own) (p68 : ApiTopo) {a69 : Option Addr} {n69 c69 : Nat} {a70 : Option Addr} {n70 c70 : Nat} (H69 : RSl eBool φ (.slice a69 n69 c69) p68.Station) (H70 : RSl eApiLink φ (.slice a70 n70 c70) p68.Links) : Sim ((recN Try.prog LL cutF (n + 6)).call 34 #[(.agg #[.int .i64 p68.Nodes, .slice a69 n69 c69, .slice a70 n70 c70])] h) (m_topo_Check p68) (fun (d : Int) p => p = (.int .i64 d, h)) := by
  refine fcut Try.func34 rfl rfl rfl rfl X ?_
  intro h0 X0
  refine dseq ?_
  refine dreg ?_
  refine lbox rfl rfl rfl rfl rfl X0 (fun b71 h73 X74 => ?_)
  refine lpure (v := .int .i64 0) rfl (p_assign rfl) rfl rfl ?_
  refine lend ?_
  refine nseq ?_
  refine dseq ?_
  refine dseq ?_
  refine dreg ?_
  refine lpure (v := .pointer (some ⟨b71, 0, none⟩)) rfl (p_fa fo_25_0 rfl) rfl rfl ?_
  refine lread (v := .int .i64 p68.Nodes) rfl (q_load wd_3 rfl) (St.ld X74 (j := 0) rfl rfl) rfl ?_
  refine lpure (v := .bool (decide (p68.Nodes < 2))) rfl (p_lt rfl) rfl rfl ?_
  refine lpure (v := .bool (decide (p68.Nodes < 2))) rfl (p_move rfl) rfl rfl ?_
  refine lsh (τ := Bool) (σ := Unit) (fun s76 (_ : Unit) => [(1, .pointer (some ⟨b71, 0, none⟩)), (13, .bool s76)]) (fun s76 (_ : Unit) hh => St φ h.n hh ([(some b71, .cells [.int .i64 p68.Nodes, .slice a69 n69 c69, .slice a70 n70 c70] 25 .exact)])) 4 ?_ ?_
  · rintro s76 _ t0 h78 X77
    refine lpure (v := .bool s76) rfl (p_move rfl) rfl rfl ?_
    refine lsh (τ := Bool) (σ := Unit) (fun s80 (_ : Unit) => [(1, .pointer (some ⟨b71, 0, none⟩)), (21, .bool s80)]) (fun s80 (_ : Unit) hh => St φ h.n hh ([(some b71, .cells [.int .i64 p68.Nodes, .slice a69 n69 c69, .slice a70 n70 c70] 25 .exact)])) 7 ?_ ?_
    · rintro s80 _ t0 h82 X81
      refine lpure (v := .bool s80) rfl (p_move rfl) rfl rfl ?_
      refine lsh (τ := Bool) (σ := Unit) (fun s84 (_ : Unit) => [(1, .pointer (some ⟨b71, 0, none⟩)), (27, .bool s84)]) (fun s84 (_ : Unit) hh => St φ h.n hh ([(some b71, .cells [.int .i64 p68.Nodes, .slice a69 n69 c69, .slice a70 n70 c70] 25 .exact)])) 5 ?_ ?_
      · rintro s84 _ t0 h86 X85
        refine lend ?_
        refine nseq ?_
        refine dcond rfl rfl (fun k87 => ?_) (fun k87 => ?_)
        · refine dseq ?_
          refine dreg ?_
          refine lpure (v := .int .i64 260) rfl (p_assign rfl) rfl rfl ?_
          refine lend ?_
          refine nseq ?_
          refine dret ?_
          refine rseq ?_
          exact kcut_r (res_1 resT) X85 rfl rfl
        · refine dskip ?_
          refine nseq ?_
          refine dseq ?_
          refine dseq ?_
          refine dreg ?_
          refine lpure (v := .pointer (some ⟨b71, 2, none⟩)) rfl (p_fa fo_25_2 rfl) rfl rfl ?_
          refine lread (v := .slice a70 n70 c70) rfl (q_load wd_23 rfl) (St.ld X85 (j := 0) rfl rfl) rfl ?_
          refine lpure (v := .int .i64 (p68.Links.length : Int)) rfl (p_len rfl rfl rfl un_23 rfl) (RSl.lenC H70) rfl ?_
          refine lpure (v := .int .i64 0) rfl (p_move rfl) rfl rfl ?_
          refine lend ?_
          refine nseq ?_
          refine dblock ?_
          refine dloopM (τ := Int) (σ := Unit) (fun s6383 (_ : Unit) => [(1, .pointer (some ⟨b71, 0, none⟩)), (30, .int .i64 (p68.Links.length : Int)), (31, .int .i64 s6383)]) (fun s6383 (_ : Unit) hh => St φ h.n hh ([(some b71, .cells [.int .i64 p68.Nodes, .slice a69 n69 c69, .slice a70 n70 c70] 25 .exact)])) 0 () (sub_cons rfl (sub_cons rfl (sub_cons rfl sub_nil))) X85 ?_
          rintro n6604 ih6603 s6383 _ t0 h6606 X6605
          refine dseq ?_
          refine dreg ?_
          refine lpure (v := .bool (decide (s6383 < (p68.Links.length : Int)))) rfl (p_lt rfl) rfl rfl ?_
          refine lend ?_
          refine nseq ?_
          refine dseq ?_
          refine dcond rfl rfl (fun k6607 => ?_) (fun k6607 => ?_)
          · refine dskip ?_
            refine nseq ?_
            refine dseq ?_
            refine dblock ?_
            refine dseq ?_
            refine dreg ?_
            refine lpure (v := .int .i64 s6383) rfl (p_move rfl) rfl rfl ?_
            refine lpure (v := .int .i64 s6383) rfl (p_assign rfl) rfl rfl ?_
            refine lend ?_
            refine nseq ?_
            refine dseq ?_
            refine dreg ?_
            refine lread (v := .agg #[.int .i64 p68.Nodes, .slice a69 n69 c69, .slice a70 n70 c70]) rfl (q_load wd_25 rfl) (St.ld X6605 (j := 0) rfl rfl) rfl ?_
            refine lpure (v := .int .i64 s6383) rfl (p_move rfl) rfl rfl ?_
            refine lcall rfl rfl ca_57 rfl rfl (f57_ok X6605 p68 s6383 H69 H70) rfl (fun e6608 v6609 h6610 hq6611 => ?_)
            cases hq6611
            refine lpure (v := .bool (!e6608)) rfl (p_not rfl) rfl rfl ?_
            refine lend ?_
            refine nseq ?_
            refine dcond rfl rfl (fun k6612 => ?_) (fun k6612 => ?_)
            · refine dseq ?_
              refine dreg ?_
              refine lpure (v := .int .i64 260) rfl (p_assign rfl) rfl rfl ?_
              refine lend ?_
              refine nseq ?_
              refine dret ?_
              refine rblock ?_
              refine rseq ?_
              refine rloop ?_
              refine rblock ?_
              refine rseq ?_
              exact kcut_r (res_1 resT) X6605 rfl rfl
            · refine dskip ?_
              refine nblock ?_
              refine nseq ?_
              refine dreg ?_
              refine lpure (v := .int .i64 (w64 (s6383 + 1))) rfl (p_add rfl) rfl rfl ?_
              refine lpure (v := .int .i64 (w64 (s6383 + 1))) rfl (p_move rfl) rfl rfl ?_
              refine lend ?_
              exact kbackM ih6603 (w64 (s6383 + 1)) () (sub_cons rfl (sub_cons rfl (sub_cons rfl sub_nil))) X6605
          · refine dexit ?_
            refine eseq ?_
            refine eloop ?_
            refine xblock ?_
            refine nseq ?_
            refine dseq ?_
            refine dseq ?_
            refine dreg ?_
            refine lpure (v := .pointer (some ⟨b71, 1, none⟩)) rfl (p_fa fo_25_1 rfl) rfl rfl ?_
            refine lread (v := .slice a69 n69 c69) rfl (q_load wd_22 rfl) (St.ld X6605 (j := 0) rfl rfl) rfl ?_
            refine lpure (v := .int .i64 (p68.Station.length : Int)) rfl (p_len rfl rfl rfl un_22 rfl) (RSl.lenC H69) rfl ?_
            refine lpure (v := .int .i64 0) rfl (p_move rfl) rfl rfl ?_
            refine lend ?_
            refine nseq ?_
            refine dblock ?_
            refine dloopM (τ := Int) (σ := Unit) (fun s6717 (_ : Unit) => [(1, .pointer (some ⟨b71, 0, none⟩)), (40, .slice a69 n69 c69), (41, .int .i64 (p68.Station.length : Int)), (42, .int .i64 s6717)]) (fun s6717 (_ : Unit) hh => St φ h.n hh ([(some b71, .cells [.int .i64 p68.Nodes, .slice a69 n69 c69, .slice a70 n70 c70] 25 .exact)])) 0 () (sub_cons rfl (sub_cons rfl (sub_cons rfl (sub_cons rfl sub_nil)))) X6605 ?_
            rintro n6771 ih6770 s6717 _ t0 h6773 X6772
            refine dseq ?_
            refine dreg ?_
            refine lpure (v := .bool (decide (s6717 < (p68.Station.length : Int)))) rfl (p_lt rfl) rfl rfl ?_
            refine lend ?_
            refine nseq ?_
            refine dseq ?_
            refine dcond rfl rfl (fun k6774 => ?_) (fun k6774 => ?_)
            · refine dskip ?_
              refine nseq ?_
              refine dseq ?_
              refine dblock ?_
              refine dseq ?_
              refine dreg ?_
              refine lpure (v := .int .i64 s6717) rfl (p_move rfl) rfl rfl ?_
              refine Sim.bindM fun e6775 he6776 => ?_
              obtain ⟨p6777, cs6777, hp6777, hF6777, hR6777⟩ := RSl.ia H69 he6776 (kd := .i64) (n := 1) rfl
              have hR6777 : _ = [(.bool e6775 : Value)] := hR6777
              subst hR6777
              refine lpure (v := p6777) rfl (p_ia rs_22 rfl) hp6777 rfl ?_
              refine lread (v := .bool e6775) rfl (q_load wd_4 rfl) (FP.ld X6772 hF6777) rfl ?_
              refine lpure (v := .int .i64 s6717) rfl (p_assign rfl) rfl rfl ?_
              refine lpure (v := .bool e6775) rfl (p_assign rfl) rfl rfl ?_
              refine lend ?_
              refine nseq ?_
              refine dseq ?_
              refine dreg ?_
              refine lpure (v := .bool e6775) rfl (p_move rfl) rfl rfl ?_
              refine lpure (v := .bool e6775) rfl (p_move rfl) rfl rfl ?_
              refine ljoinM (τ := Bool) (σ := Unit) (fun s6789 (_ : Unit) => [(1, .pointer (some ⟨b71, 0, none⟩)), (40, .slice a69 n69 c69), (41, .int .i64 (p68.Station.length : Int)), (42, .int .i64 s6717), (59, .bool s6789)]) (fun s6789 (_ : Unit) hh => St φ h.n hh ([(some b71, .cells [.int .i64 p68.Nodes, .slice a69 n69 c69, .slice a70 n70 c70] 25 .exact)])) 11 ?_ ?_
              · rintro s6789 _ t0 h6791 X6790
                refine lend ?_
                refine nseq ?_
                refine dcond rfl rfl (fun k6792 => ?_) (fun k6792 => ?_)
                · refine dseq ?_
                  refine dreg ?_
                  refine lpure (v := .int .i64 260) rfl (p_assign rfl) rfl rfl ?_
                  refine lend ?_
                  refine nseq ?_
                  refine dret ?_
                  refine rblock ?_
                  refine rseq ?_
                  refine rloop ?_
                  refine rblock ?_
                  refine rseq ?_
                  exact kcut_r (res_1 resT) X6790 rfl rfl
                · refine dskip ?_
                  refine nblock ?_
                  refine nseq ?_
                  refine dreg ?_
                  refine lpure (v := .int .i64 (w64 (s6717 + 1))) rfl (p_add rfl) rfl rfl ?_
                  refine lpure (v := .int .i64 (w64 (s6717 + 1))) rfl (p_move rfl) rfl rfl ?_
                  refine lend ?_
                  exact kbackM ih6770 (w64 (s6717 + 1)) () (sub_cons rfl (sub_cons rfl (sub_cons rfl (sub_cons rfl sub_nil)))) X6790
              · intro j6793 J6794
                refine lif (i := 48) (show _ = Value.bool e6775 from rfl) (fun k6795 => ?_) (fun k6795 => ?_)
                · refine lread (v := .agg #[.int .i64 p68.Nodes, .slice a69 n69 c69, .slice a70 n70 c70]) rfl (q_load wd_25 rfl) (St.ld X6772 (j := 0) rfl rfl) rfl ?_
                  refine lpure (v := .int .i64 s6717) rfl (p_move rfl) rfl rfl ?_
                  refine lcall rfl rfl ca_58 rfl rfl (f58_ok X6772 p68 s6717 H69 H70) rfl (fun e6796 v6797 h6798 hq6799 => ?_)
                  cases hq6799
                  refine lpure (v := .bool (decide (e6796 < 1))) rfl (p_lt rfl) rfl rfl ?_
                  refine lpure (v := .bool (decide (e6796 < 1))) rfl (p_move rfl) rfl rfl ?_
                  refine lif (i := 53) (show _ = Value.bool (decide (e6796 < 1)) from rfl) (fun k6800 => ?_) (fun k6800 => ?_)
                  · refine lskip rfl rfl ?_
                    refine lskip rfl rfl ?_
                    refine lskip rfl rfl ?_
                    refine lskip rfl rfl ?_
                    refine lpure (v := .bool true) rfl (p_pick rfl) rfl rfl ?_
                    refine lpure (v := .bool true) rfl (p_pick rfl) rfl rfl ?_
                    exact ljmpM J6794 true () (sub_cons rfl (sub_cons rfl (sub_cons rfl (sub_cons rfl (sub_cons rfl sub_nil))))) X6772
                  · refine lread (v := .agg #[.int .i64 p68.Nodes, .slice a69 n69 c69, .slice a70 n70 c70]) rfl (q_load wd_25 rfl) (St.ld X6772 (j := 0) rfl rfl) rfl ?_
                    refine lpure (v := .int .i64 s6717) rfl (p_move rfl) rfl rfl ?_
                    refine lcall rfl rfl ca_58 rfl rfl (f58_ok X6772 p68 s6717 H69 H70) rfl (fun e6801 v6802 h6803 hq6804 => ?_)
                    cases hq6804
                    refine lpure (v := .bool (decide (2 < e6801))) rfl (p_gt rfl) rfl rfl ?_
                    refine lpure (v := .bool (decide (2 < e6801))) rfl (p_pick rfl) rfl rfl ?_
                    refine lpure (v := .bool (decide (2 < e6801))) rfl (p_pick rfl) rfl rfl ?_
                    exact ljmpM J6794 (decide (2 < e6801)) () (sub_cons rfl (sub_cons rfl (sub_cons rfl (sub_cons rfl (sub_cons rfl sub_nil))))) X6772
                · refine lskip rfl rfl ?_
                  refine lskip rfl rfl ?_
                  refine lskip rfl rfl ?_
                  refine lskip rfl rfl ?_
                  refine lskip rfl rfl ?_
                  refine lskip rfl rfl ?_
                  refine lskip rfl rfl ?_
                  refine lskip rfl rfl ?_
                  refine lskip rfl rfl ?_
                  refine lskip rfl rfl ?_
                  refine lpure (v := .bool false) rfl (p_pick rfl) rfl rfl ?_
                  exact ljmpM J6794 false () (sub_cons rfl (sub_cons rfl (sub_cons rfl (sub_cons rfl (sub_cons rfl sub_nil))))) X6772
            · refine dexit ?_
              refine eseq ?_
              refine eloop ?_
              refine xblock ?_
              refine nseq ?_
              refine dseq ?_
              refine dseq ?_
              refine dreg ?_
              refine lread (v := .agg #[.int .i64 p68.Nodes, .slice a69 n69 c69, .slice a70 n70 c70]) rfl (q_load wd_25 rfl) (St.ld X6772 (j := 0) rfl rfl) rfl ?_
              refine lcall rfl rfl ca_47 rfl rfl (f47_ok X6772 p68 0 ([]) H69 H70 (.inl ⟨rfl, rfl⟩)) rfl ?_
              rintro e6805 _ h6807 ⟨φ6809, a6812, n6812, c6812, ob6812, blk6812, g6810, X6811, rfl, O6812⟩
              obtain ⟨φ6814, g6815, X6816, H6817⟩ := OSl.freeze X6811 (j := 0) rfl O6812
              refine lcall rfl rfl ca_21 rfl rfl (f21_ok X6816 e6805 false H6817) rfl (fun e6818 v6819 h6820 hq6821 => ?_)
              cases hq6821
              refine lend ?_
              refine nseq ?_
              refine dcond rfl rfl (fun k6822 => ?_) (fun k6822 => ?_)
              · refine dseq ?_
                refine dreg ?_
                refine lpure (v := .int .i64 260) rfl (p_assign rfl) rfl rfl ?_
                refine lend ?_
                refine nseq ?_
                refine dret ?_
                refine rseq ?_
                exact kcut_r (res_1 resT) X6811 rfl rfl
              · refine dskip ?_
                refine nseq ?_
                refine dseq ?_
                refine dreg ?_
                refine lpure (v := .int .i64 0) rfl (p_assign rfl) rfl rfl ?_
                refine lend ?_
                refine nseq ?_
                refine dret ?_
                exact kcut_r (res_1 resT) X6811 rfl rfl
      · intro j6823 J6824
        refine lcase (i := 22) (show _ = Value.bool s80 from rfl) (fun k6825 => ?_) (fun k6825 => ?_)
        · refine lskip rfl rfl ?_
          refine lskip rfl rfl ?_
          refine lskip rfl rfl ?_
          refine lskip rfl rfl ?_
          refine lpure (v := .bool true) rfl (p_pick rfl) rfl rfl ?_
          refine Sim.of_eq (congrArg j6823 (show (s80 || (decide (24 < (p68.Links.length : Int)))) = true from by rw [k6825] <;> rfl)) ?_
          exact ljmpM J6824 true () (sub_cons rfl (sub_cons rfl sub_nil)) X81
        · refine lpure (v := .pointer (some ⟨b71, 2, none⟩)) rfl (p_fa fo_25_2 rfl) rfl rfl ?_
          refine lread (v := .slice a70 n70 c70) rfl (q_load wd_23 rfl) (St.ld X81 (j := 0) rfl rfl) rfl ?_
          refine lpure (v := .int .i64 (p68.Links.length : Int)) rfl (p_len rfl rfl rfl un_23 rfl) (RSl.lenC H70) rfl ?_
          refine lpure (v := .bool (decide (24 < (p68.Links.length : Int)))) rfl (p_gt rfl) rfl rfl ?_
          refine lpure (v := .bool (decide (24 < (p68.Links.length : Int)))) rfl (p_pick rfl) rfl rfl ?_
          refine Sim.of_eq (congrArg j6823 (show (s80 || (decide (24 < (p68.Links.length : Int)))) = (decide (24 < (p68.Links.length : Int))) from by rw [k6825] <;> rfl)) ?_
          exact ljmpM J6824 (decide (24 < (p68.Links.length : Int))) () (sub_cons rfl (sub_cons rfl sub_nil)) X81
    · intro j6826 J6827
      refine lcase (i := 14) (show _ = Value.bool s76 from rfl) (fun k6828 => ?_) (fun k6828 => ?_)
      · refine lskip rfl rfl ?_
        refine lskip rfl rfl ?_
        refine lskip rfl rfl ?_
        refine lskip rfl rfl ?_
        refine lskip rfl rfl ?_
        refine lskip rfl rfl ?_
        refine lpure (v := .bool true) rfl (p_pick rfl) rfl rfl ?_
        refine Sim.of_eq (congrArg j6826 (show (s76 || (decide ((p68.Station.length : Int) ≠ p68.Nodes))) = true from by rw [k6828] <;> rfl)) ?_
        exact ljmpM J6827 true () (sub_cons rfl (sub_cons rfl sub_nil)) X77
      · refine lpure (v := .pointer (some ⟨b71, 1, none⟩)) rfl (p_fa fo_25_1 rfl) rfl rfl ?_
        refine lread (v := .slice a69 n69 c69) rfl (q_load wd_22 rfl) (St.ld X77 (j := 0) rfl rfl) rfl ?_
        refine lpure (v := .int .i64 (p68.Station.length : Int)) rfl (p_len rfl rfl rfl un_22 rfl) (RSl.lenC H69) rfl ?_
        refine lpure (v := .pointer (some ⟨b71, 0, none⟩)) rfl (p_fa fo_25_0 rfl) rfl rfl ?_
        refine lread (v := .int .i64 p68.Nodes) rfl (q_load wd_3 rfl) (St.ld X77 (j := 0) rfl rfl) rfl ?_
        refine lpure (v := .bool (decide ((p68.Station.length : Int) ≠ p68.Nodes))) rfl (p_ne rfl) rfl rfl ?_
        refine lpure (v := .bool (decide ((p68.Station.length : Int) ≠ p68.Nodes))) rfl (p_pick rfl) rfl rfl ?_
        refine Sim.of_eq (congrArg j6826 (show (s76 || (decide ((p68.Station.length : Int) ≠ p68.Nodes))) = (decide ((p68.Station.length : Int) ≠ p68.Nodes)) from by rw [k6828] <;> rfl)) ?_
        exact ljmpM J6827 (decide ((p68.Station.length : Int) ≠ p68.Nodes)) () (sub_cons rfl (sub_cons rfl sub_nil)) X77
  · intro j6829 J6830
    refine lcase (i := 9) (show _ = Value.bool (decide (p68.Nodes < 2)) from rfl) (fun k6831 => ?_) (fun k6831 => ?_)
    · refine lskip rfl rfl ?_
      refine lskip rfl rfl ?_
      refine lskip rfl rfl ?_
      refine lpure (v := .bool true) rfl (p_pick rfl) rfl rfl ?_
      refine Sim.of_eq (congrArg j6829 (show ((decide (p68.Nodes < 2)) || (decide (12 < p68.Nodes))) = true from by rw [k6831] <;> rfl)) ?_
      exact ljmpM J6830 true () (sub_cons rfl (sub_cons rfl sub_nil)) X74
    · refine lpure (v := .pointer (some ⟨b71, 0, none⟩)) rfl (p_fa fo_25_0 rfl) rfl rfl ?_
      refine lread (v := .int .i64 p68.Nodes) rfl (q_load wd_3 rfl) (St.ld X74 (j := 0) rfl rfl) rfl ?_
      refine lpure (v := .bool (decide (12 < p68.Nodes))) rfl (p_gt rfl) rfl rfl ?_
      refine lpure (v := .bool (decide (12 < p68.Nodes))) rfl (p_pick rfl) rfl rfl ?_
      refine Sim.of_eq (congrArg j6829 (show ((decide (p68.Nodes < 2)) || (decide (12 < p68.Nodes))) = (decide (12 < p68.Nodes)) from by rw [k6831] <;> rfl)) ?_
      exact ljmpM J6830 (decide (12 < p68.Nodes)) () (sub_cons rfl (sub_cons rfl sub_nil)) X74
/-! isochron/topo.From -/
theorem f23_ok {n : Nat} {φ : Fz} {lo : Nat} {h : Heap} {own : OwnL} (X : St φ lo h own) (p56 : ApiTopo) (p59 : Int) {a57 : Option Addr} {n57 c57 : Nat} {a58 : Option Addr} {n58 c58 : Nat} (H57 : RSl eBool φ (.slice a57 n57 c57) p56.Station) (H58 : RSl eApiLink φ (.slice a58 n58 c58) p56.Links) : Sim ((recN Try.prog LL cutF (n + 8)).call 23 #[(.agg #[.int .i64 p56.Nodes, .slice a57 n57 c57, .slice a58 n58 c58]), (.int .i64 p59)] h) (m_topo_From p56 p59) (fun (d : (Int × Int)) p => p = (.tuple #[.int .i64 d.1, .int .i64 d.2], h)) := by
  refine fcut Try.func23 rfl rfl rfl rfl X ?_
  intro h0 X0
  refine dseq ?_
  refine dreg ?_
  refine lbox rfl rfl rfl rfl rfl X0 (fun b60 h62 X63 => ?_)
  refine lpure (v := .int .i64 0) rfl (p_assign rfl) rfl rfl ?_
  refine lpure (v := .int .i64 0) rfl (p_assign rfl) rfl rfl ?_
  refine lend ?_
  refine nseq ?_
  refine dseq ?_
  refine dreg ?_
  refine lread (v := .agg #[.int .i64 p56.Nodes, .slice a57 n57 c57, .slice a58 n58 c58]) rfl (q_load wd_25 rfl) (St.ld X63 (j := 0) rfl rfl) rfl ?_
  refine lpure (v := .int .i64 p59) rfl (p_move rfl) rfl rfl ?_
  refine linl rfl rfl rfl rfl ca_53 rfl Try.func53 rfl rfl rfl rfl rfl ?_
  refine dseq ?_
  refine dreg ?_
  refine lbox rfl rfl rfl rfl rfl X63 (fun b64 h66 X67 => ?_)
  refine lpure (v := .int .i64 0) rfl (p_assign rfl) rfl rfl ?_
  refine lpure (v := .int .i64 0) rfl (p_assign rfl) rfl rfl ?_
  refine lend ?_
  refine nseq ?_
  refine dseq ?_
  refine dreg ?_
  refine lpure (v := .int .i64 0) rfl (p_assign rfl) rfl rfl ?_
  refine lend ?_
  refine nseq ?_
  refine dseq ?_
  refine dseq ?_
  refine dreg ?_
  refine lread (v := .agg #[.int .i64 p56.Nodes, .slice a57 n57 c57, .slice a58 n58 c58]) rfl (q_load wd_25 rfl) (St.ld X67 (j := 0) rfl rfl) rfl ?_
  refine lcall rfl rfl ca_34 rfl rfl (f34_ok X67 p56 H57 H58) rfl (fun e6832 v6833 h6834 hq6835 => ?_)
  cases hq6835
  refine lpure (v := .int .i64 e6832) rfl (p_assign rfl) rfl rfl ?_
  refine lend ?_
  refine nseq ?_
  refine dseq ?_
  refine dreg ?_
  refine lpure (v := .int .i64 e6832) rfl (p_move rfl) rfl rfl ?_
  refine lpure (v := .bool (decide (e6832 ≠ 0))) rfl (p_ne rfl) rfl rfl ?_
  refine lend ?_
  refine nseq ?_
  refine dcond rfl rfl (fun k6836 => ?_) (fun k6836 => ?_)
  · refine dseq ?_
    refine dreg ?_
    refine lpure (v := .int .i64 0) rfl (p_move rfl) rfl rfl ?_
    refine lpure (v := .int .i64 e6832) rfl (p_move rfl) rfl rfl ?_
    refine lpure (v := .int .i64 0) rfl (p_assign rfl) rfl rfl ?_
    refine lpure (v := .int .i64 e6832) rfl (p_assign rfl) rfl rfl ?_
    refine lend ?_
    refine nseq ?_
    refine dret ?_
    refine rseq ?_
    refine kin_r (res_2 resT resT) ?_
    refine lpure (v := .int .i64 0) rfl (p_extract rfl) rfl rfl ?_
    refine lpure (v := .int .i64 e6832) rfl (p_extract rfl) rfl rfl ?_
    refine lpure (v := .int .i64 0) rfl (p_assign rfl) rfl rfl ?_
    refine lpure (v := .int .i64 e6832) rfl (p_assign rfl) rfl rfl ?_
    refine lend ?_
    refine nseq ?_
    refine dret ?_
    exact kcut_r (res_2 resT resT) X67 rfl rfl
  · refine dskip ?_
    refine nseq ?_
    refine dseq ?_
    refine dseq ?_
    refine dreg ?_
    refine lpure (v := .int .i64 p59) rfl (p_move rfl) rfl rfl ?_
    refine lpure (v := .bool (decide (p59 < 0))) rfl (p_lt rfl) rfl rfl ?_
    refine lpure (v := .bool (decide (p59 < 0))) rfl (p_move rfl) rfl rfl ?_
    refine lsh (τ := Bool) (σ := Unit) (fun s6838 (_ : Unit) => [(1, .int .i64 p59), (2, .func (.func 41) #[] #[]), (3, .pointer (some ⟨b64, 0, none⟩)), (8, .int .i64 0), (25, .bool s6838)]) (fun s6838 (_ : Unit) hh => St φ h.n hh ([(some b64, .cells [.int .i64 p56.Nodes, .slice a57 n57 c57, .slice a58 n58 c58] 25 .exact), (some b60, .cells [.int .i64 p56.Nodes, .slice a57 n57 c57, .slice a58 n58 c58] 25 .exact)])) 7 ?_ ?_
    · rintro s6838 _ t0 h6840 X6839
      refine lend ?_
      refine nseq ?_
      refine dcond rfl rfl (fun k6841 => ?_) (fun k6841 => ?_)
      · refine dseq ?_
        refine dreg ?_
        refine lpure (v := .int .i64 0) rfl (p_move rfl) rfl rfl ?_
        refine lpure (v := .int .i64 0) rfl (p_assign rfl) rfl rfl ?_
        refine lpure (v := .int .i64 2) rfl (p_assign rfl) rfl rfl ?_
        refine lend ?_
        refine nseq ?_
        refine dret ?_
        refine rseq ?_
        refine kin_r (res_2 resT resT) ?_
        refine lpure (v := .int .i64 0) rfl (p_extract rfl) rfl rfl ?_
        refine lpure (v := .int .i64 2) rfl (p_extract rfl) rfl rfl ?_
        refine lpure (v := .int .i64 0) rfl (p_assign rfl) rfl rfl ?_
        refine lpure (v := .int .i64 2) rfl (p_assign rfl) rfl rfl ?_
        refine lend ?_
        refine nseq ?_
        refine dret ?_
        exact kcut_r (res_2 resT resT) X6839 rfl rfl
      · refine dskip ?_
        refine nseq ?_
        refine dseq ?_
        refine dreg ?_
        refine lpure (v := .func (.func 41) #[] #[]) rfl (p_move rfl) rfl rfl ?_
        refine lpure (v := .pointer (some ⟨b64, 2, none⟩)) rfl (p_fa fo_25_2 rfl) rfl rfl ?_
        refine lread (v := .slice a58 n58 c58) rfl (q_load wd_23 rfl) (St.ld X6839 (j := 0) rfl rfl) rfl ?_
        refine lpure (v := .int .i64 p59) rfl (p_move rfl) rfl rfl ?_
        refine lpure (v := .int .i64 (w64 (Int.tdiv p59 2))) rfl (p_quo rfl) rfl rfl ?_
        refine Sim.bindM fun e6842 he6843 => ?_
        obtain ⟨p6844, cs6844, hp6844, hF6844, hR6844⟩ := RSl.ia H58 he6843 (kd := .i64) (n := 4) rfl
        obtain rfl := eApiLink_el hR6844
        refine lpure (v := p6844) rfl (p_ia rs_23 rfl) hp6844 rfl ?_
        refine lread (v := .agg #[.int .i64 e6842.A, .int .i64 e6842.B, .int .i64 e6842.Per, .int .i64 e6842.Delay]) rfl (q_load wd_50 rfl) (FP.ldw X6839 hF6844 rfl rfl) rfl ?_
        refine lpure (v := .int .i64 p59) rfl (p_move rfl) rfl rfl ?_
        refine lpure (v := .agg #[.int .i64 e6842.A, .int .i64 e6842.B, .int .i64 e6842.Per, .int .i64 e6842.Delay, .int .i64 p59]) rfl (p_build rfl) (build_st' tz_65 pl_65 rfl) rfl ?_
        refine lcallv rfl rfl rfl rfl ca_41 rfl rfl (f41_ok X6839 ((TopoEnd.mk e6842 p59))) rfl (fun e6845 v6846 h6847 hq6848 => ?_)
        cases hq6848
        refine lpure (v := .int .i64 e6845) rfl (p_assign rfl) rfl rfl ?_
        refine lpure (v := .int .i64 0) rfl (p_assign rfl) rfl rfl ?_
        refine lend ?_
        refine nseq ?_
        refine dret ?_
        refine kin_r (res_2 resT resT) ?_
        refine lpure (v := .int .i64 e6845) rfl (p_extract rfl) rfl rfl ?_
        refine lpure (v := .int .i64 0) rfl (p_extract rfl) rfl rfl ?_
        refine lpure (v := .int .i64 e6845) rfl (p_assign rfl) rfl rfl ?_
        refine lpure (v := .int .i64 0) rfl (p_assign rfl) rfl rfl ?_
        refine lend ?_
        refine nseq ?_
        refine dret ?_
        exact kcut_r (res_2 resT resT) X6839 rfl rfl
    · intro j6849 J6850
      refine lcase (i := 18) (show _ = Value.bool (decide (p59 < 0)) from rfl) (fun k6851 => ?_) (fun k6851 => ?_)
      · refine lskip rfl rfl ?_
        refine lskip rfl rfl ?_
        refine lskip rfl rfl ?_
        refine lskip rfl rfl ?_
        refine lskip rfl rfl ?_
        refine lskip rfl rfl ?_
        refine lpure (v := .bool true) rfl (p_pick rfl) rfl rfl ?_
        refine Sim.of_eq (congrArg j6849 (show ((decide (p59 < 0)) || (decide ((w64 (2 * (p56.Links.length : Int))) ≤ p59))) = true from by rw [k6851] <;> rfl)) ?_
        exact ljmpM J6850 true () (sub_cons rfl (sub_cons rfl (sub_cons rfl (sub_cons rfl (sub_cons rfl sub_nil))))) X67
      · refine lpure (v := .int .i64 p59) rfl (p_move rfl) rfl rfl ?_
        refine lpure (v := .pointer (some ⟨b64, 2, none⟩)) rfl (p_fa fo_25_2 rfl) rfl rfl ?_
        refine lread (v := .slice a58 n58 c58) rfl (q_load wd_23 rfl) (St.ld X67 (j := 0) rfl rfl) rfl ?_
        refine lpure (v := .int .i64 (p56.Links.length : Int)) rfl (p_len rfl rfl rfl un_23 rfl) (RSl.lenC H58) rfl ?_
        refine lpure (v := .int .i64 (w64 (2 * (p56.Links.length : Int)))) rfl (p_mul rfl) rfl rfl ?_
        refine lpure (v := .bool (decide ((w64 (2 * (p56.Links.length : Int))) ≤ p59))) rfl (p_ge rfl) rfl rfl ?_
        refine lpure (v := .bool (decide ((w64 (2 * (p56.Links.length : Int))) ≤ p59))) rfl (p_pick rfl) rfl rfl ?_
        refine Sim.of_eq (congrArg j6849 (show ((decide (p59 < 0)) || (decide ((w64 (2 * (p56.Links.length : Int))) ≤ p59))) = (decide ((w64 (2 * (p56.Links.length : Int))) ≤ p59)) from by rw [k6851] <;> rfl)) ?_
        exact ljmpM J6850 (decide ((w64 (2 * (p56.Links.length : Int))) ≤ p59)) () (sub_cons rfl (sub_cons rfl (sub_cons rfl (sub_cons rfl (sub_cons rfl sub_nil))))) X67
/-! isochron/topo.To -/
theorem f24_ok {n : Nat} {φ : Fz} {lo : Nat} {h : Heap} {own : OwnL} (X : St φ lo h own) (p6864 : ApiTopo) (p6867 : Int) {a6865 : Option Addr} {n6865 c6865 : Nat} {a6866 : Option Addr} {n6866 c6866 : Nat} (H6865 : RSl eBool φ (.slice a6865 n6865 c6865) p6864.Station) (H6866 : RSl eApiLink φ (.slice a6866 n6866 c6866) p6864.Links) : Sim ((recN Try.prog LL cutF (n + 8)).call 24 #[(.agg #[.int .i64 p6864.Nodes, .slice a6865 n6865 c6865, .slice a6866 n6866 c6866]), (.int .i64 p6867)] h) (m_topo_To p6864 p6867) (fun (d : (Int × Int)) p => p = (.tuple #[.int .i64 d.1, .int .i64 d.2], h)) := by
  refine fcut Try.func24 rfl rfl rfl rfl X ?_
  intro h0 X0
  refine dseq ?_
  refine dreg ?_
  refine lbox rfl rfl rfl rfl rfl X0 (fun b6868 h6870 X6871 => ?_)
  refine lpure (v := .int .i64 0) rfl (p_assign rfl) rfl rfl ?_
  refine lpure (v := .int .i64 0) rfl (p_assign rfl) rfl rfl ?_
  refine lend ?_
  refine nseq ?_
  refine dseq ?_
  refine dreg ?_
  refine lread (v := .agg #[.int .i64 p6864.Nodes, .slice a6865 n6865 c6865, .slice a6866 n6866 c6866]) rfl (q_load wd_25 rfl) (St.ld X6871 (j := 0) rfl rfl) rfl ?_
  refine lpure (v := .int .i64 p6867) rfl (p_move rfl) rfl rfl ?_
  refine linl rfl rfl rfl rfl ca_53 rfl Try.func53 rfl rfl rfl rfl rfl ?_
  refine dseq ?_
  refine dreg ?_
  refine lbox rfl rfl rfl rfl rfl X6871 (fun b6872 h6874 X6875 => ?_)
  refine lpure (v := .int .i64 0) rfl (p_assign rfl) rfl rfl ?_
  refine lpure (v := .int .i64 0) rfl (p_assign rfl) rfl rfl ?_
  refine lend ?_
  refine nseq ?_
  refine dseq ?_
  refine dreg ?_
  refine lpure (v := .int .i64 0) rfl (p_assign rfl) rfl rfl ?_
  refine lend ?_
  refine nseq ?_
  refine dseq ?_
  refine dseq ?_
  refine dreg ?_
  refine lread (v := .agg #[.int .i64 p6864.Nodes, .slice a6865 n6865 c6865, .slice a6866 n6866 c6866]) rfl (q_load wd_25 rfl) (St.ld X6875 (j := 0) rfl rfl) rfl ?_
  refine lcall rfl rfl ca_34 rfl rfl (f34_ok X6875 p6864 H6865 H6866) rfl (fun e6876 v6877 h6878 hq6879 => ?_)
  cases hq6879
  refine lpure (v := .int .i64 e6876) rfl (p_assign rfl) rfl rfl ?_
  refine lend ?_
  refine nseq ?_
  refine dseq ?_
  refine dreg ?_
  refine lpure (v := .int .i64 e6876) rfl (p_move rfl) rfl rfl ?_
  refine lpure (v := .bool (decide (e6876 ≠ 0))) rfl (p_ne rfl) rfl rfl ?_
  refine lend ?_
  refine nseq ?_
  refine dcond rfl rfl (fun k6880 => ?_) (fun k6880 => ?_)
  · refine dseq ?_
    refine dreg ?_
    refine lpure (v := .int .i64 0) rfl (p_move rfl) rfl rfl ?_
    refine lpure (v := .int .i64 e6876) rfl (p_move rfl) rfl rfl ?_
    refine lpure (v := .int .i64 0) rfl (p_assign rfl) rfl rfl ?_
    refine lpure (v := .int .i64 e6876) rfl (p_assign rfl) rfl rfl ?_
    refine lend ?_
    refine nseq ?_
    refine dret ?_
    refine rseq ?_
    refine kin_r (res_2 resT resT) ?_
    refine lpure (v := .int .i64 0) rfl (p_extract rfl) rfl rfl ?_
    refine lpure (v := .int .i64 e6876) rfl (p_extract rfl) rfl rfl ?_
    refine lpure (v := .int .i64 0) rfl (p_assign rfl) rfl rfl ?_
    refine lpure (v := .int .i64 e6876) rfl (p_assign rfl) rfl rfl ?_
    refine lend ?_
    refine nseq ?_
    refine dret ?_
    exact kcut_r (res_2 resT resT) X6875 rfl rfl
  · refine dskip ?_
    refine nseq ?_
    refine dseq ?_
    refine dseq ?_
    refine dreg ?_
    refine lpure (v := .int .i64 p6867) rfl (p_move rfl) rfl rfl ?_
    refine lpure (v := .bool (decide (p6867 < 0))) rfl (p_lt rfl) rfl rfl ?_
    refine lpure (v := .bool (decide (p6867 < 0))) rfl (p_move rfl) rfl rfl ?_
    refine lsh (τ := Bool) (σ := Unit) (fun s6882 (_ : Unit) => [(1, .int .i64 p6867), (2, .func (.func 42) #[] #[]), (3, .pointer (some ⟨b6872, 0, none⟩)), (8, .int .i64 0), (25, .bool s6882)]) (fun s6882 (_ : Unit) hh => St φ h.n hh ([(some b6872, .cells [.int .i64 p6864.Nodes, .slice a6865 n6865 c6865, .slice a6866 n6866 c6866] 25 .exact), (some b6868, .cells [.int .i64 p6864.Nodes, .slice a6865 n6865 c6865, .slice a6866 n6866 c6866] 25 .exact)])) 7 ?_ ?_
    · rintro s6882 _ t0 h6884 X6883
      refine lend ?_
      refine nseq ?_
      refine dcond rfl rfl (fun k6885 => ?_) (fun k6885 => ?_)
      · refine dseq ?_
        refine dreg ?_
        refine lpure (v := .int .i64 0) rfl (p_move rfl) rfl rfl ?_
        refine lpure (v := .int .i64 0) rfl (p_assign rfl) rfl rfl ?_
        refine lpure (v := .int .i64 2) rfl (p_assign rfl) rfl rfl ?_
        refine lend ?_
        refine nseq ?_
        refine dret ?_
        refine rseq ?_
        refine kin_r (res_2 resT resT) ?_
        refine lpure (v := .int .i64 0) rfl (p_extract rfl) rfl rfl ?_
        refine lpure (v := .int .i64 2) rfl (p_extract rfl) rfl rfl ?_
        refine lpure (v := .int .i64 0) rfl (p_assign rfl) rfl rfl ?_
        refine lpure (v := .int .i64 2) rfl (p_assign rfl) rfl rfl ?_
        refine lend ?_
        refine nseq ?_
        refine dret ?_
        exact kcut_r (res_2 resT resT) X6883 rfl rfl
      · refine dskip ?_
        refine nseq ?_
        refine dseq ?_
        refine dreg ?_
        refine lpure (v := .func (.func 42) #[] #[]) rfl (p_move rfl) rfl rfl ?_
        refine lpure (v := .pointer (some ⟨b6872, 2, none⟩)) rfl (p_fa fo_25_2 rfl) rfl rfl ?_
        refine lread (v := .slice a6866 n6866 c6866) rfl (q_load wd_23 rfl) (St.ld X6883 (j := 0) rfl rfl) rfl ?_
        refine lpure (v := .int .i64 p6867) rfl (p_move rfl) rfl rfl ?_
        refine lpure (v := .int .i64 (w64 (Int.tdiv p6867 2))) rfl (p_quo rfl) rfl rfl ?_
        refine Sim.bindM fun e6886 he6887 => ?_
        obtain ⟨p6888, cs6888, hp6888, hF6888, hR6888⟩ := RSl.ia H6866 he6887 (kd := .i64) (n := 4) rfl
        obtain rfl := eApiLink_el hR6888
        refine lpure (v := p6888) rfl (p_ia rs_23 rfl) hp6888 rfl ?_
        refine lread (v := .agg #[.int .i64 e6886.A, .int .i64 e6886.B, .int .i64 e6886.Per, .int .i64 e6886.Delay]) rfl (q_load wd_50 rfl) (FP.ldw X6883 hF6888 rfl rfl) rfl ?_
        refine lpure (v := .int .i64 p6867) rfl (p_move rfl) rfl rfl ?_
        refine lpure (v := .agg #[.int .i64 e6886.A, .int .i64 e6886.B, .int .i64 e6886.Per, .int .i64 e6886.Delay, .int .i64 p6867]) rfl (p_build rfl) (build_st' tz_65 pl_65 rfl) rfl ?_
        refine lcallv rfl rfl rfl rfl ca_42 rfl rfl (f42_ok X6883 ((TopoEnd.mk e6886 p6867))) rfl (fun e6889 v6890 h6891 hq6892 => ?_)
        cases hq6892
        refine lpure (v := .int .i64 e6889) rfl (p_assign rfl) rfl rfl ?_
        refine lpure (v := .int .i64 0) rfl (p_assign rfl) rfl rfl ?_
        refine lend ?_
        refine nseq ?_
        refine dret ?_
        refine kin_r (res_2 resT resT) ?_
        refine lpure (v := .int .i64 e6889) rfl (p_extract rfl) rfl rfl ?_
        refine lpure (v := .int .i64 0) rfl (p_extract rfl) rfl rfl ?_
        refine lpure (v := .int .i64 e6889) rfl (p_assign rfl) rfl rfl ?_
        refine lpure (v := .int .i64 0) rfl (p_assign rfl) rfl rfl ?_
        refine lend ?_
        refine nseq ?_
        refine dret ?_
        exact kcut_r (res_2 resT resT) X6883 rfl rfl
    · intro j6893 J6894
      refine lcase (i := 18) (show _ = Value.bool (decide (p6867 < 0)) from rfl) (fun k6895 => ?_) (fun k6895 => ?_)
      · refine lskip rfl rfl ?_
        refine lskip rfl rfl ?_
        refine lskip rfl rfl ?_
        refine lskip rfl rfl ?_
        refine lskip rfl rfl ?_
        refine lskip rfl rfl ?_
        refine lpure (v := .bool true) rfl (p_pick rfl) rfl rfl ?_
        refine Sim.of_eq (congrArg j6893 (show ((decide (p6867 < 0)) || (decide ((w64 (2 * (p6864.Links.length : Int))) ≤ p6867))) = true from by rw [k6895] <;> rfl)) ?_
        exact ljmpM J6894 true () (sub_cons rfl (sub_cons rfl (sub_cons rfl (sub_cons rfl (sub_cons rfl sub_nil))))) X6875
      · refine lpure (v := .int .i64 p6867) rfl (p_move rfl) rfl rfl ?_
        refine lpure (v := .pointer (some ⟨b6872, 2, none⟩)) rfl (p_fa fo_25_2 rfl) rfl rfl ?_
        refine lread (v := .slice a6866 n6866 c6866) rfl (q_load wd_23 rfl) (St.ld X6875 (j := 0) rfl rfl) rfl ?_
        refine lpure (v := .int .i64 (p6864.Links.length : Int)) rfl (p_len rfl rfl rfl un_23 rfl) (RSl.lenC H6866) rfl ?_
        refine lpure (v := .int .i64 (w64 (2 * (p6864.Links.length : Int)))) rfl (p_mul rfl) rfl rfl ?_
        refine lpure (v := .bool (decide ((w64 (2 * (p6864.Links.length : Int))) ≤ p6867))) rfl (p_ge rfl) rfl rfl ?_
        refine lpure (v := .bool (decide ((w64 (2 * (p6864.Links.length : Int))) ≤ p6867))) rfl (p_pick rfl) rfl rfl ?_
        refine Sim.of_eq (congrArg j6893 (show ((decide (p6867 < 0)) || (decide ((w64 (2 * (p6864.Links.length : Int))) ≤ p6867))) = (decide ((w64 (2 * (p6864.Links.length : Int))) ≤ p6867)) from by rw [k6895] <;> rfl)) ?_
        exact ljmpM J6894 (decide ((w64 (2 * (p6864.Links.length : Int))) ≤ p6867)) () (sub_cons rfl (sub_cons rfl (sub_cons rfl (sub_cons rfl (sub_cons rfl sub_nil))))) X6875
/-! (isochron/topo.end).per -/
theorem f54_ok {n : Nat} {φ : Fz} {lo : Nat} {h : Heap} {own : OwnL} (X : St φ lo h own) (p6933 : TopoEnd) : Sim ((recN Try.prog LL cutF (n + 1)).call 54 #[(.agg #[.int .i64 p6933.Link.A, .int .i64 p6933.Link.B, .int .i64 p6933.Link.Per, .int .i64 p6933.Link.Delay, .int .i64 p6933.port])] h) (m_topo_end_per p6933) (fun (d : Int) p => p = (.int .i64 d, h)) := by
  refine fcut Try.func54 rfl rfl rfl rfl X ?_
  intro h0 X0
  refine dseq ?_
  refine dreg ?_
  refine lbox rfl rfl rfl rfl rfl X0 (fun b6934 h6936 X6937 => ?_)
  refine lpure (v := .int .i64 0) rfl (p_assign rfl) rfl rfl ?_
  refine lend ?_
  refine nseq ?_
  refine dseq ?_
  refine dreg ?_
  refine lpure (v := .pointer (some ⟨b6934, 0, none⟩)) rfl (p_fa fo_65_0 rfl) rfl rfl ?_
  refine lpure (v := .pointer (some ⟨b6934, 2, none⟩)) rfl (p_fa fo_50_2 rfl) rfl rfl ?_
  refine lread (v := .int .i64 p6933.Link.Per) rfl (q_load wd_3 rfl) (St.ld X6937 (j := 0) rfl rfl) rfl ?_
  refine lpure (v := .int .i64 p6933.Link.Per) rfl (p_assign rfl) rfl rfl ?_
  refine lend ?_
  refine nseq ?_
  refine dret ?_
  exact kcut_r (res_1 resT) X6937 rfl rfl
/-! isochron/topo.Per -/
theorem f25_ok {n : Nat} {φ : Fz} {lo : Nat} {h : Heap} {own : OwnL} (X : St φ lo h own) (p6908 : ApiTopo) (p6911 : Int) {a6909 : Option Addr} {n6909 c6909 : Nat} {a6910 : Option Addr} {n6910 c6910 : Nat} (H6909 : RSl eBool φ (.slice a6909 n6909 c6909) p6908.Station) (H6910 : RSl eApiLink φ (.slice a6910 n6910 c6910) p6908.Links) : Sim ((recN Try.prog LL cutF (n + 8)).call 25 #[(.agg #[.int .i64 p6908.Nodes, .slice a6909 n6909 c6909, .slice a6910 n6910 c6910]), (.int .i64 p6911)] h) (m_topo_Per p6908 p6911) (fun (d : (Int × Int)) p => p = (.tuple #[.int .i64 d.1, .int .i64 d.2], h)) := by
  refine fcut Try.func25 rfl rfl rfl rfl X ?_
  intro h0 X0
  refine dseq ?_
  refine dreg ?_
  refine lbox rfl rfl rfl rfl rfl X0 (fun b6912 h6914 X6915 => ?_)
  refine lpure (v := .int .i64 0) rfl (p_assign rfl) rfl rfl ?_
  refine lpure (v := .int .i64 0) rfl (p_assign rfl) rfl rfl ?_
  refine lend ?_
  refine nseq ?_
  refine dseq ?_
  refine dreg ?_
  refine lread (v := .agg #[.int .i64 p6908.Nodes, .slice a6909 n6909 c6909, .slice a6910 n6910 c6910]) rfl (q_load wd_25 rfl) (St.ld X6915 (j := 0) rfl rfl) rfl ?_
  refine lpure (v := .int .i64 p6911) rfl (p_move rfl) rfl rfl ?_
  refine linl rfl rfl rfl rfl ca_53 rfl Try.func53 rfl rfl rfl rfl rfl ?_
  refine dseq ?_
  refine dreg ?_
  refine lbox rfl rfl rfl rfl rfl X6915 (fun b6916 h6918 X6919 => ?_)
  refine lpure (v := .int .i64 0) rfl (p_assign rfl) rfl rfl ?_
  refine lpure (v := .int .i64 0) rfl (p_assign rfl) rfl rfl ?_
  refine lend ?_
  refine nseq ?_
  refine dseq ?_
  refine dreg ?_
  refine lpure (v := .int .i64 0) rfl (p_assign rfl) rfl rfl ?_
  refine lend ?_
  refine nseq ?_
  refine dseq ?_
  refine dseq ?_
  refine dreg ?_
  refine lread (v := .agg #[.int .i64 p6908.Nodes, .slice a6909 n6909 c6909, .slice a6910 n6910 c6910]) rfl (q_load wd_25 rfl) (St.ld X6919 (j := 0) rfl rfl) rfl ?_
  refine lcall rfl rfl ca_34 rfl rfl (f34_ok X6919 p6908 H6909 H6910) rfl (fun e6920 v6921 h6922 hq6923 => ?_)
  cases hq6923
  refine lpure (v := .int .i64 e6920) rfl (p_assign rfl) rfl rfl ?_
  refine lend ?_
  refine nseq ?_
  refine dseq ?_
  refine dreg ?_
  refine lpure (v := .int .i64 e6920) rfl (p_move rfl) rfl rfl ?_
  refine lpure (v := .bool (decide (e6920 ≠ 0))) rfl (p_ne rfl) rfl rfl ?_
  refine lend ?_
  refine nseq ?_
  refine dcond rfl rfl (fun k6924 => ?_) (fun k6924 => ?_)
  · refine dseq ?_
    refine dreg ?_
    refine lpure (v := .int .i64 0) rfl (p_move rfl) rfl rfl ?_
    refine lpure (v := .int .i64 e6920) rfl (p_move rfl) rfl rfl ?_
    refine lpure (v := .int .i64 0) rfl (p_assign rfl) rfl rfl ?_
    refine lpure (v := .int .i64 e6920) rfl (p_assign rfl) rfl rfl ?_
    refine lend ?_
    refine nseq ?_
    refine dret ?_
    refine rseq ?_
    refine kin_r (res_2 resT resT) ?_
    refine lpure (v := .int .i64 0) rfl (p_extract rfl) rfl rfl ?_
    refine lpure (v := .int .i64 e6920) rfl (p_extract rfl) rfl rfl ?_
    refine lpure (v := .int .i64 0) rfl (p_assign rfl) rfl rfl ?_
    refine lpure (v := .int .i64 e6920) rfl (p_assign rfl) rfl rfl ?_
    refine lend ?_
    refine nseq ?_
    refine dret ?_
    exact kcut_r (res_2 resT resT) X6919 rfl rfl
  · refine dskip ?_
    refine nseq ?_
    refine dseq ?_
    refine dseq ?_
    refine dreg ?_
    refine lpure (v := .int .i64 p6911) rfl (p_move rfl) rfl rfl ?_
    refine lpure (v := .bool (decide (p6911 < 0))) rfl (p_lt rfl) rfl rfl ?_
    refine lpure (v := .bool (decide (p6911 < 0))) rfl (p_move rfl) rfl rfl ?_
    refine lsh (τ := Bool) (σ := Unit) (fun s6926 (_ : Unit) => [(1, .int .i64 p6911), (2, .func (.func 54) #[] #[]), (3, .pointer (some ⟨b6916, 0, none⟩)), (8, .int .i64 0), (25, .bool s6926)]) (fun s6926 (_ : Unit) hh => St φ h.n hh ([(some b6916, .cells [.int .i64 p6908.Nodes, .slice a6909 n6909 c6909, .slice a6910 n6910 c6910] 25 .exact), (some b6912, .cells [.int .i64 p6908.Nodes, .slice a6909 n6909 c6909, .slice a6910 n6910 c6910] 25 .exact)])) 7 ?_ ?_
    · rintro s6926 _ t0 h6928 X6927
      refine lend ?_
      refine nseq ?_
      refine dcond rfl rfl (fun k6929 => ?_) (fun k6929 => ?_)
      · refine dseq ?_
        refine dreg ?_
        refine lpure (v := .int .i64 0) rfl (p_move rfl) rfl rfl ?_
        refine lpure (v := .int .i64 0) rfl (p_assign rfl) rfl rfl ?_
        refine lpure (v := .int .i64 2) rfl (p_assign rfl) rfl rfl ?_
        refine lend ?_
        refine nseq ?_
        refine dret ?_
        refine rseq ?_
        refine kin_r (res_2 resT resT) ?_
        refine lpure (v := .int .i64 0) rfl (p_extract rfl) rfl rfl ?_
        refine lpure (v := .int .i64 2) rfl (p_extract rfl) rfl rfl ?_
        refine lpure (v := .int .i64 0) rfl (p_assign rfl) rfl rfl ?_
        refine lpure (v := .int .i64 2) rfl (p_assign rfl) rfl rfl ?_
        refine lend ?_
        refine nseq ?_
        refine dret ?_
        exact kcut_r (res_2 resT resT) X6927 rfl rfl
      · refine dskip ?_
        refine nseq ?_
        refine dseq ?_
        refine dreg ?_
        refine lpure (v := .func (.func 54) #[] #[]) rfl (p_move rfl) rfl rfl ?_
        refine lpure (v := .pointer (some ⟨b6916, 2, none⟩)) rfl (p_fa fo_25_2 rfl) rfl rfl ?_
        refine lread (v := .slice a6910 n6910 c6910) rfl (q_load wd_23 rfl) (St.ld X6927 (j := 0) rfl rfl) rfl ?_
        refine lpure (v := .int .i64 p6911) rfl (p_move rfl) rfl rfl ?_
        refine lpure (v := .int .i64 (w64 (Int.tdiv p6911 2))) rfl (p_quo rfl) rfl rfl ?_
        refine Sim.bindM fun e6930 he6931 => ?_
        obtain ⟨p6932, cs6932, hp6932, hF6932, hR6932⟩ := RSl.ia H6910 he6931 (kd := .i64) (n := 4) rfl
        obtain rfl := eApiLink_el hR6932
        refine lpure (v := p6932) rfl (p_ia rs_23 rfl) hp6932 rfl ?_
        refine lread (v := .agg #[.int .i64 e6930.A, .int .i64 e6930.B, .int .i64 e6930.Per, .int .i64 e6930.Delay]) rfl (q_load wd_50 rfl) (FP.ldw X6927 hF6932 rfl rfl) rfl ?_
        refine lpure (v := .int .i64 p6911) rfl (p_move rfl) rfl rfl ?_
        refine lpure (v := .agg #[.int .i64 e6930.A, .int .i64 e6930.B, .int .i64 e6930.Per, .int .i64 e6930.Delay, .int .i64 p6911]) rfl (p_build rfl) (build_st' tz_65 pl_65 rfl) rfl ?_
        refine lcallv rfl rfl rfl rfl ca_54 rfl rfl (f54_ok X6927 ((TopoEnd.mk e6930 p6911))) rfl (fun e6938 v6939 h6940 hq6941 => ?_)
        cases hq6941
        refine lpure (v := .int .i64 e6938) rfl (p_assign rfl) rfl rfl ?_
        refine lpure (v := .int .i64 0) rfl (p_assign rfl) rfl rfl ?_
        refine lend ?_
        refine nseq ?_
        refine dret ?_
        refine kin_r (res_2 resT resT) ?_
        refine lpure (v := .int .i64 e6938) rfl (p_extract rfl) rfl rfl ?_
        refine lpure (v := .int .i64 0) rfl (p_extract rfl) rfl rfl ?_
        refine lpure (v := .int .i64 e6938) rfl (p_assign rfl) rfl rfl ?_
        refine lpure (v := .int .i64 0) rfl (p_assign rfl) rfl rfl ?_
        refine lend ?_
        refine nseq ?_
        refine dret ?_
        exact kcut_r (res_2 resT resT) X6927 rfl rfl
    · intro j6942 J6943
      refine lcase (i := 18) (show _ = Value.bool (decide (p6911 < 0)) from rfl) (fun k6944 => ?_) (fun k6944 => ?_)
      · refine lskip rfl rfl ?_
        refine lskip rfl rfl ?_
        refine lskip rfl rfl ?_
        refine lskip rfl rfl ?_
        refine lskip rfl rfl ?_
        refine lskip rfl rfl ?_
        refine lpure (v := .bool true) rfl (p_pick rfl) rfl rfl ?_
        refine Sim.of_eq (congrArg j6942 (show ((decide (p6911 < 0)) || (decide ((w64 (2 * (p6908.Links.length : Int))) ≤ p6911))) = true from by rw [k6944] <;> rfl)) ?_
        exact ljmpM J6943 true () (sub_cons rfl (sub_cons rfl (sub_cons rfl (sub_cons rfl (sub_cons rfl sub_nil))))) X6919
      · refine lpure (v := .int .i64 p6911) rfl (p_move rfl) rfl rfl ?_
        refine lpure (v := .pointer (some ⟨b6916, 2, none⟩)) rfl (p_fa fo_25_2 rfl) rfl rfl ?_
        refine lread (v := .slice a6910 n6910 c6910) rfl (q_load wd_23 rfl) (St.ld X6919 (j := 0) rfl rfl) rfl ?_
        refine lpure (v := .int .i64 (p6908.Links.length : Int)) rfl (p_len rfl rfl rfl un_23 rfl) (RSl.lenC H6910) rfl ?_
        refine lpure (v := .int .i64 (w64 (2 * (p6908.Links.length : Int)))) rfl (p_mul rfl) rfl rfl ?_
        refine lpure (v := .bool (decide ((w64 (2 * (p6908.Links.length : Int))) ≤ p6911))) rfl (p_ge rfl) rfl rfl ?_
        refine lpure (v := .bool (decide ((w64 (2 * (p6908.Links.length : Int))) ≤ p6911))) rfl (p_pick rfl) rfl rfl ?_
        refine Sim.of_eq (congrArg j6942 (show ((decide (p6911 < 0)) || (decide ((w64 (2 * (p6908.Links.length : Int))) ≤ p6911))) = (decide ((w64 (2 * (p6908.Links.length : Int))) ≤ p6911)) from by rw [k6944] <;> rfl)) ?_
        exact ljmpM J6943 (decide ((w64 (2 * (p6908.Links.length : Int))) ≤ p6911)) () (sub_cons rfl (sub_cons rfl (sub_cons rfl (sub_cons rfl (sub_cons rfl sub_nil))))) X6919
/-! (isochron/topo.end).delay -/
theorem f55_ok {n : Nat} {φ : Fz} {lo : Nat} {h : Heap} {own : OwnL} (X : St φ lo h own) (p6982 : TopoEnd) : Sim ((recN Try.prog LL cutF (n + 1)).call 55 #[(.agg #[.int .i64 p6982.Link.A, .int .i64 p6982.Link.B, .int .i64 p6982.Link.Per, .int .i64 p6982.Link.Delay, .int .i64 p6982.port])] h) (m_topo_end_delay p6982) (fun (d : Int) p => p = (.int .i64 d, h)) := by
  refine fcut Try.func55 rfl rfl rfl rfl X ?_
  intro h0 X0
  refine dseq ?_
  refine dreg ?_
  refine lbox rfl rfl rfl rfl rfl X0 (fun b6983 h6985 X6986 => ?_)
  refine lpure (v := .int .i64 0) rfl (p_assign rfl) rfl rfl ?_
  refine lend ?_
  refine nseq ?_
  refine dseq ?_
  refine dreg ?_
  refine lpure (v := .pointer (some ⟨b6983, 0, none⟩)) rfl (p_fa fo_65_0 rfl) rfl rfl ?_
  refine lpure (v := .pointer (some ⟨b6983, 3, none⟩)) rfl (p_fa fo_50_3 rfl) rfl rfl ?_
  refine lread (v := .int .i64 p6982.Link.Delay) rfl (q_load wd_3 rfl) (St.ld X6986 (j := 0) rfl rfl) rfl ?_
  refine lpure (v := .int .i64 p6982.Link.Delay) rfl (p_assign rfl) rfl rfl ?_
  refine lend ?_
  refine nseq ?_
  refine dret ?_
  exact kcut_r (res_1 resT) X6986 rfl rfl
/-! isochron/topo.Delay -/
theorem f26_ok {n : Nat} {φ : Fz} {lo : Nat} {h : Heap} {own : OwnL} (X : St φ lo h own) (p6957 : ApiTopo) (p6960 : Int) {a6958 : Option Addr} {n6958 c6958 : Nat} {a6959 : Option Addr} {n6959 c6959 : Nat} (H6958 : RSl eBool φ (.slice a6958 n6958 c6958) p6957.Station) (H6959 : RSl eApiLink φ (.slice a6959 n6959 c6959) p6957.Links) : Sim ((recN Try.prog LL cutF (n + 8)).call 26 #[(.agg #[.int .i64 p6957.Nodes, .slice a6958 n6958 c6958, .slice a6959 n6959 c6959]), (.int .i64 p6960)] h) (m_topo_Delay p6957 p6960) (fun (d : (Int × Int)) p => p = (.tuple #[.int .i64 d.1, .int .i64 d.2], h)) := by
  refine fcut Try.func26 rfl rfl rfl rfl X ?_
  intro h0 X0
  refine dseq ?_
  refine dreg ?_
  refine lbox rfl rfl rfl rfl rfl X0 (fun b6961 h6963 X6964 => ?_)
  refine lpure (v := .int .i64 0) rfl (p_assign rfl) rfl rfl ?_
  refine lpure (v := .int .i64 0) rfl (p_assign rfl) rfl rfl ?_
  refine lend ?_
  refine nseq ?_
  refine dseq ?_
  refine dreg ?_
  refine lread (v := .agg #[.int .i64 p6957.Nodes, .slice a6958 n6958 c6958, .slice a6959 n6959 c6959]) rfl (q_load wd_25 rfl) (St.ld X6964 (j := 0) rfl rfl) rfl ?_
  refine lpure (v := .int .i64 p6960) rfl (p_move rfl) rfl rfl ?_
  refine linl rfl rfl rfl rfl ca_53 rfl Try.func53 rfl rfl rfl rfl rfl ?_
  refine dseq ?_
  refine dreg ?_
  refine lbox rfl rfl rfl rfl rfl X6964 (fun b6965 h6967 X6968 => ?_)
  refine lpure (v := .int .i64 0) rfl (p_assign rfl) rfl rfl ?_
  refine lpure (v := .int .i64 0) rfl (p_assign rfl) rfl rfl ?_
  refine lend ?_
  refine nseq ?_
  refine dseq ?_
  refine dreg ?_
  refine lpure (v := .int .i64 0) rfl (p_assign rfl) rfl rfl ?_
  refine lend ?_
  refine nseq ?_
  refine dseq ?_
  refine dseq ?_
  refine dreg ?_
  refine lread (v := .agg #[.int .i64 p6957.Nodes, .slice a6958 n6958 c6958, .slice a6959 n6959 c6959]) rfl (q_load wd_25 rfl) (St.ld X6968 (j := 0) rfl rfl) rfl ?_
  refine lcall rfl rfl ca_34 rfl rfl (f34_ok X6968 p6957 H6958 H6959) rfl (fun e6969 v6970 h6971 hq6972 => ?_)
  cases hq6972
  refine lpure (v := .int .i64 e6969) rfl (p_assign rfl) rfl rfl ?_
  refine lend ?_
  refine nseq ?_
  refine dseq ?_
  refine dreg ?_
  refine lpure (v := .int .i64 e6969) rfl (p_move rfl) rfl rfl ?_
  refine lpure (v := .bool (decide (e6969 ≠ 0))) rfl (p_ne rfl) rfl rfl ?_
  refine lend ?_
  refine nseq ?_
  refine dcond rfl rfl (fun k6973 => ?_) (fun k6973 => ?_)
  · refine dseq ?_
    refine dreg ?_
    refine lpure (v := .int .i64 0) rfl (p_move rfl) rfl rfl ?_
    refine lpure (v := .int .i64 e6969) rfl (p_move rfl) rfl rfl ?_
    refine lpure (v := .int .i64 0) rfl (p_assign rfl) rfl rfl ?_
    refine lpure (v := .int .i64 e6969) rfl (p_assign rfl) rfl rfl ?_
    refine lend ?_
    refine nseq ?_
    refine dret ?_
    refine rseq ?_
    refine kin_r (res_2 resT resT) ?_
    refine lpure (v := .int .i64 0) rfl (p_extract rfl) rfl rfl ?_
    refine lpure (v := .int .i64 e6969) rfl (p_extract rfl) rfl rfl ?_
    refine lpure (v := .int .i64 0) rfl (p_assign rfl) rfl rfl ?_
    refine lpure (v := .int .i64 e6969) rfl (p_assign rfl) rfl rfl ?_
    refine lend ?_
    refine nseq ?_
    refine dret ?_
    exact kcut_r (res_2 resT resT) X6968 rfl rfl
  · refine dskip ?_
    refine nseq ?_
    refine dseq ?_
    refine dseq ?_
    refine dreg ?_
    refine lpure (v := .int .i64 p6960) rfl (p_move rfl) rfl rfl ?_
    refine lpure (v := .bool (decide (p6960 < 0))) rfl (p_lt rfl) rfl rfl ?_
    refine lpure (v := .bool (decide (p6960 < 0))) rfl (p_move rfl) rfl rfl ?_
    refine lsh (τ := Bool) (σ := Unit) (fun s6975 (_ : Unit) => [(1, .int .i64 p6960), (2, .func (.func 55) #[] #[]), (3, .pointer (some ⟨b6965, 0, none⟩)), (8, .int .i64 0), (25, .bool s6975)]) (fun s6975 (_ : Unit) hh => St φ h.n hh ([(some b6965, .cells [.int .i64 p6957.Nodes, .slice a6958 n6958 c6958, .slice a6959 n6959 c6959] 25 .exact), (some b6961, .cells [.int .i64 p6957.Nodes, .slice a6958 n6958 c6958, .slice a6959 n6959 c6959] 25 .exact)])) 7 ?_ ?_
    · rintro s6975 _ t0 h6977 X6976
      refine lend ?_
      refine nseq ?_
      refine dcond rfl rfl (fun k6978 => ?_) (fun k6978 => ?_)
      · refine dseq ?_
        refine dreg ?_
        refine lpure (v := .int .i64 0) rfl (p_move rfl) rfl rfl ?_
        refine lpure (v := .int .i64 0) rfl (p_assign rfl) rfl rfl ?_
        refine lpure (v := .int .i64 2) rfl (p_assign rfl) rfl rfl ?_
        refine lend ?_
        refine nseq ?_
        refine dret ?_
        refine rseq ?_
        refine kin_r (res_2 resT resT) ?_
        refine lpure (v := .int .i64 0) rfl (p_extract rfl) rfl rfl ?_
        refine lpure (v := .int .i64 2) rfl (p_extract rfl) rfl rfl ?_
        refine lpure (v := .int .i64 0) rfl (p_assign rfl) rfl rfl ?_
        refine lpure (v := .int .i64 2) rfl (p_assign rfl) rfl rfl ?_
        refine lend ?_
        refine nseq ?_
        refine dret ?_
        exact kcut_r (res_2 resT resT) X6976 rfl rfl
      · refine dskip ?_
        refine nseq ?_
        refine dseq ?_
        refine dreg ?_
        refine lpure (v := .func (.func 55) #[] #[]) rfl (p_move rfl) rfl rfl ?_
        refine lpure (v := .pointer (some ⟨b6965, 2, none⟩)) rfl (p_fa fo_25_2 rfl) rfl rfl ?_
        refine lread (v := .slice a6959 n6959 c6959) rfl (q_load wd_23 rfl) (St.ld X6976 (j := 0) rfl rfl) rfl ?_
        refine lpure (v := .int .i64 p6960) rfl (p_move rfl) rfl rfl ?_
        refine lpure (v := .int .i64 (w64 (Int.tdiv p6960 2))) rfl (p_quo rfl) rfl rfl ?_
        refine Sim.bindM fun e6979 he6980 => ?_
        obtain ⟨p6981, cs6981, hp6981, hF6981, hR6981⟩ := RSl.ia H6959 he6980 (kd := .i64) (n := 4) rfl
        obtain rfl := eApiLink_el hR6981
        refine lpure (v := p6981) rfl (p_ia rs_23 rfl) hp6981 rfl ?_
        refine lread (v := .agg #[.int .i64 e6979.A, .int .i64 e6979.B, .int .i64 e6979.Per, .int .i64 e6979.Delay]) rfl (q_load wd_50 rfl) (FP.ldw X6976 hF6981 rfl rfl) rfl ?_
        refine lpure (v := .int .i64 p6960) rfl (p_move rfl) rfl rfl ?_
        refine lpure (v := .agg #[.int .i64 e6979.A, .int .i64 e6979.B, .int .i64 e6979.Per, .int .i64 e6979.Delay, .int .i64 p6960]) rfl (p_build rfl) (build_st' tz_65 pl_65 rfl) rfl ?_
        refine lcallv rfl rfl rfl rfl ca_55 rfl rfl (f55_ok X6976 ((TopoEnd.mk e6979 p6960))) rfl (fun e6987 v6988 h6989 hq6990 => ?_)
        cases hq6990
        refine lpure (v := .int .i64 e6987) rfl (p_assign rfl) rfl rfl ?_
        refine lpure (v := .int .i64 0) rfl (p_assign rfl) rfl rfl ?_
        refine lend ?_
        refine nseq ?_
        refine dret ?_
        refine kin_r (res_2 resT resT) ?_
        refine lpure (v := .int .i64 e6987) rfl (p_extract rfl) rfl rfl ?_
        refine lpure (v := .int .i64 0) rfl (p_extract rfl) rfl rfl ?_
        refine lpure (v := .int .i64 e6987) rfl (p_assign rfl) rfl rfl ?_
        refine lpure (v := .int .i64 0) rfl (p_assign rfl) rfl rfl ?_
        refine lend ?_
        refine nseq ?_
        refine dret ?_
        exact kcut_r (res_2 resT resT) X6976 rfl rfl
    · intro j6991 J6992
      refine lcase (i := 18) (show _ = Value.bool (decide (p6960 < 0)) from rfl) (fun k6993 => ?_) (fun k6993 => ?_)
      · refine lskip rfl rfl ?_
        refine lskip rfl rfl ?_
        refine lskip rfl rfl ?_
        refine lskip rfl rfl ?_
        refine lskip rfl rfl ?_
        refine lskip rfl rfl ?_
        refine lpure (v := .bool true) rfl (p_pick rfl) rfl rfl ?_
        refine Sim.of_eq (congrArg j6991 (show ((decide (p6960 < 0)) || (decide ((w64 (2 * (p6957.Links.length : Int))) ≤ p6960))) = true from by rw [k6993] <;> rfl)) ?_
        exact ljmpM J6992 true () (sub_cons rfl (sub_cons rfl (sub_cons rfl (sub_cons rfl (sub_cons rfl sub_nil))))) X6968
      · refine lpure (v := .int .i64 p6960) rfl (p_move rfl) rfl rfl ?_
        refine lpure (v := .pointer (some ⟨b6965, 2, none⟩)) rfl (p_fa fo_25_2 rfl) rfl rfl ?_
        refine lread (v := .slice a6959 n6959 c6959) rfl (q_load wd_23 rfl) (St.ld X6968 (j := 0) rfl rfl) rfl ?_
        refine lpure (v := .int .i64 (p6957.Links.length : Int)) rfl (p_len rfl rfl rfl un_23 rfl) (RSl.lenC H6959) rfl ?_
        refine lpure (v := .int .i64 (w64 (2 * (p6957.Links.length : Int)))) rfl (p_mul rfl) rfl rfl ?_
        refine lpure (v := .bool (decide ((w64 (2 * (p6957.Links.length : Int))) ≤ p6960))) rfl (p_ge rfl) rfl rfl ?_
        refine lpure (v := .bool (decide ((w64 (2 * (p6957.Links.length : Int))) ≤ p6960))) rfl (p_pick rfl) rfl rfl ?_
        refine Sim.of_eq (congrArg j6991 (show ((decide (p6960 < 0)) || (decide ((w64 (2 * (p6957.Links.length : Int))) ≤ p6960))) = (decide ((w64 (2 * (p6957.Links.length : Int))) ≤ p6960)) from by rw [k6993] <;> rfl)) ?_
        exact ljmpM J6992 (decide ((w64 (2 * (p6957.Links.length : Int))) ≤ p6960)) () (sub_cons rfl (sub_cons rfl (sub_cons rfl (sub_cons rfl (sub_cons rfl sub_nil))))) X6968
/-! isochron/topo.Ports -/
theorem f11_ok {n : Nat} {φ : Fz} {lo : Nat} {h : Heap} {own : OwnL} (X : St φ lo h own) (p7371 : ApiTopo) (p7374 : Int) {a7372 : Option Addr} {n7372 c7372 : Nat} {a7373 : Option Addr} {n7373 c7373 : Nat} (H7372 : RSl eBool φ (.slice a7372 n7372 c7372) p7371.Station) (H7373 : RSl eApiLink φ (.slice a7373 n7373 c7373) p7371.Links) : Sim ((recN Try.prog LL cutF (n + 7)).call 11 #[(.agg #[.int .i64 p7371.Nodes, .slice a7372 n7372 c7372, .slice a7373 n7373 c7373]), (.int .i64 p7374)] h) (m_topo_Ports p7371 p7374) (fun (d : ((List Int) × Int)) p => ∃ φ2 : Fz, ∃ a7736 : Option Addr, ∃ n7736 : Nat, ∃ c7736 : Nat, ∃ ob7736 : Option Nat, ∃ blk7736 : Blk, Fz.le φ φ2 ∧ St φ2 lo p.2 ((ob7736, blk7736) :: own) ∧ p.1 = .tuple #[.slice a7736 n7736 c7736, .int .i64 d.2] ∧ OSl (eInt .i64) φ2 3 ob7736 blk7736 (.slice a7736 n7736 c7736) d.1) := by
  refine fopen Try.func11 rfl rfl rfl rfl ?_
  refine dseq ?_
  refine dreg ?_
  refine lbox rfl rfl rfl rfl rfl X (fun b7375 h7377 X7378 => ?_)
  refine lbox rfl rfl rfl rfl rfl X7378 (fun b7379 h7381 X7382 => ?_)
  refine lpure (v := .slice none 0 0) rfl (p_assign rfl) rfl rfl ?_
  refine lpure (v := .int .i64 0) rfl (p_assign rfl) rfl rfl ?_
  refine lend ?_
  refine nseq ?_
  refine dseq ?_
  refine dseq ?_
  refine dreg ?_
  refine lread (v := .agg #[.int .i64 p7371.Nodes, .slice a7372 n7372 c7372, .slice a7373 n7373 c7373]) rfl (q_load wd_25 rfl) (St.ld X7382 (j := 1) rfl rfl) rfl ?_
  refine lcall rfl rfl ca_34 rfl rfl (f34_ok X7382 p7371 H7372 H7373) rfl (fun e7383 v7384 h7385 hq7386 => ?_)
  cases hq7386
  refine lpure (v := .int .i64 e7383) rfl (p_assign rfl) rfl rfl ?_
  refine lend ?_
  refine nseq ?_
  refine dseq ?_
  refine dreg ?_
  refine lpure (v := .int .i64 e7383) rfl (p_move rfl) rfl rfl ?_
  refine lpure (v := .bool (decide (e7383 ≠ 0))) rfl (p_ne rfl) rfl rfl ?_
  refine lend ?_
  refine nseq ?_
  refine dcond rfl rfl (fun k7387 => ?_) (fun k7387 => ?_)
  · refine dseq ?_
    refine dreg ?_
    refine lpure (v := .int .i64 e7383) rfl (p_move rfl) rfl rfl ?_
    refine lpure (v := .slice none 0 0) rfl (p_assign rfl) rfl rfl ?_
    refine lpure (v := .int .i64 e7383) rfl (p_assign rfl) rfl rfl ?_
    refine lend ?_
    refine nseq ?_
    refine dret ?_
    refine rseq ?_
    exact kopen_r (res_2 resT resT) ⟨φ, none, 0, 0, none, (.dead), (Fz.le_refl _), St.pick X7382 (.none _ (.skip _ (.skip _ (.refl _)))), rfl, OSl.nil⟩
  · refine dskip ?_
    refine nseq ?_
    refine dseq ?_
    refine dseq ?_
    refine dreg ?_
    refine lread (v := .agg #[.int .i64 p7371.Nodes, .slice a7372 n7372 c7372, .slice a7373 n7373 c7373]) rfl (q_load wd_25 rfl) (St.ld X7382 (j := 1) rfl rfl) rfl ?_
    refine lread (v := .int .i64 p7374) rfl (q_load wd_3 rfl) (St.ld X7382 (j := 0) rfl rfl) rfl ?_
    refine lcall rfl rfl ca_39 rfl rfl (f39_ok X7382 p7371 p7374 H7372 H7373) rfl (fun e7388 v7389 h7390 hq7391 => ?_)
    cases hq7391
    refine lpure (v := .bool (!e7388)) rfl (p_not rfl) rfl rfl ?_
    refine lend ?_
    refine nseq ?_
    refine dcond rfl rfl (fun k7392 => ?_) (fun k7392 => ?_)
    · refine dseq ?_
      refine dreg ?_
      refine lpure (v := .slice none 0 0) rfl (p_assign rfl) rfl rfl ?_
      refine lpure (v := .int .i64 2) rfl (p_assign rfl) rfl rfl ?_
      refine lend ?_
      refine nseq ?_
      refine dret ?_
      refine rseq ?_
      exact kopen_r (res_2 resT resT) ⟨φ, none, 0, 0, none, (.dead), (Fz.le_refl _), St.pick X7382 (.none _ (.skip _ (.skip _ (.refl _)))), rfl, OSl.nil⟩
    · refine dskip ?_
      refine nseq ?_
      refine dseq ?_
      refine dreg ?_
      refine lalloc rfl tz_28 rfl rfl rfl X7382 (fun b7393 h7395 X7396 => ?_)
      refine lend ?_
      refine nseq ?_
      refine dseq ?_
      refine dseq ?_
      refine dreg ?_
      refine lread (v := .agg #[.int .i64 p7371.Nodes, .slice a7372 n7372 c7372, .slice a7373 n7373 c7373]) rfl (q_load wd_25 rfl) (St.ld X7396 (j := 2) rfl rfl) rfl ?_
      refine linl rfl rfl rfl rfl ca_40 rfl Try.func40 rfl rfl rfl rfl rfl ?_
      refine dseq ?_
      refine dreg ?_
      refine lbox rfl rfl rfl rfl rfl X7396 (fun b7397 h7399 X7400 => ?_)
      refine lpure (v := .nilFunc) rfl (p_assign rfl) rfl rfl ?_
      refine lend ?_
      refine nseq ?_
      refine dseq ?_
      refine dreg ?_
      refine lpure (v := .func (.func 62) #[] #[.pointer (some ⟨b7397, 0, none⟩)]) rfl (p_makeFunc rfl) rfl rfl ?_
      refine lpure (v := .func (.func 62) #[] #[.pointer (some ⟨b7397, 0, none⟩)]) rfl (p_assign rfl) rfl rfl ?_
      refine lend ?_
      refine nseq ?_
      refine dret ?_
      refine kin_r (res_1 resT) ?_
      refine lend ?_
      refine nseq ?_
      refine dblock ?_
      refine drange rfl rfl ca_62 Try.func62 rfl rfl X7400 (fun _ => rfl) ?_
      intro l7401 q7402 df7403 h7405 Q7404 X7406
      refine dseq ?_
      refine dreg ?_
      refine lpure (v := .pointer (some ⟨b7397, 2, none⟩)) rfl (p_fa fo_25_2 rfl) rfl rfl ?_
      refine lread (v := .slice a7373 n7373 c7373) rfl (q_load wd_23 rfl) (St.ld X7406 (j := 2) rfl rfl) rfl ?_
      refine lpure (v := .int .i64 (p7371.Links.length : Int)) rfl (p_len rfl rfl rfl un_23 rfl) (RSl.lenC H7373) rfl ?_
      refine lpure (v := .int .i64 0) rfl (p_move rfl) rfl rfl ?_
      refine lend ?_
      refine nseq ?_
      refine dblock ?_
      refine dloopM (τ := Int × (List Int)) (σ := Option Addr × Nat × Nat × Option Nat × Blk) (fun s7574 (a7576, n7576, c7576, ob7576, blk7576) => [(0, .func (.yield l7401) #[] #[]), (6, .slice a7373 n7373 c7373), (7, .int .i64 (p7371.Links.length : Int)), (8, .int .i64 s7574.1)]) (fun s7574 (a7576, n7576, c7576, ob7576, blk7576) hh => St φ lo hh ((ob7576, blk7576) :: (some l7401, rdy q7402) :: (none, .dead) :: (some b7397, .cells [.int .i64 p7371.Nodes, .slice a7372 n7372 c7372, .slice a7373 n7373 c7373] 25 .exact) :: (some b7393, .cells [.slice a7576 n7576 c7576] 28 .exact) :: (some b7379, .cells [.int .i64 p7374] 3 .exact) :: (some b7375, .cells [.int .i64 p7371.Nodes, .slice a7372 n7372 c7372, .slice a7373 n7373 c7373] 25 .exact) :: own) ∧ OSl (eInt .i64) φ 3 ob7576 blk7576 (.slice a7576 n7576 c7576) s7574.2) (0, []) (none, 0, 0, none, .dead) (sub_cons rfl (sub_cons rfl (sub_cons rfl (sub_cons rfl sub_nil)))) ⟨(St.pick X7406 (.none _ (.keep _ (.none _ (.skip _ (.keep _ (.keep _ (.keep _ (.keep _ (.refl _)))))))))), OSl.nil⟩ ?_
      rintro n7657 ih7656 s7574 ⟨a7576, n7576, c7576, ob7576, blk7576⟩ t0 h7659 ⟨X7658, O7576⟩
      refine dseq ?_
      refine dreg ?_
      refine lpure (v := .bool (decide (s7574.1 < (p7371.Links.length : Int)))) rfl (p_lt rfl) rfl rfl ?_
      refine lend ?_
      refine nseq ?_
      refine dseq ?_
      refine dcond rfl rfl (fun k7660 => ?_) (fun k7660 => ?_)
      · refine dskip ?_
        refine nseq ?_
        refine dseq ?_
        refine dblock ?_
        refine dseq ?_
        refine dreg ?_
        refine lpure (v := .int .i64 s7574.1) rfl (p_move rfl) rfl rfl ?_
        refine Sim.bindM fun e7661 he7662 => ?_
        obtain ⟨p7663, cs7663, hp7663, hF7663, hR7663⟩ := RSl.ia H7373 he7662 (kd := .i64) (n := 4) rfl
        obtain rfl := eApiLink_el hR7663
        refine lpure (v := p7663) rfl (p_ia rs_23 rfl) hp7663 rfl ?_
        refine lread (v := .agg #[.int .i64 e7661.A, .int .i64 e7661.B, .int .i64 e7661.Per, .int .i64 e7661.Delay]) rfl (q_load wd_50 rfl) (FP.ldw X7658 hF7663 rfl rfl) rfl ?_
        refine lalloc rfl tz_50 rfl rfl rfl X7658 (fun b7664 h7666 X7667 => ?_)
        refine lpure (v := .int .i64 s7574.1) rfl (p_assign rfl) rfl rfl ?_
        refine lstore rfl ts_50 rfl rfl (j := 0) rfl rfl rfl rfl rfl rfl X7667 (fun h7668 X7669 => ?_)
        refine lend ?_
        refine nseq ?_
        refine dseq ?_
        refine dreg ?_
        refine lpure (v := .func (.yield l7401) #[] #[]) rfl (p_move rfl) rfl rfl ?_
        refine lread (v := .agg #[.int .i64 e7661.A, .int .i64 e7661.B, .int .i64 e7661.Per, .int .i64 e7661.Delay]) rfl (q_load wd_50 rfl) (St.ld X7669 (j := 0) rfl rfl) rfl ?_
        refine lpure (v := .int .i64 s7574.1) rfl (p_move rfl) rfl rfl ?_
        refine lpure (v := .int .i64 (w64 (2 * s7574.1))) rfl (p_mul rfl) rfl rfl ?_
        refine lpure (v := .agg #[.int .i64 e7661.A, .int .i64 e7661.B, .int .i64 e7661.Per, .int .i64 e7661.Delay, .int .i64 (w64 (2 * s7574.1))]) rfl (p_build rfl) (build_st' tz_65 pl_65 rfl) rfl ?_
        refine lround rfl rfl rfl rfl rfl rfl X7669 (j := 2) rfl Q7404 rfl rfl rfl rfl rfl (fun t7670 => ?_)
        refine dreg ?_
        refine lalloc rfl tz_65 rfl rfl rfl X7669 (fun b7671 h7673 X7674 => ?_)
        refine lstore rfl ts_65 rfl rfl (j := 0) rfl rfl rfl rfl rfl rfl X7674 (fun h7675 X7676 => ?_)
        refine lend ?_
        refine basg X7676 (j := 3) rfl (fun h7677 X7678 => ?_)
        refine dblock ?_
        refine dseq ?_
        refine ddraw 0 0 0 (by kernel_rfl) ?_
        refine sload (v := .agg #[.int .i64 e7661.A, .int .i64 e7661.B, .int .i64 e7661.Per, .int .i64 e7661.Delay, .int .i64 (w64 (2 * s7574.1))]) rfl rfl (q_load wd_65 rfl) (St.ld X7678 (j := 0) rfl rfl) (same_self 20 rfl) rfl ?_
        refine scall (en := fun d => (.int .i64 d)) rfl rfl ca_41 rfl rfl (f41_ok X7678 ((TopoEnd.mk e7661 (w64 (2 * s7574.1))))) rfl (fun e7679 => ?_)
        refine sload (v := .int .i64 p7374) rfl rfl (q_load wd_3 rfl) (St.ld X7678 (j := 7) rfl rfl) (same_self 20 rfl) rfl ?_
        refine spure (v := .bool (decide (e7679 = p7374))) rfl (p_eq rfl) (lo_t rfl (lo_t rfl rfl)) rfl rfl ?_
        refine send ?_
        refine nseq ?_
        refine djoinM (τ := (List Int)) (σ := Option Addr × Nat × Nat × Option Nat × Blk) (fun s7689 (a7690, n7690, c7690, ob7690, blk7690) => []) (fun s7689 (a7690, n7690, c7690, ob7690, blk7690) hh => St φ lo hh ((some b7671, .cells [.int .i64 e7661.A, .int .i64 e7661.B, .int .i64 e7661.Per, .int .i64 e7661.Delay, .int .i64 (w64 (2 * s7574.1))] 65 .exact) :: (some b7664, .cells [.int .i64 e7661.A, .int .i64 e7661.B, .int .i64 e7661.Per, .int .i64 e7661.Delay] 50 .exact) :: (ob7690, blk7690) :: (some l7401, bsy q7402) :: (none, .dead) :: (some b7397, .cells [.int .i64 p7371.Nodes, .slice a7372 n7372 c7372, .slice a7373 n7373 c7373] 25 .exact) :: (some b7393, .cells [.slice a7690 n7690 c7690] 28 .exact) :: (some b7379, .cells [.int .i64 p7374] 3 .exact) :: (some b7375, .cells [.int .i64 p7371.Nodes, .slice a7372 n7372 c7372, .slice a7373 n7373 c7373] 25 .exact) :: own) ∧ OSl (eInt .i64) φ 3 ob7690 blk7690 (.slice a7690 n7690 c7690) s7689) ?_ ?_
        · rintro s7689 ⟨a7690, n7690, c7690, ob7690, blk7690⟩ t0 h7692 ⟨X7691, O7690⟩
          refine nblock ?_
          refine nrnd X7691 (j := 3) rfl (fun h7695 X7696 => ?_)
          refine lpure (v := .bool false) rfl (p_not rfl) rfl rfl ?_
          refine lpure (v := .bool false) rfl (p_move rfl) rfl rfl ?_
          refine lpure (v := .func (.yield l7401) #[] #[]) rfl (p_move rfl) rfl rfl ?_
          refine lread (v := .agg #[.int .i64 e7661.A, .int .i64 e7661.B, .int .i64 e7661.Per, .int .i64 e7661.Delay]) rfl (q_load wd_50 rfl) (St.ld X7696 (j := 1) rfl rfl) rfl ?_
          refine lpure (v := .int .i64 s7574.1) rfl (p_move rfl) rfl rfl ?_
          refine lpure (v := .int .i64 (w64 (2 * s7574.1))) rfl (p_mul rfl) rfl rfl ?_
          refine lpure (v := .int .i64 (w64 ((w64 (2 * s7574.1)) + 1))) rfl (p_add rfl) rfl rfl ?_
          refine lpure (v := .agg #[.int .i64 e7661.A, .int .i64 e7661.B, .int .i64 e7661.Per, .int .i64 e7661.Delay, .int .i64 (w64 ((w64 (2 * s7574.1)) + 1))]) rfl (p_build rfl) (build_st' tz_65 pl_65 rfl) rfl ?_
          refine lround rfl rfl rfl rfl rfl rfl X7696 (j := 3) rfl Q7404 rfl rfl rfl rfl rfl (fun t7697 => ?_)
          refine dreg ?_
          refine lalloc rfl tz_65 rfl rfl rfl X7696 (fun b7698 h7700 X7701 => ?_)
          refine lstore rfl ts_65 rfl rfl (j := 0) rfl rfl rfl rfl rfl rfl X7701 (fun h7702 X7703 => ?_)
          refine lend ?_
          refine basg X7703 (j := 4) rfl (fun h7704 X7705 => ?_)
          refine dblock ?_
          refine dseq ?_
          refine ddraw 0 0 0 (by kernel_rfl) ?_
          refine sload (v := .agg #[.int .i64 e7661.A, .int .i64 e7661.B, .int .i64 e7661.Per, .int .i64 e7661.Delay, .int .i64 (w64 ((w64 (2 * s7574.1)) + 1))]) rfl rfl (q_load wd_65 rfl) (St.ld X7705 (j := 0) rfl rfl) (same_self 20 rfl) rfl ?_
          refine scall (en := fun d => (.int .i64 d)) rfl rfl ca_41 rfl rfl (f41_ok X7705 ((TopoEnd.mk e7661 (w64 ((w64 (2 * s7574.1)) + 1))))) rfl (fun e7706 => ?_)
          refine sload (v := .int .i64 p7374) rfl rfl (q_load wd_3 rfl) (St.ld X7705 (j := 8) rfl rfl) (same_self 20 rfl) rfl ?_
          refine spure (v := .bool (decide (e7706 = p7374))) rfl (p_eq rfl) (lo_t rfl (lo_t rfl rfl)) rfl rfl ?_
          refine send ?_
          refine nseq ?_
          refine djoinM (τ := (List Int)) (σ := Option Addr × Nat × Nat × Option Nat × Blk) (fun s7716 (a7717, n7717, c7717, ob7717, blk7717) => []) (fun s7716 (a7717, n7717, c7717, ob7717, blk7717) hh => St φ lo hh ((some b7698, .cells [.int .i64 e7661.A, .int .i64 e7661.B, .int .i64 e7661.Per, .int .i64 e7661.Delay, .int .i64 (w64 ((w64 (2 * s7574.1)) + 1))] 65 .exact) :: (some b7671, .cells [.int .i64 e7661.A, .int .i64 e7661.B, .int .i64 e7661.Per, .int .i64 e7661.Delay, .int .i64 (w64 (2 * s7574.1))] 65 .exact) :: (some b7664, .cells [.int .i64 e7661.A, .int .i64 e7661.B, .int .i64 e7661.Per, .int .i64 e7661.Delay] 50 .exact) :: (ob7717, blk7717) :: (some l7401, bsy q7402) :: (none, .dead) :: (some b7397, .cells [.int .i64 p7371.Nodes, .slice a7372 n7372 c7372, .slice a7373 n7373 c7373] 25 .exact) :: (some b7393, .cells [.slice a7717 n7717 c7717] 28 .exact) :: (some b7379, .cells [.int .i64 p7374] 3 .exact) :: (some b7375, .cells [.int .i64 p7371.Nodes, .slice a7372 n7372 c7372, .slice a7373 n7373 c7373] 25 .exact) :: own) ∧ OSl (eInt .i64) φ 3 ob7717 blk7717 (.slice a7717 n7717 c7717) s7716) ?_ ?_
          · rintro s7716 ⟨a7717, n7717, c7717, ob7717, blk7717⟩ t0 h7719 ⟨X7718, O7717⟩
            refine nblock ?_
            refine nrnd X7718 (j := 4) rfl (fun h7722 X7723 => ?_)
            refine lpure (v := .bool false) rfl (p_not rfl) rfl rfl ?_
            refine lpure (v := .bool false) rfl (p_pick rfl) rfl rfl ?_
            refine lend ?_
            refine nseq ?_
            refine dcondF rfl rfl ?_
            refine dskip ?_
            refine nblock ?_
            refine nseq ?_
            refine dreg ?_
            refine lpure (v := .int .i64 (w64 (s7574.1 + 1))) rfl (p_add rfl) rfl rfl ?_
            refine lpure (v := .int .i64 (w64 (s7574.1 + 1))) rfl (p_move rfl) rfl rfl ?_
            refine lend ?_
            exact kbackM ih7656 ((w64 (s7574.1 + 1)), s7716) (a7717, n7717, c7717, ob7717, blk7717) (sub_cons rfl (sub_cons rfl (sub_cons rfl (sub_cons rfl sub_nil)))) ⟨(St.pick X7723 (.skip _ (.skip _ (.skip _ (.keep _ (.keep _ (.none _ (.skip _ (.keep _ (.keep _ (.keep _ (.keep _ (.refl _))))))))))))), O7717⟩
          · intro j7720 J7721
            refine dcond rfl rfl (fun k7710 => ?_) (fun k7710 => ?_)
            · refine dreg ?_
              refine lread (v := .slice a7690 n7690 c7690) rfl (q_load wd_28 rfl) (St.ld X7705 (j := 7) rfl rfl) rfl ?_
              refine lpure (v := .pointer (some ⟨b7698, 4, none⟩)) rfl (p_fa fo_65_1 rfl) rfl rfl ?_
              refine lread (v := .int .i64 (w64 ((w64 (2 * s7574.1)) + 1))) rfl (q_load wd_3 rfl) (St.ld X7705 (j := 0) rfl rfl) rfl ?_
              obtain ⟨h7724, b7724, hv7724, X7724, O7724⟩ := OSl.lay (E := (eInt .i64)) (φ := φ) (cs := [.int .i64 (w64 ((w64 (2 * s7574.1)) + 1))]) (l := [(w64 ((w64 (2 * s7574.1)) + 1))]) (len := 1) (parts := [(0, .int .i64 (w64 ((w64 (2 * s7574.1)) + 1)))]) un_28 ts_3 rfl rfl rfl tz_3 rfl rfl (show RowD (eInt .i64) φ [.int .i64 (w64 ((w64 (2 * s7574.1)) + 1))] [(w64 ((w64 (2 * s7574.1)) + 1))] from ⟨[.int .i64 (w64 ((w64 (2 * s7574.1)) + 1))], _, rfl, rfl, rfl⟩) rfl rfl X7705
              refine lheap rfl (h_buildSlice rfl) hv7724 rfl ?_
              obtain ⟨ws7726, hw7726⟩ := OSl.read O7724 X7724 (k := 0) rfl (n := 1) rfl
              refine Sim.mustM fun k7726 => ?_
              obtain ⟨h7726, a7726, c7726, ob7726, blk7726, hv7726, X7726, O7726⟩ := OSl.append O7690 X7724 (j := 4) rfl hw7726 k7726 (ts := #[28, 28]) rfl un_28 (argOk_of ax_28_28) ts_3 rfl rfl tb_3 rfl tz_3 rfl
              refine lheap rfl (h_builtin rfl rfl) hv7726 rfl ?_
              refine lstore rfl ts_28 rfl rfl (j := 8) rfl rfl rfl rfl rfl rfl X7726 (fun h7727 X7728 => ?_)
              refine lend ?_
              exact jmpM J7721 (s7689 ++ ([(w64 ((w64 (2 * s7574.1)) + 1))])) (a7726, (s7689.length + ([(w64 ((w64 (2 * s7574.1)) + 1))]).length), c7726, ob7726, blk7726) sub_nil ⟨(St.pick X7728 (.skip _ (.keep _ (.keep _ (.keep _ (.keep _ (.keep _ (.none _ (.skip _ (.keep _ (.keep _ (.keep _ (.keep _ (.refl _)))))))))))))), O7726⟩
            · refine dskip ?_
              exact jmpM J7721 s7689 (a7690, n7690, c7690, ob7690, blk7690) sub_nil ⟨(St.pick X7705 (.keep _ (.keep _ (.keep _ (.keep _ (.keep _ (.none _ (.skip _ (.keep _ (.keep _ (.keep _ (.keep _ (.refl _))))))))))))), O7690⟩
        · intro j7693 J7694
          refine dcond rfl rfl (fun k7683 => ?_) (fun k7683 => ?_)
          · refine dreg ?_
            refine lread (v := .slice a7576 n7576 c7576) rfl (q_load wd_28 rfl) (St.ld X7678 (j := 6) rfl rfl) rfl ?_
            refine lpure (v := .pointer (some ⟨b7671, 4, none⟩)) rfl (p_fa fo_65_1 rfl) rfl rfl ?_
            refine lread (v := .int .i64 (w64 (2 * s7574.1))) rfl (q_load wd_3 rfl) (St.ld X7678 (j := 0) rfl rfl) rfl ?_
            obtain ⟨h7729, b7729, hv7729, X7729, O7729⟩ := OSl.lay (E := (eInt .i64)) (φ := φ) (cs := [.int .i64 (w64 (2 * s7574.1))]) (l := [(w64 (2 * s7574.1))]) (len := 1) (parts := [(0, .int .i64 (w64 (2 * s7574.1)))]) un_28 ts_3 rfl rfl rfl tz_3 rfl rfl (show RowD (eInt .i64) φ [.int .i64 (w64 (2 * s7574.1))] [(w64 (2 * s7574.1))] from ⟨[.int .i64 (w64 (2 * s7574.1))], _, rfl, rfl, rfl⟩) rfl rfl X7678
            refine lheap rfl (h_buildSlice rfl) hv7729 rfl ?_
            obtain ⟨ws7731, hw7731⟩ := OSl.read O7729 X7729 (k := 0) rfl (n := 1) rfl
            refine Sim.mustM fun k7731 => ?_
            obtain ⟨h7731, a7731, c7731, ob7731, blk7731, hv7731, X7731, O7731⟩ := OSl.append O7576 X7729 (j := 3) rfl hw7731 k7731 (ts := #[28, 28]) rfl un_28 (argOk_of ax_28_28) ts_3 rfl rfl tb_3 rfl tz_3 rfl
            refine lheap rfl (h_builtin rfl rfl) hv7731 rfl ?_
            refine lstore rfl ts_28 rfl rfl (j := 7) rfl rfl rfl rfl rfl rfl X7731 (fun h7732 X7733 => ?_)
            refine lend ?_
            exact jmpM J7694 (s7574.2 ++ ([(w64 (2 * s7574.1))])) (a7731, (s7574.2.length + ([(w64 (2 * s7574.1))]).length), c7731, ob7731, blk7731) sub_nil ⟨(St.pick X7733 (.skip _ (.keep _ (.keep _ (.keep _ (.keep _ (.none _ (.skip _ (.keep _ (.keep _ (.keep _ (.keep _ (.refl _))))))))))))), O7731⟩
          · refine dskip ?_
            exact jmpM J7694 s7574.2 (a7576, n7576, c7576, ob7576, blk7576) sub_nil ⟨(St.pick X7678 (.keep _ (.keep _ (.keep _ (.keep _ (.none _ (.skip _ (.keep _ (.keep _ (.keep _ (.keep _ (.refl _)))))))))))), O7576⟩
      · refine dexit ?_
        refine eseq ?_
        refine eloop ?_
        refine xblock ?_
        refine kin_n res_0 ?_
        refine rend_n X7658 (j := 1) rfl (fun h7734 X7735 => ?_)
        refine nblock ?_
        refine nseq ?_
        refine dseq ?_
        refine dreg ?_
        refine lread (v := .slice a7576 n7576 c7576) rfl (q_load wd_28 rfl) (St.ld X7735 (j := 4) rfl rfl) rfl ?_
        refine lpure (v := .slice a7576 n7576 c7576) rfl (p_assign rfl) rfl rfl ?_
        refine lpure (v := .int .i64 0) rfl (p_assign rfl) rfl rfl ?_
        refine lend ?_
        refine nseq ?_
        refine dret ?_
        exact kopen_r (res_2 resT resT) ⟨φ, a7576, n7576, c7576, ob7576, blk7576, (Fz.le_refl _), St.pick X7735 (.keep _ (.skip _ (.skip _ (.skip _ (.skip _ (.skip _ (.skip _ (.refl _)))))))), rfl, O7576⟩
/-! isochron/topo.Find -/
theorem f12_ok {n : Nat} {φ : Fz} {lo : Nat} {h : Heap} {own : OwnL} (X : St φ lo h own) (p7755 : ApiTopo) (p7758 : Int) (p7759 : Int) {a7756 : Option Addr} {n7756 c7756 : Nat} {a7757 : Option Addr} {n7757 c7757 : Nat} (H7756 : RSl eBool φ (.slice a7756 n7756 c7756) p7755.Station) (H7757 : RSl eApiLink φ (.slice a7757 n7757 c7757) p7755.Links) : Sim ((recN Try.prog LL cutF (n + 7)).call 12 #[(.agg #[.int .i64 p7755.Nodes, .slice a7756 n7756 c7756, .slice a7757 n7757 c7757]), (.int .i64 p7758), (.int .i64 p7759)] h) (m_topo_Find p7755 p7758 p7759) (fun (d : (Int × Int)) p => p = (.tuple #[.int .i64 d.1, .int .i64 d.2], h)) := by
  refine fcut Try.func12 rfl rfl rfl rfl X ?_
  intro h0 X0
  refine dseq ?_
  refine dreg ?_
  refine lbox rfl rfl rfl rfl rfl X0 (fun b7760 h7762 X7763 => ?_)
  refine lbox rfl rfl rfl rfl rfl X7763 (fun b7764 h7766 X7767 => ?_)
  refine lbox rfl rfl rfl rfl rfl X7767 (fun b7768 h7770 X7771 => ?_)
  refine lalloc rfl tz_3 rfl rfl rfl X7771 (fun b7772 h7774 X7775 => ?_)
  refine lalloc rfl tz_29 rfl rfl rfl X7775 (fun b7776 h7778 X7779 => ?_)
  refine lend ?_
  refine nseq ?_
  refine dseq ?_
  refine dseq ?_
  refine dreg ?_
  refine lread (v := .agg #[.int .i64 p7755.Nodes, .slice a7756 n7756 c7756, .slice a7757 n7757 c7757]) rfl (q_load wd_25 rfl) (St.ld X7779 (j := 4) rfl rfl) rfl ?_
  refine lcall rfl rfl ca_34 rfl rfl (f34_ok X7779 p7755 H7756 H7757) rfl (fun e7780 v7781 h7782 hq7783 => ?_)
  cases hq7783
  refine lpure (v := .int .i64 e7780) rfl (p_assign rfl) rfl rfl ?_
  refine lend ?_
  refine nseq ?_
  refine dseq ?_
  refine dreg ?_
  refine lpure (v := .int .i64 e7780) rfl (p_move rfl) rfl rfl ?_
  refine lpure (v := .bool (decide (e7780 ≠ 0))) rfl (p_ne rfl) rfl rfl ?_
  refine lend ?_
  refine nseq ?_
  refine dcond rfl rfl (fun k7784 => ?_) (fun k7784 => ?_)
  · refine dseq ?_
    refine dreg ?_
    refine lpure (v := .int .i64 e7780) rfl (p_move rfl) rfl rfl ?_
    refine lstore rfl ts_3 rfl rfl (j := 1) rfl rfl rfl rfl rfl rfl X7779 (fun h7785 X7786 => ?_)
    refine lstore rfl ts_29 rfl rfl (j := 0) rfl rfl rfl rfl rfl rfl X7786 (fun h7787 X7788 => ?_)
    refine lend ?_
    refine nseq ?_
    refine dret ?_
    refine rseq ?_
    exact kcut_r (res_2 (resC wd_3 (St.ld X7788 (j := 1) rfl rfl)) (resC wd_29 (St.ld X7788 (j := 0) rfl rfl))) X7788 rfl rfl
  · refine dskip ?_
    refine nseq ?_
    refine dseq ?_
    refine dseq ?_
    refine dreg ?_
    refine lread (v := .agg #[.int .i64 p7755.Nodes, .slice a7756 n7756 c7756, .slice a7757 n7757 c7757]) rfl (q_load wd_25 rfl) (St.ld X7779 (j := 4) rfl rfl) rfl ?_
    refine lread (v := .int .i64 p7758) rfl (q_load wd_3 rfl) (St.ld X7779 (j := 3) rfl rfl) rfl ?_
    refine lcall rfl rfl ca_39 rfl rfl (f39_ok X7779 p7755 p7758 H7756 H7757) rfl (fun e7789 v7790 h7791 hq7792 => ?_)
    cases hq7792
    refine lpure (v := .bool (!e7789)) rfl (p_not rfl) rfl rfl ?_
    refine lpure (v := .bool (!e7789)) rfl (p_move rfl) rfl rfl ?_
    refine ljoinM (τ := Bool) (σ := Unit) (fun s7799 (_ : Unit) => [(3, .pointer (some ⟨b7760, 0, none⟩)), (4, .pointer (some ⟨b7764, 0, none⟩)), (5, .pointer (some ⟨b7768, 0, none⟩)), (6, .pointer (some ⟨b7772, 0, none⟩)), (7, .pointer (some ⟨b7776, 0, none⟩)), (24, .bool s7799)]) (fun s7799 (_ : Unit) hh => St φ h.n hh ([(some b7776, .cells [.int .i64 0] 29 .exact), (some b7772, .cells [.int .i64 0] 3 .exact), (some b7768, .cells [.int .i64 p7759] 3 .exact), (some b7764, .cells [.int .i64 p7758] 3 .exact), (some b7760, .cells [.int .i64 p7755.Nodes, .slice a7756 n7756 c7756, .slice a7757 n7757 c7757] 25 .exact)])) 5 ?_ ?_
    · rintro s7799 _ t0 h7801 X7800
      refine lend ?_
      refine nseq ?_
      refine dcond rfl rfl (fun k7802 => ?_) (fun k7802 => ?_)
      · refine dseq ?_
        refine dreg ?_
        refine lstore rfl ts_3 rfl rfl (j := 1) rfl rfl rfl rfl rfl rfl X7800 (fun h7803 X7804 => ?_)
        refine lstore rfl ts_29 rfl rfl (j := 0) rfl rfl rfl rfl rfl rfl X7804 (fun h7805 X7806 => ?_)
        refine lend ?_
        refine nseq ?_
        refine dret ?_
        refine rseq ?_
        exact kcut_r (res_2 (resC wd_3 (St.ld X7806 (j := 1) rfl rfl)) (resC wd_29 (St.ld X7806 (j := 0) rfl rfl))) X7806 rfl rfl
      · refine dskip ?_
        refine nseq ?_
        refine dseq ?_
        refine dseq ?_
        refine dreg ?_
        refine lread (v := .agg #[.int .i64 p7755.Nodes, .slice a7756 n7756 c7756, .slice a7757 n7757 c7757]) rfl (q_load wd_25 rfl) (St.ld X7800 (j := 4) rfl rfl) rfl ?_
        refine linl rfl rfl rfl rfl ca_40 rfl Try.func40 rfl rfl rfl rfl rfl ?_
        refine dseq ?_
        refine dreg ?_
        refine lbox rfl rfl rfl rfl rfl X7800 (fun b7807 h7809 X7810 => ?_)
        refine lpure (v := .nilFunc) rfl (p_assign rfl) rfl rfl ?_
        refine lend ?_
        refine nseq ?_
        refine dseq ?_
        refine dreg ?_
        refine lpure (v := .func (.func 62) #[] #[.pointer (some ⟨b7807, 0, none⟩)]) rfl (p_makeFunc rfl) rfl rfl ?_
        refine lpure (v := .func (.func 62) #[] #[.pointer (some ⟨b7807, 0, none⟩)]) rfl (p_assign rfl) rfl rfl ?_
        refine lend ?_
        refine nseq ?_
        refine dret ?_
        refine kin_r (res_1 resT) ?_
        refine lend ?_
        refine nseq ?_
        refine dblock ?_
        refine drange rfl rfl ca_62 Try.func62 rfl rfl X7810 (fun _ => rfl) ?_
        intro l7811 q7812 df7813 h7815 Q7814 X7816
        refine dseq ?_
        refine dreg ?_
        refine lpure (v := .pointer (some ⟨b7807, 2, none⟩)) rfl (p_fa fo_25_2 rfl) rfl rfl ?_
        refine lread (v := .slice a7757 n7757 c7757) rfl (q_load wd_23 rfl) (St.ld X7816 (j := 2) rfl rfl) rfl ?_
        refine lpure (v := .int .i64 (p7755.Links.length : Int)) rfl (p_len rfl rfl rfl un_23 rfl) (RSl.lenC H7757) rfl ?_
        refine lpure (v := .int .i64 0) rfl (p_move rfl) rfl rfl ?_
        refine lend ?_
        refine nseq ?_
        refine dblock ?_
        refine dloopM (τ := Int) (σ := Unit) (fun s8017 (_ : Unit) => [(0, .func (.yield l7811) #[] #[]), (6, .slice a7757 n7757 c7757), (7, .int .i64 (p7755.Links.length : Int)), (8, .int .i64 s8017)]) (fun s8017 (_ : Unit) hh => St φ h.n hh ([(some l7811, rdy q7812), (none, .dead), (some b7807, .cells [.int .i64 p7755.Nodes, .slice a7756 n7756 c7756, .slice a7757 n7757 c7757] 25 .exact), (some b7776, .cells [.int .i64 0] 29 .exact), (some b7772, .cells [.int .i64 0] 3 .exact), (some b7768, .cells [.int .i64 p7759] 3 .exact), (some b7764, .cells [.int .i64 p7758] 3 .exact), (some b7760, .cells [.int .i64 p7755.Nodes, .slice a7756 n7756 c7756, .slice a7757 n7757 c7757] 25 .exact)])) 0 () (sub_cons rfl (sub_cons rfl (sub_cons rfl (sub_cons rfl sub_nil)))) (St.pick X7816 (.keep _ (.none _ (.skip _ (.keep _ (.keep _ (.keep _ (.keep _ (.keep _ (.keep _ (.nil _))))))))))) ?_
        rintro n8118 ih8117 s8017 _ t0 h8120 X8119
        refine dseq ?_
        refine dreg ?_
        refine lpure (v := .bool (decide (s8017 < (p7755.Links.length : Int)))) rfl (p_lt rfl) rfl rfl ?_
        refine lend ?_
        refine nseq ?_
        refine dseq ?_
        refine dcond rfl rfl (fun k8121 => ?_) (fun k8121 => ?_)
        · refine dskip ?_
          refine nseq ?_
          refine dseq ?_
          refine dblock ?_
          refine dseq ?_
          refine dreg ?_
          refine lpure (v := .int .i64 s8017) rfl (p_move rfl) rfl rfl ?_
          refine Sim.bindM fun e8122 he8123 => ?_
          obtain ⟨p8124, cs8124, hp8124, hF8124, hR8124⟩ := RSl.ia H7757 he8123 (kd := .i64) (n := 4) rfl
          obtain rfl := eApiLink_el hR8124
          refine lpure (v := p8124) rfl (p_ia rs_23 rfl) hp8124 rfl ?_
          refine lread (v := .agg #[.int .i64 e8122.A, .int .i64 e8122.B, .int .i64 e8122.Per, .int .i64 e8122.Delay]) rfl (q_load wd_50 rfl) (FP.ldw X8119 hF8124 rfl rfl) rfl ?_
          refine lalloc rfl tz_50 rfl rfl rfl X8119 (fun b8125 h8127 X8128 => ?_)
          refine lpure (v := .int .i64 s8017) rfl (p_assign rfl) rfl rfl ?_
          refine lstore rfl ts_50 rfl rfl (j := 0) rfl rfl rfl rfl rfl rfl X8128 (fun h8129 X8130 => ?_)
          refine lend ?_
          refine nseq ?_
          refine dseq ?_
          refine dreg ?_
          refine lpure (v := .func (.yield l7811) #[] #[]) rfl (p_move rfl) rfl rfl ?_
          refine lread (v := .agg #[.int .i64 e8122.A, .int .i64 e8122.B, .int .i64 e8122.Per, .int .i64 e8122.Delay]) rfl (q_load wd_50 rfl) (St.ld X8130 (j := 0) rfl rfl) rfl ?_
          refine lpure (v := .int .i64 s8017) rfl (p_move rfl) rfl rfl ?_
          refine lpure (v := .int .i64 (w64 (2 * s8017))) rfl (p_mul rfl) rfl rfl ?_
          refine lpure (v := .agg #[.int .i64 e8122.A, .int .i64 e8122.B, .int .i64 e8122.Per, .int .i64 e8122.Delay, .int .i64 (w64 (2 * s8017))]) rfl (p_build rfl) (build_st' tz_65 pl_65 rfl) rfl ?_
          refine lround rfl rfl rfl rfl rfl rfl X8130 (j := 1) rfl Q7814 rfl rfl rfl rfl rfl (fun t8131 => ?_)
          refine dreg ?_
          refine lalloc rfl tz_65 rfl rfl rfl X8130 (fun b8132 h8134 X8135 => ?_)
          refine lstore rfl ts_65 rfl rfl (j := 0) rfl rfl rfl rfl rfl rfl X8135 (fun h8136 X8137 => ?_)
          refine lend ?_
          refine basg X8137 (j := 2) rfl (fun h8138 X8139 => ?_)
          refine dblock ?_
          refine dseq ?_
          refine ddraw 0 0 0 (by kernel_rfl) ?_
          refine sload (v := .agg #[.int .i64 e8122.A, .int .i64 e8122.B, .int .i64 e8122.Per, .int .i64 e8122.Delay, .int .i64 (w64 (2 * s8017))]) rfl rfl (q_load wd_65 rfl) (St.ld X8139 (j := 0) rfl rfl) (same_self 20 rfl) rfl ?_
          refine scall (en := fun d => (.int .i64 d)) rfl rfl ca_41 rfl rfl (f41_ok X8139 ((TopoEnd.mk e8122 (w64 (2 * s8017))))) rfl (fun e8140 => ?_)
          refine sload (v := .int .i64 p7758) rfl rfl (q_load wd_3 rfl) (St.ld X8139 (j := 8) rfl rfl) (same_self 20 rfl) rfl ?_
          refine spure (v := .bool (decide (e8140 = p7758))) rfl (p_eq rfl) (lo_t rfl (lo_t rfl rfl)) rfl rfl ?_
          refine spure (v := .bool (decide (e8140 = p7758))) rfl (p_move rfl) (lo_t rfl rfl) rfl rfl ?_
          refine sjoinM (τ := Bool) (σ := Unit) (fun s8150 (_ : Unit) => [(6, .pointer (some ⟨b7772, 0, none⟩)), (7, .pointer (some ⟨b7776, 0, none⟩)), (9, .pointer (some ⟨b8132, 0, none⟩)), (37, .bool s8150)]) (fun s8150 (_ : Unit) hh => St φ h.n hh ([(some b8132, .cells [.int .i64 e8122.A, .int .i64 e8122.B, .int .i64 e8122.Per, .int .i64 e8122.Delay, .int .i64 (w64 (2 * s8017))] 65 .exact), (some b8125, .cells [.int .i64 e8122.A, .int .i64 e8122.B, .int .i64 e8122.Per, .int .i64 e8122.Delay] 50 .exact), (some l7811, bsy q7812), (none, .dead), (some b7807, .cells [.int .i64 p7755.Nodes, .slice a7756 n7756 c7756, .slice a7757 n7757 c7757] 25 .exact), (some b7776, .cells [.int .i64 0] 29 .exact), (some b7772, .cells [.int .i64 0] 3 .exact), (some b7768, .cells [.int .i64 p7759] 3 .exact), (some b7764, .cells [.int .i64 p7758] 3 .exact), (some b7760, .cells [.int .i64 p7755.Nodes, .slice a7756 n7756 c7756, .slice a7757 n7757 c7757] 25 .exact)])) 5 10 ?_ ?_
          · rintro s8150 _ t0 h8152 X8151
            refine send ?_
            refine nseq ?_
            refine dcond rfl rfl (fun k8153 => ?_) (fun k8153 => ?_)
            · refine dseq ?_
              refine dreg ?_
              refine lpure (v := .pointer (some ⟨b8132, 4, none⟩)) rfl (p_fa fo_65_1 rfl) rfl rfl ?_
              refine lread (v := .int .i64 (w64 (2 * s8017))) rfl (q_load wd_3 rfl) (St.ld X8151 (j := 0) rfl rfl) rfl ?_
              refine lstore rfl ts_3 rfl rfl (j := 6) rfl rfl rfl rfl rfl rfl X8151 (fun h8154 X8155 => ?_)
              refine lstore rfl ts_29 rfl rfl (j := 5) rfl rfl rfl rfl rfl rfl X8155 (fun h8156 X8157 => ?_)
              refine lend ?_
              refine nseq ?_
              refine dret ?_
              refine rblock ?_
              refine rrnd X8157 (j := 2) rfl (fun h8158 X8159 => ?_)
              refine lpure (v := .bool true) rfl (p_not rfl) rfl rfl ?_
              refine lpure (v := .bool true) rfl (p_move rfl) rfl rfl ?_
              refine lskip rfl rfl ?_
              refine lskip rfl rfl ?_
              refine lskip rfl rfl ?_
              refine lskip rfl rfl ?_
              refine lskip rfl rfl ?_
              refine lskip rfl rfl ?_
              refine lskip rfl rfl ?_
              refine lskip rfl rfl ?_
              refine lpure (v := .bool true) rfl (p_pick rfl) rfl rfl ?_
              refine lend ?_
              refine nseq ?_
              refine dcondT rfl rfl ?_
              refine dret ?_
              refine rblock ?_
              refine rseq ?_
              refine rloop ?_
              refine rblock ?_
              refine kin_r res_0 ?_
              refine rend_d X8159 (j := 2) rfl (.inl ⟨rfl, rfl⟩) (fun h8160 X8161 => ?_)
              refine rblock ?_
              refine rseq ?_
              exact kcut_r (res_2 (resC wd_3 (St.ld X8161 (j := 6) rfl rfl)) (resC wd_29 (St.ld X8161 (j := 5) rfl rfl))) X8161 rfl rfl
            · refine dskip ?_
              refine nblock ?_
              refine nrnd X8151 (j := 2) rfl (fun h8162 X8163 => ?_)
              refine lpure (v := .bool false) rfl (p_not rfl) rfl rfl ?_
              refine lpure (v := .bool false) rfl (p_move rfl) rfl rfl ?_
              refine lpure (v := .func (.yield l7811) #[] #[]) rfl (p_move rfl) rfl rfl ?_
              refine lread (v := .agg #[.int .i64 e8122.A, .int .i64 e8122.B, .int .i64 e8122.Per, .int .i64 e8122.Delay]) rfl (q_load wd_50 rfl) (St.ld X8163 (j := 1) rfl rfl) rfl ?_
              refine lpure (v := .int .i64 s8017) rfl (p_move rfl) rfl rfl ?_
              refine lpure (v := .int .i64 (w64 (2 * s8017))) rfl (p_mul rfl) rfl rfl ?_
              refine lpure (v := .int .i64 (w64 ((w64 (2 * s8017)) + 1))) rfl (p_add rfl) rfl rfl ?_
              refine lpure (v := .agg #[.int .i64 e8122.A, .int .i64 e8122.B, .int .i64 e8122.Per, .int .i64 e8122.Delay, .int .i64 (w64 ((w64 (2 * s8017)) + 1))]) rfl (p_build rfl) (build_st' tz_65 pl_65 rfl) rfl ?_
              refine lround rfl rfl rfl rfl rfl rfl X8163 (j := 2) rfl Q7814 rfl rfl rfl rfl rfl (fun t8164 => ?_)
              refine dreg ?_
              refine lalloc rfl tz_65 rfl rfl rfl X8163 (fun b8165 h8167 X8168 => ?_)
              refine lstore rfl ts_65 rfl rfl (j := 0) rfl rfl rfl rfl rfl rfl X8168 (fun h8169 X8170 => ?_)
              refine lend ?_
              refine basg X8170 (j := 3) rfl (fun h8171 X8172 => ?_)
              refine dblock ?_
              refine dseq ?_
              refine ddraw 0 0 0 (by kernel_rfl) ?_
              refine sload (v := .agg #[.int .i64 e8122.A, .int .i64 e8122.B, .int .i64 e8122.Per, .int .i64 e8122.Delay, .int .i64 (w64 ((w64 (2 * s8017)) + 1))]) rfl rfl (q_load wd_65 rfl) (St.ld X8172 (j := 0) rfl rfl) (same_self 20 rfl) rfl ?_
              refine scall (en := fun d => (.int .i64 d)) rfl rfl ca_41 rfl rfl (f41_ok X8172 ((TopoEnd.mk e8122 (w64 ((w64 (2 * s8017)) + 1))))) rfl (fun e8173 => ?_)
              refine sload (v := .int .i64 p7758) rfl rfl (q_load wd_3 rfl) (St.ld X8172 (j := 9) rfl rfl) (same_self 20 rfl) rfl ?_
              refine spure (v := .bool (decide (e8173 = p7758))) rfl (p_eq rfl) (lo_t rfl (lo_t rfl rfl)) rfl rfl ?_
              refine spure (v := .bool (decide (e8173 = p7758))) rfl (p_move rfl) (lo_t rfl rfl) rfl rfl ?_
              refine sjoinM (τ := Bool) (σ := Unit) (fun s8183 (_ : Unit) => [(6, .pointer (some ⟨b7772, 0, none⟩)), (7, .pointer (some ⟨b7776, 0, none⟩)), (9, .pointer (some ⟨b8165, 0, none⟩)), (37, .bool s8183)]) (fun s8183 (_ : Unit) hh => St φ h.n hh ([(some b8165, .cells [.int .i64 e8122.A, .int .i64 e8122.B, .int .i64 e8122.Per, .int .i64 e8122.Delay, .int .i64 (w64 ((w64 (2 * s8017)) + 1))] 65 .exact), (some b8132, .cells [.int .i64 e8122.A, .int .i64 e8122.B, .int .i64 e8122.Per, .int .i64 e8122.Delay, .int .i64 (w64 (2 * s8017))] 65 .exact), (some b8125, .cells [.int .i64 e8122.A, .int .i64 e8122.B, .int .i64 e8122.Per, .int .i64 e8122.Delay] 50 .exact), (some l7811, bsy q7812), (none, .dead), (some b7807, .cells [.int .i64 p7755.Nodes, .slice a7756 n7756 c7756, .slice a7757 n7757 c7757] 25 .exact), (some b7776, .cells [.int .i64 0] 29 .exact), (some b7772, .cells [.int .i64 0] 3 .exact), (some b7768, .cells [.int .i64 p7759] 3 .exact), (some b7764, .cells [.int .i64 p7758] 3 .exact), (some b7760, .cells [.int .i64 p7755.Nodes, .slice a7756 n7756 c7756, .slice a7757 n7757 c7757] 25 .exact)])) 5 10 ?_ ?_
              · rintro s8183 _ t0 h8185 X8184
                refine send ?_
                refine nseq ?_
                refine dcond rfl rfl (fun k8186 => ?_) (fun k8186 => ?_)
                · refine dseq ?_
                  refine dreg ?_
                  refine lpure (v := .pointer (some ⟨b8165, 4, none⟩)) rfl (p_fa fo_65_1 rfl) rfl rfl ?_
                  refine lread (v := .int .i64 (w64 ((w64 (2 * s8017)) + 1))) rfl (q_load wd_3 rfl) (St.ld X8184 (j := 0) rfl rfl) rfl ?_
                  refine lstore rfl ts_3 rfl rfl (j := 7) rfl rfl rfl rfl rfl rfl X8184 (fun h8187 X8188 => ?_)
                  refine lstore rfl ts_29 rfl rfl (j := 6) rfl rfl rfl rfl rfl rfl X8188 (fun h8189 X8190 => ?_)
                  refine lend ?_
                  refine nseq ?_
                  refine dret ?_
                  refine rblock ?_
                  refine rrnd X8190 (j := 3) rfl (fun h8191 X8192 => ?_)
                  refine lpure (v := .bool true) rfl (p_not rfl) rfl rfl ?_
                  refine lpure (v := .bool true) rfl (p_pick rfl) rfl rfl ?_
                  refine lend ?_
                  refine nseq ?_
                  refine dcondT rfl rfl ?_
                  refine dret ?_
                  refine rblock ?_
                  refine rseq ?_
                  refine rloop ?_
                  refine rblock ?_
                  refine kin_r res_0 ?_
                  refine rend_d X8192 (j := 3) rfl (.inl ⟨rfl, rfl⟩) (fun h8193 X8194 => ?_)
                  refine rblock ?_
                  refine rseq ?_
                  exact kcut_r (res_2 (resC wd_3 (St.ld X8194 (j := 7) rfl rfl)) (resC wd_29 (St.ld X8194 (j := 6) rfl rfl))) X8194 rfl rfl
                · refine dskip ?_
                  refine nblock ?_
                  refine nrnd X8184 (j := 3) rfl (fun h8195 X8196 => ?_)
                  refine lpure (v := .bool false) rfl (p_not rfl) rfl rfl ?_
                  refine lpure (v := .bool false) rfl (p_pick rfl) rfl rfl ?_
                  refine lend ?_
                  refine nseq ?_
                  refine dcondF rfl rfl ?_
                  refine dskip ?_
                  refine nblock ?_
                  refine nseq ?_
                  refine dreg ?_
                  refine lpure (v := .int .i64 (w64 (s8017 + 1))) rfl (p_add rfl) rfl rfl ?_
                  refine lpure (v := .int .i64 (w64 (s8017 + 1))) rfl (p_move rfl) rfl rfl ?_
                  refine lend ?_
                  exact kbackM ih8117 (w64 (s8017 + 1)) () (sub_cons rfl (sub_cons rfl (sub_cons rfl (sub_cons rfl sub_nil)))) (St.pick X8196 (.skip _ (.skip _ (.skip _ (.keep _ (.none _ (.skip _ (.keep _ (.keep _ (.keep _ (.keep _ (.keep _ (.keep _ (.nil _))))))))))))))
              · intro j8197 J8198
                refine sif (j := 32) (show _ = Value.bool (decide (e8173 = p7758)) from rfl) (fun k8199 => ?_) (fun k8199 => ?_)
                · refine sload (v := .agg #[.int .i64 e8122.A, .int .i64 e8122.B, .int .i64 e8122.Per, .int .i64 e8122.Delay, .int .i64 (w64 ((w64 (2 * s8017)) + 1))]) rfl rfl (q_load wd_65 rfl) (St.ld X8172 (j := 0) rfl rfl) (same_self 20 rfl) rfl ?_
                  refine scall (en := fun d => (.int .i64 d)) rfl rfl ca_42 rfl rfl (f42_ok X8172 ((TopoEnd.mk e8122 (w64 ((w64 (2 * s8017)) + 1))))) rfl (fun e8200 => ?_)
                  refine sload (v := .int .i64 p7759) rfl rfl (q_load wd_3 rfl) (St.ld X8172 (j := 8) rfl rfl) (same_self 20 rfl) rfl ?_
                  refine spure (v := .bool (decide (e8200 = p7759))) rfl (p_eq rfl) (lo_t rfl (lo_t rfl rfl)) rfl rfl ?_
                  refine spure (v := .bool (decide (e8200 = p7759))) rfl (p_pick rfl) (lo_t rfl (lo_t rfl (lo_c rfl))) rfl rfl ?_
                  exact sjmpM J8198 (decide (e8200 = p7759)) () (sub_cons rfl (sub_cons rfl (sub_cons rfl (sub_cons rfl sub_nil)))) (St.pick X8172 (.keep _ (.keep _ (.keep _ (.keep _ (.none _ (.skip _ (.keep _ (.keep _ (.keep _ (.keep _ (.keep _ (.keep _ (.nil _))))))))))))))
                · refine sskip rfl rfl ?_
                  refine sskip rfl rfl ?_
                  refine sskip rfl rfl ?_
                  refine sskip rfl rfl ?_
                  refine spure (v := .bool false) rfl (p_pick rfl) (lo_t rfl (lo_t rfl (lo_c rfl))) rfl rfl ?_
                  exact sjmpM J8198 false () (sub_cons rfl (sub_cons rfl (sub_cons rfl (sub_cons rfl sub_nil)))) (St.pick X8172 (.keep _ (.keep _ (.keep _ (.keep _ (.none _ (.skip _ (.keep _ (.keep _ (.keep _ (.keep _ (.keep _ (.keep _ (.nil _))))))))))))))
          · intro j8204 J8205
            refine sif (j := 32) (show _ = Value.bool (decide (e8140 = p7758)) from rfl) (fun k8206 => ?_) (fun k8206 => ?_)
            · refine sload (v := .agg #[.int .i64 e8122.A, .int .i64 e8122.B, .int .i64 e8122.Per, .int .i64 e8122.Delay, .int .i64 (w64 (2 * s8017))]) rfl rfl (q_load wd_65 rfl) (St.ld X8139 (j := 0) rfl rfl) (same_self 20 rfl) rfl ?_
              refine scall (en := fun d => (.int .i64 d)) rfl rfl ca_42 rfl rfl (f42_ok X8139 ((TopoEnd.mk e8122 (w64 (2 * s8017))))) rfl (fun e8207 => ?_)
              refine sload (v := .int .i64 p7759) rfl rfl (q_load wd_3 rfl) (St.ld X8139 (j := 7) rfl rfl) (same_self 20 rfl) rfl ?_
              refine spure (v := .bool (decide (e8207 = p7759))) rfl (p_eq rfl) (lo_t rfl (lo_t rfl rfl)) rfl rfl ?_
              refine spure (v := .bool (decide (e8207 = p7759))) rfl (p_pick rfl) (lo_t rfl (lo_t rfl (lo_c rfl))) rfl rfl ?_
              exact sjmpM J8205 (decide (e8207 = p7759)) () (sub_cons rfl (sub_cons rfl (sub_cons rfl (sub_cons rfl sub_nil)))) (St.pick X8139 (.keep _ (.keep _ (.keep _ (.none _ (.skip _ (.keep _ (.keep _ (.keep _ (.keep _ (.keep _ (.keep _ (.nil _)))))))))))))
            · refine sskip rfl rfl ?_
              refine sskip rfl rfl ?_
              refine sskip rfl rfl ?_
              refine sskip rfl rfl ?_
              refine spure (v := .bool false) rfl (p_pick rfl) (lo_t rfl (lo_t rfl (lo_c rfl))) rfl rfl ?_
              exact sjmpM J8205 false () (sub_cons rfl (sub_cons rfl (sub_cons rfl (sub_cons rfl sub_nil)))) (St.pick X8139 (.keep _ (.keep _ (.keep _ (.none _ (.skip _ (.keep _ (.keep _ (.keep _ (.keep _ (.keep _ (.keep _ (.nil _)))))))))))))
        · refine dexit ?_
          refine eseq ?_
          refine eloop ?_
          refine xblock ?_
          refine kin_n res_0 ?_
          refine rend_n X8119 (j := 0) rfl (fun h8211 X8212 => ?_)
          refine nblock ?_
          refine nseq ?_
          refine dseq ?_
          refine dreg ?_
          refine lstore rfl ts_3 rfl rfl (j := 4) rfl rfl rfl rfl rfl rfl X8212 (fun h8213 X8214 => ?_)
          refine lstore rfl ts_29 rfl rfl (j := 3) rfl rfl rfl rfl rfl rfl X8214 (fun h8215 X8216 => ?_)
          refine lend ?_
          refine nseq ?_
          refine dret ?_
          exact kcut_r (res_2 (resC wd_3 (St.ld X8216 (j := 4) rfl rfl)) (resC wd_29 (St.ld X8216 (j := 3) rfl rfl))) X8216 rfl rfl
    · intro j8217 J8218
      refine lif (i := 19) (show _ = Value.bool (!e7789) from rfl) (fun k8219 => ?_) (fun k8219 => ?_)
      · refine lskip rfl rfl ?_
        refine lskip rfl rfl ?_
        refine lskip rfl rfl ?_
        refine lskip rfl rfl ?_
        refine lpure (v := .bool true) rfl (p_pick rfl) rfl rfl ?_
        exact ljmpM J8218 true () (sub_cons rfl (sub_cons rfl (sub_cons rfl (sub_cons rfl (sub_cons rfl (sub_cons rfl sub_nil)))))) X7779
      · refine lread (v := .agg #[.int .i64 p7755.Nodes, .slice a7756 n7756 c7756, .slice a7757 n7757 c7757]) rfl (q_load wd_25 rfl) (St.ld X7779 (j := 4) rfl rfl) rfl ?_
        refine lread (v := .int .i64 p7759) rfl (q_load wd_3 rfl) (St.ld X7779 (j := 2) rfl rfl) rfl ?_
        refine lcall rfl rfl ca_39 rfl rfl (f39_ok X7779 p7755 p7759 H7756 H7757) rfl (fun e8220 v8221 h8222 hq8223 => ?_)
        cases hq8223
        refine lpure (v := .bool (!e8220)) rfl (p_not rfl) rfl rfl ?_
        refine lpure (v := .bool (!e8220)) rfl (p_pick rfl) rfl rfl ?_
        exact ljmpM J8218 (!e8220) () (sub_cons rfl (sub_cons rfl (sub_cons rfl (sub_cons rfl (sub_cons rfl (sub_cons rfl sub_nil)))))) X7779
/-! isochron/topo.Reach -/
theorem f17_ok {n : Nat} {φ : Fz} {lo : Nat} {h : Heap} {own : OwnL} (X : St φ lo h own) (p8391 : ApiTopo) (p8394 : Int) (p8395 : (List Int)) {a8392 : Option Addr} {n8392 c8392 : Nat} {a8393 : Option Addr} {n8393 c8393 : Nat} {a8396 : Option Addr} {n8396 c8396 : Nat} (H8392 : RSl eBool φ (.slice a8392 n8392 c8392) p8391.Station) (H8393 : RSl eApiLink φ (.slice a8393 n8393 c8393) p8391.Links) (H8396 : RSl (eInt .i64) φ (.slice a8396 n8396 c8396) p8395) : Sim ((recN Try.prog LL cutF (n + 7)).call 17 #[(.agg #[.int .i64 p8391.Nodes, .slice a8392 n8392 c8392, .slice a8393 n8393 c8393]), (.int .i64 p8394), (.slice a8396 n8396 c8396)] h) (m_topo_Reach p8391 p8394 p8395) (fun (d : ((List Bool) × Int)) p => ∃ φ2 : Fz, ∃ a8552 : Option Addr, ∃ n8552 : Nat, ∃ c8552 : Nat, ∃ ob8552 : Option Nat, ∃ blk8552 : Blk, Fz.le φ φ2 ∧ St φ2 lo p.2 ((ob8552, blk8552) :: own) ∧ p.1 = .tuple #[.slice a8552 n8552 c8552, .int .i64 d.2] ∧ OSl eBool φ2 4 ob8552 blk8552 (.slice a8552 n8552 c8552) d.1) := by
  refine fopen Try.func17 rfl rfl rfl rfl ?_
  refine dseq ?_
  refine dreg ?_
  refine lbox rfl rfl rfl rfl rfl X (fun b8397 h8399 X8400 => ?_)
  refine lpure (v := .slice none 0 0) rfl (p_assign rfl) rfl rfl ?_
  refine lpure (v := .int .i64 0) rfl (p_assign rfl) rfl rfl ?_
  refine lend ?_
  refine nseq ?_
  refine dseq ?_
  refine dseq ?_
  refine dreg ?_
  refine lread (v := .agg #[.int .i64 p8391.Nodes, .slice a8392 n8392 c8392, .slice a8393 n8393 c8393]) rfl (q_load wd_25 rfl) (St.ld X8400 (j := 0) rfl rfl) rfl ?_
  refine lcall rfl rfl ca_34 rfl rfl (f34_ok X8400 p8391 H8392 H8393) rfl (fun e8401 v8402 h8403 hq8404 => ?_)
  cases hq8404
  refine lpure (v := .int .i64 e8401) rfl (p_assign rfl) rfl rfl ?_
  refine lend ?_
  refine nseq ?_
  refine dseq ?_
  refine dreg ?_
  refine lpure (v := .int .i64 e8401) rfl (p_move rfl) rfl rfl ?_
  refine lpure (v := .bool (decide (e8401 ≠ 0))) rfl (p_ne rfl) rfl rfl ?_
  refine lend ?_
  refine nseq ?_
  refine dcond rfl rfl (fun k8405 => ?_) (fun k8405 => ?_)
  · refine dseq ?_
    refine dreg ?_
    refine lpure (v := .int .i64 e8401) rfl (p_move rfl) rfl rfl ?_
    refine lpure (v := .slice none 0 0) rfl (p_assign rfl) rfl rfl ?_
    refine lpure (v := .int .i64 e8401) rfl (p_assign rfl) rfl rfl ?_
    refine lend ?_
    refine nseq ?_
    refine dret ?_
    refine rseq ?_
    exact kopen_r (res_2 resT resT) ⟨φ, none, 0, 0, none, (.dead), (Fz.le_refl _), St.pick X8400 (.none _ (.skip _ (.refl _))), rfl, OSl.nil⟩
  · refine dskip ?_
    refine nseq ?_
    refine dseq ?_
    refine dseq ?_
    refine dreg ?_
    refine lread (v := .agg #[.int .i64 p8391.Nodes, .slice a8392 n8392 c8392, .slice a8393 n8393 c8393]) rfl (q_load wd_25 rfl) (St.ld X8400 (j := 0) rfl rfl) rfl ?_
    refine lpure (v := .int .i64 p8394) rfl (p_move rfl) rfl rfl ?_
    refine lcall rfl rfl ca_39 rfl rfl (f39_ok X8400 p8391 p8394 H8392 H8393) rfl (fun e8406 v8407 h8408 hq8409 => ?_)
    cases hq8409
    refine lpure (v := .bool (!e8406)) rfl (p_not rfl) rfl rfl ?_
    refine lpure (v := .bool (!e8406)) rfl (p_move rfl) rfl rfl ?_
    refine ljoinM (τ := Bool) (σ := Unit) (fun s8474 (_ : Unit) => [(1, .int .i64 p8394), (2, .slice a8396 n8396 c8396), (3, .pointer (some ⟨b8397, 0, none⟩)), (22, .bool s8474)]) (fun s8474 (_ : Unit) hh => St φ lo hh ((some b8397, .cells [.int .i64 p8391.Nodes, .slice a8392 n8392 c8392, .slice a8393 n8393 c8393] 25 .exact) :: own)) 4 ?_ ?_
    · rintro s8474 _ t0 h8476 X8475
      refine lend ?_
      refine nseq ?_
      refine dcond rfl rfl (fun k8477 => ?_) (fun k8477 => ?_)
      · refine dseq ?_
        refine dreg ?_
        refine lpure (v := .slice none 0 0) rfl (p_assign rfl) rfl rfl ?_
        refine lpure (v := .int .i64 2) rfl (p_assign rfl) rfl rfl ?_
        refine lend ?_
        refine nseq ?_
        refine dret ?_
        refine rseq ?_
        exact kopen_r (res_2 resT resT) ⟨φ, none, 0, 0, none, (.dead), (Fz.le_refl _), St.pick X8475 (.none _ (.skip _ (.refl _))), rfl, OSl.nil⟩
      · refine dskip ?_
        refine nseq ?_
        refine dseq ?_
        refine dreg ?_
        refine lread (v := .agg #[.int .i64 p8391.Nodes, .slice a8392 n8392 c8392, .slice a8393 n8393 c8393]) rfl (q_load wd_25 rfl) (St.ld X8475 (j := 0) rfl rfl) rfl ?_
        refine lpure (v := .int .i64 p8394) rfl (p_move rfl) rfl rfl ?_
        refine lpure (v := .slice a8396 n8396 c8396) rfl (p_move rfl) rfl rfl ?_
        refine lcall rfl rfl ca_47 rfl rfl (f47_ok X8475 p8391 p8394 p8395 H8392 H8393 H8396) rfl ?_
        rintro e8478 _ h8480 ⟨φ8482, a8485, n8485, c8485, ob8485, blk8485, g8483, X8484, rfl, O8485⟩
        refine lpure (v := .slice a8485 n8485 c8485) rfl (p_assign rfl) rfl rfl ?_
        refine lpure (v := .int .i64 0) rfl (p_assign rfl) rfl rfl ?_
        refine lend ?_
        refine nseq ?_
        refine dret ?_
        exact kopen_r (res_2 resT resT) ⟨φ8482, a8485, n8485, c8485, ob8485, blk8485, g8483, St.pick X8484 (.keep _ (.skip _ (.refl _))), rfl, O8485⟩
    · intro j8487 J8488
      refine lif (i := 18) (show _ = Value.bool (!e8406) from rfl) (fun k8489 => ?_) (fun k8489 => ?_)
      · refine lskip rfl rfl ?_
        refine lskip rfl rfl ?_
        refine lskip rfl rfl ?_
        refine lpure (v := .bool true) rfl (p_pick rfl) rfl rfl ?_
        exact ljmpM J8488 true () (sub_cons rfl (sub_cons rfl (sub_cons rfl (sub_cons rfl sub_nil)))) X8400
      · refine lpure (v := .slice a8396 n8396 c8396) rfl (p_move rfl) rfl rfl ?_
        refine lpure (v := .func (.func 46) #[] #[.pointer (some ⟨b8397, 0, none⟩)]) rfl (p_makeFunc rfl) rfl rfl ?_
        refine linl rfl rfl rfl rfl ca_45 rfl Try.func45 rfl rfl rfl rfl rfl ?_
        refine dseq ?_
        refine dreg ?_
        refine lpure (v := .bool false) rfl (p_assign rfl) rfl rfl ?_
        refine lend ?_
        refine nseq ?_
        refine dseq ?_
        refine dreg ?_
        refine lpure (v := .slice a8396 n8396 c8396) rfl (p_move rfl) rfl rfl ?_
        refine lpure (v := .func (.func 46) #[] #[.pointer (some ⟨b8397, 0, none⟩)]) rfl (p_move rfl) rfl rfl ?_
        refine linl rfl rfl rfl rfl ca_64 rfl Try.func64 rfl rfl rfl rfl rfl ?_
        refine dseq ?_
        refine dreg ?_
        refine lpure (v := .int .i64 0) rfl (p_assign rfl) rfl rfl ?_
        refine lend ?_
        refine nseq ?_
        refine dseq ?_
        refine dseq ?_
        refine dreg ?_
        refine lpure (v := .slice a8396 n8396 c8396) rfl (p_move rfl) rfl rfl ?_
        refine lpure (v := .int .i64 (p8395.length : Int)) rfl (p_len rfl rfl rfl un_28 rfl) (RSl.lenC H8396) rfl ?_
        refine lpure (v := .int .i64 0) rfl (p_move rfl) rfl rfl ?_
        refine lend ?_
        refine nseq ?_
        refine dblock ?_
        refine dloopM (τ := Int) (σ := Unit) (fun s8520 (_ : Unit) => [(0, .slice a8396 n8396 c8396), (1, .func (.func 46) #[] #[.pointer (some ⟨b8397, 0, none⟩)]), (7, .int .i64 (p8395.length : Int)), (8, .int .i64 s8520)]) (fun s8520 (_ : Unit) hh => St φ lo hh ((some b8397, .cells [.int .i64 p8391.Nodes, .slice a8392 n8392 c8392, .slice a8393 n8393 c8393] 25 .exact) :: own)) 0 () (sub_cons rfl (sub_cons rfl (sub_cons rfl (sub_cons rfl sub_nil)))) X8400 ?_
        rintro n8537 ih8536 s8520 _ t0 h8539 X8538
        refine dseq ?_
        refine dreg ?_
        refine lpure (v := .bool (decide (s8520 < (p8395.length : Int)))) rfl (p_lt rfl) rfl rfl ?_
        refine lend ?_
        refine nseq ?_
        refine dseq ?_
        refine dcond rfl rfl (fun k8540 => ?_) (fun k8540 => ?_)
        · refine dskip ?_
          refine nseq ?_
          refine dseq ?_
          refine dblock ?_
          refine dseq ?_
          refine dreg ?_
          refine lpure (v := .int .i64 s8520) rfl (p_move rfl) rfl rfl ?_
          refine lpure (v := .int .i64 s8520) rfl (p_assign rfl) rfl rfl ?_
          refine lend ?_
          refine nseq ?_
          refine dseq ?_
          refine dreg ?_
          refine lpure (v := .func (.func 46) #[] #[.pointer (some ⟨b8397, 0, none⟩)]) rfl (p_move rfl) rfl rfl ?_
          refine lpure (v := .slice a8396 n8396 c8396) rfl (p_move rfl) rfl rfl ?_
          refine lpure (v := .int .i64 s8520) rfl (p_move rfl) rfl rfl ?_
          refine Sim.bindM fun e8541 he8542 => ?_
          obtain ⟨p8543, cs8543, hp8543, hF8543, hR8543⟩ := RSl.ia H8396 he8542 (kd := .i64) (n := 1) rfl
          have hR8543 : _ = [(.int .i64 e8541 : Value)] := hR8543
          subst hR8543
          refine lpure (v := p8543) rfl (p_ia rs_28 rfl) hp8543 rfl ?_
          refine lread (v := .int .i64 e8541) rfl (q_load wd_3 rfl) (FP.ld X8538 hF8543) rfl ?_
          refine linl rfl rfl rfl rfl ca_46 rfl Try.func46 rfl rfl rfl rfl rfl ?_
          refine dseq ?_
          refine dreg ?_
          refine lpure (v := .bool false) rfl (p_assign rfl) rfl rfl ?_
          refine lend ?_
          refine nseq ?_
          refine dseq ?_
          refine dreg ?_
          refine lpure (v := .int .i64 e8541) rfl (p_move rfl) rfl rfl ?_
          refine lpure (v := .bool (decide (e8541 < 0))) rfl (p_lt rfl) rfl rfl ?_
          refine lpure (v := .bool (decide (e8541 < 0))) rfl (p_move rfl) rfl rfl ?_
          refine lsh (τ := Bool) (σ := Unit) (fun s8545 (_ : Unit) => [(12, .bool s8545)]) (fun s8545 (_ : Unit) hh => St φ lo hh ((some b8397, .cells [.int .i64 p8391.Nodes, .slice a8392 n8392 c8392, .slice a8393 n8393 c8393] 25 .exact) :: own)) 6 ?_ ?_
          · rintro s8545 _ t0 h8547 X8546
            refine lpure (v := .bool s8545) rfl (p_assign rfl) rfl rfl ?_
            refine lend ?_
            refine nseq ?_
            refine dret ?_
            refine kin_r (res_1 resT) ?_
            refine lend ?_
            refine nseq ?_
            refine dcond rfl rfl (fun k8548 => ?_) (fun k8548 => ?_)
            · refine dseq ?_
              refine dreg ?_
              refine lpure (v := .int .i64 s8520) rfl (p_move rfl) rfl rfl ?_
              refine lpure (v := .int .i64 s8520) rfl (p_assign rfl) rfl rfl ?_
              refine lend ?_
              refine nseq ?_
              refine dret ?_
              refine rblock ?_
              refine rseq ?_
              refine rloop ?_
              refine rblock ?_
              refine rseq ?_
              refine kin_r (res_1 resT) ?_
              refine lpure (v := .bool (decide (0 ≤ s8520))) rfl (p_ge rfl) rfl rfl ?_
              refine lpure (v := .bool (decide (0 ≤ s8520))) rfl (p_assign rfl) rfl rfl ?_
              refine lend ?_
              refine nseq ?_
              refine dret ?_
              refine kin_r (res_1 resT) ?_
              refine lpure (v := .bool (decide (0 ≤ s8520))) rfl (p_pick rfl) rfl rfl ?_
              exact ljmpM J8488 (decide (0 ≤ s8520)) () (sub_cons rfl (sub_cons rfl (sub_cons rfl (sub_cons rfl sub_nil)))) X8546
            · refine dskip ?_
              refine nblock ?_
              refine nseq ?_
              refine dreg ?_
              refine lpure (v := .int .i64 (w64 (s8520 + 1))) rfl (p_add rfl) rfl rfl ?_
              refine lpure (v := .int .i64 (w64 (s8520 + 1))) rfl (p_move rfl) rfl rfl ?_
              refine lend ?_
              exact kbackM ih8536 (w64 (s8520 + 1)) () (sub_cons rfl (sub_cons rfl (sub_cons rfl (sub_cons rfl sub_nil)))) X8546
          · intro j8549 J8550
            refine lcase (i := 6) (show _ = Value.bool (decide (e8541 < 0)) from rfl) (fun k8551 => ?_) (fun k8551 => ?_)
            · refine lskip rfl rfl ?_
              refine lskip rfl rfl ?_
              refine lskip rfl rfl ?_
              refine lskip rfl rfl ?_
              refine lskip rfl rfl ?_
              refine lpure (v := .bool true) rfl (p_pick rfl) rfl rfl ?_
              refine Sim.of_eq (congrArg j8549 (show ((decide (e8541 < 0)) || (decide ((p8391.Links.length : Int) ≤ e8541))) = true from by rw [k8551] <;> rfl)) ?_
              exact ljmpM J8550 true () (sub_cons rfl sub_nil) X8538
            · refine lpure (v := .int .i64 e8541) rfl (p_move rfl) rfl rfl ?_
              refine lpure (v := .pointer (some ⟨b8397, 2, none⟩)) rfl (p_fa fo_25_2 rfl) rfl rfl ?_
              refine lread (v := .slice a8393 n8393 c8393) rfl (q_load wd_23 rfl) (St.ld X8538 (j := 0) rfl rfl) rfl ?_
              refine lpure (v := .int .i64 (p8391.Links.length : Int)) rfl (p_len rfl rfl rfl un_23 rfl) (RSl.lenC H8393) rfl ?_
              refine lpure (v := .bool (decide ((p8391.Links.length : Int) ≤ e8541))) rfl (p_ge rfl) rfl rfl ?_
              refine lpure (v := .bool (decide ((p8391.Links.length : Int) ≤ e8541))) rfl (p_pick rfl) rfl rfl ?_
              refine Sim.of_eq (congrArg j8549 (show ((decide (e8541 < 0)) || (decide ((p8391.Links.length : Int) ≤ e8541))) = (decide ((p8391.Links.length : Int) ≤ e8541)) from by rw [k8551] <;> rfl)) ?_
              exact ljmpM J8550 (decide ((p8391.Links.length : Int) ≤ e8541)) () (sub_cons rfl sub_nil) X8538
        · refine dexit ?_
          refine eseq ?_
          refine eloop ?_
          refine xblock ?_
          refine nseq ?_
          refine dseq ?_
          refine dreg ?_
          refine lpure (v := .int .i64 (-1)) rfl (p_assign rfl) rfl rfl ?_
          refine lend ?_
          refine nseq ?_
          refine dret ?_
          refine kin_r (res_1 resT) ?_
          refine lpure (v := .bool false) rfl (p_ge rfl) rfl rfl ?_
          refine lpure (v := .bool false) rfl (p_assign rfl) rfl rfl ?_
          refine lend ?_
          refine nseq ?_
          refine dret ?_
          refine kin_r (res_1 resT) ?_
          refine lpure (v := .bool false) rfl (p_pick rfl) rfl rfl ?_
          exact ljmpM J8488 false () (sub_cons rfl (sub_cons rfl (sub_cons rfl (sub_cons rfl sub_nil)))) X8538
/-! slices.Equal[[]int,int] -/
theorem f14_ok {n : Nat} {φ : Fz} {lo : Nat} {h : Heap} {own : OwnL} (X : St φ lo h own) (p8615 : (List Int)) (p8617 : (List Int)) {a8616 : Option Addr} {n8616 c8616 : Nat} {a8618 : Option Addr} {n8618 c8618 : Nat} (H8616 : RSl (eInt .i64) φ (.slice a8616 n8616 c8616) p8615) (H8618 : RSl (eInt .i64) φ (.slice a8618 n8618 c8618) p8617) : Sim ((recN Try.prog LL cutF (n + 1)).call 14 #[(.slice a8616 n8616 c8616), (.slice a8618 n8618 c8618)] h) (m_slices_Equal_int_int p8615 p8617) (fun (d : Bool) p => p = (.bool d, h)) := by
  refine fcut Try.func14 rfl rfl rfl rfl X ?_
  intro h0 X0
  refine dseq ?_
  refine dreg ?_
  refine lpure (v := .bool false) rfl (p_assign rfl) rfl rfl ?_
  refine lend ?_
  refine nseq ?_
  refine dseq ?_
  refine dseq ?_
  refine dreg ?_
  refine lpure (v := .slice a8616 n8616 c8616) rfl (p_move rfl) rfl rfl ?_
  refine lpure (v := .int .i64 (p8615.length : Int)) rfl (p_len rfl rfl rfl un_28 rfl) (RSl.lenC H8616) rfl ?_
  refine lpure (v := .slice a8618 n8618 c8618) rfl (p_move rfl) rfl rfl ?_
  refine lpure (v := .int .i64 (p8617.length : Int)) rfl (p_len rfl rfl rfl un_28 rfl) (RSl.lenC H8618) rfl ?_
  refine lpure (v := .bool (decide ((p8615.length : Int) ≠ (p8617.length : Int)))) rfl (p_ne rfl) rfl rfl ?_
  refine lend ?_
  refine nseq ?_
  refine dcond rfl rfl (fun k8619 => ?_) (fun k8619 => ?_)
  · refine dseq ?_
    refine dreg ?_
    refine lpure (v := .bool false) rfl (p_assign rfl) rfl rfl ?_
    refine lend ?_
    refine nseq ?_
    refine dret ?_
    refine rseq ?_
    exact kcut_r (res_1 resT) X0 rfl rfl
  · refine dskip ?_
    refine nseq ?_
    refine dseq ?_
    refine dseq ?_
    refine dreg ?_
    refine lpure (v := .slice a8616 n8616 c8616) rfl (p_move rfl) rfl rfl ?_
    refine lpure (v := .int .i64 (p8615.length : Int)) rfl (p_len rfl rfl rfl un_28 rfl) (RSl.lenC H8616) rfl ?_
    refine lpure (v := .int .i64 0) rfl (p_move rfl) rfl rfl ?_
    refine lend ?_
    refine nseq ?_
    refine dblock ?_
    refine dloopM (τ := Int) (σ := Unit) (fun s8642 (_ : Unit) => [(0, .slice a8616 n8616 c8616), (1, .slice a8618 n8618 c8618), (12, .int .i64 (p8615.length : Int)), (13, .int .i64 s8642)]) (fun s8642 (_ : Unit) hh => St φ h.n hh ([])) 0 () (sub_cons rfl (sub_cons rfl (sub_cons rfl (sub_cons rfl sub_nil)))) X0 ?_
    rintro n8655 ih8654 s8642 _ t0 h8657 X8656
    refine dseq ?_
    refine dreg ?_
    refine lpure (v := .bool (decide (s8642 < (p8615.length : Int)))) rfl (p_lt rfl) rfl rfl ?_
    refine lend ?_
    refine nseq ?_
    refine dseq ?_
    refine dcond rfl rfl (fun k8658 => ?_) (fun k8658 => ?_)
    · refine dskip ?_
      refine nseq ?_
      refine dseq ?_
      refine dblock ?_
      refine dseq ?_
      refine dreg ?_
      refine lpure (v := .int .i64 s8642) rfl (p_move rfl) rfl rfl ?_
      refine lpure (v := .int .i64 s8642) rfl (p_assign rfl) rfl rfl ?_
      refine lend ?_
      refine nseq ?_
      refine dseq ?_
      refine ddraw 0 0 0 (by kernel_rfl) ?_
      refine spure (v := .slice a8616 n8616 c8616) rfl (p_move rfl) (lo_t (lo_sl X8656 H8616) rfl) rfl rfl ?_
      refine spure (v := .int .i64 s8642) rfl (p_move rfl) (lo_t rfl rfl) rfl rfl ?_
      refine Sim.bindM fun e8659 he8660 => ?_
      obtain ⟨p8661, cs8661, hp8661, hF8661, hR8661⟩ := RSl.ia H8616 he8660 (kd := .i64) (n := 1) rfl
      have hR8661 : _ = [(.int .i64 e8659 : Value)] := hR8661
      subst hR8661
      refine spure (v := p8661) rfl (p_ia rs_28 rfl) (lo_t (lo_sl X8656 H8616) (lo_t rfl rfl)) hp8661 rfl ?_
      refine sload (v := .int .i64 e8659) rfl rfl (q_load wd_3 rfl) (FP.ld X8656 hF8661) (same_self 20 rfl) rfl ?_
      refine spure (v := .slice a8618 n8618 c8618) rfl (p_move rfl) (lo_t (lo_sl X8656 H8618) rfl) rfl rfl ?_
      refine spure (v := .int .i64 s8642) rfl (p_move rfl) (lo_t rfl rfl) rfl rfl ?_
      refine Sim.bindM fun e8662 he8663 => ?_
      obtain ⟨p8664, cs8664, hp8664, hF8664, hR8664⟩ := RSl.ia H8618 he8663 (kd := .i64) (n := 1) rfl
      have hR8664 : _ = [(.int .i64 e8662 : Value)] := hR8664
      subst hR8664
      refine spure (v := p8664) rfl (p_ia rs_28 rfl) (lo_t (lo_sl X8656 H8618) (lo_t rfl rfl)) hp8664 rfl ?_
      refine sload (v := .int .i64 e8662) rfl rfl (q_load wd_3 rfl) (FP.ld X8656 hF8664) (same_self 20 rfl) rfl ?_
      refine spure (v := .bool (decide (e8659 ≠ e8662))) rfl (p_ne rfl) (lo_t rfl (lo_t rfl rfl)) rfl rfl ?_
      refine send ?_
      refine nseq ?_
      refine dcond rfl rfl (fun k8665 => ?_) (fun k8665 => ?_)
      · refine dseq ?_
        refine dreg ?_
        refine lpure (v := .bool false) rfl (p_assign rfl) rfl rfl ?_
        refine lend ?_
        refine nseq ?_
        refine dret ?_
        refine rblock ?_
        refine rseq ?_
        refine rloop ?_
        refine rblock ?_
        refine rseq ?_
        exact kcut_r (res_1 resT) X8656 rfl rfl
      · refine dskip ?_
        refine nblock ?_
        refine nseq ?_
        refine dreg ?_
        refine lpure (v := .int .i64 (w64 (s8642 + 1))) rfl (p_add rfl) rfl rfl ?_
        refine lpure (v := .int .i64 (w64 (s8642 + 1))) rfl (p_move rfl) rfl rfl ?_
        refine lend ?_
        exact kbackM ih8654 (w64 (s8642 + 1)) () (sub_cons rfl (sub_cons rfl (sub_cons rfl (sub_cons rfl sub_nil)))) X8656
    · refine dexit ?_
      refine eseq ?_
      refine eloop ?_
      refine xblock ?_
      refine nseq ?_
      refine dseq ?_
      refine dreg ?_
      refine lpure (v := .bool true) rfl (p_assign rfl) rfl rfl ?_
      refine lend ?_
      refine nseq ?_
      refine dret ?_
      exact kcut_r (res_1 resT) X8656 rfl rfl
end Go.AM
