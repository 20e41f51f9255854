/- Printed: functions of the given program as functions over plain data, and that the machine does what they say; no claim of its own; no condition. -/
import Derived.Test.YtlkddekecegfdaaGtFacts
set_option maxRecDepth 100000
set_option maxHeartbeats 4000000
set_option linter.unusedVariables false
set_option linter.unusedSimpArgs false
namespace Go.AM
open Go Go.Proofs

/-! isochron/isochronlaw16.line -/
theorem f29_ok {n : Nat} {φ : Fz} {lo : Nat} {h : Heap} {own : OwnL}  (X : St φ lo h (own)) : Sim ((recN Try.prog LL cutF (n + 1)).call 29 #[] h) (m_isochronlaw16_line) (fun (d : ApiTopo) p => ∃ φ2 : Fz, ∃ a30 : Option Addr, ∃ n30 : Nat, ∃ c30 : Nat, ∃ ob30 : Option Nat, ∃ blk30 : Blk, ∃ a32 : Option Addr, ∃ n32 : Nat, ∃ c32 : Nat, ∃ ob32 : Option Nat, ∃ blk32 : Blk, Fz.le φ φ2 ∧ St φ2 lo p.2 ((ob30, blk30) :: (ob32, blk32) :: own) ∧ p.1 = .agg #[.int .i64 d.Nodes, .slice a30 n30 c30, .slice a32 n32 c32] ∧ OSl eBool φ2 4 ob30 blk30 (.slice a30 n30 c30) d.Station ∧ OSl eApiLink φ2 75 ob32 blk32 (.slice a32 n32 c32) d.Links) := by
  refine fopen Try.func29 rfl rfl rfl rfl ?_
  refine dseq ?_
  refine dreg ?_
  refine lalloc rfl tz_29 rfl rfl rfl X (fun b20 h22 X23 => ?_)
  refine lend ?_
  refine nseq ?_
  refine dseq ?_
  refine dreg ?_
  obtain ⟨h24, b24, hv24, X24, O24⟩ := OSl.lay (E := eBool) (φ := φ) (cs := [.bool true, .bool false, .bool false, .bool true]) (l := [true, false, false, true]) (len := 4) (parts := [(0, .bool true), (1, .bool false), (2, .bool false), (3, .bool true)]) un_26 ts_4 rfl rfl rfl tz_4 rfl rfl (show RowD eBool φ [.bool true, .bool false, .bool false, .bool true] [true, false, false, true] from ⟨[.bool true], _, rfl, rfl, ⟨[.bool false], _, rfl, rfl, ⟨[.bool false], _, rfl, rfl, ⟨[.bool true], _, rfl, rfl, rfl⟩⟩⟩⟩) rfl rfl X23
  refine lheap rfl (h_buildSlice rfl) hv24 rfl ?_
  refine lpure (v := .agg #[.int .i64 0, .int .i64 1, .int .i64 8, .int .i64 50]) rfl (p_build rfl) (build_st' tz_75 pl_75 rfl) rfl ?_
  refine lpure (v := .agg #[.int .i64 1, .int .i64 2, .int .i64 8, .int .i64 0]) rfl (p_build rfl) (build_st' tz_75 pl_75 rfl) rfl ?_
  refine lpure (v := .agg #[.int .i64 2, .int .i64 3, .int .i64 80, .int .i64 7]) rfl (p_build rfl) (build_st' tz_75 pl_75 rfl) rfl ?_
  obtain ⟨h26, b26, hv26, X26, O26⟩ := OSl.lay (E := eApiLink) (φ := φ) (cs := [.int .i64 0, .int .i64 1, .int .i64 8, .int .i64 50, .int .i64 1, .int .i64 2, .int .i64 8, .int .i64 0, .int .i64 2, .int .i64 3, .int .i64 80, .int .i64 7]) (l := [(ApiLink.mk 0 1 8 50), (ApiLink.mk 1 2 8 0), (ApiLink.mk 2 3 80 7)]) (len := 3) (parts := [(0, .agg #[.int .i64 0, .int .i64 1, .int .i64 8, .int .i64 50]), (1, .agg #[.int .i64 1, .int .i64 2, .int .i64 8, .int .i64 0]), (2, .agg #[.int .i64 2, .int .i64 3, .int .i64 80, .int .i64 7])]) un_27 ts_75 rfl rfl rfl tz_75 rfl rfl (show RowD eApiLink φ [.int .i64 0, .int .i64 1, .int .i64 8, .int .i64 50, .int .i64 1, .int .i64 2, .int .i64 8, .int .i64 0, .int .i64 2, .int .i64 3, .int .i64 80, .int .i64 7] [(ApiLink.mk 0 1 8 50), (ApiLink.mk 1 2 8 0), (ApiLink.mk 2 3 80 7)] from ⟨[.int .i64 0, .int .i64 1, .int .i64 8, .int .i64 50], _, rfl, ⟨_, _, rfl, rfl, ⟨_, _, rfl, rfl, ⟨_, _, rfl, rfl, ⟨_, _, rfl, rfl, rfl⟩⟩⟩⟩, ⟨[.int .i64 1, .int .i64 2, .int .i64 8, .int .i64 0], _, rfl, ⟨_, _, rfl, rfl, ⟨_, _, rfl, rfl, ⟨_, _, rfl, rfl, ⟨_, _, rfl, rfl, rfl⟩⟩⟩⟩, ⟨[.int .i64 2, .int .i64 3, .int .i64 80, .int .i64 7], _, rfl, ⟨_, _, rfl, rfl, ⟨_, _, rfl, rfl, ⟨_, _, rfl, rfl, ⟨_, _, rfl, rfl, rfl⟩⟩⟩⟩, rfl⟩⟩⟩) rfl rfl X24
  refine lheap rfl (h_buildSlice rfl) hv26 rfl ?_
  refine lpure (v := .agg #[.int .i64 4, .slice (some ⟨b24, 0, none⟩) 4 4, .slice (some ⟨b26, 0, none⟩) 3 3]) rfl (p_build rfl) (build_st' tz_29 pl_29 rfl) rfl ?_
  refine lstore rfl ts_29 rfl rfl (j := 2) rfl rfl rfl rfl rfl rfl X26 (fun h28 X29 => ?_)
  refine lend ?_
  refine nseq ?_
  refine dret ?_
  exact kopen_r (res_1 (resC wd_29 (St.ld X29 (j := 2) rfl rfl))) ⟨φ, ((some ⟨b24, 0, none⟩)), 4, 4, (some b24), ((.cells [.bool true, .bool false, .bool false, .bool true] 4 .exact)), ((some ⟨b26, 0, none⟩)), 3, 3, (some b26), ((.cells [.int .i64 0, .int .i64 1, .int .i64 8, .int .i64 50, .int .i64 1, .int .i64 2, .int .i64 8, .int .i64 0, .int .i64 2, .int .i64 3, .int .i64 80, .int .i64 7] 75 .exact)), (Fz.le_refl _), St.pick (St.front X29 (j := 1) rfl) (.keep _ (.keep _ (.skip _ (.refl _)))), rfl, O24, O26⟩
/-! isochron/topo.isNode -/
theorem f40_ok {n : Nat} {φ : Fz} {lo : Nat} {h : Heap} {own : OwnL}  {a115 : Option Addr} {n115 c115 : Nat} {a116 : Option Addr} {n116 c116 : Nat} (X : St φ lo h (own)) (p114 : ApiTopo) (p117 : Int) (H115 : RSl eBool φ (.slice a115 n115 c115) p114.Station) (H116 : RSl eApiLink φ (.slice a116 n116 c116) p114.Links) : Sim ((recN Try.prog LL cutF (n + 1)).call 40 #[(.agg #[.int .i64 p114.Nodes, .slice a115 n115 c115, .slice a116 n116 c116]), (.int .i64 p117)] h) (m_topo_isNode p114 p117) (fun (d : Bool) p => p = (.bool d, h)) := by
  refine fcut Try.func40 rfl rfl rfl rfl X ?_
  intro h0 X0
  refine dseq ?_
  refine dreg ?_
  refine lbox rfl rfl rfl rfl rfl X0 (fun b118 h120 X121 => ?_)
  refine lpure (v := .bool false) rfl (p_assign rfl) rfl rfl ?_
  refine lend ?_
  refine nseq ?_
  refine dseq ?_
  refine dreg ?_
  refine lpure (v := .int .i64 p117) rfl (p_move rfl) rfl rfl ?_
  refine lpure (v := .bool (decide (0 ≤ p117))) rfl (p_ge rfl) rfl rfl ?_
  refine lpure (v := .bool (decide (0 ≤ p117))) rfl (p_move rfl) rfl rfl ?_
  refine lsh (τ := Bool) (σ := Unit) (fun s123 (_ : Unit) => [(12, .bool s123)]) (fun s123 (_ : Unit) hh => St φ h.n hh ([(some b118, .cells [.int .i64 p114.Nodes, .slice a115 n115 c115, .slice a116 n116 c116] 29 .exact)])) 5 ?_ ?_
  · rintro s123 _ t0 h125 X124
    refine lpure (v := .bool s123) rfl (p_assign rfl) rfl rfl ?_
    refine lend ?_
    refine nseq ?_
    refine dret ?_
    exact kcut_r (res_1 resT) X124 rfl rfl
  · intro j126 J127
    refine lcase (i := 7) (show _ = Value.bool (decide (0 ≤ p117)) from rfl) (fun k128 => ?_) (fun k128 => ?_)
    · refine lpure (v := .int .i64 p117) rfl (p_move rfl) rfl rfl ?_
      refine lpure (v := .pointer (some ⟨b118, 0, none⟩)) rfl (p_fa fo_29_0 rfl) rfl rfl ?_
      refine lread (v := .int .i64 p114.Nodes) rfl (q_load wd_3 rfl) (St.ld X121 (j := 0) rfl rfl) rfl ?_
      refine lpure (v := .bool (decide (p117 < p114.Nodes))) rfl (p_lt rfl) rfl rfl ?_
      refine lpure (v := .bool (decide (p117 < p114.Nodes))) rfl (p_pick rfl) rfl rfl ?_
      refine Sim.of_eq (congrArg j126 (show ((decide (0 ≤ p117)) && (decide (p117 < p114.Nodes))) = (decide (p117 < p114.Nodes)) from by rw [k128] <;> rfl)) ?_
      exact ljmpM J127 (decide (p117 < p114.Nodes)) () (sub_cons rfl sub_nil) X121
    · refine lskip rfl rfl ?_
      refine lskip rfl rfl ?_
      refine lskip rfl rfl ?_
      refine lskip rfl rfl ?_
      refine lpure (v := .bool false) rfl (p_pick rfl) rfl rfl ?_
      refine Sim.of_eq (congrArg j126 (show ((decide (0 ≤ p117)) && (decide (p117 < p114.Nodes))) = false from by rw [k128] <;> rfl)) ?_
      exact ljmpM J127 false () (sub_cons rfl sub_nil) X121
/-! isochron/topo.validLink -/
theorem f36_ok {n : Nat} {φ : Fz} {lo : Nat} {h : Heap} {own : OwnL}  {a88 : Option Addr} {n88 c88 : Nat} {a89 : Option Addr} {n89 c89 : Nat} (X : St φ lo h (own)) (p87 : ApiTopo) (p90 : Int) (H88 : RSl eBool φ (.slice a88 n88 c88) p87.Station) (H89 : RSl eApiLink φ (.slice a89 n89 c89) p87.Links) : Sim ((recN Try.prog LL cutF (n + 5)).call 36 #[(.agg #[.int .i64 p87.Nodes, .slice a88 n88 c88, .slice a89 n89 c89]), (.int .i64 p90)] h) (m_topo_validLink p87 p90) (fun (d : Bool) p => p = (.bool d, h)) := by
  refine fcut Try.func36 rfl rfl rfl rfl X ?_
  intro h0 X0
  refine dseq ?_
  refine dreg ?_
  refine lbox rfl rfl rfl rfl rfl X0 (fun b91 h93 X94 => ?_)
  refine lbox rfl rfl rfl rfl rfl X94 (fun b95 h97 X98 => ?_)
  refine lpure (v := .bool false) rfl (p_assign rfl) rfl rfl ?_
  refine lend ?_
  refine nseq ?_
  refine dseq ?_
  refine dreg ?_
  refine lpure (v := .pointer (some ⟨b91, 2, none⟩)) rfl (p_fa fo_29_2 rfl) rfl rfl ?_
  refine lread (v := .slice a89 n89 c89) rfl (q_load wd_27 rfl) (St.ld X98 (j := 1) rfl rfl) rfl ?_
  refine lread (v := .int .i64 p90) rfl (q_load wd_3 rfl) (St.ld X98 (j := 0) rfl rfl) rfl ?_
  refine Sim.bindM fun e99 he100 => ?_
  obtain ⟨p101, cs101, hp101, hF101, hR101⟩ := RSl.ia H89 he100 (kd := .i64) (n := 4) rfl
  obtain rfl := eApiLink_el hR101
  refine lpure (v := p101) rfl (p_ia rs_27 rfl) hp101 rfl ?_
  refine lread (v := .agg #[.int .i64 e99.A, .int .i64 e99.B, .int .i64 e99.Per, .int .i64 e99.Delay]) rfl (q_load wd_75 rfl) (FP.ldw X98 hF101 rfl rfl) rfl ?_
  refine lalloc rfl tz_75 rfl rfl rfl X98 (fun b102 h104 X105 => ?_)
  refine lstore rfl ts_75 rfl rfl (j := 0) rfl rfl rfl rfl rfl rfl X105 (fun h106 X107 => ?_)
  refine lend ?_
  refine nseq ?_
  refine dseq ?_
  refine dreg ?_
  refine lpure (v := .func (.func 77) #[] #[.pointer (some ⟨b91, 0, none⟩), .pointer (some ⟨b102, 0, none⟩)]) rfl (p_makeFunc rfl) rfl rfl ?_
  refine lpure (v := .func (.func 78) #[] #[.pointer (some ⟨b91, 0, none⟩), .pointer (some ⟨b102, 0, none⟩)]) rfl (p_makeFunc rfl) rfl rfl ?_
  refine lpure (v := .func (.func 79) #[] #[.pointer (some ⟨b102, 0, none⟩)]) rfl (p_makeFunc rfl) rfl rfl ?_
  refine lpure (v := .func (.func 80) #[] #[.pointer (some ⟨b91, 0, none⟩), .pointer (some ⟨b95, 0, none⟩), .pointer (some ⟨b102, 0, none⟩)]) rfl (p_makeFunc rfl) rfl rfl ?_
  refine lpure (v := .agg #[.func (.func 77) #[] #[.pointer (some ⟨b91, 0, none⟩), .pointer (some ⟨b102, 0, none⟩)], .func (.func 78) #[] #[.pointer (some ⟨b91, 0, none⟩), .pointer (some ⟨b102, 0, none⟩)], .func (.func 79) #[] #[.pointer (some ⟨b102, 0, none⟩)], .func (.func 80) #[] #[.pointer (some ⟨b91, 0, none⟩), .pointer (some ⟨b95, 0, none⟩), .pointer (some ⟨b102, 0, none⟩)]]) rfl (p_build rfl) (build_ar' tz_108 ae_108 rfl) rfl ?_
  refine lalloc rfl tz_108 rfl rfl rfl X107 (fun b108 h110 X111 => ?_)
  refine lstore rfl ts_108 rfl rfl (j := 0) rfl rfl rfl rfl rfl rfl X111 (fun h112 X113 => ?_)
  refine lend ?_
  refine nseq ?_
  refine dseq ?_
  refine dseq ?_
  refine dreg ?_
  refine lread (v := .agg #[.func (.func 77) #[] #[.pointer (some ⟨b91, 0, none⟩), .pointer (some ⟨b102, 0, none⟩)], .func (.func 78) #[] #[.pointer (some ⟨b91, 0, none⟩), .pointer (some ⟨b102, 0, none⟩)], .func (.func 79) #[] #[.pointer (some ⟨b102, 0, none⟩)], .func (.func 80) #[] #[.pointer (some ⟨b91, 0, none⟩), .pointer (some ⟨b95, 0, none⟩), .pointer (some ⟨b102, 0, none⟩)]]) rfl (q_load wd_108 rfl) (St.ld X113 (j := 0) rfl rfl) rfl ?_
  refine lpure (v := .int .i64 0) rfl (p_move rfl) rfl rfl ?_
  refine lend ?_
  refine nseq ?_
  refine dblock ?_
  refine dunroll 999999 rfl ?_
  refine dseq ?_
  refine dreg ?_
  refine lpure (v := .bool true) rfl (p_lt rfl) rfl rfl ?_
  refine lend ?_
  refine nseq ?_
  refine dseq ?_
  refine dcondT rfl rfl ?_
  refine dskip ?_
  refine nseq ?_
  refine dseq ?_
  refine dblock ?_
  refine dseq ?_
  refine dreg ?_
  refine lpure (v := .func (.func 77) #[] #[.pointer (some ⟨b91, 0, none⟩), .pointer (some ⟨b102, 0, none⟩)]) rfl (p_index as_108 rfl) rfl rfl ?_
  refine lpure (v := .func (.func 77) #[] #[.pointer (some ⟨b91, 0, none⟩), .pointer (some ⟨b102, 0, none⟩)]) rfl (p_assign rfl) rfl rfl ?_
  refine lend ?_
  refine nseq ?_
  refine dseq ?_
  refine dreg ?_
  refine lpure (v := .func (.func 77) #[] #[.pointer (some ⟨b91, 0, none⟩), .pointer (some ⟨b102, 0, none⟩)]) rfl (p_move rfl) rfl rfl ?_
  refine linl rfl rfl rfl rfl ca_77 rfl Try.func77 rfl rfl rfl rfl rfl ?_
  refine dseq ?_
  refine dreg ?_
  refine lpure (v := .bool false) rfl (p_assign rfl) rfl rfl ?_
  refine lend ?_
  refine nseq ?_
  refine dseq ?_
  refine dreg ?_
  refine lread (v := .agg #[.int .i64 p87.Nodes, .slice a88 n88 c88, .slice a89 n89 c89]) rfl (q_load wd_29 rfl) (St.ld X113 (j := 3) rfl rfl) rfl ?_
  refine lpure (v := .pointer (some ⟨b102, 0, none⟩)) rfl (p_fa fo_75_0 rfl) rfl rfl ?_
  refine lread (v := .int .i64 e99.A) rfl (q_load wd_3 rfl) (St.ld X113 (j := 1) rfl rfl) rfl ?_
  refine lcall rfl rfl ca_40 rfl rfl (f40_ok X113 p87 (e99.A) H88 H89) rfl (fun e129 v130 h131 hq132 => ?_)
  cases hq132
  refine lpure (v := .bool e129) rfl (p_move rfl) rfl rfl ?_
  refine ljoinM (τ := Bool) (σ := Unit) (fun s139 (_ : Unit) => [(1, .pointer (some ⟨b102, 0, none⟩)), (12, .bool s139)]) (fun s139 (_ : Unit) hh => St φ h.n hh ([(some b108, .cells [.func (.func 77) #[] #[.pointer (some ⟨b91, 0, none⟩), .pointer (some ⟨b102, 0, none⟩)], .func (.func 78) #[] #[.pointer (some ⟨b91, 0, none⟩), .pointer (some ⟨b102, 0, none⟩)], .func (.func 79) #[] #[.pointer (some ⟨b102, 0, none⟩)], .func (.func 80) #[] #[.pointer (some ⟨b91, 0, none⟩), .pointer (some ⟨b95, 0, none⟩), .pointer (some ⟨b102, 0, none⟩)]] 108 .exact), (some b102, .cells [.int .i64 e99.A, .int .i64 e99.B, .int .i64 e99.Per, .int .i64 e99.Delay] 75 .exact), (some b95, .cells [.int .i64 p90] 3 .exact), (some b91, .cells [.int .i64 p87.Nodes, .slice a88 n88 c88, .slice a89 n89 c89] 29 .exact)])) 5 ?_ ?_
  · rintro s139 _ t0 h141 X140
    refine lpure (v := .bool s139) rfl (p_move rfl) rfl rfl ?_
    refine lsh (τ := Bool) (σ := Unit) (fun s143 (_ : Unit) => [(19, .bool s143)]) (fun s143 (_ : Unit) hh => St φ h.n hh ([(some b108, .cells [.func (.func 77) #[] #[.pointer (some ⟨b91, 0, none⟩), .pointer (some ⟨b102, 0, none⟩)], .func (.func 78) #[] #[.pointer (some ⟨b91, 0, none⟩), .pointer (some ⟨b102, 0, none⟩)], .func (.func 79) #[] #[.pointer (some ⟨b102, 0, none⟩)], .func (.func 80) #[] #[.pointer (some ⟨b91, 0, none⟩), .pointer (some ⟨b95, 0, none⟩), .pointer (some ⟨b102, 0, none⟩)]] 108 .exact), (some b102, .cells [.int .i64 e99.A, .int .i64 e99.B, .int .i64 e99.Per, .int .i64 e99.Delay] 75 .exact), (some b95, .cells [.int .i64 p90] 3 .exact), (some b91, .cells [.int .i64 p87.Nodes, .slice a88 n88 c88, .slice a89 n89 c89] 29 .exact)])) 6 ?_ ?_
    · rintro s143 _ t0 h145 X144
      refine lpure (v := .bool s143) rfl (p_assign rfl) rfl rfl ?_
      refine lend ?_
      refine nseq ?_
      refine dret ?_
      refine kin_r (res_1 resT) ?_
      refine lpure (v := .bool (!s143)) rfl (p_not rfl) rfl rfl ?_
      refine lend ?_
      refine nseq ?_
      refine dcond rfl rfl (fun k146 => ?_) (fun k146 => ?_)
      · refine dseq ?_
        refine dreg ?_
        refine lpure (v := .bool false) rfl (p_assign rfl) rfl rfl ?_
        refine lend ?_
        refine nseq ?_
        refine dret ?_
        refine rblock ?_
        refine rseq ?_
        refine rloop ?_
        refine rblock ?_
        refine rseq ?_
        exact kcut_r (res_1 resT) X144 rfl rfl
      · refine dskip ?_
        refine nblock ?_
        refine nseq ?_
        refine dreg ?_
        refine lpure (v := .int .i64 1) rfl (p_add rfl) rfl rfl ?_
        refine lpure (v := .int .i64 1) rfl (p_move rfl) rfl rfl ?_
        refine lend ?_
        refine nunroll 999998 rfl ?_
        refine dseq ?_
        refine dreg ?_
        refine lpure (v := .bool true) rfl (p_lt rfl) rfl rfl ?_
        refine lend ?_
        refine nseq ?_
        refine dseq ?_
        refine dcondT rfl rfl ?_
        refine dskip ?_
        refine nseq ?_
        refine dseq ?_
        refine dblock ?_
        refine dseq ?_
        refine dreg ?_
        refine lpure (v := .func (.func 78) #[] #[.pointer (some ⟨b91, 0, none⟩), .pointer (some ⟨b102, 0, none⟩)]) rfl (p_index as_108 rfl) rfl rfl ?_
        refine lpure (v := .func (.func 78) #[] #[.pointer (some ⟨b91, 0, none⟩), .pointer (some ⟨b102, 0, none⟩)]) rfl (p_assign rfl) rfl rfl ?_
        refine lend ?_
        refine nseq ?_
        refine dseq ?_
        refine dreg ?_
        refine lpure (v := .func (.func 78) #[] #[.pointer (some ⟨b91, 0, none⟩), .pointer (some ⟨b102, 0, none⟩)]) rfl (p_move rfl) rfl rfl ?_
        refine linl rfl rfl rfl rfl ca_78 rfl Try.func78 rfl rfl rfl rfl rfl ?_
        refine dseq ?_
        refine dreg ?_
        refine lpure (v := .bool false) rfl (p_assign rfl) rfl rfl ?_
        refine lend ?_
        refine nseq ?_
        refine dseq ?_
        refine dreg ?_
        refine lpure (v := .pointer (some ⟨b91, 1, none⟩)) rfl (p_fa fo_29_1 rfl) rfl rfl ?_
        refine lread (v := .slice a88 n88 c88) rfl (q_load wd_26 rfl) (St.ld X144 (j := 3) rfl rfl) rfl ?_
        refine lpure (v := .pointer (some ⟨b102, 0, none⟩)) rfl (p_fa fo_75_0 rfl) rfl rfl ?_
        refine lread (v := .int .i64 e99.A) rfl (q_load wd_3 rfl) (St.ld X144 (j := 1) rfl rfl) rfl ?_
        refine Sim.bindM fun e147 he148 => ?_
        obtain ⟨p149, cs149, hp149, hF149, hR149⟩ := RSl.ia H88 he148 (kd := .i64) (n := 1) rfl
        have hR149 : _ = [(.bool e147 : Value)] := hR149
        subst hR149
        refine lpure (v := p149) rfl (p_ia rs_26 rfl) hp149 rfl ?_
        refine lread (v := .bool e147) rfl (q_load wd_4 rfl) (FP.ld X144 hF149) rfl ?_
        refine lpure (v := .bool (!e147)) rfl (p_not rfl) rfl rfl ?_
        refine lpure (v := .bool (!e147)) rfl (p_move rfl) rfl rfl ?_
        refine ljoinM (τ := Bool) (σ := Unit) (fun s155 (_ : Unit) => [(18, .bool s155)]) (fun s155 (_ : Unit) hh => St φ h.n hh ([(some b108, .cells [.func (.func 77) #[] #[.pointer (some ⟨b91, 0, none⟩), .pointer (some ⟨b102, 0, none⟩)], .func (.func 78) #[] #[.pointer (some ⟨b91, 0, none⟩), .pointer (some ⟨b102, 0, none⟩)], .func (.func 79) #[] #[.pointer (some ⟨b102, 0, none⟩)], .func (.func 80) #[] #[.pointer (some ⟨b91, 0, none⟩), .pointer (some ⟨b95, 0, none⟩), .pointer (some ⟨b102, 0, none⟩)]] 108 .exact), (some b102, .cells [.int .i64 e99.A, .int .i64 e99.B, .int .i64 e99.Per, .int .i64 e99.Delay] 75 .exact), (some b95, .cells [.int .i64 p90] 3 .exact), (some b91, .cells [.int .i64 p87.Nodes, .slice a88 n88 c88, .slice a89 n89 c89] 29 .exact)])) 8 ?_ ?_
        · rintro s155 _ t0 h157 X156
          refine lpure (v := .bool s155) rfl (p_assign rfl) rfl rfl ?_
          refine lend ?_
          refine nseq ?_
          refine dret ?_
          refine kin_r (res_1 resT) ?_
          refine lpure (v := .bool (!s155)) rfl (p_not rfl) rfl rfl ?_
          refine lend ?_
          refine nseq ?_
          refine dcond rfl rfl (fun k158 => ?_) (fun k158 => ?_)
          · refine dseq ?_
            refine dreg ?_
            refine lpure (v := .bool false) rfl (p_assign rfl) rfl rfl ?_
            refine lend ?_
            refine nseq ?_
            refine dret ?_
            refine rblock ?_
            refine rseq ?_
            refine rloop ?_
            refine rblock ?_
            refine rseq ?_
            exact kcut_r (res_1 resT) X156 rfl rfl
          · refine dskip ?_
            refine nblock ?_
            refine nseq ?_
            refine dreg ?_
            refine lpure (v := .int .i64 2) rfl (p_add rfl) rfl rfl ?_
            refine lpure (v := .int .i64 2) rfl (p_move rfl) rfl rfl ?_
            refine lend ?_
            refine nunroll 999997 rfl ?_
            refine dseq ?_
            refine dreg ?_
            refine lpure (v := .bool true) rfl (p_lt rfl) rfl rfl ?_
            refine lend ?_
            refine nseq ?_
            refine dseq ?_
            refine dcondT rfl rfl ?_
            refine dskip ?_
            refine nseq ?_
            refine dseq ?_
            refine dblock ?_
            refine dseq ?_
            refine dreg ?_
            refine lpure (v := .func (.func 79) #[] #[.pointer (some ⟨b102, 0, none⟩)]) rfl (p_index as_108 rfl) rfl rfl ?_
            refine lpure (v := .func (.func 79) #[] #[.pointer (some ⟨b102, 0, none⟩)]) rfl (p_assign rfl) rfl rfl ?_
            refine lend ?_
            refine nseq ?_
            refine dseq ?_
            refine dreg ?_
            refine lpure (v := .func (.func 79) #[] #[.pointer (some ⟨b102, 0, none⟩)]) rfl (p_move rfl) rfl rfl ?_
            refine linl rfl rfl rfl rfl ca_79 rfl Try.func79 rfl rfl rfl rfl rfl ?_
            refine dseq ?_
            refine dreg ?_
            refine lpure (v := .bool false) rfl (p_assign rfl) rfl rfl ?_
            refine lend ?_
            refine nseq ?_
            refine dseq ?_
            refine dreg ?_
            refine lpure (v := .pointer (some ⟨b102, 2, none⟩)) rfl (p_fa fo_75_2 rfl) rfl rfl ?_
            refine lread (v := .int .i64 e99.Per) rfl (q_load wd_3 rfl) (St.ld X156 (j := 1) rfl rfl) rfl ?_
            refine lpure (v := .bool (decide (1 ≤ e99.Per))) rfl (p_ge rfl) rfl rfl ?_
            refine lpure (v := .bool (decide (1 ≤ e99.Per))) rfl (p_move rfl) rfl rfl ?_
            refine lsh (τ := Bool) (σ := Unit) (fun s160 (_ : Unit) => [(0, .pointer (some ⟨b102, 0, none⟩)), (9, .bool s160)]) (fun s160 (_ : Unit) hh => St φ h.n hh ([(some b108, .cells [.func (.func 77) #[] #[.pointer (some ⟨b91, 0, none⟩), .pointer (some ⟨b102, 0, none⟩)], .func (.func 78) #[] #[.pointer (some ⟨b91, 0, none⟩), .pointer (some ⟨b102, 0, none⟩)], .func (.func 79) #[] #[.pointer (some ⟨b102, 0, none⟩)], .func (.func 80) #[] #[.pointer (some ⟨b91, 0, none⟩), .pointer (some ⟨b95, 0, none⟩), .pointer (some ⟨b102, 0, none⟩)]] 108 .exact), (some b102, .cells [.int .i64 e99.A, .int .i64 e99.B, .int .i64 e99.Per, .int .i64 e99.Delay] 75 .exact), (some b95, .cells [.int .i64 p90] 3 .exact), (some b91, .cells [.int .i64 p87.Nodes, .slice a88 n88 c88, .slice a89 n89 c89] 29 .exact)])) 4 ?_ ?_
            · rintro s160 _ t0 h162 X161
              refine lpure (v := .bool s160) rfl (p_move rfl) rfl rfl ?_
              refine lsh (τ := Bool) (σ := Unit) (fun s164 (_ : Unit) => [(0, .pointer (some ⟨b102, 0, none⟩)), (14, .bool s164)]) (fun s164 (_ : Unit) hh => St φ h.n hh ([(some b108, .cells [.func (.func 77) #[] #[.pointer (some ⟨b91, 0, none⟩), .pointer (some ⟨b102, 0, none⟩)], .func (.func 78) #[] #[.pointer (some ⟨b91, 0, none⟩), .pointer (some ⟨b102, 0, none⟩)], .func (.func 79) #[] #[.pointer (some ⟨b102, 0, none⟩)], .func (.func 80) #[] #[.pointer (some ⟨b91, 0, none⟩), .pointer (some ⟨b95, 0, none⟩), .pointer (some ⟨b102, 0, none⟩)]] 108 .exact), (some b102, .cells [.int .i64 e99.A, .int .i64 e99.B, .int .i64 e99.Per, .int .i64 e99.Delay] 75 .exact), (some b95, .cells [.int .i64 p90] 3 .exact), (some b91, .cells [.int .i64 p87.Nodes, .slice a88 n88 c88, .slice a89 n89 c89] 29 .exact)])) 4 ?_ ?_
              · rintro s164 _ t0 h166 X165
                refine lpure (v := .bool s164) rfl (p_move rfl) rfl rfl ?_
                refine lsh (τ := Bool) (σ := Unit) (fun s168 (_ : Unit) => [(19, .bool s168)]) (fun s168 (_ : Unit) hh => St φ h.n hh ([(some b108, .cells [.func (.func 77) #[] #[.pointer (some ⟨b91, 0, none⟩), .pointer (some ⟨b102, 0, none⟩)], .func (.func 78) #[] #[.pointer (some ⟨b91, 0, none⟩), .pointer (some ⟨b102, 0, none⟩)], .func (.func 79) #[] #[.pointer (some ⟨b102, 0, none⟩)], .func (.func 80) #[] #[.pointer (some ⟨b91, 0, none⟩), .pointer (some ⟨b95, 0, none⟩), .pointer (some ⟨b102, 0, none⟩)]] 108 .exact), (some b102, .cells [.int .i64 e99.A, .int .i64 e99.B, .int .i64 e99.Per, .int .i64 e99.Delay] 75 .exact), (some b95, .cells [.int .i64 p90] 3 .exact), (some b91, .cells [.int .i64 p87.Nodes, .slice a88 n88 c88, .slice a89 n89 c89] 29 .exact)])) 4 ?_ ?_
                · rintro s168 _ t0 h170 X169
                  refine lpure (v := .bool s168) rfl (p_assign rfl) rfl rfl ?_
                  refine lend ?_
                  refine nseq ?_
                  refine dret ?_
                  refine kin_r (res_1 resT) ?_
                  refine lpure (v := .bool (!s168)) rfl (p_not rfl) rfl rfl ?_
                  refine lend ?_
                  refine nseq ?_
                  refine dcond rfl rfl (fun k171 => ?_) (fun k171 => ?_)
                  · refine dseq ?_
                    refine dreg ?_
                    refine lpure (v := .bool false) rfl (p_assign rfl) rfl rfl ?_
                    refine lend ?_
                    refine nseq ?_
                    refine dret ?_
                    refine rblock ?_
                    refine rseq ?_
                    refine rloop ?_
                    refine rblock ?_
                    refine rseq ?_
                    exact kcut_r (res_1 resT) X169 rfl rfl
                  · refine dskip ?_
                    refine nblock ?_
                    refine nseq ?_
                    refine dreg ?_
                    refine lpure (v := .int .i64 3) rfl (p_add rfl) rfl rfl ?_
                    refine lpure (v := .int .i64 3) rfl (p_move rfl) rfl rfl ?_
                    refine lend ?_
                    refine nunroll 999996 rfl ?_
                    refine dseq ?_
                    refine dreg ?_
                    refine lpure (v := .bool true) rfl (p_lt rfl) rfl rfl ?_
                    refine lend ?_
                    refine nseq ?_
                    refine dseq ?_
                    refine dcondT rfl rfl ?_
                    refine dskip ?_
                    refine nseq ?_
                    refine dseq ?_
                    refine dblock ?_
                    refine dseq ?_
                    refine dreg ?_
                    refine lpure (v := .func (.func 80) #[] #[.pointer (some ⟨b91, 0, none⟩), .pointer (some ⟨b95, 0, none⟩), .pointer (some ⟨b102, 0, none⟩)]) rfl (p_index as_108 rfl) rfl rfl ?_
                    refine lpure (v := .func (.func 80) #[] #[.pointer (some ⟨b91, 0, none⟩), .pointer (some ⟨b95, 0, none⟩), .pointer (some ⟨b102, 0, none⟩)]) rfl (p_assign rfl) rfl rfl ?_
                    refine lend ?_
                    refine nseq ?_
                    refine dseq ?_
                    refine dreg ?_
                    refine lpure (v := .func (.func 80) #[] #[.pointer (some ⟨b91, 0, none⟩), .pointer (some ⟨b95, 0, none⟩), .pointer (some ⟨b102, 0, none⟩)]) rfl (p_move rfl) rfl rfl ?_
                    refine linl rfl rfl rfl rfl ca_80 rfl Try.func80 rfl rfl rfl rfl rfl ?_
                    refine dseq ?_
                    refine dreg ?_
                    refine lpure (v := .bool false) rfl (p_assign rfl) rfl rfl ?_
                    refine lend ?_
                    refine nseq ?_
                    refine dseq ?_
                    refine dreg ?_
                    refine lpure (v := .pointer (some ⟨b91, 2, none⟩)) rfl (p_fa fo_29_2 rfl) rfl rfl ?_
                    refine lread (v := .slice a89 n89 c89) rfl (q_load wd_27 rfl) (St.ld X169 (j := 3) rfl rfl) rfl ?_
                    refine lread (v := .int .i64 p90) rfl (q_load wd_3 rfl) (St.ld X169 (j := 2) rfl rfl) rfl ?_
                    refine Sim.mustM fun k172 => ?_
                    have k172 := of_decide_eq_true k172
                    obtain ⟨a172, n172, c172, hv172, H172⟩ := RSl.slice H89 X169 un_27 ts_75 rfl bnd_none (bnd_int (show (0 : Int) ≤ p90 from by omega)) (by omega) (by omega)
                    refine lread rfl (q_slice rfl (evo_ok rfl) (evo_ok rfl) (evo_ok rfl)) hv172 rfl ?_
                    refine lpure (v := .func (.func 82) #[] #[.pointer (some ⟨b102, 0, none⟩)]) rfl (p_makeFunc rfl) rfl rfl ?_
                    refine linl rfl rfl rfl rfl ca_81 rfl Try.func81 rfl rfl rfl rfl rfl ?_
                    refine dseq ?_
                    refine dreg ?_
                    refine lpure (v := .bool false) rfl (p_assign rfl) rfl rfl ?_
                    refine lend ?_
                    refine nseq ?_
                    refine dseq ?_
                    refine dreg ?_
                    refine lpure (v := .slice a172 n172 c172) rfl (p_move rfl) rfl rfl ?_
                    refine lpure (v := .func (.func 82) #[] #[.pointer (some ⟨b102, 0, none⟩)]) rfl (p_move rfl) rfl rfl ?_
                    refine linl rfl rfl rfl rfl ca_108 rfl Try.func108 rfl rfl rfl rfl rfl ?_
                    refine dseq ?_
                    refine dreg ?_
                    refine lpure (v := .int .i64 0) rfl (p_assign rfl) rfl rfl ?_
                    refine lend ?_
                    refine nseq ?_
                    refine dseq ?_
                    refine dseq ?_
                    refine dreg ?_
                    refine lpure (v := .slice a172 n172 c172) rfl (p_move rfl) rfl rfl ?_
                    refine lpure (v := .int .i64 ((p87.Links.take (p90).toNat).length : Int)) rfl (p_len rfl rfl rfl un_27 rfl) (RSl.lenC H172) rfl ?_
                    refine lpure (v := .int .i64 0) rfl (p_move rfl) rfl rfl ?_
                    refine lend ?_
                    refine nseq ?_
                    refine dblock ?_
                    refine dloopM (τ := Int) (σ := Unit) (fun s228 (_ : Unit) => [(0, .slice a172 n172 c172), (1, .func (.func 82) #[] #[.pointer (some ⟨b102, 0, none⟩)]), (7, .int .i64 ((p87.Links.take (p90).toNat).length : Int)), (8, .int .i64 s228)]) (fun s228 (_ : Unit) hh => St φ h.n hh ([(some b108, .cells [.func (.func 77) #[] #[.pointer (some ⟨b91, 0, none⟩), .pointer (some ⟨b102, 0, none⟩)], .func (.func 78) #[] #[.pointer (some ⟨b91, 0, none⟩), .pointer (some ⟨b102, 0, none⟩)], .func (.func 79) #[] #[.pointer (some ⟨b102, 0, none⟩)], .func (.func 80) #[] #[.pointer (some ⟨b91, 0, none⟩), .pointer (some ⟨b95, 0, none⟩), .pointer (some ⟨b102, 0, none⟩)]] 108 .exact), (some b102, .cells [.int .i64 e99.A, .int .i64 e99.B, .int .i64 e99.Per, .int .i64 e99.Delay] 75 .exact), (some b95, .cells [.int .i64 p90] 3 .exact), (some b91, .cells [.int .i64 p87.Nodes, .slice a88 n88 c88, .slice a89 n89 c89] 29 .exact)])) 0 () (sub_cons rfl (sub_cons rfl (sub_cons rfl (sub_cons rfl sub_nil)))) X169 ?_
                    rintro n258 ih257 s228 _ t0 h260 X259
                    refine dseq ?_
                    refine dreg ?_
                    refine lpure (v := .bool (decide (s228 < ((p87.Links.take (p90).toNat).length : Int)))) rfl (p_lt rfl) rfl rfl ?_
                    refine lend ?_
                    refine nseq ?_
                    refine dseq ?_
                    refine dcond rfl rfl (fun k261 => ?_) (fun k261 => ?_)
                    · refine dskip ?_
                      refine nseq ?_
                      refine dseq ?_
                      refine dblock ?_
                      refine dseq ?_
                      refine dreg ?_
                      refine lpure (v := .int .i64 s228) rfl (p_move rfl) rfl rfl ?_
                      refine lpure (v := .int .i64 s228) rfl (p_assign rfl) rfl rfl ?_
                      refine lend ?_
                      refine nseq ?_
                      refine dseq ?_
                      refine dreg ?_
                      refine lpure (v := .func (.func 82) #[] #[.pointer (some ⟨b102, 0, none⟩)]) rfl (p_move rfl) rfl rfl ?_
                      refine lpure (v := .slice a172 n172 c172) rfl (p_move rfl) rfl rfl ?_
                      refine lpure (v := .int .i64 s228) rfl (p_move rfl) rfl rfl ?_
                      refine Sim.bindM fun e262 he263 => ?_
                      obtain ⟨p264, cs264, hp264, hF264, hR264⟩ := RSl.ia H172 he263 (kd := .i64) (n := 4) rfl
                      obtain rfl := eApiLink_el hR264
                      refine lpure (v := p264) rfl (p_ia rs_27 rfl) hp264 rfl ?_
                      refine lread (v := .agg #[.int .i64 e262.A, .int .i64 e262.B, .int .i64 e262.Per, .int .i64 e262.Delay]) rfl (q_load wd_75 rfl) (FP.ldw X259 hF264 rfl rfl) rfl ?_
                      refine linl rfl rfl rfl rfl ca_82 rfl Try.func82 rfl rfl rfl rfl rfl ?_
                      refine dseq ?_
                      refine dreg ?_
                      refine lbox rfl rfl rfl rfl rfl X259 (fun b265 h267 X268 => ?_)
                      refine lpure (v := .bool false) rfl (p_assign rfl) rfl rfl ?_
                      refine lend ?_
                      refine nseq ?_
                      refine dseq ?_
                      refine dreg ?_
                      refine lpure (v := .pointer (some ⟨b265, 0, none⟩)) rfl (p_fa fo_75_0 rfl) rfl rfl ?_
                      refine lread (v := .int .i64 e262.A) rfl (q_load wd_3 rfl) (St.ld X268 (j := 0) rfl rfl) rfl ?_
                      refine lpure (v := .pointer (some ⟨b102, 0, none⟩)) rfl (p_fa fo_75_0 rfl) rfl rfl ?_
                      refine lread (v := .int .i64 e99.A) rfl (q_load wd_3 rfl) (St.ld X268 (j := 2) rfl rfl) rfl ?_
                      refine lpure (v := .bool (decide (e262.A = e99.A))) rfl (p_eq rfl) rfl rfl ?_
                      refine lpure (v := .bool (decide (e262.A = e99.A))) rfl (p_move rfl) rfl rfl ?_
                      refine lsh (τ := Bool) (σ := Unit) (fun s270 (_ : Unit) => [(1, .pointer (some ⟨b102, 0, none⟩)), (2, .pointer (some ⟨b265, 0, none⟩)), (15, .bool s270)]) (fun s270 (_ : Unit) hh => St φ h.n hh ([(some b265, .cells [.int .i64 e262.A, .int .i64 e262.B, .int .i64 e262.Per, .int .i64 e262.Delay] 75 .exact), (some b108, .cells [.func (.func 77) #[] #[.pointer (some ⟨b91, 0, none⟩), .pointer (some ⟨b102, 0, none⟩)], .func (.func 78) #[] #[.pointer (some ⟨b91, 0, none⟩), .pointer (some ⟨b102, 0, none⟩)], .func (.func 79) #[] #[.pointer (some ⟨b102, 0, none⟩)], .func (.func 80) #[] #[.pointer (some ⟨b91, 0, none⟩), .pointer (some ⟨b95, 0, none⟩), .pointer (some ⟨b102, 0, none⟩)]] 108 .exact), (some b102, .cells [.int .i64 e99.A, .int .i64 e99.B, .int .i64 e99.Per, .int .i64 e99.Delay] 75 .exact), (some b95, .cells [.int .i64 p90] 3 .exact), (some b91, .cells [.int .i64 p87.Nodes, .slice a88 n88 c88, .slice a89 n89 c89] 29 .exact)])) 6 ?_ ?_
                      · rintro s270 _ t0 h272 X271
                        refine lpure (v := .bool s270) rfl (p_move rfl) rfl rfl ?_
                        refine lsh (τ := Bool) (σ := Unit) (fun s274 (_ : Unit) => [(29, .bool s274)]) (fun s274 (_ : Unit) hh => St φ h.n hh ([(some b265, .cells [.int .i64 e262.A, .int .i64 e262.B, .int .i64 e262.Per, .int .i64 e262.Delay] 75 .exact), (some b108, .cells [.func (.func 77) #[] #[.pointer (some ⟨b91, 0, none⟩), .pointer (some ⟨b102, 0, none⟩)], .func (.func 78) #[] #[.pointer (some ⟨b91, 0, none⟩), .pointer (some ⟨b102, 0, none⟩)], .func (.func 79) #[] #[.pointer (some ⟨b102, 0, none⟩)], .func (.func 80) #[] #[.pointer (some ⟨b91, 0, none⟩), .pointer (some ⟨b95, 0, none⟩), .pointer (some ⟨b102, 0, none⟩)]] 108 .exact), (some b102, .cells [.int .i64 e99.A, .int .i64 e99.B, .int .i64 e99.Per, .int .i64 e99.Delay] 75 .exact), (some b95, .cells [.int .i64 p90] 3 .exact), (some b91, .cells [.int .i64 p87.Nodes, .slice a88 n88 c88, .slice a89 n89 c89] 29 .exact)])) 13 ?_ ?_
                        · rintro s274 _ t0 h276 X275
                          refine lpure (v := .bool s274) rfl (p_assign rfl) rfl rfl ?_
                          refine lend ?_
                          refine nseq ?_
                          refine dret ?_
                          refine kin_r (res_1 resT) ?_
                          refine lend ?_
                          refine nseq ?_
                          refine dcond rfl rfl (fun k277 => ?_) (fun k277 => ?_)
                          · refine dseq ?_
                            refine dreg ?_
                            refine lpure (v := .int .i64 s228) rfl (p_move rfl) rfl rfl ?_
                            refine lpure (v := .int .i64 s228) rfl (p_assign rfl) rfl rfl ?_
                            refine lend ?_
                            refine nseq ?_
                            refine dret ?_
                            refine rblock ?_
                            refine rseq ?_
                            refine rloop ?_
                            refine rblock ?_
                            refine rseq ?_
                            refine kin_r (res_1 resT) ?_
                            refine lpure (v := .bool (decide (0 ≤ s228))) rfl (p_ge rfl) rfl rfl ?_
                            refine lpure (v := .bool (decide (0 ≤ s228))) rfl (p_assign rfl) rfl rfl ?_
                            refine lend ?_
                            refine nseq ?_
                            refine dret ?_
                            refine kin_r (res_1 resT) ?_
                            refine lpure (v := .bool (!(decide (0 ≤ s228)))) rfl (p_not rfl) rfl rfl ?_
                            refine lpure (v := .bool (!(decide (0 ≤ s228)))) rfl (p_assign rfl) rfl rfl ?_
                            refine lend ?_
                            refine nseq ?_
                            refine dret ?_
                            refine kin_r (res_1 resT) ?_
                            refine lpure (v := .bool (!(!(decide (0 ≤ s228))))) rfl (p_not rfl) rfl rfl ?_
                            refine lend ?_
                            refine nseq ?_
                            refine dcond rfl rfl (fun k278 => ?_) (fun k278 => ?_)
                            · refine dseq ?_
                              refine dreg ?_
                              refine lpure (v := .bool false) rfl (p_assign rfl) rfl rfl ?_
                              refine lend ?_
                              refine nseq ?_
                              refine dret ?_
                              refine rblock ?_
                              refine rseq ?_
                              refine rloop ?_
                              refine rblock ?_
                              refine rseq ?_
                              exact kcut_r (res_1 resT) X275 rfl rfl
                            · refine dskip ?_
                              refine nblock ?_
                              refine nseq ?_
                              refine dreg ?_
                              refine lpure (v := .int .i64 4) rfl (p_add rfl) rfl rfl ?_
                              refine lpure (v := .int .i64 4) rfl (p_move rfl) rfl rfl ?_
                              refine lend ?_
                              refine nunroll 999995 rfl ?_
                              refine dseq ?_
                              refine dreg ?_
                              refine lpure (v := .bool false) rfl (p_lt rfl) rfl rfl ?_
                              refine lend ?_
                              refine nseq ?_
                              refine dseq ?_
                              refine dcondF rfl rfl ?_
                              refine dexit ?_
                              refine eseq ?_
                              refine eloop ?_
                              refine xblock ?_
                              refine nseq ?_
                              refine dseq ?_
                              refine dreg ?_
                              refine lpure (v := .bool true) rfl (p_assign rfl) rfl rfl ?_
                              refine lend ?_
                              refine nseq ?_
                              refine dret ?_
                              exact kcut_r (res_1 resT) X275 rfl rfl
                          · refine dskip ?_
                            refine nblock ?_
                            refine nseq ?_
                            refine dreg ?_
                            refine lpure (v := .int .i64 (w64 (s228 + 1))) rfl (p_add rfl) rfl rfl ?_
                            refine lpure (v := .int .i64 (w64 (s228 + 1))) rfl (p_move rfl) rfl rfl ?_
                            refine lend ?_
                            exact kbackM ih257 (w64 (s228 + 1)) () (sub_cons rfl (sub_cons rfl (sub_cons rfl (sub_cons rfl sub_nil)))) (St.pick X275 (.skip _ (.keep _ (.keep _ (.keep _ (.keep _ (.nil _)))))))
                        · intro j279 J280
                          refine lcase (i := 16) (show _ = Value.bool s270 from rfl) (fun k281 => ?_) (fun k281 => ?_)
                          · refine lskip rfl rfl ?_
                            refine lskip rfl rfl ?_
                            refine lskip rfl rfl ?_
                            refine lskip rfl rfl ?_
                            refine lskip rfl rfl ?_
                            refine lskip rfl rfl ?_
                            refine lskip rfl rfl ?_
                            refine lskip rfl rfl ?_
                            refine lskip rfl rfl ?_
                            refine lskip rfl rfl ?_
                            refine lskip rfl rfl ?_
                            refine lskip rfl rfl ?_
                            refine lpure (v := .bool true) rfl (p_pick rfl) rfl rfl ?_
                            refine Sim.of_eq (congrArg j279 (show (s270 || ((decide (e262.A = e99.B)) && (decide (e262.B = e99.A)))) = true from by rw [k281] <;> rfl)) ?_
                            exact ljmpM J280 true () (sub_cons rfl sub_nil) X271
                          · refine lpure (v := .pointer (some ⟨b265, 0, none⟩)) rfl (p_fa fo_75_0 rfl) rfl rfl ?_
                            refine lread (v := .int .i64 e262.A) rfl (q_load wd_3 rfl) (St.ld X271 (j := 0) rfl rfl) rfl ?_
                            refine lpure (v := .pointer (some ⟨b102, 1, none⟩)) rfl (p_fa fo_75_1 rfl) rfl rfl ?_
                            refine lread (v := .int .i64 e99.B) rfl (q_load wd_3 rfl) (St.ld X271 (j := 2) rfl rfl) rfl ?_
                            refine lpure (v := .bool (decide (e262.A = e99.B))) rfl (p_eq rfl) rfl rfl ?_
                            refine lpure (v := .bool (decide (e262.A = e99.B))) rfl (p_move rfl) rfl rfl ?_
                            refine lcase (i := 22) (show _ = Value.bool (decide (e262.A = e99.B)) from rfl) (fun k282 => ?_) (fun k282 => ?_)
                            · refine lpure (v := .pointer (some ⟨b265, 1, none⟩)) rfl (p_fa fo_75_1 rfl) rfl rfl ?_
                              refine lread (v := .int .i64 e262.B) rfl (q_load wd_3 rfl) (St.ld X271 (j := 0) rfl rfl) rfl ?_
                              refine lpure (v := .pointer (some ⟨b102, 0, none⟩)) rfl (p_fa fo_75_0 rfl) rfl rfl ?_
                              refine lread (v := .int .i64 e99.A) rfl (q_load wd_3 rfl) (St.ld X271 (j := 2) rfl rfl) rfl ?_
                              refine lpure (v := .bool (decide (e262.B = e99.A))) rfl (p_eq rfl) rfl rfl ?_
                              refine lpure (v := .bool (decide (e262.B = e99.A))) rfl (p_pick rfl) rfl rfl ?_
                              refine lpure (v := .bool (decide (e262.B = e99.A))) rfl (p_pick rfl) rfl rfl ?_
                              refine Sim.of_eq (congrArg j279 (show (s270 || ((decide (e262.A = e99.B)) && (decide (e262.B = e99.A)))) = (decide (e262.B = e99.A)) from by rw [k281, k282] <;> rfl)) ?_
                              exact ljmpM J280 (decide (e262.B = e99.A)) () (sub_cons rfl sub_nil) X271
                            · refine lskip rfl rfl ?_
                              refine lskip rfl rfl ?_
                              refine lskip rfl rfl ?_
                              refine lskip rfl rfl ?_
                              refine lskip rfl rfl ?_
                              refine lpure (v := .bool false) rfl (p_pick rfl) rfl rfl ?_
                              refine lpure (v := .bool false) rfl (p_pick rfl) rfl rfl ?_
                              refine Sim.of_eq (congrArg j279 (show (s270 || ((decide (e262.A = e99.B)) && (decide (e262.B = e99.A)))) = false from by rw [k281, k282] <;> rfl)) ?_
                              exact ljmpM J280 false () (sub_cons rfl sub_nil) X271
                      · intro j283 J284
                        refine lcase (i := 9) (show _ = Value.bool (decide (e262.A = e99.A)) from rfl) (fun k285 => ?_) (fun k285 => ?_)
                        · refine lpure (v := .pointer (some ⟨b265, 1, none⟩)) rfl (p_fa fo_75_1 rfl) rfl rfl ?_
                          refine lread (v := .int .i64 e262.B) rfl (q_load wd_3 rfl) (St.ld X268 (j := 0) rfl rfl) rfl ?_
                          refine lpure (v := .pointer (some ⟨b102, 1, none⟩)) rfl (p_fa fo_75_1 rfl) rfl rfl ?_
                          refine lread (v := .int .i64 e99.B) rfl (q_load wd_3 rfl) (St.ld X268 (j := 2) rfl rfl) rfl ?_
                          refine lpure (v := .bool (decide (e262.B = e99.B))) rfl (p_eq rfl) rfl rfl ?_
                          refine lpure (v := .bool (decide (e262.B = e99.B))) rfl (p_pick rfl) rfl rfl ?_
                          refine Sim.of_eq (congrArg j283 (show ((decide (e262.A = e99.A)) && (decide (e262.B = e99.B))) = (decide (e262.B = e99.B)) from by rw [k285] <;> rfl)) ?_
                          exact ljmpM J284 (decide (e262.B = e99.B)) () (sub_cons rfl (sub_cons rfl (sub_cons rfl sub_nil))) X268
                        · refine lskip rfl rfl ?_
                          refine lskip rfl rfl ?_
                          refine lskip rfl rfl ?_
                          refine lskip rfl rfl ?_
                          refine lskip rfl rfl ?_
                          refine lpure (v := .bool false) rfl (p_pick rfl) rfl rfl ?_
                          refine Sim.of_eq (congrArg j283 (show ((decide (e262.A = e99.A)) && (decide (e262.B = e99.B))) = false from by rw [k285] <;> rfl)) ?_
                          exact ljmpM J284 false () (sub_cons rfl (sub_cons rfl (sub_cons rfl sub_nil))) X268
                    · refine dexit ?_
                      refine eseq ?_
                      refine eloop ?_
                      refine xblock ?_
                      refine nseq ?_
                      refine dseq ?_
                      refine dreg ?_
                      refine lpure (v := .int .i64 (-1)) rfl (p_assign rfl) rfl rfl ?_
                      refine lend ?_
                      refine nseq ?_
                      refine dret ?_
                      refine kin_r (res_1 resT) ?_
                      refine lpure (v := .bool false) rfl (p_ge rfl) rfl rfl ?_
                      refine lpure (v := .bool false) rfl (p_assign rfl) rfl rfl ?_
                      refine lend ?_
                      refine nseq ?_
                      refine dret ?_
                      refine kin_r (res_1 resT) ?_
                      refine lpure (v := .bool true) rfl (p_not rfl) rfl rfl ?_
                      refine lpure (v := .bool true) rfl (p_assign rfl) rfl rfl ?_
                      refine lend ?_
                      refine nseq ?_
                      refine dret ?_
                      refine kin_r (res_1 resT) ?_
                      refine lpure (v := .bool false) rfl (p_not rfl) rfl rfl ?_
                      refine lend ?_
                      refine nseq ?_
                      refine dcondF rfl rfl ?_
                      refine dskip ?_
                      refine nblock ?_
                      refine nseq ?_
                      refine dreg ?_
                      refine lpure (v := .int .i64 4) rfl (p_add rfl) rfl rfl ?_
                      refine lpure (v := .int .i64 4) rfl (p_move rfl) rfl rfl ?_
                      refine lend ?_
                      refine nunroll 999995 rfl ?_
                      refine dseq ?_
                      refine dreg ?_
                      refine lpure (v := .bool false) rfl (p_lt rfl) rfl rfl ?_
                      refine lend ?_
                      refine nseq ?_
                      refine dseq ?_
                      refine dcondF rfl rfl ?_
                      refine dexit ?_
                      refine eseq ?_
                      refine eloop ?_
                      refine xblock ?_
                      refine nseq ?_
                      refine dseq ?_
                      refine dreg ?_
                      refine lpure (v := .bool true) rfl (p_assign rfl) rfl rfl ?_
                      refine lend ?_
                      refine nseq ?_
                      refine dret ?_
                      exact kcut_r (res_1 resT) X259 rfl rfl
                · intro j286 J287
                  refine lcase (i := 15) (show _ = Value.bool s164 from rfl) (fun k288 => ?_) (fun k288 => ?_)
                  · refine lpure (v := .pointer (some ⟨b102, 3, none⟩)) rfl (p_fa fo_75_3 rfl) rfl rfl ?_
                    refine lread (v := .int .i64 e99.Delay) rfl (q_load wd_3 rfl) (St.ld X165 (j := 1) rfl rfl) rfl ?_
                    refine lpure (v := .bool (decide (e99.Delay ≤ 10000))) rfl (p_le rfl) rfl rfl ?_
                    refine lpure (v := .bool (decide (e99.Delay ≤ 10000))) rfl (p_pick rfl) rfl rfl ?_
                    refine Sim.of_eq (congrArg j286 (show (s164 && (decide (e99.Delay ≤ 10000))) = (decide (e99.Delay ≤ 10000)) from by rw [k288] <;> rfl)) ?_
                    exact ljmpM J287 (decide (e99.Delay ≤ 10000)) () (sub_cons rfl sub_nil) X165
                  · refine lskip rfl rfl ?_
                    refine lskip rfl rfl ?_
                    refine lskip rfl rfl ?_
                    refine lpure (v := .bool false) rfl (p_pick rfl) rfl rfl ?_
                    refine Sim.of_eq (congrArg j286 (show (s164 && (decide (e99.Delay ≤ 10000))) = false from by rw [k288] <;> rfl)) ?_
                    exact ljmpM J287 false () (sub_cons rfl sub_nil) X165
              · intro j289 J290
                refine lcase (i := 10) (show _ = Value.bool s160 from rfl) (fun k291 => ?_) (fun k291 => ?_)
                · refine lpure (v := .pointer (some ⟨b102, 3, none⟩)) rfl (p_fa fo_75_3 rfl) rfl rfl ?_
                  refine lread (v := .int .i64 e99.Delay) rfl (q_load wd_3 rfl) (St.ld X161 (j := 1) rfl rfl) rfl ?_
                  refine lpure (v := .bool (decide (0 ≤ e99.Delay))) rfl (p_ge rfl) rfl rfl ?_
                  refine lpure (v := .bool (decide (0 ≤ e99.Delay))) rfl (p_pick rfl) rfl rfl ?_
                  refine Sim.of_eq (congrArg j289 (show (s160 && (decide (0 ≤ e99.Delay))) = (decide (0 ≤ e99.Delay)) from by rw [k291] <;> rfl)) ?_
                  exact ljmpM J290 (decide (0 ≤ e99.Delay)) () (sub_cons rfl (sub_cons rfl sub_nil)) X161
                · refine lskip rfl rfl ?_
                  refine lskip rfl rfl ?_
                  refine lskip rfl rfl ?_
                  refine lpure (v := .bool false) rfl (p_pick rfl) rfl rfl ?_
                  refine Sim.of_eq (congrArg j289 (show (s160 && (decide (0 ≤ e99.Delay))) = false from by rw [k291] <;> rfl)) ?_
                  exact ljmpM J290 false () (sub_cons rfl (sub_cons rfl sub_nil)) X161
            · intro j292 J293
              refine lcase (i := 5) (show _ = Value.bool (decide (1 ≤ e99.Per)) from rfl) (fun k294 => ?_) (fun k294 => ?_)
              · refine lpure (v := .pointer (some ⟨b102, 2, none⟩)) rfl (p_fa fo_75_2 rfl) rfl rfl ?_
                refine lread (v := .int .i64 e99.Per) rfl (q_load wd_3 rfl) (St.ld X156 (j := 1) rfl rfl) rfl ?_
                refine lpure (v := .bool (decide (e99.Per ≤ 1000))) rfl (p_le rfl) rfl rfl ?_
                refine lpure (v := .bool (decide (e99.Per ≤ 1000))) rfl (p_pick rfl) rfl rfl ?_
                refine Sim.of_eq (congrArg j292 (show ((decide (1 ≤ e99.Per)) && (decide (e99.Per ≤ 1000))) = (decide (e99.Per ≤ 1000)) from by rw [k294] <;> rfl)) ?_
                exact ljmpM J293 (decide (e99.Per ≤ 1000)) () (sub_cons rfl (sub_cons rfl sub_nil)) X156
              · refine lskip rfl rfl ?_
                refine lskip rfl rfl ?_
                refine lskip rfl rfl ?_
                refine lpure (v := .bool false) rfl (p_pick rfl) rfl rfl ?_
                refine Sim.of_eq (congrArg j292 (show ((decide (1 ≤ e99.Per)) && (decide (e99.Per ≤ 1000))) = false from by rw [k294] <;> rfl)) ?_
                exact ljmpM J293 false () (sub_cons rfl (sub_cons rfl sub_nil)) X156
        · intro j295 J296
          refine lif (i := 10) (show _ = Value.bool (!e147) from rfl) (fun k297 => ?_) (fun k297 => ?_)
          · refine lskip rfl rfl ?_
            refine lskip rfl rfl ?_
            refine lskip rfl rfl ?_
            refine lskip rfl rfl ?_
            refine lskip rfl rfl ?_
            refine lskip rfl rfl ?_
            refine lskip rfl rfl ?_
            refine lpure (v := .bool true) rfl (p_pick rfl) rfl rfl ?_
            exact ljmpM J296 true () (sub_cons rfl sub_nil) X144
          · refine lpure (v := .pointer (some ⟨b91, 1, none⟩)) rfl (p_fa fo_29_1 rfl) rfl rfl ?_
            refine lread (v := .slice a88 n88 c88) rfl (q_load wd_26 rfl) (St.ld X144 (j := 3) rfl rfl) rfl ?_
            refine lpure (v := .pointer (some ⟨b102, 1, none⟩)) rfl (p_fa fo_75_1 rfl) rfl rfl ?_
            refine lread (v := .int .i64 e99.B) rfl (q_load wd_3 rfl) (St.ld X144 (j := 1) rfl rfl) rfl ?_
            refine Sim.bindM fun e298 he299 => ?_
            obtain ⟨p300, cs300, hp300, hF300, hR300⟩ := RSl.ia H88 he299 (kd := .i64) (n := 1) rfl
            have hR300 : _ = [(.bool e298 : Value)] := hR300
            subst hR300
            refine lpure (v := p300) rfl (p_ia rs_26 rfl) hp300 rfl ?_
            refine lread (v := .bool e298) rfl (q_load wd_4 rfl) (FP.ld X144 hF300) rfl ?_
            refine lpure (v := .bool (!e298)) rfl (p_not rfl) rfl rfl ?_
            refine lpure (v := .bool (!e298)) rfl (p_pick rfl) rfl rfl ?_
            exact ljmpM J296 (!e298) () (sub_cons rfl sub_nil) X144
    · intro j301 J302
      refine lcase (i := 13) (show _ = Value.bool s139 from rfl) (fun k303 => ?_) (fun k303 => ?_)
      · refine lpure (v := .pointer (some ⟨b102, 0, none⟩)) rfl (p_fa fo_75_0 rfl) rfl rfl ?_
        refine lread (v := .int .i64 e99.A) rfl (q_load wd_3 rfl) (St.ld X140 (j := 1) rfl rfl) rfl ?_
        refine lpure (v := .pointer (some ⟨b102, 1, none⟩)) rfl (p_fa fo_75_1 rfl) rfl rfl ?_
        refine lread (v := .int .i64 e99.B) rfl (q_load wd_3 rfl) (St.ld X140 (j := 1) rfl rfl) rfl ?_
        refine lpure (v := .bool (decide (e99.A ≠ e99.B))) rfl (p_ne rfl) rfl rfl ?_
        refine lpure (v := .bool (decide (e99.A ≠ e99.B))) rfl (p_pick rfl) rfl rfl ?_
        refine Sim.of_eq (congrArg j301 (show (s139 && (decide (e99.A ≠ e99.B))) = (decide (e99.A ≠ e99.B)) from by rw [k303] <;> rfl)) ?_
        exact ljmpM J302 (decide (e99.A ≠ e99.B)) () (sub_cons rfl sub_nil) X140
      · refine lskip rfl rfl ?_
        refine lskip rfl rfl ?_
        refine lskip rfl rfl ?_
        refine lskip rfl rfl ?_
        refine lskip rfl rfl ?_
        refine lpure (v := .bool false) rfl (p_pick rfl) rfl rfl ?_
        refine Sim.of_eq (congrArg j301 (show (s139 && (decide (e99.A ≠ e99.B))) = false from by rw [k303] <;> rfl)) ?_
        exact ljmpM J302 false () (sub_cons rfl sub_nil) X140
  · intro j304 J305
    refine lif (i := 7) (show _ = Value.bool e129 from rfl) (fun k306 => ?_) (fun k306 => ?_)
    · refine lread (v := .agg #[.int .i64 p87.Nodes, .slice a88 n88 c88, .slice a89 n89 c89]) rfl (q_load wd_29 rfl) (St.ld X113 (j := 3) rfl rfl) rfl ?_
      refine lpure (v := .pointer (some ⟨b102, 1, none⟩)) rfl (p_fa fo_75_1 rfl) rfl rfl ?_
      refine lread (v := .int .i64 e99.B) rfl (q_load wd_3 rfl) (St.ld X113 (j := 1) rfl rfl) rfl ?_
      refine lcall rfl rfl ca_40 rfl rfl (f40_ok X113 p87 (e99.B) H88 H89) rfl (fun e307 v308 h309 hq310 => ?_)
      cases hq310
      refine lpure (v := .bool e307) rfl (p_pick rfl) rfl rfl ?_
      exact ljmpM J305 e307 () (sub_cons rfl (sub_cons rfl sub_nil)) X113
    · refine lskip rfl rfl ?_
      refine lskip rfl rfl ?_
      refine lskip rfl rfl ?_
      refine lskip rfl rfl ?_
      refine lpure (v := .bool false) rfl (p_pick rfl) rfl rfl ?_
      exact ljmpM J305 false () (sub_cons rfl (sub_cons rfl sub_nil)) X113
/-! (isochron/topo.end).from -/
theorem f42_ok {n : Nat} {φ : Fz} {lo : Nat} {h : Heap} {own : OwnL}  (X : St φ lo h (own)) (p377 : TopoEnd) : Sim ((recN Try.prog LL cutF (n + 1)).call 42 #[(.agg #[.int .i64 p377.Link.A, .int .i64 p377.Link.B, .int .i64 p377.Link.Per, .int .i64 p377.Link.Delay, .int .i64 p377.port])] h) (m_topo_end_from p377) (fun (d : Int) p => p = (.int .i64 d, h)) := by
  refine fcut Try.func42 rfl rfl rfl rfl X ?_
  intro h0 X0
  refine dseq ?_
  refine dreg ?_
  refine lbox rfl rfl rfl rfl rfl X0 (fun b378 h380 X381 => ?_)
  refine lpure (v := .int .i64 0) rfl (p_assign rfl) rfl rfl ?_
  refine lend ?_
  refine nseq ?_
  refine dseq ?_
  refine dseq ?_
  refine dreg ?_
  refine lpure (v := .pointer (some ⟨b378, 4, none⟩)) rfl (p_fa fo_77_1 rfl) rfl rfl ?_
  refine lread (v := .int .i64 p377.port) rfl (q_load wd_3 rfl) (St.ld X381 (j := 0) rfl rfl) rfl ?_
  refine lpure (v := .int .i64 (Int.tmod p377.port 2)) rfl (p_rem rfl) rfl rfl ?_
  refine lpure (v := .bool (decide ((Int.tmod p377.port 2) = 0))) rfl (p_eq rfl) rfl rfl ?_
  refine lend ?_
  refine nseq ?_
  refine dcond rfl rfl (fun k382 => ?_) (fun k382 => ?_)
  · refine dseq ?_
    refine dreg ?_
    refine lpure (v := .pointer (some ⟨b378, 0, none⟩)) rfl (p_fa fo_77_0 rfl) rfl rfl ?_
    refine lpure (v := .pointer (some ⟨b378, 0, none⟩)) rfl (p_fa fo_75_0 rfl) rfl rfl ?_
    refine lread (v := .int .i64 p377.Link.A) rfl (q_load wd_3 rfl) (St.ld X381 (j := 0) rfl rfl) rfl ?_
    refine lpure (v := .int .i64 p377.Link.A) rfl (p_assign rfl) rfl rfl ?_
    refine lend ?_
    refine nseq ?_
    refine dret ?_
    refine rseq ?_
    exact kcut_r (res_1 resT) X381 rfl rfl
  · refine dskip ?_
    refine nseq ?_
    refine dseq ?_
    refine dreg ?_
    refine lpure (v := .pointer (some ⟨b378, 0, none⟩)) rfl (p_fa fo_77_0 rfl) rfl rfl ?_
    refine lpure (v := .pointer (some ⟨b378, 1, none⟩)) rfl (p_fa fo_75_1 rfl) rfl rfl ?_
    refine lread (v := .int .i64 p377.Link.B) rfl (q_load wd_3 rfl) (St.ld X381 (j := 0) rfl rfl) rfl ?_
    refine lpure (v := .int .i64 p377.Link.B) rfl (p_assign rfl) rfl rfl ?_
    refine lend ?_
    refine nseq ?_
    refine dret ?_
    exact kcut_r (res_1 resT) X381 rfl rfl
/-! isochron/topo.degree -/
theorem f37_ok {n : Nat} {φ : Fz} {lo : Nat} {h : Heap} {own : OwnL}  {a326 : Option Addr} {n326 c326 : Nat} {a327 : Option Addr} {n327 c327 : Nat} (X : St φ lo h (own)) (p325 : ApiTopo) (p328 : Int) (H326 : RSl eBool φ (.slice a326 n326 c326) p325.Station) (H327 : RSl eApiLink φ (.slice a327 n327 c327) p325.Links) : Sim ((recN Try.prog LL cutF (n + 4)).call 37 #[(.agg #[.int .i64 p325.Nodes, .slice a326 n326 c326, .slice a327 n327 c327]), (.int .i64 p328)] h) (m_topo_degree p325 p328) (fun (d : Int) p => p = (.int .i64 d, h)) := by
  refine fcut Try.func37 rfl rfl rfl rfl X ?_
  intro h0 X0
  refine dseq ?_
  refine dreg ?_
  refine lbox rfl rfl rfl rfl rfl X0 (fun b329 h331 X332 => ?_)
  refine lbox rfl rfl rfl rfl rfl X332 (fun b333 h335 X336 => ?_)
  refine lpure (v := .int .i64 0) rfl (p_assign rfl) rfl rfl ?_
  refine lend ?_
  refine nseq ?_
  refine dseq ?_
  refine dreg ?_
  refine lalloc rfl tz_3 rfl rfl rfl X336 (fun b337 h339 X340 => ?_)
  refine lstore rfl ts_3 rfl rfl (j := 0) rfl rfl rfl rfl rfl rfl X340 (fun h341 X342 => ?_)
  refine lend ?_
  refine nseq ?_
  refine dseq ?_
  refine dseq ?_
  refine dreg ?_
  refine lread (v := .agg #[.int .i64 p325.Nodes, .slice a326 n326 c326, .slice a327 n327 c327]) rfl (q_load wd_29 rfl) (St.ld X342 (j := 2) rfl rfl) rfl ?_
  refine linl rfl rfl rfl rfl ca_41 rfl Try.func41 rfl rfl rfl rfl rfl ?_
  refine dseq ?_
  refine dreg ?_
  refine lbox rfl rfl rfl rfl rfl X342 (fun b343 h345 X346 => ?_)
  refine lpure (v := .nilFunc) rfl (p_assign rfl) rfl rfl ?_
  refine lend ?_
  refine nseq ?_
  refine dseq ?_
  refine dreg ?_
  refine lpure (v := .func (.func 84) #[] #[.pointer (some ⟨b343, 0, none⟩)]) rfl (p_makeFunc rfl) rfl rfl ?_
  refine lpure (v := .func (.func 84) #[] #[.pointer (some ⟨b343, 0, none⟩)]) rfl (p_assign rfl) rfl rfl ?_
  refine lend ?_
  refine nseq ?_
  refine dret ?_
  refine kin_r (res_1 resT) ?_
  refine lend ?_
  refine nseq ?_
  refine dblock ?_
  refine drange rfl rfl ca_84 Try.func84 rfl rfl X346 (fun _ => rfl) ?_
  intro l347 q348 df349 h351 Q350 X352
  refine dseq ?_
  refine dreg ?_
  refine lpure (v := .pointer (some ⟨b343, 2, none⟩)) rfl (p_fa fo_29_2 rfl) rfl rfl ?_
  refine lread (v := .slice a327 n327 c327) rfl (q_load wd_27 rfl) (St.ld X352 (j := 2) rfl rfl) rfl ?_
  refine lpure (v := .int .i64 (p325.Links.length : Int)) rfl (p_len rfl rfl rfl un_27 rfl) (RSl.lenC H327) rfl ?_
  refine lpure (v := .int .i64 0) rfl (p_move rfl) rfl rfl ?_
  refine lend ?_
  refine nseq ?_
  refine dblock ?_
  refine dloopM (τ := Int × Int) (σ := Unit) (fun s491 (_ : Unit) => [(0, .func (.yield l347) #[] #[]), (6, .slice a327 n327 c327), (7, .int .i64 (p325.Links.length : Int)), (8, .int .i64 s491.1)]) (fun s491 (_ : Unit) hh => St φ h.n hh ([(some l347, rdy q348), (none, .dead), (some b343, .cells [.int .i64 p325.Nodes, .slice a326 n326 c326, .slice a327 n327 c327] 29 .exact), (some b337, .cells [.int .i64 s491.2] 3 .exact), (some b333, .cells [.int .i64 p328] 3 .exact), (some b329, .cells [.int .i64 p325.Nodes, .slice a326 n326 c326, .slice a327 n327 c327] 29 .exact)])) (0, 0) () (sub_cons rfl (sub_cons rfl (sub_cons rfl (sub_cons rfl sub_nil)))) (St.pick X352 (.keep _ (.none _ (.skip _ (.keep _ (.keep _ (.keep _ (.keep _ (.nil _))))))))) ?_
  rintro n558 ih557 s491 _ t0 h560 X559
  refine dseq ?_
  refine dreg ?_
  refine lpure (v := .bool (decide (s491.1 < (p325.Links.length : Int)))) rfl (p_lt rfl) rfl rfl ?_
  refine lend ?_
  refine nseq ?_
  refine dseq ?_
  refine dcond rfl rfl (fun k561 => ?_) (fun k561 => ?_)
  · refine dskip ?_
    refine nseq ?_
    refine dseq ?_
    refine dblock ?_
    refine dseq ?_
    refine dreg ?_
    refine lpure (v := .int .i64 s491.1) rfl (p_move rfl) rfl rfl ?_
    refine Sim.bindM fun e562 he563 => ?_
    obtain ⟨p564, cs564, hp564, hF564, hR564⟩ := RSl.ia H327 he563 (kd := .i64) (n := 4) rfl
    obtain rfl := eApiLink_el hR564
    refine lpure (v := p564) rfl (p_ia rs_27 rfl) hp564 rfl ?_
    refine lread (v := .agg #[.int .i64 e562.A, .int .i64 e562.B, .int .i64 e562.Per, .int .i64 e562.Delay]) rfl (q_load wd_75 rfl) (FP.ldw X559 hF564 rfl rfl) rfl ?_
    refine lalloc rfl tz_75 rfl rfl rfl X559 (fun b565 h567 X568 => ?_)
    refine lpure (v := .int .i64 s491.1) rfl (p_assign rfl) rfl rfl ?_
    refine lstore rfl ts_75 rfl rfl (j := 0) rfl rfl rfl rfl rfl rfl X568 (fun h569 X570 => ?_)
    refine lend ?_
    refine nseq ?_
    refine dseq ?_
    refine dreg ?_
    refine lpure (v := .func (.yield l347) #[] #[]) rfl (p_move rfl) rfl rfl ?_
    refine lread (v := .agg #[.int .i64 e562.A, .int .i64 e562.B, .int .i64 e562.Per, .int .i64 e562.Delay]) rfl (q_load wd_75 rfl) (St.ld X570 (j := 0) rfl rfl) rfl ?_
    refine lpure (v := .int .i64 s491.1) rfl (p_move rfl) rfl rfl ?_
    refine lpure (v := .int .i64 (w64 (2 * s491.1))) rfl (p_mul rfl) rfl rfl ?_
    refine lpure (v := .agg #[.int .i64 e562.A, .int .i64 e562.B, .int .i64 e562.Per, .int .i64 e562.Delay, .int .i64 (w64 (2 * s491.1))]) rfl (p_build rfl) (build_st' tz_77 pl_77 rfl) rfl ?_
    refine lround rfl rfl rfl rfl rfl rfl X570 (j := 1) rfl Q350 rfl rfl rfl rfl rfl (fun t571 => ?_)
    refine dreg ?_
    refine lalloc rfl tz_77 rfl rfl rfl X570 (fun b572 h574 X575 => ?_)
    refine lstore rfl ts_77 rfl rfl (j := 0) rfl rfl rfl rfl rfl rfl X575 (fun h576 X577 => ?_)
    refine lend ?_
    refine basg X577 (j := 2) rfl (fun h578 X579 => ?_)
    refine dblock ?_
    refine dseq ?_
    refine ddraw 0 0 0 (by kernel_rfl) ?_
    refine sload (v := .agg #[.int .i64 e562.A, .int .i64 e562.B, .int .i64 e562.Per, .int .i64 e562.Delay, .int .i64 (w64 (2 * s491.1))]) rfl rfl (q_load wd_77 rfl) (St.ld X579 (j := 0) rfl rfl) (same_self 20 rfl) rfl ?_
    refine scall (en := fun d => (.int .i64 d)) rfl rfl ca_42 rfl rfl (f42_ok X579 ((TopoEnd.mk e562 (w64 (2 * s491.1))))) rfl (fun e580 => ?_)
    refine sload (v := .int .i64 p328) rfl rfl (q_load wd_3 rfl) (St.ld X579 (j := 6) rfl rfl) (same_self 20 rfl) rfl ?_
    refine spure (v := .bool (decide (e580 = p328))) rfl (p_eq rfl) (lo_t rfl (lo_t rfl rfl)) rfl rfl ?_
    refine send ?_
    refine nseq ?_
    refine djoinM (τ := Int) (σ := Unit) (fun s587 (_ : Unit) => []) (fun s587 (_ : Unit) hh => St φ h.n hh ([(some b572, .cells [.int .i64 e562.A, .int .i64 e562.B, .int .i64 e562.Per, .int .i64 e562.Delay, .int .i64 (w64 (2 * s491.1))] 77 .exact), (some b565, .cells [.int .i64 e562.A, .int .i64 e562.B, .int .i64 e562.Per, .int .i64 e562.Delay] 75 .exact), (some l347, bsy q348), (none, .dead), (some b343, .cells [.int .i64 p325.Nodes, .slice a326 n326 c326, .slice a327 n327 c327] 29 .exact), (some b337, .cells [.int .i64 s587] 3 .exact), (some b333, .cells [.int .i64 p328] 3 .exact), (some b329, .cells [.int .i64 p325.Nodes, .slice a326 n326 c326, .slice a327 n327 c327] 29 .exact)])) ?_ ?_
    · rintro s587 _ t0 h589 X588
      refine nblock ?_
      refine nrnd X588 (j := 2) rfl (fun h592 X593 => ?_)
      refine lpure (v := .bool false) rfl (p_not rfl) rfl rfl ?_
      refine lpure (v := .bool false) rfl (p_move rfl) rfl rfl ?_
      refine lpure (v := .func (.yield l347) #[] #[]) rfl (p_move rfl) rfl rfl ?_
      refine lread (v := .agg #[.int .i64 e562.A, .int .i64 e562.B, .int .i64 e562.Per, .int .i64 e562.Delay]) rfl (q_load wd_75 rfl) (St.ld X593 (j := 1) rfl rfl) rfl ?_
      refine lpure (v := .int .i64 s491.1) rfl (p_move rfl) rfl rfl ?_
      refine lpure (v := .int .i64 (w64 (2 * s491.1))) rfl (p_mul rfl) rfl rfl ?_
      refine lpure (v := .int .i64 (w64 ((w64 (2 * s491.1)) + 1))) rfl (p_add rfl) rfl rfl ?_
      refine lpure (v := .agg #[.int .i64 e562.A, .int .i64 e562.B, .int .i64 e562.Per, .int .i64 e562.Delay, .int .i64 (w64 ((w64 (2 * s491.1)) + 1))]) rfl (p_build rfl) (build_st' tz_77 pl_77 rfl) rfl ?_
      refine lround rfl rfl rfl rfl rfl rfl X593 (j := 2) rfl Q350 rfl rfl rfl rfl rfl (fun t594 => ?_)
      refine dreg ?_
      refine lalloc rfl tz_77 rfl rfl rfl X593 (fun b595 h597 X598 => ?_)
      refine lstore rfl ts_77 rfl rfl (j := 0) rfl rfl rfl rfl rfl rfl X598 (fun h599 X600 => ?_)
      refine lend ?_
      refine basg X600 (j := 3) rfl (fun h601 X602 => ?_)
      refine dblock ?_
      refine dseq ?_
      refine ddraw 0 0 0 (by kernel_rfl) ?_
      refine sload (v := .agg #[.int .i64 e562.A, .int .i64 e562.B, .int .i64 e562.Per, .int .i64 e562.Delay, .int .i64 (w64 ((w64 (2 * s491.1)) + 1))]) rfl rfl (q_load wd_77 rfl) (St.ld X602 (j := 0) rfl rfl) (same_self 20 rfl) rfl ?_
      refine scall (en := fun d => (.int .i64 d)) rfl rfl ca_42 rfl rfl (f42_ok X602 ((TopoEnd.mk e562 (w64 ((w64 (2 * s491.1)) + 1))))) rfl (fun e603 => ?_)
      refine sload (v := .int .i64 p328) rfl rfl (q_load wd_3 rfl) (St.ld X602 (j := 7) rfl rfl) (same_self 20 rfl) rfl ?_
      refine spure (v := .bool (decide (e603 = p328))) rfl (p_eq rfl) (lo_t rfl (lo_t rfl rfl)) rfl rfl ?_
      refine send ?_
      refine nseq ?_
      refine djoinM (τ := Int) (σ := Unit) (fun s610 (_ : Unit) => []) (fun s610 (_ : Unit) hh => St φ h.n hh ([(some b595, .cells [.int .i64 e562.A, .int .i64 e562.B, .int .i64 e562.Per, .int .i64 e562.Delay, .int .i64 (w64 ((w64 (2 * s491.1)) + 1))] 77 .exact), (some b572, .cells [.int .i64 e562.A, .int .i64 e562.B, .int .i64 e562.Per, .int .i64 e562.Delay, .int .i64 (w64 (2 * s491.1))] 77 .exact), (some b565, .cells [.int .i64 e562.A, .int .i64 e562.B, .int .i64 e562.Per, .int .i64 e562.Delay] 75 .exact), (some l347, bsy q348), (none, .dead), (some b343, .cells [.int .i64 p325.Nodes, .slice a326 n326 c326, .slice a327 n327 c327] 29 .exact), (some b337, .cells [.int .i64 s610] 3 .exact), (some b333, .cells [.int .i64 p328] 3 .exact), (some b329, .cells [.int .i64 p325.Nodes, .slice a326 n326 c326, .slice a327 n327 c327] 29 .exact)])) ?_ ?_
      · rintro s610 _ t0 h612 X611
        refine nblock ?_
        refine nrnd X611 (j := 3) rfl (fun h615 X616 => ?_)
        refine lpure (v := .bool false) rfl (p_not rfl) rfl rfl ?_
        refine lpure (v := .bool false) rfl (p_pick rfl) rfl rfl ?_
        refine lend ?_
        refine nseq ?_
        refine dcondF rfl rfl ?_
        refine dskip ?_
        refine nblock ?_
        refine nseq ?_
        refine dreg ?_
        refine lpure (v := .int .i64 (w64 (s491.1 + 1))) rfl (p_add rfl) rfl rfl ?_
        refine lpure (v := .int .i64 (w64 (s491.1 + 1))) rfl (p_move rfl) rfl rfl ?_
        refine lend ?_
        exact kbackM ih557 ((w64 (s491.1 + 1)), s610) () (sub_cons rfl (sub_cons rfl (sub_cons rfl (sub_cons rfl sub_nil)))) (St.pick X616 (.skip _ (.skip _ (.skip _ (.keep _ (.none _ (.skip _ (.keep _ (.keep _ (.keep _ (.keep _ (.nil _))))))))))))
      · intro j613 J614
        refine dcond rfl rfl (fun k607 => ?_) (fun k607 => ?_)
        · refine dreg ?_
          refine lread (v := .int .i64 s587) rfl (q_load wd_3 rfl) (St.ld X602 (j := 6) rfl rfl) rfl ?_
          refine lpure (v := .int .i64 (w64 (s587 + 1))) rfl (p_add rfl) rfl rfl ?_
          refine lstore rfl ts_3 rfl rfl (j := 6) rfl rfl rfl rfl rfl rfl X602 (fun h617 X618 => ?_)
          refine lend ?_
          exact jmpM J614 (w64 (s587 + 1)) () sub_nil (St.pick X618 (.keep _ (.keep _ (.keep _ (.keep _ (.none _ (.skip _ (.keep _ (.keep _ (.keep _ (.keep _ (.nil _))))))))))))
        · refine dskip ?_
          exact jmpM J614 s587 () sub_nil (St.pick X602 (.keep _ (.keep _ (.keep _ (.keep _ (.none _ (.skip _ (.keep _ (.keep _ (.keep _ (.keep _ (.nil _))))))))))))
    · intro j590 J591
      refine dcond rfl rfl (fun k584 => ?_) (fun k584 => ?_)
      · refine dreg ?_
        refine lread (v := .int .i64 s491.2) rfl (q_load wd_3 rfl) (St.ld X579 (j := 5) rfl rfl) rfl ?_
        refine lpure (v := .int .i64 (w64 (s491.2 + 1))) rfl (p_add rfl) rfl rfl ?_
        refine lstore rfl ts_3 rfl rfl (j := 5) rfl rfl rfl rfl rfl rfl X579 (fun h619 X620 => ?_)
        refine lend ?_
        exact jmpM J591 (w64 (s491.2 + 1)) () sub_nil (St.pick X620 (.keep _ (.keep _ (.keep _ (.none _ (.skip _ (.keep _ (.keep _ (.keep _ (.keep _ (.nil _)))))))))))
      · refine dskip ?_
        exact jmpM J591 s491.2 () sub_nil (St.pick X579 (.keep _ (.keep _ (.keep _ (.none _ (.skip _ (.keep _ (.keep _ (.keep _ (.keep _ (.nil _)))))))))))
  · refine dexit ?_
    refine eseq ?_
    refine eloop ?_
    refine xblock ?_
    refine kin_n res_0 ?_
    refine rend_n X559 (j := 0) rfl (fun h621 X622 => ?_)
    refine nblock ?_
    refine nseq ?_
    refine dseq ?_
    refine dreg ?_
    refine lread (v := .int .i64 s491.2) rfl (q_load wd_3 rfl) (St.ld X622 (j := 3) rfl rfl) rfl ?_
    refine lpure (v := .int .i64 s491.2) rfl (p_assign rfl) rfl rfl ?_
    refine lend ?_
    refine nseq ?_
    refine dret ?_
    exact kcut_r (res_1 resT) X622 rfl rfl
/-! (isochron/topo.end).to -/
theorem f44_ok {n : Nat} {φ : Fz} {lo : Nat} {h : Heap} {own : OwnL}  (X : St φ lo h (own)) (p713 : TopoEnd) : Sim ((recN Try.prog LL cutF (n + 2)).call 44 #[(.agg #[.int .i64 p713.Link.A, .int .i64 p713.Link.B, .int .i64 p713.Link.Per, .int .i64 p713.Link.Delay, .int .i64 p713.port])] h) (m_topo_end_to p713) (fun (d : Int) p => p = (.int .i64 d, h)) := by
  refine fcut Try.func44 rfl rfl rfl rfl X ?_
  intro h0 X0
  refine dseq ?_
  refine dreg ?_
  refine lbox rfl rfl rfl rfl rfl X0 (fun b714 h716 X717 => ?_)
  refine lpure (v := .int .i64 0) rfl (p_assign rfl) rfl rfl ?_
  refine lend ?_
  refine nseq ?_
  refine dseq ?_
  refine ddraw 0 0 0 (by kernel_rfl) ?_
  refine spure (v := .pointer (some ⟨b714, 0, none⟩)) rfl (p_fa fo_77_0 rfl) (lo_t (lo_own X717 (j := 0) (o := 0) (s := none) (f := 0) rfl) rfl) rfl rfl ?_
  refine spure (v := .pointer (some ⟨b714, 0, none⟩)) rfl (p_fa fo_75_0 rfl) (lo_t (lo_own X717 (j := 0) (o := 0) (s := none) (f := 0) rfl) rfl) rfl rfl ?_
  refine sload (v := .int .i64 p713.Link.A) rfl rfl (q_load wd_3 rfl) (St.ld X717 (j := 0) rfl rfl) (same_self 20 rfl) rfl ?_
  refine spure (v := .pointer (some ⟨b714, 0, none⟩)) rfl (p_fa fo_77_0 rfl) (lo_t (lo_own X717 (j := 0) (o := 0) (s := none) (f := 0) rfl) rfl) rfl rfl ?_
  refine spure (v := .pointer (some ⟨b714, 1, none⟩)) rfl (p_fa fo_75_1 rfl) (lo_t (lo_own X717 (j := 0) (o := 0) (s := none) (f := 0) rfl) rfl) rfl rfl ?_
  refine sload (v := .int .i64 p713.Link.B) rfl rfl (q_load wd_3 rfl) (St.ld X717 (j := 0) rfl rfl) (same_self 20 rfl) rfl ?_
  refine spure (v := .int .i64 (w64 (p713.Link.A + p713.Link.B))) rfl (p_add rfl) (lo_t rfl (lo_t rfl rfl)) rfl rfl ?_
  refine sload (v := .agg #[.int .i64 p713.Link.A, .int .i64 p713.Link.B, .int .i64 p713.Link.Per, .int .i64 p713.Link.Delay, .int .i64 p713.port]) rfl rfl (q_load wd_77 rfl) (St.ld X717 (j := 0) rfl rfl) (same_self 20 rfl) rfl ?_
  refine scall (en := fun d => (.int .i64 d)) rfl rfl ca_42 rfl rfl (f42_ok X717 p713) rfl (fun e718 => ?_)
  refine spure (v := .int .i64 (w64 ((w64 (p713.Link.A + p713.Link.B)) - e718))) rfl (p_sub rfl) (lo_t rfl (lo_t rfl rfl)) rfl rfl ?_
  refine spure (v := .int .i64 (w64 ((w64 (p713.Link.A + p713.Link.B)) - e718))) rfl (p_assign rfl) (lo_t rfl rfl) rfl rfl ?_
  refine send ?_
  refine nseq ?_
  refine dret ?_
  exact kcut_r (res_1 resT) X717 rfl rfl
/-! slices.Index[[]int,int] -/
theorem f105_ok {n : Nat} {φ : Fz} {lo : Nat} {h : Heap} {own : OwnL}  {a726 : Option Addr} {n726 c726 : Nat} (X : St φ lo h (own)) (p725 : (List Int)) (p727 : Int) (H726 : RSl (eInt .i64) φ (.slice a726 n726 c726) p725) : Sim ((recN Try.prog LL cutF (n + 1)).call 105 #[(.slice a726 n726 c726), (.int .i64 p727)] h) (m_slices_Index_int_int p725 p727) (fun (d : Int) p => p = (.int .i64 d, h)) := by
  refine fcut Try.func105 rfl rfl rfl rfl X ?_
  intro h0 X0
  refine dseq ?_
  refine dreg ?_
  refine lpure (v := .int .i64 0) rfl (p_assign rfl) rfl rfl ?_
  refine lend ?_
  refine nseq ?_
  refine dseq ?_
  refine dseq ?_
  refine dreg ?_
  refine lpure (v := .slice a726 n726 c726) rfl (p_move rfl) rfl rfl ?_
  refine lpure (v := .int .i64 (p725.length : Int)) rfl (p_len rfl rfl rfl un_33 rfl) (RSl.lenC H726) rfl ?_
  refine lpure (v := .int .i64 0) rfl (p_move rfl) rfl rfl ?_
  refine lend ?_
  refine nseq ?_
  refine dblock ?_
  refine dloopM (τ := Int) (σ := Unit) (fun s744 (_ : Unit) => [(0, .slice a726 n726 c726), (1, .int .i64 p727), (7, .int .i64 (p725.length : Int)), (8, .int .i64 s744)]) (fun s744 (_ : Unit) hh => St φ h.n hh ([])) 0 () (sub_cons rfl (sub_cons rfl (sub_cons rfl (sub_cons rfl sub_nil)))) X0 ?_
  rintro n754 ih753 s744 _ t0 h756 X755
  refine dseq ?_
  refine dreg ?_
  refine lpure (v := .bool (decide (s744 < (p725.length : Int)))) rfl (p_lt rfl) rfl rfl ?_
  refine lend ?_
  refine nseq ?_
  refine dseq ?_
  refine dcond rfl rfl (fun k757 => ?_) (fun k757 => ?_)
  · refine dskip ?_
    refine nseq ?_
    refine dseq ?_
    refine dblock ?_
    refine dseq ?_
    refine dreg ?_
    refine lpure (v := .int .i64 s744) rfl (p_move rfl) rfl rfl ?_
    refine lpure (v := .int .i64 s744) rfl (p_assign rfl) rfl rfl ?_
    refine lend ?_
    refine nseq ?_
    refine dseq ?_
    refine dreg ?_
    refine lpure (v := .int .i64 p727) rfl (p_move rfl) rfl rfl ?_
    refine lpure (v := .slice a726 n726 c726) rfl (p_move rfl) rfl rfl ?_
    refine lpure (v := .int .i64 s744) rfl (p_move rfl) rfl rfl ?_
    refine Sim.bindM fun e758 he759 => ?_
    obtain ⟨p760, cs760, hp760, hF760, hR760⟩ := RSl.ia H726 he759 (kd := .i64) (n := 1) rfl
    have hR760 : _ = [(.int .i64 e758 : Value)] := hR760
    subst hR760
    refine lpure (v := p760) rfl (p_ia rs_33 rfl) hp760 rfl ?_
    refine lread (v := .int .i64 e758) rfl (q_load wd_3 rfl) (FP.ld X755 hF760) rfl ?_
    refine lpure (v := .bool (decide (p727 = e758))) rfl (p_eq rfl) rfl rfl ?_
    refine lend ?_
    refine nseq ?_
    refine dcond rfl rfl (fun k761 => ?_) (fun k761 => ?_)
    · refine dseq ?_
      refine dreg ?_
      refine lpure (v := .int .i64 s744) rfl (p_move rfl) rfl rfl ?_
      refine lpure (v := .int .i64 s744) rfl (p_assign rfl) rfl rfl ?_
      refine lend ?_
      refine nseq ?_
      refine dret ?_
      refine rblock ?_
      refine rseq ?_
      refine rloop ?_
      refine rblock ?_
      refine rseq ?_
      exact kcut_r (res_1 resT) X755 rfl rfl
    · refine dskip ?_
      refine nblock ?_
      refine nseq ?_
      refine dreg ?_
      refine lpure (v := .int .i64 (w64 (s744 + 1))) rfl (p_add rfl) rfl rfl ?_
      refine lpure (v := .int .i64 (w64 (s744 + 1))) rfl (p_move rfl) rfl rfl ?_
      refine lend ?_
      exact kbackM ih753 (w64 (s744 + 1)) () (sub_cons rfl (sub_cons rfl (sub_cons rfl (sub_cons rfl sub_nil)))) X755
  · refine dexit ?_
    refine eseq ?_
    refine eloop ?_
    refine xblock ?_
    refine nseq ?_
    refine dseq ?_
    refine dreg ?_
    refine lpure (v := .int .i64 (-1)) rfl (p_assign rfl) rfl rfl ?_
    refine lend ?_
    refine nseq ?_
    refine dret ?_
    exact kcut_r (res_1 resT) X755 rfl rfl
/-! slices.Contains[[]int,int] -/
theorem f68_ok {n : Nat} {φ : Fz} {lo : Nat} {h : Heap} {own : OwnL}  {a723 : Option Addr} {n723 c723 : Nat} (X : St φ lo h (own)) (p722 : (List Int)) (p724 : Int) (H723 : RSl (eInt .i64) φ (.slice a723 n723 c723) p722) : Sim ((recN Try.prog LL cutF (n + 2)).call 68 #[(.slice a723 n723 c723), (.int .i64 p724)] h) (m_slices_Contains_int_int p722 p724) (fun (d : Bool) p => p = (.bool d, h)) := by
  refine fcut Try.func68 rfl rfl rfl rfl X ?_
  intro h0 X0
  refine dseq ?_
  refine dreg ?_
  refine lpure (v := .bool false) rfl (p_assign rfl) rfl rfl ?_
  refine lend ?_
  refine nseq ?_
  refine dseq ?_
  refine dreg ?_
  refine lpure (v := .slice a723 n723 c723) rfl (p_move rfl) rfl rfl ?_
  refine lpure (v := .int .i64 p724) rfl (p_move rfl) rfl rfl ?_
  refine lcall rfl rfl ca_105 rfl rfl (f105_ok X0 p722 p724 H723) rfl (fun e762 v763 h764 hq765 => ?_)
  cases hq765
  refine lpure (v := .bool (decide (0 ≤ e762))) rfl (p_ge rfl) rfl rfl ?_
  refine lpure (v := .bool (decide (0 ≤ e762))) rfl (p_assign rfl) rfl rfl ?_
  refine lend ?_
  refine nseq ?_
  refine dret ?_
  exact kcut_r (res_1 resT) X0 rfl rfl
/-! isochron/topo.reach -/
theorem f39_ok {n : Nat} {φ : Fz} {lo : Nat} {h : Heap} {own : OwnL}  {a3320 : Option Addr} {n3320 c3320 : Nat} {a3321 : Option Addr} {n3321 c3321 : Nat} {a3324 : Option Addr} {n3324 c3324 : Nat} (X : St φ lo h (own)) (p3319 : ApiTopo) (p3322 : Int) (p3323 : (List Int)) (H3320 : RSl eBool φ (.slice a3320 n3320 c3320) p3319.Station) (H3321 : RSl eApiLink φ (.slice a3321 n3321 c3321) p3319.Links) (H3324 : RSl (eInt .i64) φ (.slice a3324 n3324 c3324) p3323) : Sim ((recN Try.prog LL cutF (n + 5)).call 39 #[(.agg #[.int .i64 p3319.Nodes, .slice a3320 n3320 c3320, .slice a3321 n3321 c3321]), (.int .i64 p3322), (.slice a3324 n3324 c3324)] h) (m_topo_reach p3319 p3322 p3323) (fun (d : (List Bool)) p => ∃ φ2 : Fz, ∃ a5937 : Option Addr, ∃ n5937 : Nat, ∃ c5937 : Nat, ∃ ob5937 : Option Nat, ∃ blk5937 : Blk, Fz.le φ φ2 ∧ St φ2 lo p.2 ((ob5937, blk5937) :: own) ∧ p.1 = .slice a5937 n5937 c5937 ∧ OSl eBool φ2 4 ob5937 blk5937 (.slice a5937 n5937 c5937) d) := by
  refine fopen Try.func39 rfl rfl rfl rfl ?_
  refine dseq ?_
  refine dreg ?_
  refine lbox rfl rfl rfl rfl rfl X (fun b3325 h3327 X3328 => ?_)
  refine lbox rfl rfl rfl rfl rfl X3328 (fun b3329 h3331 X3332 => ?_)
  refine lpure (v := .slice none 0 0) rfl (p_assign rfl) rfl rfl ?_
  refine lend ?_
  refine nseq ?_
  refine dscope ?_
  refine dseq ?_
  refine dreg ?_
  refine lpure (v := .pointer (some ⟨b3325, 0, none⟩)) rfl (p_fa fo_29_0 rfl) rfl rfl ?_
  refine lread (v := .int .i64 p3319.Nodes) rfl (q_load wd_3 rfl) (St.ld X3332 (j := 1) rfl rfl) rfl ?_
  refine Sim.mustM fun k3333 => ?_
  have k3333 := of_decide_eq_true k3333
  obtain ⟨h3333, b3333, vs3333, hv3333, X3333, O3333⟩ := OSl.mk (E := eBool) (φ := φ) (a0 := false) (k := .i64) (k' := .i64) (l := p3319.Nodes) (c := p3319.Nodes) un_26 tb_4 rfl ts_4 rfl rfl tz_4 rfl rfl rfl (by omega) (by omega) (by omega) X3332
  refine lheap rfl (h_makeSlice rfl) hv3333 rfl ?_
  refine lalloc rfl tz_26 rfl rfl rfl X3333 (fun b3335 h3337 X3338 => ?_)
  refine lstore rfl ts_26 rfl rfl (j := 0) rfl rfl rfl rfl rfl rfl X3338 (fun h3339 X3340 => ?_)
  refine lend ?_
  refine nseq ?_
  refine dseq ?_
  refine dreg ?_
  refine lread (v := .slice (some ⟨b3333, 0, none⟩) (p3319.Nodes).toNat (p3319.Nodes).toNat) rfl (q_load wd_26 rfl) (St.ld X3340 (j := 0) rfl rfl) rfl ?_
  refine lpure (v := .int .i64 p3322) rfl (p_move rfl) rfl rfl ?_
  refine Sim.bindM fun e3341 he3342 => ?_
  obtain ⟨off3343, cs3343, hp3343, hc3343, hR3343, hl3343, hm3343, hs3343⟩ := OSl.iaC O3333 he3342 (kd := .i64) (n := 1) rfl
  have hR3343 : _ = [(.bool e3341 : Value)] := hR3343
  subst hR3343
  refine lpure (v := .pointer (some ⟨b3333, off3343, none⟩)) rfl (p_ia rs_26 rfl) hp3343 rfl ?_
  have O3346 := hs3343 [.bool true] (true) rfl
  refine lstore rfl ts_4 rfl rfl (j := 1) rfl hm3343 rfl rfl (ble_iff.2 hl3343) rfl X3340 (fun h3344 X3345 => ?_)
  refine lend ?_
  refine nseq ?_
  refine dseq ?_
  refine dlabel ?_
  refine nseq ?_
  refine dseq ?_
  refine dblock ?_
  refine dloopM (τ := (List Bool)) (σ := Blk) (fun s4640 blk4641 => [(3, .pointer (some ⟨b3325, 0, none⟩)), (5, .pointer (some ⟨b3329, 0, none⟩)), (7, .pointer (some ⟨b3335, 0, none⟩))]) (fun s4640 blk4641 hh => St φ lo hh ((some b3335, .cells [.slice (some ⟨b3333, 0, none⟩) (p3319.Nodes).toNat (p3319.Nodes).toNat] 26 .exact) :: (some b3333, blk4641) :: (some b3329, .cells [.slice a3324 n3324 c3324] 33 .exact) :: (some b3325, .cells [.int .i64 p3319.Nodes, .slice a3320 n3320 c3320, .slice a3321 n3321 c3321] 29 .exact) :: own) ∧ OSl eBool φ 4 (some b3333) blk4641 (.slice (some ⟨b3333, 0, none⟩) (p3319.Nodes).toNat (p3319.Nodes).toNat) s4640) ((List.replicate (p3319.Nodes).toNat false).set (p3322).toNat true) ((.cells (setAt vs3333 off3343 [.bool true]) 4 .exact)) (sub_cons rfl (sub_cons rfl (sub_cons rfl sub_nil))) ⟨X3345, O3346⟩ ?_
  rintro n5290 ih5289 s4640 blk4641 t0 h5292 ⟨X5291, O4641⟩
  refine dblock ?_
  refine dseq ?_
  refine dseq ?_
  refine dreg ?_
  refine lread (v := .agg #[.int .i64 p3319.Nodes, .slice a3320 n3320 c3320, .slice a3321 n3321 c3321]) rfl (q_load wd_29 rfl) (St.ld X5291 (j := 3) rfl rfl) rfl ?_
  refine linl rfl rfl rfl rfl ca_41 rfl Try.func41 rfl rfl rfl rfl rfl ?_
  refine dseq ?_
  refine dreg ?_
  refine lbox rfl rfl rfl rfl rfl X5291 (fun b5293 h5295 X5296 => ?_)
  refine lpure (v := .nilFunc) rfl (p_assign rfl) rfl rfl ?_
  refine lend ?_
  refine nseq ?_
  refine dseq ?_
  refine dreg ?_
  refine lpure (v := .func (.func 84) #[] #[.pointer (some ⟨b5293, 0, none⟩)]) rfl (p_makeFunc rfl) rfl rfl ?_
  refine lpure (v := .func (.func 84) #[] #[.pointer (some ⟨b5293, 0, none⟩)]) rfl (p_assign rfl) rfl rfl ?_
  refine lend ?_
  refine nseq ?_
  refine dret ?_
  refine kin_r (res_1 resT) ?_
  refine lend ?_
  refine nseq ?_
  refine dblock ?_
  refine drange rfl rfl ca_84 Try.func84 rfl rfl X5296 (fun _ => rfl) ?_
  intro l5297 q5298 df5299 h5301 Q5300 X5302
  refine dseq ?_
  refine dreg ?_
  refine lpure (v := .pointer (some ⟨b5293, 2, none⟩)) rfl (p_fa fo_29_2 rfl) rfl rfl ?_
  refine lread (v := .slice a3321 n3321 c3321) rfl (q_load wd_27 rfl) (St.ld X5302 (j := 2) rfl rfl) rfl ?_
  refine lpure (v := .int .i64 (p3319.Links.length : Int)) rfl (p_len rfl rfl rfl un_27 rfl) (RSl.lenC H3321) rfl ?_
  refine lpure (v := .int .i64 0) rfl (p_move rfl) rfl rfl ?_
  refine lend ?_
  refine nseq ?_
  refine dblock ?_
  refine dloopM (τ := Int × (List Bool)) (σ := Blk) (fun s5620 blk5621 => [(0, .func (.yield l5297) #[] #[]), (6, .slice a3321 n3321 c3321), (7, .int .i64 (p3319.Links.length : Int)), (8, .int .i64 s5620.1)]) (fun s5620 blk5621 hh => St φ lo hh ((some l5297, rdy q5298) :: (none, .dead) :: (some b5293, .cells [.int .i64 p3319.Nodes, .slice a3320 n3320 c3320, .slice a3321 n3321 c3321] 29 .exact) :: (some b3335, .cells [.slice (some ⟨b3333, 0, none⟩) (p3319.Nodes).toNat (p3319.Nodes).toNat] 26 .exact) :: (some b3333, blk5621) :: (some b3329, .cells [.slice a3324 n3324 c3324] 33 .exact) :: (some b3325, .cells [.int .i64 p3319.Nodes, .slice a3320 n3320 c3320, .slice a3321 n3321 c3321] 29 .exact) :: own) ∧ OSl eBool φ 4 (some b3333) blk5621 (.slice (some ⟨b3333, 0, none⟩) (p3319.Nodes).toNat (p3319.Nodes).toNat) s5620.2) (0, s4640) blk4641 (sub_cons rfl (sub_cons rfl (sub_cons rfl (sub_cons rfl sub_nil)))) ⟨(St.pick X5302 (.keep _ (.none _ (.skip _ (.keep _ (.keep _ (.keep _ (.keep _ (.keep _ (.refl _)))))))))), O4641⟩ ?_
  rintro n5780 ih5779 s5620 blk5621 t0 h5782 ⟨X5781, O5621⟩
  refine dseq ?_
  refine dreg ?_
  refine lpure (v := .bool (decide (s5620.1 < (p3319.Links.length : Int)))) rfl (p_lt rfl) rfl rfl ?_
  refine lend ?_
  refine nseq ?_
  refine dseq ?_
  refine dcond rfl rfl (fun k5783 => ?_) (fun k5783 => ?_)
  · refine dskip ?_
    refine nseq ?_
    refine dseq ?_
    refine dblock ?_
    refine dseq ?_
    refine dreg ?_
    refine lpure (v := .int .i64 s5620.1) rfl (p_move rfl) rfl rfl ?_
    refine Sim.bindM fun e5784 he5785 => ?_
    obtain ⟨p5786, cs5786, hp5786, hF5786, hR5786⟩ := RSl.ia H3321 he5785 (kd := .i64) (n := 4) rfl
    obtain rfl := eApiLink_el hR5786
    refine lpure (v := p5786) rfl (p_ia rs_27 rfl) hp5786 rfl ?_
    refine lread (v := .agg #[.int .i64 e5784.A, .int .i64 e5784.B, .int .i64 e5784.Per, .int .i64 e5784.Delay]) rfl (q_load wd_75 rfl) (FP.ldw X5781 hF5786 rfl rfl) rfl ?_
    refine lalloc rfl tz_75 rfl rfl rfl X5781 (fun b5787 h5789 X5790 => ?_)
    refine lpure (v := .int .i64 s5620.1) rfl (p_assign rfl) rfl rfl ?_
    refine lstore rfl ts_75 rfl rfl (j := 0) rfl rfl rfl rfl rfl rfl X5790 (fun h5791 X5792 => ?_)
    refine lend ?_
    refine nseq ?_
    refine dseq ?_
    refine dreg ?_
    refine lpure (v := .func (.yield l5297) #[] #[]) rfl (p_move rfl) rfl rfl ?_
    refine lread (v := .agg #[.int .i64 e5784.A, .int .i64 e5784.B, .int .i64 e5784.Per, .int .i64 e5784.Delay]) rfl (q_load wd_75 rfl) (St.ld X5792 (j := 0) rfl rfl) rfl ?_
    refine lpure (v := .int .i64 s5620.1) rfl (p_move rfl) rfl rfl ?_
    refine lpure (v := .int .i64 (w64 (2 * s5620.1))) rfl (p_mul rfl) rfl rfl ?_
    refine lpure (v := .agg #[.int .i64 e5784.A, .int .i64 e5784.B, .int .i64 e5784.Per, .int .i64 e5784.Delay, .int .i64 (w64 (2 * s5620.1))]) rfl (p_build rfl) (build_st' tz_77 pl_77 rfl) rfl ?_
    refine lround rfl rfl rfl rfl rfl rfl X5792 (j := 1) rfl Q5300 rfl rfl rfl rfl rfl (fun t5793 => ?_)
    refine dreg ?_
    refine lalloc rfl tz_77 rfl rfl rfl X5792 (fun b5794 h5796 X5797 => ?_)
    refine lstore rfl ts_77 rfl rfl (j := 0) rfl rfl rfl rfl rfl rfl X5797 (fun h5798 X5799 => ?_)
    refine lend ?_
    refine basg X5799 (j := 2) rfl (fun h5800 X5801 => ?_)
    refine dblock ?_
    refine dseq ?_
    refine ddraw 0 0 0 (by kernel_rfl) ?_
    refine sload (v := .slice (some ⟨b3333, 0, none⟩) (p3319.Nodes).toNat (p3319.Nodes).toNat) rfl rfl (q_load wd_26 rfl) (St.ld X5801 (j := 5) rfl rfl) (same_self 20 rfl) rfl ?_
    refine sload (v := .agg #[.int .i64 e5784.A, .int .i64 e5784.B, .int .i64 e5784.Per, .int .i64 e5784.Delay, .int .i64 (w64 (2 * s5620.1))]) rfl rfl (q_load wd_77 rfl) (St.ld X5801 (j := 0) rfl rfl) (same_self 20 rfl) rfl ?_
    refine scall (en := fun d => (.int .i64 d)) rfl rfl ca_42 rfl rfl (f42_ok X5801 ((TopoEnd.mk e5784 (w64 (2 * s5620.1))))) rfl (fun e5802 => ?_)
    refine Sim.bindM fun e5806 he5807 => ?_
    obtain ⟨vs5808, m5808, off5808, cs5808, rfl, hp5808, hc5808, hR5808, hl5808, hm5808, hs5808⟩ := OSl.iaB O5621 he5807 (kd := .i64) (n := 1) rfl
    have hR5808 : _ = [(.bool e5806 : Value)] := hR5808
    subst hR5808
    refine spure (v := .pointer (some ⟨b3333, off5808, none⟩)) rfl (p_ia rs_26 rfl) (lo_t (lo_osl X5801 (j := 6) rfl O5621) (lo_t rfl rfl)) hp5808 rfl ?_
    refine sload (v := .bool e5806) rfl rfl (q_load wd_4 rfl) (St.ld X5801 (j := 6) rfl (rdE1 hc5808 (k := 0) rfl rfl)) (same_self 20 rfl) rfl ?_
    refine spure (v := .bool e5806) rfl (p_move rfl) (lo_t rfl rfl) rfl rfl ?_
    refine sjoinM (τ := Bool) (σ := Unit) (fun s5818 (_ : Unit) => [(5, .pointer (some ⟨b3329, 0, none⟩)), (7, .pointer (some ⟨b3335, 0, none⟩)), (8, .pointer (some ⟨b5794, 0, none⟩)), (30, .bool s5818)]) (fun s5818 (_ : Unit) hh => St φ lo hh ((some b5794, .cells [.int .i64 e5784.A, .int .i64 e5784.B, .int .i64 e5784.Per, .int .i64 e5784.Delay, .int .i64 (w64 (2 * s5620.1))] 77 .exact) :: (some b5787, .cells [.int .i64 e5784.A, .int .i64 e5784.B, .int .i64 e5784.Per, .int .i64 e5784.Delay] 75 .exact) :: (some l5297, bsy q5298) :: (none, .dead) :: (some b5293, .cells [.int .i64 p3319.Nodes, .slice a3320 n3320 c3320, .slice a3321 n3321 c3321] 29 .exact) :: (some b3335, .cells [.slice (some ⟨b3333, 0, none⟩) (p3319.Nodes).toNat (p3319.Nodes).toNat] 26 .exact) :: (some b3333, .cells vs5808 4 m5808) :: (some b3329, .cells [.slice a3324 n3324 c3324] 33 .exact) :: (some b3325, .cells [.int .i64 p3319.Nodes, .slice a3320 n3320 c3320, .slice a3321 n3321 c3321] 29 .exact) :: own)) 7 13 ?_ ?_
    · rintro s5818 _ t0 h5820 X5819
      refine spure (v := .bool s5818) rfl (p_move rfl) (lo_t rfl rfl) rfl rfl ?_
      refine sjoinM (τ := Bool) (σ := Unit) (fun s5827 (_ : Unit) => [(7, .pointer (some ⟨b3335, 0, none⟩)), (8, .pointer (some ⟨b5794, 0, none⟩)), (38, .bool s5827)]) (fun s5827 (_ : Unit) hh => St φ lo hh ((some b5794, .cells [.int .i64 e5784.A, .int .i64 e5784.B, .int .i64 e5784.Per, .int .i64 e5784.Delay, .int .i64 (w64 (2 * s5620.1))] 77 .exact) :: (some b5787, .cells [.int .i64 e5784.A, .int .i64 e5784.B, .int .i64 e5784.Per, .int .i64 e5784.Delay] 75 .exact) :: (some l5297, bsy q5298) :: (none, .dead) :: (some b5293, .cells [.int .i64 p3319.Nodes, .slice a3320 n3320 c3320, .slice a3321 n3321 c3321] 29 .exact) :: (some b3335, .cells [.slice (some ⟨b3333, 0, none⟩) (p3319.Nodes).toNat (p3319.Nodes).toNat] 26 .exact) :: (some b3333, .cells vs5808 4 m5808) :: (some b3329, .cells [.slice a3324 n3324 c3324] 33 .exact) :: (some b3325, .cells [.int .i64 p3319.Nodes, .slice a3320 n3320 c3320, .slice a3321 n3321 c3321] 29 .exact) :: own)) 7 21 ?_ ?_
      · rintro s5827 _ t0 h5829 X5828
        refine send ?_
        refine nseq ?_
        refine dcond rfl rfl (fun k5830 => ?_) (fun k5830 => ?_)
        · refine dseq ?_
          refine ddraw 16 16 0 (by kernel_rfl) ?_
          refine sload (v := .slice (some ⟨b3333, 0, none⟩) (p3319.Nodes).toNat (p3319.Nodes).toNat) rfl rfl (q_load wd_26 rfl) (St.ld X5828 (j := 5) rfl rfl) (same_self 20 rfl) rfl ?_
          refine sload (v := .agg #[.int .i64 e5784.A, .int .i64 e5784.B, .int .i64 e5784.Per, .int .i64 e5784.Delay, .int .i64 (w64 (2 * s5620.1))]) rfl rfl (q_load wd_77 rfl) (St.ld X5828 (j := 0) rfl rfl) (same_self 20 rfl) rfl ?_
          refine scall (en := fun d => (.int .i64 d)) rfl rfl ca_44 rfl rfl (f44_ok X5828 ((TopoEnd.mk e5784 (w64 (2 * s5620.1))))) rfl (fun e5831 => ?_)
          refine Sim.bindM fun e5835 he5836 => ?_
          obtain ⟨off5837, cs5837, hp5837, hc5837, hR5837, hl5837, hm5837, hs5837⟩ := OSl.iaC O5621 he5836 (kd := .i64) (n := 1) rfl
          have hR5837 : _ = [(.bool e5835 : Value)] := hR5837
          subst hR5837
          refine spure (v := .pointer (some ⟨b3333, off5837, none⟩)) rfl (p_ia rs_26 rfl) (lo_t (lo_osl X5828 (j := 6) rfl O5621) (lo_t rfl rfl)) hp5837 rfl ?_
          have O5840 := hs5837 [.bool true] (true) rfl
          refine sstore rfl rfl ts_4 rfl rfl (j := 6) rfl hm5837 rfl rfl (ble_iff.2 hl5837) rfl X5828 (fun h5838 X5839 => ?_)
          refine send ?_
          refine nseq ?_
          refine dexit ?_
          refine eblock rfl ?_
          refine ernd X5839 (j := 2) rfl (fun h5841 X5842 => ?_)
          refine lpure (v := .bool true) rfl (p_not rfl) rfl rfl ?_
          refine lpure (v := .bool true) rfl (p_move rfl) rfl rfl ?_
          refine lskip rfl rfl ?_
          refine lskip rfl rfl ?_
          refine lskip rfl rfl ?_
          refine lskip rfl rfl ?_
          refine lskip rfl rfl ?_
          refine lskip rfl rfl ?_
          refine lskip rfl rfl ?_
          refine lskip rfl rfl ?_
          refine lpure (v := .bool true) rfl (p_pick rfl) rfl rfl ?_
          refine lend ?_
          refine nseq ?_
          refine dcondT rfl rfl ?_
          refine dret ?_
          refine rblock ?_
          refine rseq ?_
          refine rloop ?_
          refine rblock ?_
          refine kin_r res_0 ?_
          refine rend_d X5842 (j := 2) rfl (.inr ⟨_, rfl, rfl⟩) (fun h5843 X5844 => ?_)
          refine eblock rfl ?_
          refine eseq ?_
          refine xblock ?_
          exact kbackM ih5289 (s5620.2.set (e5831).toNat true) ((.cells (setAt vs5808 off5837 [.bool true]) 4 m5808)) (sub_cons rfl (sub_cons rfl (sub_cons rfl sub_nil))) ⟨(St.pick X5844 (.skip _ (.skip _ (.skip _ (.skip _ (.skip _ (.keep _ (.keep _ (.keep _ (.keep _ (.refl _))))))))))), O5840⟩
        · refine dskip ?_
          refine nblock ?_
          refine nrnd X5828 (j := 2) rfl (fun h5845 X5846 => ?_)
          refine lpure (v := .bool false) rfl (p_not rfl) rfl rfl ?_
          refine lpure (v := .bool false) rfl (p_move rfl) rfl rfl ?_
          refine lpure (v := .func (.yield l5297) #[] #[]) rfl (p_move rfl) rfl rfl ?_
          refine lread (v := .agg #[.int .i64 e5784.A, .int .i64 e5784.B, .int .i64 e5784.Per, .int .i64 e5784.Delay]) rfl (q_load wd_75 rfl) (St.ld X5846 (j := 1) rfl rfl) rfl ?_
          refine lpure (v := .int .i64 s5620.1) rfl (p_move rfl) rfl rfl ?_
          refine lpure (v := .int .i64 (w64 (2 * s5620.1))) rfl (p_mul rfl) rfl rfl ?_
          refine lpure (v := .int .i64 (w64 ((w64 (2 * s5620.1)) + 1))) rfl (p_add rfl) rfl rfl ?_
          refine lpure (v := .agg #[.int .i64 e5784.A, .int .i64 e5784.B, .int .i64 e5784.Per, .int .i64 e5784.Delay, .int .i64 (w64 ((w64 (2 * s5620.1)) + 1))]) rfl (p_build rfl) (build_st' tz_77 pl_77 rfl) rfl ?_
          refine lround rfl rfl rfl rfl rfl rfl X5846 (j := 2) rfl Q5300 rfl rfl rfl rfl rfl (fun t5847 => ?_)
          refine dreg ?_
          refine lalloc rfl tz_77 rfl rfl rfl X5846 (fun b5848 h5850 X5851 => ?_)
          refine lstore rfl ts_77 rfl rfl (j := 0) rfl rfl rfl rfl rfl rfl X5851 (fun h5852 X5853 => ?_)
          refine lend ?_
          refine basg X5853 (j := 3) rfl (fun h5854 X5855 => ?_)
          refine dblock ?_
          refine dseq ?_
          refine ddraw 0 0 0 (by kernel_rfl) ?_
          refine sload (v := .slice (some ⟨b3333, 0, none⟩) (p3319.Nodes).toNat (p3319.Nodes).toNat) rfl rfl (q_load wd_26 rfl) (St.ld X5855 (j := 6) rfl rfl) (same_self 20 rfl) rfl ?_
          refine sload (v := .agg #[.int .i64 e5784.A, .int .i64 e5784.B, .int .i64 e5784.Per, .int .i64 e5784.Delay, .int .i64 (w64 ((w64 (2 * s5620.1)) + 1))]) rfl rfl (q_load wd_77 rfl) (St.ld X5855 (j := 0) rfl rfl) (same_self 20 rfl) rfl ?_
          refine scall (en := fun d => (.int .i64 d)) rfl rfl ca_42 rfl rfl (f42_ok X5855 ((TopoEnd.mk e5784 (w64 ((w64 (2 * s5620.1)) + 1))))) rfl (fun e5856 => ?_)
          refine Sim.bindM fun e5860 he5861 => ?_
          obtain ⟨off5862, cs5862, hp5862, hc5862, hR5862, hl5862, hm5862, hs5862⟩ := OSl.iaC O5621 he5861 (kd := .i64) (n := 1) rfl
          have hR5862 : _ = [(.bool e5860 : Value)] := hR5862
          subst hR5862
          refine spure (v := .pointer (some ⟨b3333, off5862, none⟩)) rfl (p_ia rs_26 rfl) (lo_t (lo_osl X5855 (j := 7) rfl O5621) (lo_t rfl rfl)) hp5862 rfl ?_
          refine sload (v := .bool e5860) rfl rfl (q_load wd_4 rfl) (St.ld X5855 (j := 7) rfl (rdE1 hc5862 (k := 0) rfl rfl)) (same_self 20 rfl) rfl ?_
          refine spure (v := .bool e5860) rfl (p_move rfl) (lo_t rfl rfl) rfl rfl ?_
          refine sjoinM (τ := Bool) (σ := Unit) (fun s5872 (_ : Unit) => [(5, .pointer (some ⟨b3329, 0, none⟩)), (7, .pointer (some ⟨b3335, 0, none⟩)), (8, .pointer (some ⟨b5848, 0, none⟩)), (30, .bool s5872)]) (fun s5872 (_ : Unit) hh => St φ lo hh ((some b5848, .cells [.int .i64 e5784.A, .int .i64 e5784.B, .int .i64 e5784.Per, .int .i64 e5784.Delay, .int .i64 (w64 ((w64 (2 * s5620.1)) + 1))] 77 .exact) :: (some b5794, .cells [.int .i64 e5784.A, .int .i64 e5784.B, .int .i64 e5784.Per, .int .i64 e5784.Delay, .int .i64 (w64 (2 * s5620.1))] 77 .exact) :: (some b5787, .cells [.int .i64 e5784.A, .int .i64 e5784.B, .int .i64 e5784.Per, .int .i64 e5784.Delay] 75 .exact) :: (some l5297, bsy q5298) :: (none, .dead) :: (some b5293, .cells [.int .i64 p3319.Nodes, .slice a3320 n3320 c3320, .slice a3321 n3321 c3321] 29 .exact) :: (some b3335, .cells [.slice (some ⟨b3333, 0, none⟩) (p3319.Nodes).toNat (p3319.Nodes).toNat] 26 .exact) :: (some b3333, .cells vs5808 4 m5808) :: (some b3329, .cells [.slice a3324 n3324 c3324] 33 .exact) :: (some b3325, .cells [.int .i64 p3319.Nodes, .slice a3320 n3320 c3320, .slice a3321 n3321 c3321] 29 .exact) :: own)) 7 13 ?_ ?_
          · rintro s5872 _ t0 h5874 X5873
            refine spure (v := .bool s5872) rfl (p_move rfl) (lo_t rfl rfl) rfl rfl ?_
            refine sjoinM (τ := Bool) (σ := Unit) (fun s5881 (_ : Unit) => [(7, .pointer (some ⟨b3335, 0, none⟩)), (8, .pointer (some ⟨b5848, 0, none⟩)), (38, .bool s5881)]) (fun s5881 (_ : Unit) hh => St φ lo hh ((some b5848, .cells [.int .i64 e5784.A, .int .i64 e5784.B, .int .i64 e5784.Per, .int .i64 e5784.Delay, .int .i64 (w64 ((w64 (2 * s5620.1)) + 1))] 77 .exact) :: (some b5794, .cells [.int .i64 e5784.A, .int .i64 e5784.B, .int .i64 e5784.Per, .int .i64 e5784.Delay, .int .i64 (w64 (2 * s5620.1))] 77 .exact) :: (some b5787, .cells [.int .i64 e5784.A, .int .i64 e5784.B, .int .i64 e5784.Per, .int .i64 e5784.Delay] 75 .exact) :: (some l5297, bsy q5298) :: (none, .dead) :: (some b5293, .cells [.int .i64 p3319.Nodes, .slice a3320 n3320 c3320, .slice a3321 n3321 c3321] 29 .exact) :: (some b3335, .cells [.slice (some ⟨b3333, 0, none⟩) (p3319.Nodes).toNat (p3319.Nodes).toNat] 26 .exact) :: (some b3333, .cells vs5808 4 m5808) :: (some b3329, .cells [.slice a3324 n3324 c3324] 33 .exact) :: (some b3325, .cells [.int .i64 p3319.Nodes, .slice a3320 n3320 c3320, .slice a3321 n3321 c3321] 29 .exact) :: own)) 7 21 ?_ ?_
            · rintro s5881 _ t0 h5883 X5882
              refine send ?_
              refine nseq ?_
              refine dcond rfl rfl (fun k5884 => ?_) (fun k5884 => ?_)
              · refine dseq ?_
                refine ddraw 16 16 0 (by kernel_rfl) ?_
                refine sload (v := .slice (some ⟨b3333, 0, none⟩) (p3319.Nodes).toNat (p3319.Nodes).toNat) rfl rfl (q_load wd_26 rfl) (St.ld X5882 (j := 6) rfl rfl) (same_self 20 rfl) rfl ?_
                refine sload (v := .agg #[.int .i64 e5784.A, .int .i64 e5784.B, .int .i64 e5784.Per, .int .i64 e5784.Delay, .int .i64 (w64 ((w64 (2 * s5620.1)) + 1))]) rfl rfl (q_load wd_77 rfl) (St.ld X5882 (j := 0) rfl rfl) (same_self 20 rfl) rfl ?_
                refine scall (en := fun d => (.int .i64 d)) rfl rfl ca_44 rfl rfl (f44_ok X5882 ((TopoEnd.mk e5784 (w64 ((w64 (2 * s5620.1)) + 1))))) rfl (fun e5885 => ?_)
                refine Sim.bindM fun e5889 he5890 => ?_
                obtain ⟨off5891, cs5891, hp5891, hc5891, hR5891, hl5891, hm5891, hs5891⟩ := OSl.iaC O5621 he5890 (kd := .i64) (n := 1) rfl
                have hR5891 : _ = [(.bool e5889 : Value)] := hR5891
                subst hR5891
                refine spure (v := .pointer (some ⟨b3333, off5891, none⟩)) rfl (p_ia rs_26 rfl) (lo_t (lo_osl X5882 (j := 7) rfl O5621) (lo_t rfl rfl)) hp5891 rfl ?_
                have O5894 := hs5891 [.bool true] (true) rfl
                refine sstore rfl rfl ts_4 rfl rfl (j := 7) rfl hm5891 rfl rfl (ble_iff.2 hl5891) rfl X5882 (fun h5892 X5893 => ?_)
                refine send ?_
                refine nseq ?_
                refine dexit ?_
                refine eblock rfl ?_
                refine ernd X5893 (j := 3) rfl (fun h5895 X5896 => ?_)
                refine lpure (v := .bool true) rfl (p_not rfl) rfl rfl ?_
                refine lpure (v := .bool true) rfl (p_pick rfl) rfl rfl ?_
                refine lend ?_
                refine nseq ?_
                refine dcondT rfl rfl ?_
                refine dret ?_
                refine rblock ?_
                refine rseq ?_
                refine rloop ?_
                refine rblock ?_
                refine kin_r res_0 ?_
                refine rend_d X5896 (j := 3) rfl (.inr ⟨_, rfl, rfl⟩) (fun h5897 X5898 => ?_)
                refine eblock rfl ?_
                refine eseq ?_
                refine xblock ?_
                exact kbackM ih5289 (s5620.2.set (e5885).toNat true) ((.cells (setAt vs5808 off5891 [.bool true]) 4 m5808)) (sub_cons rfl (sub_cons rfl (sub_cons rfl sub_nil))) ⟨(St.pick X5898 (.skip _ (.skip _ (.skip _ (.skip _ (.skip _ (.skip _ (.keep _ (.keep _ (.keep _ (.keep _ (.refl _)))))))))))), O5894⟩
              · refine dskip ?_
                refine nblock ?_
                refine nrnd X5882 (j := 3) rfl (fun h5899 X5900 => ?_)
                refine lpure (v := .bool false) rfl (p_not rfl) rfl rfl ?_
                refine lpure (v := .bool false) rfl (p_pick rfl) rfl rfl ?_
                refine lend ?_
                refine nseq ?_
                refine dcondF rfl rfl ?_
                refine dskip ?_
                refine nblock ?_
                refine nseq ?_
                refine dreg ?_
                refine lpure (v := .int .i64 (w64 (s5620.1 + 1))) rfl (p_add rfl) rfl rfl ?_
                refine lpure (v := .int .i64 (w64 (s5620.1 + 1))) rfl (p_move rfl) rfl rfl ?_
                refine lend ?_
                exact kbackM ih5779 ((w64 (s5620.1 + 1)), s5620.2) (.cells vs5808 4 m5808) (sub_cons rfl (sub_cons rfl (sub_cons rfl (sub_cons rfl sub_nil)))) ⟨(St.pick X5900 (.skip _ (.skip _ (.skip _ (.keep _ (.none _ (.skip _ (.keep _ (.keep _ (.keep _ (.keep _ (.keep _ (.refl _))))))))))))), O5621⟩
            · intro j5901 J5902
              refine sif (j := 31) (show _ = Value.bool s5872 from rfl) (fun k5903 => ?_) (fun k5903 => ?_)
              · refine sload (v := .slice a3324 n3324 c3324) rfl rfl (q_load wd_33 rfl) (St.ld X5873 (j := 8) rfl rfl) (same_self 20 rfl) rfl ?_
                refine spure (v := .pointer (some ⟨b5848, 4, none⟩)) rfl (p_fa fo_77_1 rfl) (lo_t (lo_own X5873 (j := 0) (o := 0) (s := none) (f := 0) rfl) rfl) rfl rfl ?_
                refine sload (v := .int .i64 (w64 ((w64 (2 * s5620.1)) + 1))) rfl rfl (q_load wd_3 rfl) (St.ld X5873 (j := 0) rfl rfl) (same_self 20 rfl) rfl ?_
                refine spure (v := .int .i64 (w64 (Int.tdiv (w64 ((w64 (2 * s5620.1)) + 1)) 2))) rfl (p_quo rfl) (lo_t rfl (lo_c rfl)) rfl rfl ?_
                refine scall (en := fun d => (.bool d)) rfl rfl ca_68 rfl rfl (f68_ok X5873 p3323 ((w64 (Int.tdiv (w64 ((w64 (2 * s5620.1)) + 1)) 2))) H3324) rfl (fun e5904 => ?_)
                refine spure (v := .bool (!e5904)) rfl (p_not rfl) (lo_t rfl rfl) rfl rfl ?_
                refine spure (v := .bool (!e5904)) rfl (p_pick rfl) (lo_t rfl (lo_t rfl (lo_c rfl))) rfl rfl ?_
                exact sjmpM J5902 (!e5904) () (sub_cons rfl (sub_cons rfl (sub_cons rfl sub_nil))) (St.pick X5873 (.keep _ (.keep _ (.keep _ (.keep _ (.none _ (.skip _ (.keep _ (.keep _ (.keep _ (.keep _ (.keep _ (.refl _)))))))))))))
              · refine sskip rfl rfl ?_
                refine sskip rfl rfl ?_
                refine sskip rfl rfl ?_
                refine sskip rfl rfl ?_
                refine sskip rfl rfl ?_
                refine sskip rfl rfl ?_
                refine spure (v := .bool false) rfl (p_pick rfl) (lo_t rfl (lo_t rfl (lo_c rfl))) rfl rfl ?_
                exact sjmpM J5902 false () (sub_cons rfl (sub_cons rfl (sub_cons rfl sub_nil))) (St.pick X5873 (.keep _ (.keep _ (.keep _ (.keep _ (.none _ (.skip _ (.keep _ (.keep _ (.keep _ (.keep _ (.keep _ (.refl _)))))))))))))
          · intro j5908 J5909
            refine sif (j := 23) (show _ = Value.bool e5860 from rfl) (fun k5910 => ?_) (fun k5910 => ?_)
            · refine sload (v := .slice (some ⟨b3333, 0, none⟩) (p3319.Nodes).toNat (p3319.Nodes).toNat) rfl rfl (q_load wd_26 rfl) (St.ld X5855 (j := 6) rfl rfl) (same_self 20 rfl) rfl ?_
              refine sload (v := .agg #[.int .i64 e5784.A, .int .i64 e5784.B, .int .i64 e5784.Per, .int .i64 e5784.Delay, .int .i64 (w64 ((w64 (2 * s5620.1)) + 1))]) rfl rfl (q_load wd_77 rfl) (St.ld X5855 (j := 0) rfl rfl) (same_self 20 rfl) rfl ?_
              refine scall (en := fun d => (.int .i64 d)) rfl rfl ca_44 rfl rfl (f44_ok X5855 ((TopoEnd.mk e5784 (w64 ((w64 (2 * s5620.1)) + 1))))) rfl (fun e5911 => ?_)
              refine Sim.bindM fun e5915 he5916 => ?_
              obtain ⟨off5917, cs5917, hp5917, hc5917, hR5917, hl5917, hm5917, hs5917⟩ := OSl.iaC O5621 he5916 (kd := .i64) (n := 1) rfl
              have hR5917 : _ = [(.bool e5915 : Value)] := hR5917
              subst hR5917
              refine spure (v := .pointer (some ⟨b3333, off5917, none⟩)) rfl (p_ia rs_26 rfl) (lo_t (lo_osl X5855 (j := 7) rfl O5621) (lo_t rfl rfl)) hp5917 rfl ?_
              refine sload (v := .bool e5915) rfl rfl (q_load wd_4 rfl) (St.ld X5855 (j := 7) rfl (rdE1 hc5917 (k := 0) rfl rfl)) (same_self 20 rfl) rfl ?_
              refine spure (v := .bool (!e5915)) rfl (p_not rfl) (lo_t rfl rfl) rfl rfl ?_
              refine spure (v := .bool (!e5915)) rfl (p_pick rfl) (lo_t rfl (lo_t rfl (lo_c rfl))) rfl rfl ?_
              exact sjmpM J5909 (!e5915) () (sub_cons rfl (sub_cons rfl (sub_cons rfl (sub_cons rfl sub_nil)))) (St.pick X5855 (.keep _ (.keep _ (.keep _ (.keep _ (.none _ (.skip _ (.keep _ (.keep _ (.keep _ (.keep _ (.keep _ (.refl _)))))))))))))
            · refine sskip rfl rfl ?_
              refine sskip rfl rfl ?_
              refine sskip rfl rfl ?_
              refine sskip rfl rfl ?_
              refine sskip rfl rfl ?_
              refine sskip rfl rfl ?_
              refine spure (v := .bool false) rfl (p_pick rfl) (lo_t rfl (lo_t rfl (lo_c rfl))) rfl rfl ?_
              exact sjmpM J5909 false () (sub_cons rfl (sub_cons rfl (sub_cons rfl (sub_cons rfl sub_nil)))) (St.pick X5855 (.keep _ (.keep _ (.keep _ (.keep _ (.none _ (.skip _ (.keep _ (.keep _ (.keep _ (.keep _ (.keep _ (.refl _)))))))))))))
      · intro j5918 J5919
        refine sif (j := 31) (show _ = Value.bool s5818 from rfl) (fun k5920 => ?_) (fun k5920 => ?_)
        · refine sload (v := .slice a3324 n3324 c3324) rfl rfl (q_load wd_33 rfl) (St.ld X5819 (j := 7) rfl rfl) (same_self 20 rfl) rfl ?_
          refine spure (v := .pointer (some ⟨b5794, 4, none⟩)) rfl (p_fa fo_77_1 rfl) (lo_t (lo_own X5819 (j := 0) (o := 0) (s := none) (f := 0) rfl) rfl) rfl rfl ?_
          refine sload (v := .int .i64 (w64 (2 * s5620.1))) rfl rfl (q_load wd_3 rfl) (St.ld X5819 (j := 0) rfl rfl) (same_self 20 rfl) rfl ?_
          refine spure (v := .int .i64 (w64 (Int.tdiv (w64 (2 * s5620.1)) 2))) rfl (p_quo rfl) (lo_t rfl (lo_c rfl)) rfl rfl ?_
          refine scall (en := fun d => (.bool d)) rfl rfl ca_68 rfl rfl (f68_ok X5819 p3323 ((w64 (Int.tdiv (w64 (2 * s5620.1)) 2))) H3324) rfl (fun e5921 => ?_)
          refine spure (v := .bool (!e5921)) rfl (p_not rfl) (lo_t rfl rfl) rfl rfl ?_
          refine spure (v := .bool (!e5921)) rfl (p_pick rfl) (lo_t rfl (lo_t rfl (lo_c rfl))) rfl rfl ?_
          exact sjmpM J5919 (!e5921) () (sub_cons rfl (sub_cons rfl (sub_cons rfl sub_nil))) (St.pick X5819 (.keep _ (.keep _ (.keep _ (.none _ (.skip _ (.keep _ (.keep _ (.keep _ (.keep _ (.keep _ (.refl _))))))))))))
        · refine sskip rfl rfl ?_
          refine sskip rfl rfl ?_
          refine sskip rfl rfl ?_
          refine sskip rfl rfl ?_
          refine sskip rfl rfl ?_
          refine sskip rfl rfl ?_
          refine spure (v := .bool false) rfl (p_pick rfl) (lo_t rfl (lo_t rfl (lo_c rfl))) rfl rfl ?_
          exact sjmpM J5919 false () (sub_cons rfl (sub_cons rfl (sub_cons rfl sub_nil))) (St.pick X5819 (.keep _ (.keep _ (.keep _ (.none _ (.skip _ (.keep _ (.keep _ (.keep _ (.keep _ (.keep _ (.refl _))))))))))))
    · intro j5925 J5926
      refine sif (j := 23) (show _ = Value.bool e5806 from rfl) (fun k5927 => ?_) (fun k5927 => ?_)
      · refine sload (v := .slice (some ⟨b3333, 0, none⟩) (p3319.Nodes).toNat (p3319.Nodes).toNat) rfl rfl (q_load wd_26 rfl) (St.ld X5801 (j := 5) rfl rfl) (same_self 20 rfl) rfl ?_
        refine sload (v := .agg #[.int .i64 e5784.A, .int .i64 e5784.B, .int .i64 e5784.Per, .int .i64 e5784.Delay, .int .i64 (w64 (2 * s5620.1))]) rfl rfl (q_load wd_77 rfl) (St.ld X5801 (j := 0) rfl rfl) (same_self 20 rfl) rfl ?_
        refine scall (en := fun d => (.int .i64 d)) rfl rfl ca_44 rfl rfl (f44_ok X5801 ((TopoEnd.mk e5784 (w64 (2 * s5620.1))))) rfl (fun e5928 => ?_)
        refine Sim.bindM fun e5932 he5933 => ?_
        obtain ⟨off5934, cs5934, hp5934, hc5934, hR5934, hl5934, hm5934, hs5934⟩ := OSl.iaC O5621 he5933 (kd := .i64) (n := 1) rfl
        have hR5934 : _ = [(.bool e5932 : Value)] := hR5934
        subst hR5934
        refine spure (v := .pointer (some ⟨b3333, off5934, none⟩)) rfl (p_ia rs_26 rfl) (lo_t (lo_osl X5801 (j := 6) rfl O5621) (lo_t rfl rfl)) hp5934 rfl ?_
        refine sload (v := .bool e5932) rfl rfl (q_load wd_4 rfl) (St.ld X5801 (j := 6) rfl (rdE1 hc5934 (k := 0) rfl rfl)) (same_self 20 rfl) rfl ?_
        refine spure (v := .bool (!e5932)) rfl (p_not rfl) (lo_t rfl rfl) rfl rfl ?_
        refine spure (v := .bool (!e5932)) rfl (p_pick rfl) (lo_t rfl (lo_t rfl (lo_c rfl))) rfl rfl ?_
        exact sjmpM J5926 (!e5932) () (sub_cons rfl (sub_cons rfl (sub_cons rfl (sub_cons rfl sub_nil)))) (St.pick X5801 (.keep _ (.keep _ (.keep _ (.none _ (.skip _ (.keep _ (.keep _ (.keep _ (.keep _ (.keep _ (.refl _))))))))))))
      · refine sskip rfl rfl ?_
        refine sskip rfl rfl ?_
        refine sskip rfl rfl ?_
        refine sskip rfl rfl ?_
        refine sskip rfl rfl ?_
        refine sskip rfl rfl ?_
        refine spure (v := .bool false) rfl (p_pick rfl) (lo_t rfl (lo_t rfl (lo_c rfl))) rfl rfl ?_
        exact sjmpM J5926 false () (sub_cons rfl (sub_cons rfl (sub_cons rfl (sub_cons rfl sub_nil)))) (St.pick X5801 (.keep _ (.keep _ (.keep _ (.none _ (.skip _ (.keep _ (.keep _ (.keep _ (.keep _ (.keep _ (.refl _))))))))))))
  · refine dexit ?_
    refine eseq ?_
    refine eloop ?_
    refine xblock ?_
    refine kin_n res_0 ?_
    refine rend_n X5781 (j := 0) rfl (fun h5935 X5936 => ?_)
    refine nblock ?_
    refine nseq ?_
    refine dexit ?_
    refine eblock rfl ?_
    refine eloop ?_
    refine xblock ?_
    refine nseq ?_
    refine dseq ?_
    refine dreg ?_
    refine lread (v := .slice (some ⟨b3333, 0, none⟩) (p3319.Nodes).toNat (p3319.Nodes).toNat) rfl (q_load wd_26 rfl) (St.ld X5936 (j := 3) rfl rfl) rfl ?_
    refine lpure (v := .slice (some ⟨b3333, 0, none⟩) (p3319.Nodes).toNat (p3319.Nodes).toNat) rfl (p_assign rfl) rfl rfl ?_
    refine lend ?_
    refine nseq ?_
    refine dret ?_
    refine rscope ?_
    exact kopen_r (res_1 resT) ⟨φ, ((some ⟨b3333, 0, none⟩)), ((p3319.Nodes).toNat), ((p3319.Nodes).toNat), (some b3333), blk5621, (Fz.le_refl _), St.pick (St.front X5936 (j := 4) rfl) (.keep _ (.skip _ (.skip _ (.skip _ (.skip _ (.skip _ (.skip _ (.refl _)))))))), rfl, O5621⟩
/-! slices.Index[[]bool,bool] -/
theorem f83_ok {n : Nat} {φ : Fz} {lo : Nat} {h : Heap} {own : OwnL}  {a5952 : Option Addr} {n5952 c5952 : Nat} (X : St φ lo h (own)) (p5951 : (List Bool)) (p5953 : Bool) (H5952 : RSl eBool φ (.slice a5952 n5952 c5952) p5951) : Sim ((recN Try.prog LL cutF (n + 1)).call 83 #[(.slice a5952 n5952 c5952), (.bool p5953)] h) (m_slices_Index_bool_bool p5951 p5953) (fun (d : Int) p => p = (.int .i64 d, h)) := by
  refine fcut Try.func83 rfl rfl rfl rfl X ?_
  intro h0 X0
  refine dseq ?_
  refine dreg ?_
  refine lpure (v := .int .i64 0) rfl (p_assign rfl) rfl rfl ?_
  refine lend ?_
  refine nseq ?_
  refine dseq ?_
  refine dseq ?_
  refine dreg ?_
  refine lpure (v := .slice a5952 n5952 c5952) rfl (p_move rfl) rfl rfl ?_
  refine lpure (v := .int .i64 (p5951.length : Int)) rfl (p_len rfl rfl rfl un_26 rfl) (RSl.lenC H5952) rfl ?_
  refine lpure (v := .int .i64 0) rfl (p_move rfl) rfl rfl ?_
  refine lend ?_
  refine nseq ?_
  refine dblock ?_
  refine dloopM (τ := Int) (σ := Unit) (fun s5970 (_ : Unit) => [(0, .slice a5952 n5952 c5952), (1, .bool p5953), (7, .int .i64 (p5951.length : Int)), (8, .int .i64 s5970)]) (fun s5970 (_ : Unit) hh => St φ h.n hh ([])) 0 () (sub_cons rfl (sub_cons rfl (sub_cons rfl (sub_cons rfl sub_nil)))) X0 ?_
  rintro n5980 ih5979 s5970 _ t0 h5982 X5981
  refine dseq ?_
  refine dreg ?_
  refine lpure (v := .bool (decide (s5970 < (p5951.length : Int)))) rfl (p_lt rfl) rfl rfl ?_
  refine lend ?_
  refine nseq ?_
  refine dseq ?_
  refine dcond rfl rfl (fun k5983 => ?_) (fun k5983 => ?_)
  · refine dskip ?_
    refine nseq ?_
    refine dseq ?_
    refine dblock ?_
    refine dseq ?_
    refine dreg ?_
    refine lpure (v := .int .i64 s5970) rfl (p_move rfl) rfl rfl ?_
    refine lpure (v := .int .i64 s5970) rfl (p_assign rfl) rfl rfl ?_
    refine lend ?_
    refine nseq ?_
    refine dseq ?_
    refine dreg ?_
    refine lpure (v := .bool p5953) rfl (p_move rfl) rfl rfl ?_
    refine lpure (v := .slice a5952 n5952 c5952) rfl (p_move rfl) rfl rfl ?_
    refine lpure (v := .int .i64 s5970) rfl (p_move rfl) rfl rfl ?_
    refine Sim.bindM fun e5984 he5985 => ?_
    obtain ⟨p5986, cs5986, hp5986, hF5986, hR5986⟩ := RSl.ia H5952 he5985 (kd := .i64) (n := 1) rfl
    have hR5986 : _ = [(.bool e5984 : Value)] := hR5986
    subst hR5986
    refine lpure (v := p5986) rfl (p_ia rs_26 rfl) hp5986 rfl ?_
    refine lread (v := .bool e5984) rfl (q_load wd_4 rfl) (FP.ld X5981 hF5986) rfl ?_
    refine lpure (v := .bool (p5953 == e5984)) rfl (p_bin rfl) (bin_eqB un_4) rfl ?_
    refine lend ?_
    refine nseq ?_
    refine dcond rfl rfl (fun k5987 => ?_) (fun k5987 => ?_)
    · refine dseq ?_
      refine dreg ?_
      refine lpure (v := .int .i64 s5970) rfl (p_move rfl) rfl rfl ?_
      refine lpure (v := .int .i64 s5970) rfl (p_assign rfl) rfl rfl ?_
      refine lend ?_
      refine nseq ?_
      refine dret ?_
      refine rblock ?_
      refine rseq ?_
      refine rloop ?_
      refine rblock ?_
      refine rseq ?_
      exact kcut_r (res_1 resT) X5981 rfl rfl
    · refine dskip ?_
      refine nblock ?_
      refine nseq ?_
      refine dreg ?_
      refine lpure (v := .int .i64 (w64 (s5970 + 1))) rfl (p_add rfl) rfl rfl ?_
      refine lpure (v := .int .i64 (w64 (s5970 + 1))) rfl (p_move rfl) rfl rfl ?_
      refine lend ?_
      exact kbackM ih5979 (w64 (s5970 + 1)) () (sub_cons rfl (sub_cons rfl (sub_cons rfl (sub_cons rfl sub_nil)))) X5981
  · refine dexit ?_
    refine eseq ?_
    refine eloop ?_
    refine xblock ?_
    refine nseq ?_
    refine dseq ?_
    refine dreg ?_
    refine lpure (v := .int .i64 (-1)) rfl (p_assign rfl) rfl rfl ?_
    refine lend ?_
    refine nseq ?_
    refine dret ?_
    exact kcut_r (res_1 resT) X5981 rfl rfl
/-! slices.Contains[[]bool,bool] -/
theorem f38_ok {n : Nat} {φ : Fz} {lo : Nat} {h : Heap} {own : OwnL}  {a5949 : Option Addr} {n5949 c5949 : Nat} (X : St φ lo h (own)) (p5948 : (List Bool)) (p5950 : Bool) (H5949 : RSl eBool φ (.slice a5949 n5949 c5949) p5948) : Sim ((recN Try.prog LL cutF (n + 2)).call 38 #[(.slice a5949 n5949 c5949), (.bool p5950)] h) (m_slices_Contains_bool_bool p5948 p5950) (fun (d : Bool) p => p = (.bool d, h)) := by
  refine fcut Try.func38 rfl rfl rfl rfl X ?_
  intro h0 X0
  refine dseq ?_
  refine dreg ?_
  refine lpure (v := .bool false) rfl (p_assign rfl) rfl rfl ?_
  refine lend ?_
  refine nseq ?_
  refine dseq ?_
  refine dreg ?_
  refine lpure (v := .slice a5949 n5949 c5949) rfl (p_move rfl) rfl rfl ?_
  refine lpure (v := .bool p5950) rfl (p_move rfl) rfl rfl ?_
  refine lcall rfl rfl ca_83 rfl rfl (f83_ok X0 p5948 p5950 H5949) rfl (fun e5988 v5989 h5990 hq5991 => ?_)
  cases hq5991
  refine lpure (v := .bool (decide (0 ≤ e5988))) rfl (p_ge rfl) rfl rfl ?_
  refine lpure (v := .bool (decide (0 ≤ e5988))) rfl (p_assign rfl) rfl rfl ?_
  refine lend ?_
  refine nseq ?_
  refine dret ?_
  exact kcut_r (res_1 resT) X0 rfl rfl
/-! isochron/topo.Check -/
theorem f9_ok {n : Nat} {φ : Fz} {lo : Nat} {h : Heap} {own : OwnL}  {a64 : Option Addr} {n64 c64 : Nat} {a65 : Option Addr} {n65 c65 : Nat} (X : St φ lo h (own)) (p63 : ApiTopo) (H64 : RSl eBool φ (.slice a64 n64 c64) p63.Station) (H65 : RSl eApiLink φ (.slice a65 n65 c65) p63.Links) : Sim ((recN Try.prog LL cutF (n + 6)).call 9 #[(.agg #[.int .i64 p63.Nodes, .slice a64 n64 c64, .slice a65 n65 c65])] h) (m_topo_Check p63) (fun (d : Int) p => p = (.int .i64 d, h)) := by
  refine fcut Try.func9 rfl rfl rfl rfl X ?_
  intro h0 X0
  refine dseq ?_
  refine dreg ?_
  refine lbox rfl rfl rfl rfl rfl X0 (fun b66 h68 X69 => ?_)
  refine lpure (v := .int .i64 0) rfl (p_assign rfl) rfl rfl ?_
  refine lend ?_
  refine nseq ?_
  refine dseq ?_
  refine dseq ?_
  refine dreg ?_
  refine lpure (v := .pointer (some ⟨b66, 0, none⟩)) rfl (p_fa fo_29_0 rfl) rfl rfl ?_
  refine lread (v := .int .i64 p63.Nodes) rfl (q_load wd_3 rfl) (St.ld X69 (j := 0) rfl rfl) rfl ?_
  refine lpure (v := .bool (decide (p63.Nodes < 2))) rfl (p_lt rfl) rfl rfl ?_
  refine lpure (v := .bool (decide (p63.Nodes < 2))) rfl (p_move rfl) rfl rfl ?_
  refine lsh (τ := Bool) (σ := Unit) (fun s71 (_ : Unit) => [(1, .pointer (some ⟨b66, 0, none⟩)), (13, .bool s71)]) (fun s71 (_ : Unit) hh => St φ h.n hh ([(some b66, .cells [.int .i64 p63.Nodes, .slice a64 n64 c64, .slice a65 n65 c65] 29 .exact)])) 4 ?_ ?_
  · rintro s71 _ t0 h73 X72
    refine lpure (v := .bool s71) rfl (p_move rfl) rfl rfl ?_
    refine lsh (τ := Bool) (σ := Unit) (fun s75 (_ : Unit) => [(1, .pointer (some ⟨b66, 0, none⟩)), (21, .bool s75)]) (fun s75 (_ : Unit) hh => St φ h.n hh ([(some b66, .cells [.int .i64 p63.Nodes, .slice a64 n64 c64, .slice a65 n65 c65] 29 .exact)])) 7 ?_ ?_
    · rintro s75 _ t0 h77 X76
      refine lpure (v := .bool s75) rfl (p_move rfl) rfl rfl ?_
      refine lsh (τ := Bool) (σ := Unit) (fun s79 (_ : Unit) => [(1, .pointer (some ⟨b66, 0, none⟩)), (27, .bool s79)]) (fun s79 (_ : Unit) hh => St φ h.n hh ([(some b66, .cells [.int .i64 p63.Nodes, .slice a64 n64 c64, .slice a65 n65 c65] 29 .exact)])) 5 ?_ ?_
      · rintro s79 _ t0 h81 X80
        refine lend ?_
        refine nseq ?_
        refine dcond rfl rfl (fun k82 => ?_) (fun k82 => ?_)
        · refine dseq ?_
          refine dreg ?_
          refine lpure (v := .int .i64 260) rfl (p_assign rfl) rfl rfl ?_
          refine lend ?_
          refine nseq ?_
          refine dret ?_
          refine rseq ?_
          exact kcut_r (res_1 resT) X80 rfl rfl
        · refine dskip ?_
          refine nseq ?_
          refine dseq ?_
          refine dseq ?_
          refine dreg ?_
          refine lpure (v := .pointer (some ⟨b66, 2, none⟩)) rfl (p_fa fo_29_2 rfl) rfl rfl ?_
          refine lread (v := .slice a65 n65 c65) rfl (q_load wd_27 rfl) (St.ld X80 (j := 0) rfl rfl) rfl ?_
          refine lpure (v := .int .i64 (p63.Links.length : Int)) rfl (p_len rfl rfl rfl un_27 rfl) (RSl.lenC H65) rfl ?_
          refine lpure (v := .int .i64 0) rfl (p_move rfl) rfl rfl ?_
          refine lend ?_
          refine nseq ?_
          refine dblock ?_
          refine dloopM (τ := Int) (σ := Unit) (fun s6378 (_ : Unit) => [(1, .pointer (some ⟨b66, 0, none⟩)), (30, .int .i64 (p63.Links.length : Int)), (31, .int .i64 s6378)]) (fun s6378 (_ : Unit) hh => St φ h.n hh ([(some b66, .cells [.int .i64 p63.Nodes, .slice a64 n64 c64, .slice a65 n65 c65] 29 .exact)])) 0 () (sub_cons rfl (sub_cons rfl (sub_cons rfl sub_nil))) X80 ?_
          rintro n6599 ih6598 s6378 _ t0 h6601 X6600
          refine dseq ?_
          refine dreg ?_
          refine lpure (v := .bool (decide (s6378 < (p63.Links.length : Int)))) rfl (p_lt rfl) rfl rfl ?_
          refine lend ?_
          refine nseq ?_
          refine dseq ?_
          refine dcond rfl rfl (fun k6602 => ?_) (fun k6602 => ?_)
          · refine dskip ?_
            refine nseq ?_
            refine dseq ?_
            refine dblock ?_
            refine dseq ?_
            refine dreg ?_
            refine lpure (v := .int .i64 s6378) rfl (p_move rfl) rfl rfl ?_
            refine lpure (v := .int .i64 s6378) rfl (p_assign rfl) rfl rfl ?_
            refine lend ?_
            refine nseq ?_
            refine dseq ?_
            refine dreg ?_
            refine lread (v := .agg #[.int .i64 p63.Nodes, .slice a64 n64 c64, .slice a65 n65 c65]) rfl (q_load wd_29 rfl) (St.ld X6600 (j := 0) rfl rfl) rfl ?_
            refine lpure (v := .int .i64 s6378) rfl (p_move rfl) rfl rfl ?_
            refine lcall rfl rfl ca_36 rfl rfl (f36_ok X6600 p63 s6378 H64 H65) rfl (fun e6603 v6604 h6605 hq6606 => ?_)
            cases hq6606
            refine lpure (v := .bool (!e6603)) rfl (p_not rfl) rfl rfl ?_
            refine lend ?_
            refine nseq ?_
            refine dcond rfl rfl (fun k6607 => ?_) (fun k6607 => ?_)
            · refine dseq ?_
              refine dreg ?_
              refine lpure (v := .int .i64 260) rfl (p_assign rfl) rfl rfl ?_
              refine lend ?_
              refine nseq ?_
              refine dret ?_
              refine rblock ?_
              refine rseq ?_
              refine rloop ?_
              refine rblock ?_
              refine rseq ?_
              exact kcut_r (res_1 resT) X6600 rfl rfl
            · refine dskip ?_
              refine nblock ?_
              refine nseq ?_
              refine dreg ?_
              refine lpure (v := .int .i64 (w64 (s6378 + 1))) rfl (p_add rfl) rfl rfl ?_
              refine lpure (v := .int .i64 (w64 (s6378 + 1))) rfl (p_move rfl) rfl rfl ?_
              refine lend ?_
              exact kbackM ih6598 (w64 (s6378 + 1)) () (sub_cons rfl (sub_cons rfl (sub_cons rfl sub_nil))) X6600
          · refine dexit ?_
            refine eseq ?_
            refine eloop ?_
            refine xblock ?_
            refine nseq ?_
            refine dseq ?_
            refine dseq ?_
            refine dreg ?_
            refine lpure (v := .pointer (some ⟨b66, 1, none⟩)) rfl (p_fa fo_29_1 rfl) rfl rfl ?_
            refine lread (v := .slice a64 n64 c64) rfl (q_load wd_26 rfl) (St.ld X6600 (j := 0) rfl rfl) rfl ?_
            refine lpure (v := .int .i64 (p63.Station.length : Int)) rfl (p_len rfl rfl rfl un_26 rfl) (RSl.lenC H64) rfl ?_
            refine lpure (v := .int .i64 0) rfl (p_move rfl) rfl rfl ?_
            refine lend ?_
            refine nseq ?_
            refine dblock ?_
            refine dloopM (τ := Int) (σ := Unit) (fun s6712 (_ : Unit) => [(1, .pointer (some ⟨b66, 0, none⟩)), (40, .slice a64 n64 c64), (41, .int .i64 (p63.Station.length : Int)), (42, .int .i64 s6712)]) (fun s6712 (_ : Unit) hh => St φ h.n hh ([(some b66, .cells [.int .i64 p63.Nodes, .slice a64 n64 c64, .slice a65 n65 c65] 29 .exact)])) 0 () (sub_cons rfl (sub_cons rfl (sub_cons rfl (sub_cons rfl sub_nil)))) X6600 ?_
            rintro n6766 ih6765 s6712 _ t0 h6768 X6767
            refine dseq ?_
            refine dreg ?_
            refine lpure (v := .bool (decide (s6712 < (p63.Station.length : Int)))) rfl (p_lt rfl) rfl rfl ?_
            refine lend ?_
            refine nseq ?_
            refine dseq ?_
            refine dcond rfl rfl (fun k6769 => ?_) (fun k6769 => ?_)
            · refine dskip ?_
              refine nseq ?_
              refine dseq ?_
              refine dblock ?_
              refine dseq ?_
              refine dreg ?_
              refine lpure (v := .int .i64 s6712) rfl (p_move rfl) rfl rfl ?_
              refine Sim.bindM fun e6770 he6771 => ?_
              obtain ⟨p6772, cs6772, hp6772, hF6772, hR6772⟩ := RSl.ia H64 he6771 (kd := .i64) (n := 1) rfl
              have hR6772 : _ = [(.bool e6770 : Value)] := hR6772
              subst hR6772
              refine lpure (v := p6772) rfl (p_ia rs_26 rfl) hp6772 rfl ?_
              refine lread (v := .bool e6770) rfl (q_load wd_4 rfl) (FP.ld X6767 hF6772) rfl ?_
              refine lpure (v := .int .i64 s6712) rfl (p_assign rfl) rfl rfl ?_
              refine lpure (v := .bool e6770) rfl (p_assign rfl) rfl rfl ?_
              refine lend ?_
              refine nseq ?_
              refine dseq ?_
              refine dreg ?_
              refine lpure (v := .bool e6770) rfl (p_move rfl) rfl rfl ?_
              refine lpure (v := .bool e6770) rfl (p_move rfl) rfl rfl ?_
              refine ljoinM (τ := Bool) (σ := Unit) (fun s6784 (_ : Unit) => [(1, .pointer (some ⟨b66, 0, none⟩)), (40, .slice a64 n64 c64), (41, .int .i64 (p63.Station.length : Int)), (42, .int .i64 s6712), (59, .bool s6784)]) (fun s6784 (_ : Unit) hh => St φ h.n hh ([(some b66, .cells [.int .i64 p63.Nodes, .slice a64 n64 c64, .slice a65 n65 c65] 29 .exact)])) 11 ?_ ?_
              · rintro s6784 _ t0 h6786 X6785
                refine lend ?_
                refine nseq ?_
                refine dcond rfl rfl (fun k6787 => ?_) (fun k6787 => ?_)
                · refine dseq ?_
                  refine dreg ?_
                  refine lpure (v := .int .i64 260) rfl (p_assign rfl) rfl rfl ?_
                  refine lend ?_
                  refine nseq ?_
                  refine dret ?_
                  refine rblock ?_
                  refine rseq ?_
                  refine rloop ?_
                  refine rblock ?_
                  refine rseq ?_
                  exact kcut_r (res_1 resT) X6785 rfl rfl
                · refine dskip ?_
                  refine nblock ?_
                  refine nseq ?_
                  refine dreg ?_
                  refine lpure (v := .int .i64 (w64 (s6712 + 1))) rfl (p_add rfl) rfl rfl ?_
                  refine lpure (v := .int .i64 (w64 (s6712 + 1))) rfl (p_move rfl) rfl rfl ?_
                  refine lend ?_
                  exact kbackM ih6765 (w64 (s6712 + 1)) () (sub_cons rfl (sub_cons rfl (sub_cons rfl (sub_cons rfl sub_nil)))) X6785
              · intro j6788 J6789
                refine lif (i := 48) (show _ = Value.bool e6770 from rfl) (fun k6790 => ?_) (fun k6790 => ?_)
                · refine lread (v := .agg #[.int .i64 p63.Nodes, .slice a64 n64 c64, .slice a65 n65 c65]) rfl (q_load wd_29 rfl) (St.ld X6767 (j := 0) rfl rfl) rfl ?_
                  refine lpure (v := .int .i64 s6712) rfl (p_move rfl) rfl rfl ?_
                  refine lcall rfl rfl ca_37 rfl rfl (f37_ok X6767 p63 s6712 H64 H65) rfl (fun e6791 v6792 h6793 hq6794 => ?_)
                  cases hq6794
                  refine lpure (v := .bool (decide (e6791 < 1))) rfl (p_lt rfl) rfl rfl ?_
                  refine lpure (v := .bool (decide (e6791 < 1))) rfl (p_move rfl) rfl rfl ?_
                  refine lif (i := 53) (show _ = Value.bool (decide (e6791 < 1)) from rfl) (fun k6795 => ?_) (fun k6795 => ?_)
                  · refine lskip rfl rfl ?_
                    refine lskip rfl rfl ?_
                    refine lskip rfl rfl ?_
                    refine lskip rfl rfl ?_
                    refine lpure (v := .bool true) rfl (p_pick rfl) rfl rfl ?_
                    refine lpure (v := .bool true) rfl (p_pick rfl) rfl rfl ?_
                    exact ljmpM J6789 true () (sub_cons rfl (sub_cons rfl (sub_cons rfl (sub_cons rfl (sub_cons rfl sub_nil))))) X6767
                  · refine lread (v := .agg #[.int .i64 p63.Nodes, .slice a64 n64 c64, .slice a65 n65 c65]) rfl (q_load wd_29 rfl) (St.ld X6767 (j := 0) rfl rfl) rfl ?_
                    refine lpure (v := .int .i64 s6712) rfl (p_move rfl) rfl rfl ?_
                    refine lcall rfl rfl ca_37 rfl rfl (f37_ok X6767 p63 s6712 H64 H65) rfl (fun e6796 v6797 h6798 hq6799 => ?_)
                    cases hq6799
                    refine lpure (v := .bool (decide (2 < e6796))) rfl (p_gt rfl) rfl rfl ?_
                    refine lpure (v := .bool (decide (2 < e6796))) rfl (p_pick rfl) rfl rfl ?_
                    refine lpure (v := .bool (decide (2 < e6796))) rfl (p_pick rfl) rfl rfl ?_
                    exact ljmpM J6789 (decide (2 < e6796)) () (sub_cons rfl (sub_cons rfl (sub_cons rfl (sub_cons rfl (sub_cons rfl sub_nil))))) X6767
                · refine lskip rfl rfl ?_
                  refine lskip rfl rfl ?_
                  refine lskip rfl rfl ?_
                  refine lskip rfl rfl ?_
                  refine lskip rfl rfl ?_
                  refine lskip rfl rfl ?_
                  refine lskip rfl rfl ?_
                  refine lskip rfl rfl ?_
                  refine lskip rfl rfl ?_
                  refine lskip rfl rfl ?_
                  refine lpure (v := .bool false) rfl (p_pick rfl) rfl rfl ?_
                  exact ljmpM J6789 false () (sub_cons rfl (sub_cons rfl (sub_cons rfl (sub_cons rfl (sub_cons rfl sub_nil))))) X6767
            · refine dexit ?_
              refine eseq ?_
              refine eloop ?_
              refine xblock ?_
              refine nseq ?_
              refine dseq ?_
              refine dseq ?_
              refine dreg ?_
              refine lread (v := .agg #[.int .i64 p63.Nodes, .slice a64 n64 c64, .slice a65 n65 c65]) rfl (q_load wd_29 rfl) (St.ld X6767 (j := 0) rfl rfl) rfl ?_
              refine lcall rfl rfl ca_39 rfl rfl (f39_ok X6767 p63 0 ([]) H64 H65 (.inl ⟨rfl, rfl⟩)) rfl ?_
              rintro e6800 _ h6802 ⟨φ6804, a6807, n6807, c6807, ob6807, blk6807, g6805, X6806, rfl, O6807⟩
              obtain ⟨φ6809, g6810, X6811, H6812⟩ := OSl.freeze X6806 (j := 0) rfl O6807
              refine lcall rfl rfl ca_38 rfl rfl (f38_ok X6811 e6800 false H6812) rfl (fun e6813 v6814 h6815 hq6816 => ?_)
              cases hq6816
              refine lend ?_
              refine nseq ?_
              refine dcond rfl rfl (fun k6817 => ?_) (fun k6817 => ?_)
              · refine dseq ?_
                refine dreg ?_
                refine lpure (v := .int .i64 260) rfl (p_assign rfl) rfl rfl ?_
                refine lend ?_
                refine nseq ?_
                refine dret ?_
                refine rseq ?_
                exact kcut_r (res_1 resT) X6806 rfl rfl
              · refine dskip ?_
                refine nseq ?_
                refine dseq ?_
                refine dreg ?_
                refine lpure (v := .int .i64 0) rfl (p_assign rfl) rfl rfl ?_
                refine lend ?_
                refine nseq ?_
                refine dret ?_
                exact kcut_r (res_1 resT) X6806 rfl rfl
      · intro j6818 J6819
        refine lcase (i := 22) (show _ = Value.bool s75 from rfl) (fun k6820 => ?_) (fun k6820 => ?_)
        · refine lskip rfl rfl ?_
          refine lskip rfl rfl ?_
          refine lskip rfl rfl ?_
          refine lskip rfl rfl ?_
          refine lpure (v := .bool true) rfl (p_pick rfl) rfl rfl ?_
          refine Sim.of_eq (congrArg j6818 (show (s75 || (decide (24 < (p63.Links.length : Int)))) = true from by rw [k6820] <;> rfl)) ?_
          exact ljmpM J6819 true () (sub_cons rfl (sub_cons rfl sub_nil)) X76
        · refine lpure (v := .pointer (some ⟨b66, 2, none⟩)) rfl (p_fa fo_29_2 rfl) rfl rfl ?_
          refine lread (v := .slice a65 n65 c65) rfl (q_load wd_27 rfl) (St.ld X76 (j := 0) rfl rfl) rfl ?_
          refine lpure (v := .int .i64 (p63.Links.length : Int)) rfl (p_len rfl rfl rfl un_27 rfl) (RSl.lenC H65) rfl ?_
          refine lpure (v := .bool (decide (24 < (p63.Links.length : Int)))) rfl (p_gt rfl) rfl rfl ?_
          refine lpure (v := .bool (decide (24 < (p63.Links.length : Int)))) rfl (p_pick rfl) rfl rfl ?_
          refine Sim.of_eq (congrArg j6818 (show (s75 || (decide (24 < (p63.Links.length : Int)))) = (decide (24 < (p63.Links.length : Int))) from by rw [k6820] <;> rfl)) ?_
          exact ljmpM J6819 (decide (24 < (p63.Links.length : Int))) () (sub_cons rfl (sub_cons rfl sub_nil)) X76
    · intro j6821 J6822
      refine lcase (i := 14) (show _ = Value.bool s71 from rfl) (fun k6823 => ?_) (fun k6823 => ?_)
      · refine lskip rfl rfl ?_
        refine lskip rfl rfl ?_
        refine lskip rfl rfl ?_
        refine lskip rfl rfl ?_
        refine lskip rfl rfl ?_
        refine lskip rfl rfl ?_
        refine lpure (v := .bool true) rfl (p_pick rfl) rfl rfl ?_
        refine Sim.of_eq (congrArg j6821 (show (s71 || (decide ((p63.Station.length : Int) ≠ p63.Nodes))) = true from by rw [k6823] <;> rfl)) ?_
        exact ljmpM J6822 true () (sub_cons rfl (sub_cons rfl sub_nil)) X72
      · refine lpure (v := .pointer (some ⟨b66, 1, none⟩)) rfl (p_fa fo_29_1 rfl) rfl rfl ?_
        refine lread (v := .slice a64 n64 c64) rfl (q_load wd_26 rfl) (St.ld X72 (j := 0) rfl rfl) rfl ?_
        refine lpure (v := .int .i64 (p63.Station.length : Int)) rfl (p_len rfl rfl rfl un_26 rfl) (RSl.lenC H64) rfl ?_
        refine lpure (v := .pointer (some ⟨b66, 0, none⟩)) rfl (p_fa fo_29_0 rfl) rfl rfl ?_
        refine lread (v := .int .i64 p63.Nodes) rfl (q_load wd_3 rfl) (St.ld X72 (j := 0) rfl rfl) rfl ?_
        refine lpure (v := .bool (decide ((p63.Station.length : Int) ≠ p63.Nodes))) rfl (p_ne rfl) rfl rfl ?_
        refine lpure (v := .bool (decide ((p63.Station.length : Int) ≠ p63.Nodes))) rfl (p_pick rfl) rfl rfl ?_
        refine Sim.of_eq (congrArg j6821 (show (s71 || (decide ((p63.Station.length : Int) ≠ p63.Nodes))) = (decide ((p63.Station.length : Int) ≠ p63.Nodes)) from by rw [k6823] <;> rfl)) ?_
        exact ljmpM J6822 (decide ((p63.Station.length : Int) ≠ p63.Nodes)) () (sub_cons rfl (sub_cons rfl sub_nil)) X72
  · intro j6824 J6825
    refine lcase (i := 9) (show _ = Value.bool (decide (p63.Nodes < 2)) from rfl) (fun k6826 => ?_) (fun k6826 => ?_)
    · refine lskip rfl rfl ?_
      refine lskip rfl rfl ?_
      refine lskip rfl rfl ?_
      refine lpure (v := .bool true) rfl (p_pick rfl) rfl rfl ?_
      refine Sim.of_eq (congrArg j6824 (show ((decide (p63.Nodes < 2)) || (decide (12 < p63.Nodes))) = true from by rw [k6826] <;> rfl)) ?_
      exact ljmpM J6825 true () (sub_cons rfl (sub_cons rfl sub_nil)) X69
    · refine lpure (v := .pointer (some ⟨b66, 0, none⟩)) rfl (p_fa fo_29_0 rfl) rfl rfl ?_
      refine lread (v := .int .i64 p63.Nodes) rfl (q_load wd_3 rfl) (St.ld X69 (j := 0) rfl rfl) rfl ?_
      refine lpure (v := .bool (decide (12 < p63.Nodes))) rfl (p_gt rfl) rfl rfl ?_
      refine lpure (v := .bool (decide (12 < p63.Nodes))) rfl (p_pick rfl) rfl rfl ?_
      refine Sim.of_eq (congrArg j6824 (show ((decide (p63.Nodes < 2)) || (decide (12 < p63.Nodes))) = (decide (12 < p63.Nodes)) from by rw [k6826] <;> rfl)) ?_
      exact ljmpM J6825 (decide (12 < p63.Nodes)) () (sub_cons rfl (sub_cons rfl sub_nil)) X69
/-! isochron/topo.From -/
theorem f11_ok {n : Nat} {φ : Fz} {lo : Nat} {h : Heap} {own : OwnL}  {a52 : Option Addr} {n52 c52 : Nat} {a53 : Option Addr} {n53 c53 : Nat} (X : St φ lo h (own)) (p51 : ApiTopo) (p54 : Int) (H52 : RSl eBool φ (.slice a52 n52 c52) p51.Station) (H53 : RSl eApiLink φ (.slice a53 n53 c53) p51.Links) : Sim ((recN Try.prog LL cutF (n + 8)).call 11 #[(.agg #[.int .i64 p51.Nodes, .slice a52 n52 c52, .slice a53 n53 c53]), (.int .i64 p54)] h) (m_topo_From p51 p54) (fun (d : (Int × Int)) p => p = (.tuple #[.int .i64 d.1, .int .i64 d.2], h)) := by
  refine fcut Try.func11 rfl rfl rfl rfl X ?_
  intro h0 X0
  refine dseq ?_
  refine dreg ?_
  refine lbox rfl rfl rfl rfl rfl X0 (fun b55 h57 X58 => ?_)
  refine lpure (v := .int .i64 0) rfl (p_assign rfl) rfl rfl ?_
  refine lpure (v := .int .i64 0) rfl (p_assign rfl) rfl rfl ?_
  refine lend ?_
  refine nseq ?_
  refine dseq ?_
  refine dreg ?_
  refine lread (v := .agg #[.int .i64 p51.Nodes, .slice a52 n52 c52, .slice a53 n53 c53]) rfl (q_load wd_29 rfl) (St.ld X58 (j := 0) rfl rfl) rfl ?_
  refine lpure (v := .int .i64 p54) rfl (p_move rfl) rfl rfl ?_
  refine linl rfl rfl rfl rfl ca_43 rfl Try.func43 rfl rfl rfl rfl rfl ?_
  refine dseq ?_
  refine dreg ?_
  refine lbox rfl rfl rfl rfl rfl X58 (fun b59 h61 X62 => ?_)
  refine lpure (v := .int .i64 0) rfl (p_assign rfl) rfl rfl ?_
  refine lpure (v := .int .i64 0) rfl (p_assign rfl) rfl rfl ?_
  refine lend ?_
  refine nseq ?_
  refine dseq ?_
  refine dreg ?_
  refine lpure (v := .int .i64 0) rfl (p_assign rfl) rfl rfl ?_
  refine lend ?_
  refine nseq ?_
  refine dseq ?_
  refine dseq ?_
  refine dreg ?_
  refine lread (v := .agg #[.int .i64 p51.Nodes, .slice a52 n52 c52, .slice a53 n53 c53]) rfl (q_load wd_29 rfl) (St.ld X62 (j := 0) rfl rfl) rfl ?_
  refine lcall rfl rfl ca_9 rfl rfl (f9_ok X62 p51 H52 H53) rfl (fun e6827 v6828 h6829 hq6830 => ?_)
  cases hq6830
  refine lpure (v := .int .i64 e6827) rfl (p_assign rfl) rfl rfl ?_
  refine lend ?_
  refine nseq ?_
  refine dseq ?_
  refine dreg ?_
  refine lpure (v := .int .i64 e6827) rfl (p_move rfl) rfl rfl ?_
  refine lpure (v := .bool (decide (e6827 ≠ 0))) rfl (p_ne rfl) rfl rfl ?_
  refine lend ?_
  refine nseq ?_
  refine dcond rfl rfl (fun k6831 => ?_) (fun k6831 => ?_)
  · refine dseq ?_
    refine dreg ?_
    refine lpure (v := .int .i64 0) rfl (p_move rfl) rfl rfl ?_
    refine lpure (v := .int .i64 e6827) rfl (p_move rfl) rfl rfl ?_
    refine lpure (v := .int .i64 0) rfl (p_assign rfl) rfl rfl ?_
    refine lpure (v := .int .i64 e6827) rfl (p_assign rfl) rfl rfl ?_
    refine lend ?_
    refine nseq ?_
    refine dret ?_
    refine rseq ?_
    refine kin_r (res_2 resT resT) ?_
    refine lpure (v := .int .i64 0) rfl (p_extract rfl) rfl rfl ?_
    refine lpure (v := .int .i64 e6827) rfl (p_extract rfl) rfl rfl ?_
    refine lpure (v := .int .i64 0) rfl (p_assign rfl) rfl rfl ?_
    refine lpure (v := .int .i64 e6827) rfl (p_assign rfl) rfl rfl ?_
    refine lend ?_
    refine nseq ?_
    refine dret ?_
    exact kcut_r (res_2 resT resT) X62 rfl rfl
  · refine dskip ?_
    refine nseq ?_
    refine dseq ?_
    refine dseq ?_
    refine dreg ?_
    refine lpure (v := .int .i64 p54) rfl (p_move rfl) rfl rfl ?_
    refine lpure (v := .bool (decide (p54 < 0))) rfl (p_lt rfl) rfl rfl ?_
    refine lpure (v := .bool (decide (p54 < 0))) rfl (p_move rfl) rfl rfl ?_
    refine lsh (τ := Bool) (σ := Unit) (fun s6833 (_ : Unit) => [(1, .int .i64 p54), (2, .func (.func 42) #[] #[]), (3, .pointer (some ⟨b59, 0, none⟩)), (8, .int .i64 0), (25, .bool s6833)]) (fun s6833 (_ : Unit) hh => St φ h.n hh ([(some b59, .cells [.int .i64 p51.Nodes, .slice a52 n52 c52, .slice a53 n53 c53] 29 .exact), (some b55, .cells [.int .i64 p51.Nodes, .slice a52 n52 c52, .slice a53 n53 c53] 29 .exact)])) 7 ?_ ?_
    · rintro s6833 _ t0 h6835 X6834
      refine lend ?_
      refine nseq ?_
      refine dcond rfl rfl (fun k6836 => ?_) (fun k6836 => ?_)
      · refine dseq ?_
        refine dreg ?_
        refine lpure (v := .int .i64 0) rfl (p_move rfl) rfl rfl ?_
        refine lpure (v := .int .i64 0) rfl (p_assign rfl) rfl rfl ?_
        refine lpure (v := .int .i64 2) rfl (p_assign rfl) rfl rfl ?_
        refine lend ?_
        refine nseq ?_
        refine dret ?_
        refine rseq ?_
        refine kin_r (res_2 resT resT) ?_
        refine lpure (v := .int .i64 0) rfl (p_extract rfl) rfl rfl ?_
        refine lpure (v := .int .i64 2) rfl (p_extract rfl) rfl rfl ?_
        refine lpure (v := .int .i64 0) rfl (p_assign rfl) rfl rfl ?_
        refine lpure (v := .int .i64 2) rfl (p_assign rfl) rfl rfl ?_
        refine lend ?_
        refine nseq ?_
        refine dret ?_
        exact kcut_r (res_2 resT resT) X6834 rfl rfl
      · refine dskip ?_
        refine nseq ?_
        refine dseq ?_
        refine dreg ?_
        refine lpure (v := .func (.func 42) #[] #[]) rfl (p_move rfl) rfl rfl ?_
        refine lpure (v := .pointer (some ⟨b59, 2, none⟩)) rfl (p_fa fo_29_2 rfl) rfl rfl ?_
        refine lread (v := .slice a53 n53 c53) rfl (q_load wd_27 rfl) (St.ld X6834 (j := 0) rfl rfl) rfl ?_
        refine lpure (v := .int .i64 p54) rfl (p_move rfl) rfl rfl ?_
        refine lpure (v := .int .i64 (w64 (Int.tdiv p54 2))) rfl (p_quo rfl) rfl rfl ?_
        refine Sim.bindM fun e6837 he6838 => ?_
        obtain ⟨p6839, cs6839, hp6839, hF6839, hR6839⟩ := RSl.ia H53 he6838 (kd := .i64) (n := 4) rfl
        obtain rfl := eApiLink_el hR6839
        refine lpure (v := p6839) rfl (p_ia rs_27 rfl) hp6839 rfl ?_
        refine lread (v := .agg #[.int .i64 e6837.A, .int .i64 e6837.B, .int .i64 e6837.Per, .int .i64 e6837.Delay]) rfl (q_load wd_75 rfl) (FP.ldw X6834 hF6839 rfl rfl) rfl ?_
        refine lpure (v := .int .i64 p54) rfl (p_move rfl) rfl rfl ?_
        refine lpure (v := .agg #[.int .i64 e6837.A, .int .i64 e6837.B, .int .i64 e6837.Per, .int .i64 e6837.Delay, .int .i64 p54]) rfl (p_build rfl) (build_st' tz_77 pl_77 rfl) rfl ?_
        refine lcallv rfl rfl rfl rfl ca_42 rfl rfl (f42_ok X6834 ((TopoEnd.mk e6837 p54))) rfl (fun e6840 v6841 h6842 hq6843 => ?_)
        cases hq6843
        refine lpure (v := .int .i64 e6840) rfl (p_assign rfl) rfl rfl ?_
        refine lpure (v := .int .i64 0) rfl (p_assign rfl) rfl rfl ?_
        refine lend ?_
        refine nseq ?_
        refine dret ?_
        refine kin_r (res_2 resT resT) ?_
        refine lpure (v := .int .i64 e6840) rfl (p_extract rfl) rfl rfl ?_
        refine lpure (v := .int .i64 0) rfl (p_extract rfl) rfl rfl ?_
        refine lpure (v := .int .i64 e6840) rfl (p_assign rfl) rfl rfl ?_
        refine lpure (v := .int .i64 0) rfl (p_assign rfl) rfl rfl ?_
        refine lend ?_
        refine nseq ?_
        refine dret ?_
        exact kcut_r (res_2 resT resT) X6834 rfl rfl
    · intro j6844 J6845
      refine lcase (i := 18) (show _ = Value.bool (decide (p54 < 0)) from rfl) (fun k6846 => ?_) (fun k6846 => ?_)
      · refine lskip rfl rfl ?_
        refine lskip rfl rfl ?_
        refine lskip rfl rfl ?_
        refine lskip rfl rfl ?_
        refine lskip rfl rfl ?_
        refine lskip rfl rfl ?_
        refine lpure (v := .bool true) rfl (p_pick rfl) rfl rfl ?_
        refine Sim.of_eq (congrArg j6844 (show ((decide (p54 < 0)) || (decide ((w64 (2 * (p51.Links.length : Int))) ≤ p54))) = true from by rw [k6846] <;> rfl)) ?_
        exact ljmpM J6845 true () (sub_cons rfl (sub_cons rfl (sub_cons rfl (sub_cons rfl (sub_cons rfl sub_nil))))) X62
      · refine lpure (v := .int .i64 p54) rfl (p_move rfl) rfl rfl ?_
        refine lpure (v := .pointer (some ⟨b59, 2, none⟩)) rfl (p_fa fo_29_2 rfl) rfl rfl ?_
        refine lread (v := .slice a53 n53 c53) rfl (q_load wd_27 rfl) (St.ld X62 (j := 0) rfl rfl) rfl ?_
        refine lpure (v := .int .i64 (p51.Links.length : Int)) rfl (p_len rfl rfl rfl un_27 rfl) (RSl.lenC H53) rfl ?_
        refine lpure (v := .int .i64 (w64 (2 * (p51.Links.length : Int)))) rfl (p_mul rfl) rfl rfl ?_
        refine lpure (v := .bool (decide ((w64 (2 * (p51.Links.length : Int))) ≤ p54))) rfl (p_ge rfl) rfl rfl ?_
        refine lpure (v := .bool (decide ((w64 (2 * (p51.Links.length : Int))) ≤ p54))) rfl (p_pick rfl) rfl rfl ?_
        refine Sim.of_eq (congrArg j6844 (show ((decide (p54 < 0)) || (decide ((w64 (2 * (p51.Links.length : Int))) ≤ p54))) = (decide ((w64 (2 * (p51.Links.length : Int))) ≤ p54)) from by rw [k6846] <;> rfl)) ?_
        exact ljmpM J6845 (decide ((w64 (2 * (p51.Links.length : Int))) ≤ p54)) () (sub_cons rfl (sub_cons rfl (sub_cons rfl (sub_cons rfl (sub_cons rfl sub_nil))))) X62
/-! isochron/topo.To -/
theorem f12_ok {n : Nat} {φ : Fz} {lo : Nat} {h : Heap} {own : OwnL}  {a6860 : Option Addr} {n6860 c6860 : Nat} {a6861 : Option Addr} {n6861 c6861 : Nat} (X : St φ lo h (own)) (p6859 : ApiTopo) (p6862 : Int) (H6860 : RSl eBool φ (.slice a6860 n6860 c6860) p6859.Station) (H6861 : RSl eApiLink φ (.slice a6861 n6861 c6861) p6859.Links) : Sim ((recN Try.prog LL cutF (n + 8)).call 12 #[(.agg #[.int .i64 p6859.Nodes, .slice a6860 n6860 c6860, .slice a6861 n6861 c6861]), (.int .i64 p6862)] h) (m_topo_To p6859 p6862) (fun (d : (Int × Int)) p => p = (.tuple #[.int .i64 d.1, .int .i64 d.2], h)) := by
  refine fcut Try.func12 rfl rfl rfl rfl X ?_
  intro h0 X0
  refine dseq ?_
  refine dreg ?_
  refine lbox rfl rfl rfl rfl rfl X0 (fun b6863 h6865 X6866 => ?_)
  refine lpure (v := .int .i64 0) rfl (p_assign rfl) rfl rfl ?_
  refine lpure (v := .int .i64 0) rfl (p_assign rfl) rfl rfl ?_
  refine lend ?_
  refine nseq ?_
  refine dseq ?_
  refine dreg ?_
  refine lread (v := .agg #[.int .i64 p6859.Nodes, .slice a6860 n6860 c6860, .slice a6861 n6861 c6861]) rfl (q_load wd_29 rfl) (St.ld X6866 (j := 0) rfl rfl) rfl ?_
  refine lpure (v := .int .i64 p6862) rfl (p_move rfl) rfl rfl ?_
  refine linl rfl rfl rfl rfl ca_43 rfl Try.func43 rfl rfl rfl rfl rfl ?_
  refine dseq ?_
  refine dreg ?_
  refine lbox rfl rfl rfl rfl rfl X6866 (fun b6867 h6869 X6870 => ?_)
  refine lpure (v := .int .i64 0) rfl (p_assign rfl) rfl rfl ?_
  refine lpure (v := .int .i64 0) rfl (p_assign rfl) rfl rfl ?_
  refine lend ?_
  refine nseq ?_
  refine dseq ?_
  refine dreg ?_
  refine lpure (v := .int .i64 0) rfl (p_assign rfl) rfl rfl ?_
  refine lend ?_
  refine nseq ?_
  refine dseq ?_
  refine dseq ?_
  refine dreg ?_
  refine lread (v := .agg #[.int .i64 p6859.Nodes, .slice a6860 n6860 c6860, .slice a6861 n6861 c6861]) rfl (q_load wd_29 rfl) (St.ld X6870 (j := 0) rfl rfl) rfl ?_
  refine lcall rfl rfl ca_9 rfl rfl (f9_ok X6870 p6859 H6860 H6861) rfl (fun e6871 v6872 h6873 hq6874 => ?_)
  cases hq6874
  refine lpure (v := .int .i64 e6871) rfl (p_assign rfl) rfl rfl ?_
  refine lend ?_
  refine nseq ?_
  refine dseq ?_
  refine dreg ?_
  refine lpure (v := .int .i64 e6871) rfl (p_move rfl) rfl rfl ?_
  refine lpure (v := .bool (decide (e6871 ≠ 0))) rfl (p_ne rfl) rfl rfl ?_
  refine lend ?_
  refine nseq ?_
  refine dcond rfl rfl (fun k6875 => ?_) (fun k6875 => ?_)
  · refine dseq ?_
    refine dreg ?_
    refine lpure (v := .int .i64 0) rfl (p_move rfl) rfl rfl ?_
    refine lpure (v := .int .i64 e6871) rfl (p_move rfl) rfl rfl ?_
    refine lpure (v := .int .i64 0) rfl (p_assign rfl) rfl rfl ?_
    refine lpure (v := .int .i64 e6871) rfl (p_assign rfl) rfl rfl ?_
    refine lend ?_
    refine nseq ?_
    refine dret ?_
    refine rseq ?_
    refine kin_r (res_2 resT resT) ?_
    refine lpure (v := .int .i64 0) rfl (p_extract rfl) rfl rfl ?_
    refine lpure (v := .int .i64 e6871) rfl (p_extract rfl) rfl rfl ?_
    refine lpure (v := .int .i64 0) rfl (p_assign rfl) rfl rfl ?_
    refine lpure (v := .int .i64 e6871) rfl (p_assign rfl) rfl rfl ?_
    refine lend ?_
    refine nseq ?_
    refine dret ?_
    exact kcut_r (res_2 resT resT) X6870 rfl rfl
  · refine dskip ?_
    refine nseq ?_
    refine dseq ?_
    refine dseq ?_
    refine dreg ?_
    refine lpure (v := .int .i64 p6862) rfl (p_move rfl) rfl rfl ?_
    refine lpure (v := .bool (decide (p6862 < 0))) rfl (p_lt rfl) rfl rfl ?_
    refine lpure (v := .bool (decide (p6862 < 0))) rfl (p_move rfl) rfl rfl ?_
    refine lsh (τ := Bool) (σ := Unit) (fun s6877 (_ : Unit) => [(1, .int .i64 p6862), (2, .func (.func 44) #[] #[]), (3, .pointer (some ⟨b6867, 0, none⟩)), (8, .int .i64 0), (25, .bool s6877)]) (fun s6877 (_ : Unit) hh => St φ h.n hh ([(some b6867, .cells [.int .i64 p6859.Nodes, .slice a6860 n6860 c6860, .slice a6861 n6861 c6861] 29 .exact), (some b6863, .cells [.int .i64 p6859.Nodes, .slice a6860 n6860 c6860, .slice a6861 n6861 c6861] 29 .exact)])) 7 ?_ ?_
    · rintro s6877 _ t0 h6879 X6878
      refine lend ?_
      refine nseq ?_
      refine dcond rfl rfl (fun k6880 => ?_) (fun k6880 => ?_)
      · refine dseq ?_
        refine dreg ?_
        refine lpure (v := .int .i64 0) rfl (p_move rfl) rfl rfl ?_
        refine lpure (v := .int .i64 0) rfl (p_assign rfl) rfl rfl ?_
        refine lpure (v := .int .i64 2) rfl (p_assign rfl) rfl rfl ?_
        refine lend ?_
        refine nseq ?_
        refine dret ?_
        refine rseq ?_
        refine kin_r (res_2 resT resT) ?_
        refine lpure (v := .int .i64 0) rfl (p_extract rfl) rfl rfl ?_
        refine lpure (v := .int .i64 2) rfl (p_extract rfl) rfl rfl ?_
        refine lpure (v := .int .i64 0) rfl (p_assign rfl) rfl rfl ?_
        refine lpure (v := .int .i64 2) rfl (p_assign rfl) rfl rfl ?_
        refine lend ?_
        refine nseq ?_
        refine dret ?_
        exact kcut_r (res_2 resT resT) X6878 rfl rfl
      · refine dskip ?_
        refine nseq ?_
        refine dseq ?_
        refine dreg ?_
        refine lpure (v := .func (.func 44) #[] #[]) rfl (p_move rfl) rfl rfl ?_
        refine lpure (v := .pointer (some ⟨b6867, 2, none⟩)) rfl (p_fa fo_29_2 rfl) rfl rfl ?_
        refine lread (v := .slice a6861 n6861 c6861) rfl (q_load wd_27 rfl) (St.ld X6878 (j := 0) rfl rfl) rfl ?_
        refine lpure (v := .int .i64 p6862) rfl (p_move rfl) rfl rfl ?_
        refine lpure (v := .int .i64 (w64 (Int.tdiv p6862 2))) rfl (p_quo rfl) rfl rfl ?_
        refine Sim.bindM fun e6881 he6882 => ?_
        obtain ⟨p6883, cs6883, hp6883, hF6883, hR6883⟩ := RSl.ia H6861 he6882 (kd := .i64) (n := 4) rfl
        obtain rfl := eApiLink_el hR6883
        refine lpure (v := p6883) rfl (p_ia rs_27 rfl) hp6883 rfl ?_
        refine lread (v := .agg #[.int .i64 e6881.A, .int .i64 e6881.B, .int .i64 e6881.Per, .int .i64 e6881.Delay]) rfl (q_load wd_75 rfl) (FP.ldw X6878 hF6883 rfl rfl) rfl ?_
        refine lpure (v := .int .i64 p6862) rfl (p_move rfl) rfl rfl ?_
        refine lpure (v := .agg #[.int .i64 e6881.A, .int .i64 e6881.B, .int .i64 e6881.Per, .int .i64 e6881.Delay, .int .i64 p6862]) rfl (p_build rfl) (build_st' tz_77 pl_77 rfl) rfl ?_
        refine lcallv rfl rfl rfl rfl ca_44 rfl rfl (f44_ok X6878 ((TopoEnd.mk e6881 p6862))) rfl (fun e6884 v6885 h6886 hq6887 => ?_)
        cases hq6887
        refine lpure (v := .int .i64 e6884) rfl (p_assign rfl) rfl rfl ?_
        refine lpure (v := .int .i64 0) rfl (p_assign rfl) rfl rfl ?_
        refine lend ?_
        refine nseq ?_
        refine dret ?_
        refine kin_r (res_2 resT resT) ?_
        refine lpure (v := .int .i64 e6884) rfl (p_extract rfl) rfl rfl ?_
        refine lpure (v := .int .i64 0) rfl (p_extract rfl) rfl rfl ?_
        refine lpure (v := .int .i64 e6884) rfl (p_assign rfl) rfl rfl ?_
        refine lpure (v := .int .i64 0) rfl (p_assign rfl) rfl rfl ?_
        refine lend ?_
        refine nseq ?_
        refine dret ?_
        exact kcut_r (res_2 resT resT) X6878 rfl rfl
    · intro j6888 J6889
      refine lcase (i := 18) (show _ = Value.bool (decide (p6862 < 0)) from rfl) (fun k6890 => ?_) (fun k6890 => ?_)
      · refine lskip rfl rfl ?_
        refine lskip rfl rfl ?_
        refine lskip rfl rfl ?_
        refine lskip rfl rfl ?_
        refine lskip rfl rfl ?_
        refine lskip rfl rfl ?_
        refine lpure (v := .bool true) rfl (p_pick rfl) rfl rfl ?_
        refine Sim.of_eq (congrArg j6888 (show ((decide (p6862 < 0)) || (decide ((w64 (2 * (p6859.Links.length : Int))) ≤ p6862))) = true from by rw [k6890] <;> rfl)) ?_
        exact ljmpM J6889 true () (sub_cons rfl (sub_cons rfl (sub_cons rfl (sub_cons rfl (sub_cons rfl sub_nil))))) X6870
      · refine lpure (v := .int .i64 p6862) rfl (p_move rfl) rfl rfl ?_
        refine lpure (v := .pointer (some ⟨b6867, 2, none⟩)) rfl (p_fa fo_29_2 rfl) rfl rfl ?_
        refine lread (v := .slice a6861 n6861 c6861) rfl (q_load wd_27 rfl) (St.ld X6870 (j := 0) rfl rfl) rfl ?_
        refine lpure (v := .int .i64 (p6859.Links.length : Int)) rfl (p_len rfl rfl rfl un_27 rfl) (RSl.lenC H6861) rfl ?_
        refine lpure (v := .int .i64 (w64 (2 * (p6859.Links.length : Int)))) rfl (p_mul rfl) rfl rfl ?_
        refine lpure (v := .bool (decide ((w64 (2 * (p6859.Links.length : Int))) ≤ p6862))) rfl (p_ge rfl) rfl rfl ?_
        refine lpure (v := .bool (decide ((w64 (2 * (p6859.Links.length : Int))) ≤ p6862))) rfl (p_pick rfl) rfl rfl ?_
        refine Sim.of_eq (congrArg j6888 (show ((decide (p6862 < 0)) || (decide ((w64 (2 * (p6859.Links.length : Int))) ≤ p6862))) = (decide ((w64 (2 * (p6859.Links.length : Int))) ≤ p6862)) from by rw [k6890] <;> rfl)) ?_
        exact ljmpM J6889 (decide ((w64 (2 * (p6859.Links.length : Int))) ≤ p6862)) () (sub_cons rfl (sub_cons rfl (sub_cons rfl (sub_cons rfl (sub_cons rfl sub_nil))))) X6870
/-! (isochron/topo.end).per -/
theorem f71_ok {n : Nat} {φ : Fz} {lo : Nat} {h : Heap} {own : OwnL}  (X : St φ lo h (own)) (p6928 : TopoEnd) : Sim ((recN Try.prog LL cutF (n + 1)).call 71 #[(.agg #[.int .i64 p6928.Link.A, .int .i64 p6928.Link.B, .int .i64 p6928.Link.Per, .int .i64 p6928.Link.Delay, .int .i64 p6928.port])] h) (m_topo_end_per p6928) (fun (d : Int) p => p = (.int .i64 d, h)) := by
  refine fcut Try.func71 rfl rfl rfl rfl X ?_
  intro h0 X0
  refine dseq ?_
  refine dreg ?_
  refine lbox rfl rfl rfl rfl rfl X0 (fun b6929 h6931 X6932 => ?_)
  refine lpure (v := .int .i64 0) rfl (p_assign rfl) rfl rfl ?_
  refine lend ?_
  refine nseq ?_
  refine dseq ?_
  refine dreg ?_
  refine lpure (v := .pointer (some ⟨b6929, 0, none⟩)) rfl (p_fa fo_77_0 rfl) rfl rfl ?_
  refine lpure (v := .pointer (some ⟨b6929, 2, none⟩)) rfl (p_fa fo_75_2 rfl) rfl rfl ?_
  refine lread (v := .int .i64 p6928.Link.Per) rfl (q_load wd_3 rfl) (St.ld X6932 (j := 0) rfl rfl) rfl ?_
  refine lpure (v := .int .i64 p6928.Link.Per) rfl (p_assign rfl) rfl rfl ?_
  refine lend ?_
  refine nseq ?_
  refine dret ?_
  exact kcut_r (res_1 resT) X6932 rfl rfl
/-! isochron/topo.Per -/
theorem f30_ok {n : Nat} {φ : Fz} {lo : Nat} {h : Heap} {own : OwnL}  {a6904 : Option Addr} {n6904 c6904 : Nat} {a6905 : Option Addr} {n6905 c6905 : Nat} (X : St φ lo h (own)) (p6903 : ApiTopo) (p6906 : Int) (H6904 : RSl eBool φ (.slice a6904 n6904 c6904) p6903.Station) (H6905 : RSl eApiLink φ (.slice a6905 n6905 c6905) p6903.Links) : Sim ((recN Try.prog LL cutF (n + 8)).call 30 #[(.agg #[.int .i64 p6903.Nodes, .slice a6904 n6904 c6904, .slice a6905 n6905 c6905]), (.int .i64 p6906)] h) (m_topo_Per p6903 p6906) (fun (d : (Int × Int)) p => p = (.tuple #[.int .i64 d.1, .int .i64 d.2], h)) := by
  refine fcut Try.func30 rfl rfl rfl rfl X ?_
  intro h0 X0
  refine dseq ?_
  refine dreg ?_
  refine lbox rfl rfl rfl rfl rfl X0 (fun b6907 h6909 X6910 => ?_)
  refine lpure (v := .int .i64 0) rfl (p_assign rfl) rfl rfl ?_
  refine lpure (v := .int .i64 0) rfl (p_assign rfl) rfl rfl ?_
  refine lend ?_
  refine nseq ?_
  refine dseq ?_
  refine dreg ?_
  refine lread (v := .agg #[.int .i64 p6903.Nodes, .slice a6904 n6904 c6904, .slice a6905 n6905 c6905]) rfl (q_load wd_29 rfl) (St.ld X6910 (j := 0) rfl rfl) rfl ?_
  refine lpure (v := .int .i64 p6906) rfl (p_move rfl) rfl rfl ?_
  refine linl rfl rfl rfl rfl ca_43 rfl Try.func43 rfl rfl rfl rfl rfl ?_
  refine dseq ?_
  refine dreg ?_
  refine lbox rfl rfl rfl rfl rfl X6910 (fun b6911 h6913 X6914 => ?_)
  refine lpure (v := .int .i64 0) rfl (p_assign rfl) rfl rfl ?_
  refine lpure (v := .int .i64 0) rfl (p_assign rfl) rfl rfl ?_
  refine lend ?_
  refine nseq ?_
  refine dseq ?_
  refine dreg ?_
  refine lpure (v := .int .i64 0) rfl (p_assign rfl) rfl rfl ?_
  refine lend ?_
  refine nseq ?_
  refine dseq ?_
  refine dseq ?_
  refine dreg ?_
  refine lread (v := .agg #[.int .i64 p6903.Nodes, .slice a6904 n6904 c6904, .slice a6905 n6905 c6905]) rfl (q_load wd_29 rfl) (St.ld X6914 (j := 0) rfl rfl) rfl ?_
  refine lcall rfl rfl ca_9 rfl rfl (f9_ok X6914 p6903 H6904 H6905) rfl (fun e6915 v6916 h6917 hq6918 => ?_)
  cases hq6918
  refine lpure (v := .int .i64 e6915) rfl (p_assign rfl) rfl rfl ?_
  refine lend ?_
  refine nseq ?_
  refine dseq ?_
  refine dreg ?_
  refine lpure (v := .int .i64 e6915) rfl (p_move rfl) rfl rfl ?_
  refine lpure (v := .bool (decide (e6915 ≠ 0))) rfl (p_ne rfl) rfl rfl ?_
  refine lend ?_
  refine nseq ?_
  refine dcond rfl rfl (fun k6919 => ?_) (fun k6919 => ?_)
  · refine dseq ?_
    refine dreg ?_
    refine lpure (v := .int .i64 0) rfl (p_move rfl) rfl rfl ?_
    refine lpure (v := .int .i64 e6915) rfl (p_move rfl) rfl rfl ?_
    refine lpure (v := .int .i64 0) rfl (p_assign rfl) rfl rfl ?_
    refine lpure (v := .int .i64 e6915) rfl (p_assign rfl) rfl rfl ?_
    refine lend ?_
    refine nseq ?_
    refine dret ?_
    refine rseq ?_
    refine kin_r (res_2 resT resT) ?_
    refine lpure (v := .int .i64 0) rfl (p_extract rfl) rfl rfl ?_
    refine lpure (v := .int .i64 e6915) rfl (p_extract rfl) rfl rfl ?_
    refine lpure (v := .int .i64 0) rfl (p_assign rfl) rfl rfl ?_
    refine lpure (v := .int .i64 e6915) rfl (p_assign rfl) rfl rfl ?_
    refine lend ?_
    refine nseq ?_
    refine dret ?_
    exact kcut_r (res_2 resT resT) X6914 rfl rfl
  · refine dskip ?_
    refine nseq ?_
    refine dseq ?_
    refine dseq ?_
    refine dreg ?_
    refine lpure (v := .int .i64 p6906) rfl (p_move rfl) rfl rfl ?_
    refine lpure (v := .bool (decide (p6906 < 0))) rfl (p_lt rfl) rfl rfl ?_
    refine lpure (v := .bool (decide (p6906 < 0))) rfl (p_move rfl) rfl rfl ?_
    refine lsh (τ := Bool) (σ := Unit) (fun s6921 (_ : Unit) => [(1, .int .i64 p6906), (2, .func (.func 71) #[] #[]), (3, .pointer (some ⟨b6911, 0, none⟩)), (8, .int .i64 0), (25, .bool s6921)]) (fun s6921 (_ : Unit) hh => St φ h.n hh ([(some b6911, .cells [.int .i64 p6903.Nodes, .slice a6904 n6904 c6904, .slice a6905 n6905 c6905] 29 .exact), (some b6907, .cells [.int .i64 p6903.Nodes, .slice a6904 n6904 c6904, .slice a6905 n6905 c6905] 29 .exact)])) 7 ?_ ?_
    · rintro s6921 _ t0 h6923 X6922
      refine lend ?_
      refine nseq ?_
      refine dcond rfl rfl (fun k6924 => ?_) (fun k6924 => ?_)
      · refine dseq ?_
        refine dreg ?_
        refine lpure (v := .int .i64 0) rfl (p_move rfl) rfl rfl ?_
        refine lpure (v := .int .i64 0) rfl (p_assign rfl) rfl rfl ?_
        refine lpure (v := .int .i64 2) rfl (p_assign rfl) rfl rfl ?_
        refine lend ?_
        refine nseq ?_
        refine dret ?_
        refine rseq ?_
        refine kin_r (res_2 resT resT) ?_
        refine lpure (v := .int .i64 0) rfl (p_extract rfl) rfl rfl ?_
        refine lpure (v := .int .i64 2) rfl (p_extract rfl) rfl rfl ?_
        refine lpure (v := .int .i64 0) rfl (p_assign rfl) rfl rfl ?_
        refine lpure (v := .int .i64 2) rfl (p_assign rfl) rfl rfl ?_
        refine lend ?_
        refine nseq ?_
        refine dret ?_
        exact kcut_r (res_2 resT resT) X6922 rfl rfl
      · refine dskip ?_
        refine nseq ?_
        refine dseq ?_
        refine dreg ?_
        refine lpure (v := .func (.func 71) #[] #[]) rfl (p_move rfl) rfl rfl ?_
        refine lpure (v := .pointer (some ⟨b6911, 2, none⟩)) rfl (p_fa fo_29_2 rfl) rfl rfl ?_
        refine lread (v := .slice a6905 n6905 c6905) rfl (q_load wd_27 rfl) (St.ld X6922 (j := 0) rfl rfl) rfl ?_
        refine lpure (v := .int .i64 p6906) rfl (p_move rfl) rfl rfl ?_
        refine lpure (v := .int .i64 (w64 (Int.tdiv p6906 2))) rfl (p_quo rfl) rfl rfl ?_
        refine Sim.bindM fun e6925 he6926 => ?_
        obtain ⟨p6927, cs6927, hp6927, hF6927, hR6927⟩ := RSl.ia H6905 he6926 (kd := .i64) (n := 4) rfl
        obtain rfl := eApiLink_el hR6927
        refine lpure (v := p6927) rfl (p_ia rs_27 rfl) hp6927 rfl ?_
        refine lread (v := .agg #[.int .i64 e6925.A, .int .i64 e6925.B, .int .i64 e6925.Per, .int .i64 e6925.Delay]) rfl (q_load wd_75 rfl) (FP.ldw X6922 hF6927 rfl rfl) rfl ?_
        refine lpure (v := .int .i64 p6906) rfl (p_move rfl) rfl rfl ?_
        refine lpure (v := .agg #[.int .i64 e6925.A, .int .i64 e6925.B, .int .i64 e6925.Per, .int .i64 e6925.Delay, .int .i64 p6906]) rfl (p_build rfl) (build_st' tz_77 pl_77 rfl) rfl ?_
        refine lcallv rfl rfl rfl rfl ca_71 rfl rfl (f71_ok X6922 ((TopoEnd.mk e6925 p6906))) rfl (fun e6933 v6934 h6935 hq6936 => ?_)
        cases hq6936
        refine lpure (v := .int .i64 e6933) rfl (p_assign rfl) rfl rfl ?_
        refine lpure (v := .int .i64 0) rfl (p_assign rfl) rfl rfl ?_
        refine lend ?_
        refine nseq ?_
        refine dret ?_
        refine kin_r (res_2 resT resT) ?_
        refine lpure (v := .int .i64 e6933) rfl (p_extract rfl) rfl rfl ?_
        refine lpure (v := .int .i64 0) rfl (p_extract rfl) rfl rfl ?_
        refine lpure (v := .int .i64 e6933) rfl (p_assign rfl) rfl rfl ?_
        refine lpure (v := .int .i64 0) rfl (p_assign rfl) rfl rfl ?_
        refine lend ?_
        refine nseq ?_
        refine dret ?_
        exact kcut_r (res_2 resT resT) X6922 rfl rfl
    · intro j6937 J6938
      refine lcase (i := 18) (show _ = Value.bool (decide (p6906 < 0)) from rfl) (fun k6939 => ?_) (fun k6939 => ?_)
      · refine lskip rfl rfl ?_
        refine lskip rfl rfl ?_
        refine lskip rfl rfl ?_
        refine lskip rfl rfl ?_
        refine lskip rfl rfl ?_
        refine lskip rfl rfl ?_
        refine lpure (v := .bool true) rfl (p_pick rfl) rfl rfl ?_
        refine Sim.of_eq (congrArg j6937 (show ((decide (p6906 < 0)) || (decide ((w64 (2 * (p6903.Links.length : Int))) ≤ p6906))) = true from by rw [k6939] <;> rfl)) ?_
        exact ljmpM J6938 true () (sub_cons rfl (sub_cons rfl (sub_cons rfl (sub_cons rfl (sub_cons rfl sub_nil))))) X6914
      · refine lpure (v := .int .i64 p6906) rfl (p_move rfl) rfl rfl ?_
        refine lpure (v := .pointer (some ⟨b6911, 2, none⟩)) rfl (p_fa fo_29_2 rfl) rfl rfl ?_
        refine lread (v := .slice a6905 n6905 c6905) rfl (q_load wd_27 rfl) (St.ld X6914 (j := 0) rfl rfl) rfl ?_
        refine lpure (v := .int .i64 (p6903.Links.length : Int)) rfl (p_len rfl rfl rfl un_27 rfl) (RSl.lenC H6905) rfl ?_
        refine lpure (v := .int .i64 (w64 (2 * (p6903.Links.length : Int)))) rfl (p_mul rfl) rfl rfl ?_
        refine lpure (v := .bool (decide ((w64 (2 * (p6903.Links.length : Int))) ≤ p6906))) rfl (p_ge rfl) rfl rfl ?_
        refine lpure (v := .bool (decide ((w64 (2 * (p6903.Links.length : Int))) ≤ p6906))) rfl (p_pick rfl) rfl rfl ?_
        refine Sim.of_eq (congrArg j6937 (show ((decide (p6906 < 0)) || (decide ((w64 (2 * (p6903.Links.length : Int))) ≤ p6906))) = (decide ((w64 (2 * (p6903.Links.length : Int))) ≤ p6906)) from by rw [k6939] <;> rfl)) ?_
        exact ljmpM J6938 (decide ((w64 (2 * (p6903.Links.length : Int))) ≤ p6906)) () (sub_cons rfl (sub_cons rfl (sub_cons rfl (sub_cons rfl (sub_cons rfl sub_nil))))) X6914
/-! (isochron/topo.end).delay -/
theorem f72_ok {n : Nat} {φ : Fz} {lo : Nat} {h : Heap} {own : OwnL}  (X : St φ lo h (own)) (p6977 : TopoEnd) : Sim ((recN Try.prog LL cutF (n + 1)).call 72 #[(.agg #[.int .i64 p6977.Link.A, .int .i64 p6977.Link.B, .int .i64 p6977.Link.Per, .int .i64 p6977.Link.Delay, .int .i64 p6977.port])] h) (m_topo_end_delay p6977) (fun (d : Int) p => p = (.int .i64 d, h)) := by
  refine fcut Try.func72 rfl rfl rfl rfl X ?_
  intro h0 X0
  refine dseq ?_
  refine dreg ?_
  refine lbox rfl rfl rfl rfl rfl X0 (fun b6978 h6980 X6981 => ?_)
  refine lpure (v := .int .i64 0) rfl (p_assign rfl) rfl rfl ?_
  refine lend ?_
  refine nseq ?_
  refine dseq ?_
  refine dreg ?_
  refine lpure (v := .pointer (some ⟨b6978, 0, none⟩)) rfl (p_fa fo_77_0 rfl) rfl rfl ?_
  refine lpure (v := .pointer (some ⟨b6978, 3, none⟩)) rfl (p_fa fo_75_3 rfl) rfl rfl ?_
  refine lread (v := .int .i64 p6977.Link.Delay) rfl (q_load wd_3 rfl) (St.ld X6981 (j := 0) rfl rfl) rfl ?_
  refine lpure (v := .int .i64 p6977.Link.Delay) rfl (p_assign rfl) rfl rfl ?_
  refine lend ?_
  refine nseq ?_
  refine dret ?_
  exact kcut_r (res_1 resT) X6981 rfl rfl
/-! isochron/topo.Delay -/
theorem f31_ok {n : Nat} {φ : Fz} {lo : Nat} {h : Heap} {own : OwnL}  {a6953 : Option Addr} {n6953 c6953 : Nat} {a6954 : Option Addr} {n6954 c6954 : Nat} (X : St φ lo h (own)) (p6952 : ApiTopo) (p6955 : Int) (H6953 : RSl eBool φ (.slice a6953 n6953 c6953) p6952.Station) (H6954 : RSl eApiLink φ (.slice a6954 n6954 c6954) p6952.Links) : Sim ((recN Try.prog LL cutF (n + 8)).call 31 #[(.agg #[.int .i64 p6952.Nodes, .slice a6953 n6953 c6953, .slice a6954 n6954 c6954]), (.int .i64 p6955)] h) (m_topo_Delay p6952 p6955) (fun (d : (Int × Int)) p => p = (.tuple #[.int .i64 d.1, .int .i64 d.2], h)) := by
  refine fcut Try.func31 rfl rfl rfl rfl X ?_
  intro h0 X0
  refine dseq ?_
  refine dreg ?_
  refine lbox rfl rfl rfl rfl rfl X0 (fun b6956 h6958 X6959 => ?_)
  refine lpure (v := .int .i64 0) rfl (p_assign rfl) rfl rfl ?_
  refine lpure (v := .int .i64 0) rfl (p_assign rfl) rfl rfl ?_
  refine lend ?_
  refine nseq ?_
  refine dseq ?_
  refine dreg ?_
  refine lread (v := .agg #[.int .i64 p6952.Nodes, .slice a6953 n6953 c6953, .slice a6954 n6954 c6954]) rfl (q_load wd_29 rfl) (St.ld X6959 (j := 0) rfl rfl) rfl ?_
  refine lpure (v := .int .i64 p6955) rfl (p_move rfl) rfl rfl ?_
  refine linl rfl rfl rfl rfl ca_43 rfl Try.func43 rfl rfl rfl rfl rfl ?_
  refine dseq ?_
  refine dreg ?_
  refine lbox rfl rfl rfl rfl rfl X6959 (fun b6960 h6962 X6963 => ?_)
  refine lpure (v := .int .i64 0) rfl (p_assign rfl) rfl rfl ?_
  refine lpure (v := .int .i64 0) rfl (p_assign rfl) rfl rfl ?_
  refine lend ?_
  refine nseq ?_
  refine dseq ?_
  refine dreg ?_
  refine lpure (v := .int .i64 0) rfl (p_assign rfl) rfl rfl ?_
  refine lend ?_
  refine nseq ?_
  refine dseq ?_
  refine dseq ?_
  refine dreg ?_
  refine lread (v := .agg #[.int .i64 p6952.Nodes, .slice a6953 n6953 c6953, .slice a6954 n6954 c6954]) rfl (q_load wd_29 rfl) (St.ld X6963 (j := 0) rfl rfl) rfl ?_
  refine lcall rfl rfl ca_9 rfl rfl (f9_ok X6963 p6952 H6953 H6954) rfl (fun e6964 v6965 h6966 hq6967 => ?_)
  cases hq6967
  refine lpure (v := .int .i64 e6964) rfl (p_assign rfl) rfl rfl ?_
  refine lend ?_
  refine nseq ?_
  refine dseq ?_
  refine dreg ?_
  refine lpure (v := .int .i64 e6964) rfl (p_move rfl) rfl rfl ?_
  refine lpure (v := .bool (decide (e6964 ≠ 0))) rfl (p_ne rfl) rfl rfl ?_
  refine lend ?_
  refine nseq ?_
  refine dcond rfl rfl (fun k6968 => ?_) (fun k6968 => ?_)
  · refine dseq ?_
    refine dreg ?_
    refine lpure (v := .int .i64 0) rfl (p_move rfl) rfl rfl ?_
    refine lpure (v := .int .i64 e6964) rfl (p_move rfl) rfl rfl ?_
    refine lpure (v := .int .i64 0) rfl (p_assign rfl) rfl rfl ?_
    refine lpure (v := .int .i64 e6964) rfl (p_assign rfl) rfl rfl ?_
    refine lend ?_
    refine nseq ?_
    refine dret ?_
    refine rseq ?_
    refine kin_r (res_2 resT resT) ?_
    refine lpure (v := .int .i64 0) rfl (p_extract rfl) rfl rfl ?_
    refine lpure (v := .int .i64 e6964) rfl (p_extract rfl) rfl rfl ?_
    refine lpure (v := .int .i64 0) rfl (p_assign rfl) rfl rfl ?_
    refine lpure (v := .int .i64 e6964) rfl (p_assign rfl) rfl rfl ?_
    refine lend ?_
    refine nseq ?_
    refine dret ?_
    exact kcut_r (res_2 resT resT) X6963 rfl rfl
  · refine dskip ?_
    refine nseq ?_
    refine dseq ?_
    refine dseq ?_
    refine dreg ?_
    refine lpure (v := .int .i64 p6955) rfl (p_move rfl) rfl rfl ?_
    refine lpure (v := .bool (decide (p6955 < 0))) rfl (p_lt rfl) rfl rfl ?_
    refine lpure (v := .bool (decide (p6955 < 0))) rfl (p_move rfl) rfl rfl ?_
    refine lsh (τ := Bool) (σ := Unit) (fun s6970 (_ : Unit) => [(1, .int .i64 p6955), (2, .func (.func 72) #[] #[]), (3, .pointer (some ⟨b6960, 0, none⟩)), (8, .int .i64 0), (25, .bool s6970)]) (fun s6970 (_ : Unit) hh => St φ h.n hh ([(some b6960, .cells [.int .i64 p6952.Nodes, .slice a6953 n6953 c6953, .slice a6954 n6954 c6954] 29 .exact), (some b6956, .cells [.int .i64 p6952.Nodes, .slice a6953 n6953 c6953, .slice a6954 n6954 c6954] 29 .exact)])) 7 ?_ ?_
    · rintro s6970 _ t0 h6972 X6971
      refine lend ?_
      refine nseq ?_
      refine dcond rfl rfl (fun k6973 => ?_) (fun k6973 => ?_)
      · refine dseq ?_
        refine dreg ?_
        refine lpure (v := .int .i64 0) rfl (p_move rfl) rfl rfl ?_
        refine lpure (v := .int .i64 0) rfl (p_assign rfl) rfl rfl ?_
        refine lpure (v := .int .i64 2) rfl (p_assign rfl) rfl rfl ?_
        refine lend ?_
        refine nseq ?_
        refine dret ?_
        refine rseq ?_
        refine kin_r (res_2 resT resT) ?_
        refine lpure (v := .int .i64 0) rfl (p_extract rfl) rfl rfl ?_
        refine lpure (v := .int .i64 2) rfl (p_extract rfl) rfl rfl ?_
        refine lpure (v := .int .i64 0) rfl (p_assign rfl) rfl rfl ?_
        refine lpure (v := .int .i64 2) rfl (p_assign rfl) rfl rfl ?_
        refine lend ?_
        refine nseq ?_
        refine dret ?_
        exact kcut_r (res_2 resT resT) X6971 rfl rfl
      · refine dskip ?_
        refine nseq ?_
        refine dseq ?_
        refine dreg ?_
        refine lpure (v := .func (.func 72) #[] #[]) rfl (p_move rfl) rfl rfl ?_
        refine lpure (v := .pointer (some ⟨b6960, 2, none⟩)) rfl (p_fa fo_29_2 rfl) rfl rfl ?_
        refine lread (v := .slice a6954 n6954 c6954) rfl (q_load wd_27 rfl) (St.ld X6971 (j := 0) rfl rfl) rfl ?_
        refine lpure (v := .int .i64 p6955) rfl (p_move rfl) rfl rfl ?_
        refine lpure (v := .int .i64 (w64 (Int.tdiv p6955 2))) rfl (p_quo rfl) rfl rfl ?_
        refine Sim.bindM fun e6974 he6975 => ?_
        obtain ⟨p6976, cs6976, hp6976, hF6976, hR6976⟩ := RSl.ia H6954 he6975 (kd := .i64) (n := 4) rfl
        obtain rfl := eApiLink_el hR6976
        refine lpure (v := p6976) rfl (p_ia rs_27 rfl) hp6976 rfl ?_
        refine lread (v := .agg #[.int .i64 e6974.A, .int .i64 e6974.B, .int .i64 e6974.Per, .int .i64 e6974.Delay]) rfl (q_load wd_75 rfl) (FP.ldw X6971 hF6976 rfl rfl) rfl ?_
        refine lpure (v := .int .i64 p6955) rfl (p_move rfl) rfl rfl ?_
        refine lpure (v := .agg #[.int .i64 e6974.A, .int .i64 e6974.B, .int .i64 e6974.Per, .int .i64 e6974.Delay, .int .i64 p6955]) rfl (p_build rfl) (build_st' tz_77 pl_77 rfl) rfl ?_
        refine lcallv rfl rfl rfl rfl ca_72 rfl rfl (f72_ok X6971 ((TopoEnd.mk e6974 p6955))) rfl (fun e6982 v6983 h6984 hq6985 => ?_)
        cases hq6985
        refine lpure (v := .int .i64 e6982) rfl (p_assign rfl) rfl rfl ?_
        refine lpure (v := .int .i64 0) rfl (p_assign rfl) rfl rfl ?_
        refine lend ?_
        refine nseq ?_
        refine dret ?_
        refine kin_r (res_2 resT resT) ?_
        refine lpure (v := .int .i64 e6982) rfl (p_extract rfl) rfl rfl ?_
        refine lpure (v := .int .i64 0) rfl (p_extract rfl) rfl rfl ?_
        refine lpure (v := .int .i64 e6982) rfl (p_assign rfl) rfl rfl ?_
        refine lpure (v := .int .i64 0) rfl (p_assign rfl) rfl rfl ?_
        refine lend ?_
        refine nseq ?_
        refine dret ?_
        exact kcut_r (res_2 resT resT) X6971 rfl rfl
    · intro j6986 J6987
      refine lcase (i := 18) (show _ = Value.bool (decide (p6955 < 0)) from rfl) (fun k6988 => ?_) (fun k6988 => ?_)
      · refine lskip rfl rfl ?_
        refine lskip rfl rfl ?_
        refine lskip rfl rfl ?_
        refine lskip rfl rfl ?_
        refine lskip rfl rfl ?_
        refine lskip rfl rfl ?_
        refine lpure (v := .bool true) rfl (p_pick rfl) rfl rfl ?_
        refine Sim.of_eq (congrArg j6986 (show ((decide (p6955 < 0)) || (decide ((w64 (2 * (p6952.Links.length : Int))) ≤ p6955))) = true from by rw [k6988] <;> rfl)) ?_
        exact ljmpM J6987 true () (sub_cons rfl (sub_cons rfl (sub_cons rfl (sub_cons rfl (sub_cons rfl sub_nil))))) X6963
      · refine lpure (v := .int .i64 p6955) rfl (p_move rfl) rfl rfl ?_
        refine lpure (v := .pointer (some ⟨b6960, 2, none⟩)) rfl (p_fa fo_29_2 rfl) rfl rfl ?_
        refine lread (v := .slice a6954 n6954 c6954) rfl (q_load wd_27 rfl) (St.ld X6963 (j := 0) rfl rfl) rfl ?_
        refine lpure (v := .int .i64 (p6952.Links.length : Int)) rfl (p_len rfl rfl rfl un_27 rfl) (RSl.lenC H6954) rfl ?_
        refine lpure (v := .int .i64 (w64 (2 * (p6952.Links.length : Int)))) rfl (p_mul rfl) rfl rfl ?_
        refine lpure (v := .bool (decide ((w64 (2 * (p6952.Links.length : Int))) ≤ p6955))) rfl (p_ge rfl) rfl rfl ?_
        refine lpure (v := .bool (decide ((w64 (2 * (p6952.Links.length : Int))) ≤ p6955))) rfl (p_pick rfl) rfl rfl ?_
        refine Sim.of_eq (congrArg j6986 (show ((decide (p6955 < 0)) || (decide ((w64 (2 * (p6952.Links.length : Int))) ≤ p6955))) = (decide ((w64 (2 * (p6952.Links.length : Int))) ≤ p6955)) from by rw [k6988] <;> rfl)) ?_
        exact ljmpM J6987 (decide ((w64 (2 * (p6952.Links.length : Int))) ≤ p6955)) () (sub_cons rfl (sub_cons rfl (sub_cons rfl (sub_cons rfl (sub_cons rfl sub_nil))))) X6963
/-! isochron/topo.Ports -/
theorem f10_ok {n : Nat} {φ : Fz} {lo : Nat} {h : Heap} {own : OwnL}  {a7367 : Option Addr} {n7367 c7367 : Nat} {a7368 : Option Addr} {n7368 c7368 : Nat} (X : St φ lo h (own)) (p7366 : ApiTopo) (p7369 : Int) (H7367 : RSl eBool φ (.slice a7367 n7367 c7367) p7366.Station) (H7368 : RSl eApiLink φ (.slice a7368 n7368 c7368) p7366.Links) : Sim ((recN Try.prog LL cutF (n + 7)).call 10 #[(.agg #[.int .i64 p7366.Nodes, .slice a7367 n7367 c7367, .slice a7368 n7368 c7368]), (.int .i64 p7369)] h) (m_topo_Ports p7366 p7369) (fun (d : ((List Int) × Int)) p => ∃ φ2 : Fz, ∃ a7731 : Option Addr, ∃ n7731 : Nat, ∃ c7731 : Nat, ∃ ob7731 : Option Nat, ∃ blk7731 : Blk, Fz.le φ φ2 ∧ St φ2 lo p.2 ((ob7731, blk7731) :: own) ∧ p.1 = .tuple #[.slice a7731 n7731 c7731, .int .i64 d.2] ∧ OSl (eInt .i64) φ2 3 ob7731 blk7731 (.slice a7731 n7731 c7731) d.1) := by
  refine fopen Try.func10 rfl rfl rfl rfl ?_
  refine dseq ?_
  refine dreg ?_
  refine lbox rfl rfl rfl rfl rfl X (fun b7370 h7372 X7373 => ?_)
  refine lbox rfl rfl rfl rfl rfl X7373 (fun b7374 h7376 X7377 => ?_)
  refine lpure (v := .slice none 0 0) rfl (p_assign rfl) rfl rfl ?_
  refine lpure (v := .int .i64 0) rfl (p_assign rfl) rfl rfl ?_
  refine lend ?_
  refine nseq ?_
  refine dseq ?_
  refine dseq ?_
  refine dreg ?_
  refine lread (v := .agg #[.int .i64 p7366.Nodes, .slice a7367 n7367 c7367, .slice a7368 n7368 c7368]) rfl (q_load wd_29 rfl) (St.ld X7377 (j := 1) rfl rfl) rfl ?_
  refine lcall rfl rfl ca_9 rfl rfl (f9_ok X7377 p7366 H7367 H7368) rfl (fun e7378 v7379 h7380 hq7381 => ?_)
  cases hq7381
  refine lpure (v := .int .i64 e7378) rfl (p_assign rfl) rfl rfl ?_
  refine lend ?_
  refine nseq ?_
  refine dseq ?_
  refine dreg ?_
  refine lpure (v := .int .i64 e7378) rfl (p_move rfl) rfl rfl ?_
  refine lpure (v := .bool (decide (e7378 ≠ 0))) rfl (p_ne rfl) rfl rfl ?_
  refine lend ?_
  refine nseq ?_
  refine dcond rfl rfl (fun k7382 => ?_) (fun k7382 => ?_)
  · refine dseq ?_
    refine dreg ?_
    refine lpure (v := .int .i64 e7378) rfl (p_move rfl) rfl rfl ?_
    refine lpure (v := .slice none 0 0) rfl (p_assign rfl) rfl rfl ?_
    refine lpure (v := .int .i64 e7378) rfl (p_assign rfl) rfl rfl ?_
    refine lend ?_
    refine nseq ?_
    refine dret ?_
    refine rseq ?_
    exact kopen_r (res_2 resT resT) ⟨φ, none, 0, 0, none, (.dead), (Fz.le_refl _), St.pick X7377 (.none _ (.skip _ (.skip _ (.refl _)))), rfl, OSl.nil⟩
  · refine dskip ?_
    refine nseq ?_
    refine dseq ?_
    refine dseq ?_
    refine dreg ?_
    refine lread (v := .agg #[.int .i64 p7366.Nodes, .slice a7367 n7367 c7367, .slice a7368 n7368 c7368]) rfl (q_load wd_29 rfl) (St.ld X7377 (j := 1) rfl rfl) rfl ?_
    refine lread (v := .int .i64 p7369) rfl (q_load wd_3 rfl) (St.ld X7377 (j := 0) rfl rfl) rfl ?_
    refine lcall rfl rfl ca_40 rfl rfl (f40_ok X7377 p7366 p7369 H7367 H7368) rfl (fun e7383 v7384 h7385 hq7386 => ?_)
    cases hq7386
    refine lpure (v := .bool (!e7383)) rfl (p_not rfl) rfl rfl ?_
    refine lend ?_
    refine nseq ?_
    refine dcond rfl rfl (fun k7387 => ?_) (fun k7387 => ?_)
    · refine dseq ?_
      refine dreg ?_
      refine lpure (v := .slice none 0 0) rfl (p_assign rfl) rfl rfl ?_
      refine lpure (v := .int .i64 2) rfl (p_assign rfl) rfl rfl ?_
      refine lend ?_
      refine nseq ?_
      refine dret ?_
      refine rseq ?_
      exact kopen_r (res_2 resT resT) ⟨φ, none, 0, 0, none, (.dead), (Fz.le_refl _), St.pick X7377 (.none _ (.skip _ (.skip _ (.refl _)))), rfl, OSl.nil⟩
    · refine dskip ?_
      refine nseq ?_
      refine dseq ?_
      refine dreg ?_
      refine lalloc rfl tz_33 rfl rfl rfl X7377 (fun b7388 h7390 X7391 => ?_)
      refine lend ?_
      refine nseq ?_
      refine dseq ?_
      refine dseq ?_
      refine dreg ?_
      refine lread (v := .agg #[.int .i64 p7366.Nodes, .slice a7367 n7367 c7367, .slice a7368 n7368 c7368]) rfl (q_load wd_29 rfl) (St.ld X7391 (j := 2) rfl rfl) rfl ?_
      refine linl rfl rfl rfl rfl ca_41 rfl Try.func41 rfl rfl rfl rfl rfl ?_
      refine dseq ?_
      refine dreg ?_
      refine lbox rfl rfl rfl rfl rfl X7391 (fun b7392 h7394 X7395 => ?_)
      refine lpure (v := .nilFunc) rfl (p_assign rfl) rfl rfl ?_
      refine lend ?_
      refine nseq ?_
      refine dseq ?_
      refine dreg ?_
      refine lpure (v := .func (.func 84) #[] #[.pointer (some ⟨b7392, 0, none⟩)]) rfl (p_makeFunc rfl) rfl rfl ?_
      refine lpure (v := .func (.func 84) #[] #[.pointer (some ⟨b7392, 0, none⟩)]) rfl (p_assign rfl) rfl rfl ?_
      refine lend ?_
      refine nseq ?_
      refine dret ?_
      refine kin_r (res_1 resT) ?_
      refine lend ?_
      refine nseq ?_
      refine dblock ?_
      refine drange rfl rfl ca_84 Try.func84 rfl rfl X7395 (fun _ => rfl) ?_
      intro l7396 q7397 df7398 h7400 Q7399 X7401
      refine dseq ?_
      refine dreg ?_
      refine lpure (v := .pointer (some ⟨b7392, 2, none⟩)) rfl (p_fa fo_29_2 rfl) rfl rfl ?_
      refine lread (v := .slice a7368 n7368 c7368) rfl (q_load wd_27 rfl) (St.ld X7401 (j := 2) rfl rfl) rfl ?_
      refine lpure (v := .int .i64 (p7366.Links.length : Int)) rfl (p_len rfl rfl rfl un_27 rfl) (RSl.lenC H7368) rfl ?_
      refine lpure (v := .int .i64 0) rfl (p_move rfl) rfl rfl ?_
      refine lend ?_
      refine nseq ?_
      refine dblock ?_
      refine dloopM (τ := Int × (List Int)) (σ := Option Addr × Nat × Nat × Option Nat × Blk) (fun s7569 (a7571, n7571, c7571, ob7571, blk7571) => [(0, .func (.yield l7396) #[] #[]), (6, .slice a7368 n7368 c7368), (7, .int .i64 (p7366.Links.length : Int)), (8, .int .i64 s7569.1)]) (fun s7569 (a7571, n7571, c7571, ob7571, blk7571) hh => St φ lo hh ((ob7571, blk7571) :: (some l7396, rdy q7397) :: (none, .dead) :: (some b7392, .cells [.int .i64 p7366.Nodes, .slice a7367 n7367 c7367, .slice a7368 n7368 c7368] 29 .exact) :: (some b7388, .cells [.slice a7571 n7571 c7571] 33 .exact) :: (some b7374, .cells [.int .i64 p7369] 3 .exact) :: (some b7370, .cells [.int .i64 p7366.Nodes, .slice a7367 n7367 c7367, .slice a7368 n7368 c7368] 29 .exact) :: own) ∧ OSl (eInt .i64) φ 3 ob7571 blk7571 (.slice a7571 n7571 c7571) s7569.2) (0, []) (none, 0, 0, none, .dead) (sub_cons rfl (sub_cons rfl (sub_cons rfl (sub_cons rfl sub_nil)))) ⟨(St.pick X7401 (.none _ (.keep _ (.none _ (.skip _ (.keep _ (.keep _ (.keep _ (.keep _ (.refl _)))))))))), OSl.nil⟩ ?_
      rintro n7652 ih7651 s7569 ⟨a7571, n7571, c7571, ob7571, blk7571⟩ t0 h7654 ⟨X7653, O7571⟩
      refine dseq ?_
      refine dreg ?_
      refine lpure (v := .bool (decide (s7569.1 < (p7366.Links.length : Int)))) rfl (p_lt rfl) rfl rfl ?_
      refine lend ?_
      refine nseq ?_
      refine dseq ?_
      refine dcond rfl rfl (fun k7655 => ?_) (fun k7655 => ?_)
      · refine dskip ?_
        refine nseq ?_
        refine dseq ?_
        refine dblock ?_
        refine dseq ?_
        refine dreg ?_
        refine lpure (v := .int .i64 s7569.1) rfl (p_move rfl) rfl rfl ?_
        refine Sim.bindM fun e7656 he7657 => ?_
        obtain ⟨p7658, cs7658, hp7658, hF7658, hR7658⟩ := RSl.ia H7368 he7657 (kd := .i64) (n := 4) rfl
        obtain rfl := eApiLink_el hR7658
        refine lpure (v := p7658) rfl (p_ia rs_27 rfl) hp7658 rfl ?_
        refine lread (v := .agg #[.int .i64 e7656.A, .int .i64 e7656.B, .int .i64 e7656.Per, .int .i64 e7656.Delay]) rfl (q_load wd_75 rfl) (FP.ldw X7653 hF7658 rfl rfl) rfl ?_
        refine lalloc rfl tz_75 rfl rfl rfl X7653 (fun b7659 h7661 X7662 => ?_)
        refine lpure (v := .int .i64 s7569.1) rfl (p_assign rfl) rfl rfl ?_
        refine lstore rfl ts_75 rfl rfl (j := 0) rfl rfl rfl rfl rfl rfl X7662 (fun h7663 X7664 => ?_)
        refine lend ?_
        refine nseq ?_
        refine dseq ?_
        refine dreg ?_
        refine lpure (v := .func (.yield l7396) #[] #[]) rfl (p_move rfl) rfl rfl ?_
        refine lread (v := .agg #[.int .i64 e7656.A, .int .i64 e7656.B, .int .i64 e7656.Per, .int .i64 e7656.Delay]) rfl (q_load wd_75 rfl) (St.ld X7664 (j := 0) rfl rfl) rfl ?_
        refine lpure (v := .int .i64 s7569.1) rfl (p_move rfl) rfl rfl ?_
        refine lpure (v := .int .i64 (w64 (2 * s7569.1))) rfl (p_mul rfl) rfl rfl ?_
        refine lpure (v := .agg #[.int .i64 e7656.A, .int .i64 e7656.B, .int .i64 e7656.Per, .int .i64 e7656.Delay, .int .i64 (w64 (2 * s7569.1))]) rfl (p_build rfl) (build_st' tz_77 pl_77 rfl) rfl ?_
        refine lround rfl rfl rfl rfl rfl rfl X7664 (j := 2) rfl Q7399 rfl rfl rfl rfl rfl (fun t7665 => ?_)
        refine dreg ?_
        refine lalloc rfl tz_77 rfl rfl rfl X7664 (fun b7666 h7668 X7669 => ?_)
        refine lstore rfl ts_77 rfl rfl (j := 0) rfl rfl rfl rfl rfl rfl X7669 (fun h7670 X7671 => ?_)
        refine lend ?_
        refine basg X7671 (j := 3) rfl (fun h7672 X7673 => ?_)
        refine dblock ?_
        refine dseq ?_
        refine ddraw 0 0 0 (by kernel_rfl) ?_
        refine sload (v := .agg #[.int .i64 e7656.A, .int .i64 e7656.B, .int .i64 e7656.Per, .int .i64 e7656.Delay, .int .i64 (w64 (2 * s7569.1))]) rfl rfl (q_load wd_77 rfl) (St.ld X7673 (j := 0) rfl rfl) (same_self 20 rfl) rfl ?_
        refine scall (en := fun d => (.int .i64 d)) rfl rfl ca_42 rfl rfl (f42_ok X7673 ((TopoEnd.mk e7656 (w64 (2 * s7569.1))))) rfl (fun e7674 => ?_)
        refine sload (v := .int .i64 p7369) rfl rfl (q_load wd_3 rfl) (St.ld X7673 (j := 7) rfl rfl) (same_self 20 rfl) rfl ?_
        refine spure (v := .bool (decide (e7674 = p7369))) rfl (p_eq rfl) (lo_t rfl (lo_t rfl rfl)) rfl rfl ?_
        refine send ?_
        refine nseq ?_
        refine djoinM (τ := (List Int)) (σ := Option Addr × Nat × Nat × Option Nat × Blk) (fun s7684 (a7685, n7685, c7685, ob7685, blk7685) => []) (fun s7684 (a7685, n7685, c7685, ob7685, blk7685) hh => St φ lo hh ((some b7666, .cells [.int .i64 e7656.A, .int .i64 e7656.B, .int .i64 e7656.Per, .int .i64 e7656.Delay, .int .i64 (w64 (2 * s7569.1))] 77 .exact) :: (some b7659, .cells [.int .i64 e7656.A, .int .i64 e7656.B, .int .i64 e7656.Per, .int .i64 e7656.Delay] 75 .exact) :: (ob7685, blk7685) :: (some l7396, bsy q7397) :: (none, .dead) :: (some b7392, .cells [.int .i64 p7366.Nodes, .slice a7367 n7367 c7367, .slice a7368 n7368 c7368] 29 .exact) :: (some b7388, .cells [.slice a7685 n7685 c7685] 33 .exact) :: (some b7374, .cells [.int .i64 p7369] 3 .exact) :: (some b7370, .cells [.int .i64 p7366.Nodes, .slice a7367 n7367 c7367, .slice a7368 n7368 c7368] 29 .exact) :: own) ∧ OSl (eInt .i64) φ 3 ob7685 blk7685 (.slice a7685 n7685 c7685) s7684) ?_ ?_
        · rintro s7684 ⟨a7685, n7685, c7685, ob7685, blk7685⟩ t0 h7687 ⟨X7686, O7685⟩
          refine nblock ?_
          refine nrnd X7686 (j := 3) rfl (fun h7690 X7691 => ?_)
          refine lpure (v := .bool false) rfl (p_not rfl) rfl rfl ?_
          refine lpure (v := .bool false) rfl (p_move rfl) rfl rfl ?_
          refine lpure (v := .func (.yield l7396) #[] #[]) rfl (p_move rfl) rfl rfl ?_
          refine lread (v := .agg #[.int .i64 e7656.A, .int .i64 e7656.B, .int .i64 e7656.Per, .int .i64 e7656.Delay]) rfl (q_load wd_75 rfl) (St.ld X7691 (j := 1) rfl rfl) rfl ?_
          refine lpure (v := .int .i64 s7569.1) rfl (p_move rfl) rfl rfl ?_
          refine lpure (v := .int .i64 (w64 (2 * s7569.1))) rfl (p_mul rfl) rfl rfl ?_
          refine lpure (v := .int .i64 (w64 ((w64 (2 * s7569.1)) + 1))) rfl (p_add rfl) rfl rfl ?_
          refine lpure (v := .agg #[.int .i64 e7656.A, .int .i64 e7656.B, .int .i64 e7656.Per, .int .i64 e7656.Delay, .int .i64 (w64 ((w64 (2 * s7569.1)) + 1))]) rfl (p_build rfl) (build_st' tz_77 pl_77 rfl) rfl ?_
          refine lround rfl rfl rfl rfl rfl rfl X7691 (j := 3) rfl Q7399 rfl rfl rfl rfl rfl (fun t7692 => ?_)
          refine dreg ?_
          refine lalloc rfl tz_77 rfl rfl rfl X7691 (fun b7693 h7695 X7696 => ?_)
          refine lstore rfl ts_77 rfl rfl (j := 0) rfl rfl rfl rfl rfl rfl X7696 (fun h7697 X7698 => ?_)
          refine lend ?_
          refine basg X7698 (j := 4) rfl (fun h7699 X7700 => ?_)
          refine dblock ?_
          refine dseq ?_
          refine ddraw 0 0 0 (by kernel_rfl) ?_
          refine sload (v := .agg #[.int .i64 e7656.A, .int .i64 e7656.B, .int .i64 e7656.Per, .int .i64 e7656.Delay, .int .i64 (w64 ((w64 (2 * s7569.1)) + 1))]) rfl rfl (q_load wd_77 rfl) (St.ld X7700 (j := 0) rfl rfl) (same_self 20 rfl) rfl ?_
          refine scall (en := fun d => (.int .i64 d)) rfl rfl ca_42 rfl rfl (f42_ok X7700 ((TopoEnd.mk e7656 (w64 ((w64 (2 * s7569.1)) + 1))))) rfl (fun e7701 => ?_)
          refine sload (v := .int .i64 p7369) rfl rfl (q_load wd_3 rfl) (St.ld X7700 (j := 8) rfl rfl) (same_self 20 rfl) rfl ?_
          refine spure (v := .bool (decide (e7701 = p7369))) rfl (p_eq rfl) (lo_t rfl (lo_t rfl rfl)) rfl rfl ?_
          refine send ?_
          refine nseq ?_
          refine djoinM (τ := (List Int)) (σ := Option Addr × Nat × Nat × Option Nat × Blk) (fun s7711 (a7712, n7712, c7712, ob7712, blk7712) => []) (fun s7711 (a7712, n7712, c7712, ob7712, blk7712) hh => St φ lo hh ((some b7693, .cells [.int .i64 e7656.A, .int .i64 e7656.B, .int .i64 e7656.Per, .int .i64 e7656.Delay, .int .i64 (w64 ((w64 (2 * s7569.1)) + 1))] 77 .exact) :: (some b7666, .cells [.int .i64 e7656.A, .int .i64 e7656.B, .int .i64 e7656.Per, .int .i64 e7656.Delay, .int .i64 (w64 (2 * s7569.1))] 77 .exact) :: (some b7659, .cells [.int .i64 e7656.A, .int .i64 e7656.B, .int .i64 e7656.Per, .int .i64 e7656.Delay] 75 .exact) :: (ob7712, blk7712) :: (some l7396, bsy q7397) :: (none, .dead) :: (some b7392, .cells [.int .i64 p7366.Nodes, .slice a7367 n7367 c7367, .slice a7368 n7368 c7368] 29 .exact) :: (some b7388, .cells [.slice a7712 n7712 c7712] 33 .exact) :: (some b7374, .cells [.int .i64 p7369] 3 .exact) :: (some b7370, .cells [.int .i64 p7366.Nodes, .slice a7367 n7367 c7367, .slice a7368 n7368 c7368] 29 .exact) :: own) ∧ OSl (eInt .i64) φ 3 ob7712 blk7712 (.slice a7712 n7712 c7712) s7711) ?_ ?_
          · rintro s7711 ⟨a7712, n7712, c7712, ob7712, blk7712⟩ t0 h7714 ⟨X7713, O7712⟩
            refine nblock ?_
            refine nrnd X7713 (j := 4) rfl (fun h7717 X7718 => ?_)
            refine lpure (v := .bool false) rfl (p_not rfl) rfl rfl ?_
            refine lpure (v := .bool false) rfl (p_pick rfl) rfl rfl ?_
            refine lend ?_
            refine nseq ?_
            refine dcondF rfl rfl ?_
            refine dskip ?_
            refine nblock ?_
            refine nseq ?_
            refine dreg ?_
            refine lpure (v := .int .i64 (w64 (s7569.1 + 1))) rfl (p_add rfl) rfl rfl ?_
            refine lpure (v := .int .i64 (w64 (s7569.1 + 1))) rfl (p_move rfl) rfl rfl ?_
            refine lend ?_
            exact kbackM ih7651 ((w64 (s7569.1 + 1)), s7711) (a7712, n7712, c7712, ob7712, blk7712) (sub_cons rfl (sub_cons rfl (sub_cons rfl (sub_cons rfl sub_nil)))) ⟨(St.pick X7718 (.skip _ (.skip _ (.skip _ (.keep _ (.keep _ (.none _ (.skip _ (.keep _ (.keep _ (.keep _ (.keep _ (.refl _))))))))))))), O7712⟩
          · intro j7715 J7716
            refine dcond rfl rfl (fun k7705 => ?_) (fun k7705 => ?_)
            · refine dreg ?_
              refine lread (v := .slice a7685 n7685 c7685) rfl (q_load wd_33 rfl) (St.ld X7700 (j := 7) rfl rfl) rfl ?_
              refine lpure (v := .pointer (some ⟨b7693, 4, none⟩)) rfl (p_fa fo_77_1 rfl) rfl rfl ?_
              refine lread (v := .int .i64 (w64 ((w64 (2 * s7569.1)) + 1))) rfl (q_load wd_3 rfl) (St.ld X7700 (j := 0) rfl rfl) rfl ?_
              obtain ⟨h7719, b7719, hv7719, X7719, O7719⟩ := OSl.lay (E := (eInt .i64)) (φ := φ) (cs := [.int .i64 (w64 ((w64 (2 * s7569.1)) + 1))]) (l := [(w64 ((w64 (2 * s7569.1)) + 1))]) (len := 1) (parts := [(0, .int .i64 (w64 ((w64 (2 * s7569.1)) + 1)))]) un_33 ts_3 rfl rfl rfl tz_3 rfl rfl (show RowD (eInt .i64) φ [.int .i64 (w64 ((w64 (2 * s7569.1)) + 1))] [(w64 ((w64 (2 * s7569.1)) + 1))] from ⟨[.int .i64 (w64 ((w64 (2 * s7569.1)) + 1))], _, rfl, rfl, rfl⟩) rfl rfl X7700
              refine lheap rfl (h_buildSlice rfl) hv7719 rfl ?_
              obtain ⟨ws7721, hw7721⟩ := OSl.read O7719 X7719 (k := 0) rfl (n := 1) rfl
              refine Sim.mustM fun k7721 => ?_
              obtain ⟨h7721, a7721, c7721, ob7721, blk7721, hv7721, X7721, O7721⟩ := OSl.append O7685 X7719 (j := 4) rfl hw7721 k7721 (ts := #[33, 33]) rfl un_33 (argOk_of ax_33_33) ts_3 rfl rfl tb_3 rfl tz_3 rfl
              refine lheap rfl (h_builtin rfl rfl) hv7721 rfl ?_
              refine lstore rfl ts_33 rfl rfl (j := 8) rfl rfl rfl rfl rfl rfl X7721 (fun h7722 X7723 => ?_)
              refine lend ?_
              exact jmpM J7716 (s7684 ++ ([(w64 ((w64 (2 * s7569.1)) + 1))])) (a7721, (s7684.length + ([(w64 ((w64 (2 * s7569.1)) + 1))]).length), c7721, ob7721, blk7721) sub_nil ⟨(St.pick X7723 (.skip _ (.keep _ (.keep _ (.keep _ (.keep _ (.keep _ (.none _ (.skip _ (.keep _ (.keep _ (.keep _ (.keep _ (.refl _)))))))))))))), O7721⟩
            · refine dskip ?_
              exact jmpM J7716 s7684 (a7685, n7685, c7685, ob7685, blk7685) sub_nil ⟨(St.pick X7700 (.keep _ (.keep _ (.keep _ (.keep _ (.keep _ (.none _ (.skip _ (.keep _ (.keep _ (.keep _ (.keep _ (.refl _))))))))))))), O7685⟩
        · intro j7688 J7689
          refine dcond rfl rfl (fun k7678 => ?_) (fun k7678 => ?_)
          · refine dreg ?_
            refine lread (v := .slice a7571 n7571 c7571) rfl (q_load wd_33 rfl) (St.ld X7673 (j := 6) rfl rfl) rfl ?_
            refine lpure (v := .pointer (some ⟨b7666, 4, none⟩)) rfl (p_fa fo_77_1 rfl) rfl rfl ?_
            refine lread (v := .int .i64 (w64 (2 * s7569.1))) rfl (q_load wd_3 rfl) (St.ld X7673 (j := 0) rfl rfl) rfl ?_
            obtain ⟨h7724, b7724, hv7724, X7724, O7724⟩ := OSl.lay (E := (eInt .i64)) (φ := φ) (cs := [.int .i64 (w64 (2 * s7569.1))]) (l := [(w64 (2 * s7569.1))]) (len := 1) (parts := [(0, .int .i64 (w64 (2 * s7569.1)))]) un_33 ts_3 rfl rfl rfl tz_3 rfl rfl (show RowD (eInt .i64) φ [.int .i64 (w64 (2 * s7569.1))] [(w64 (2 * s7569.1))] from ⟨[.int .i64 (w64 (2 * s7569.1))], _, rfl, rfl, rfl⟩) rfl rfl X7673
            refine lheap rfl (h_buildSlice rfl) hv7724 rfl ?_
            obtain ⟨ws7726, hw7726⟩ := OSl.read O7724 X7724 (k := 0) rfl (n := 1) rfl
            refine Sim.mustM fun k7726 => ?_
            obtain ⟨h7726, a7726, c7726, ob7726, blk7726, hv7726, X7726, O7726⟩ := OSl.append O7571 X7724 (j := 3) rfl hw7726 k7726 (ts := #[33, 33]) rfl un_33 (argOk_of ax_33_33) ts_3 rfl rfl tb_3 rfl tz_3 rfl
            refine lheap rfl (h_builtin rfl rfl) hv7726 rfl ?_
            refine lstore rfl ts_33 rfl rfl (j := 7) rfl rfl rfl rfl rfl rfl X7726 (fun h7727 X7728 => ?_)
            refine lend ?_
            exact jmpM J7689 (s7569.2 ++ ([(w64 (2 * s7569.1))])) (a7726, (s7569.2.length + ([(w64 (2 * s7569.1))]).length), c7726, ob7726, blk7726) sub_nil ⟨(St.pick X7728 (.skip _ (.keep _ (.keep _ (.keep _ (.keep _ (.none _ (.skip _ (.keep _ (.keep _ (.keep _ (.keep _ (.refl _))))))))))))), O7726⟩
          · refine dskip ?_
            exact jmpM J7689 s7569.2 (a7571, n7571, c7571, ob7571, blk7571) sub_nil ⟨(St.pick X7673 (.keep _ (.keep _ (.keep _ (.keep _ (.none _ (.skip _ (.keep _ (.keep _ (.keep _ (.keep _ (.refl _)))))))))))), O7571⟩
      · refine dexit ?_
        refine eseq ?_
        refine eloop ?_
        refine xblock ?_
        refine kin_n res_0 ?_
        refine rend_n X7653 (j := 1) rfl (fun h7729 X7730 => ?_)
        refine nblock ?_
        refine nseq ?_
        refine dseq ?_
        refine dreg ?_
        refine lread (v := .slice a7571 n7571 c7571) rfl (q_load wd_33 rfl) (St.ld X7730 (j := 4) rfl rfl) rfl ?_
        refine lpure (v := .slice a7571 n7571 c7571) rfl (p_assign rfl) rfl rfl ?_
        refine lpure (v := .int .i64 0) rfl (p_assign rfl) rfl rfl ?_
        refine lend ?_
        refine nseq ?_
        refine dret ?_
        exact kopen_r (res_2 resT resT) ⟨φ, a7571, n7571, c7571, ob7571, blk7571, (Fz.le_refl _), St.pick X7730 (.keep _ (.skip _ (.skip _ (.skip _ (.skip _ (.skip _ (.skip _ (.refl _)))))))), rfl, O7571⟩
/-! isochron/topo.Find -/
theorem f14_ok {n : Nat} {φ : Fz} {lo : Nat} {h : Heap} {own : OwnL}  {a7751 : Option Addr} {n7751 c7751 : Nat} {a7752 : Option Addr} {n7752 c7752 : Nat} (X : St φ lo h (own)) (p7750 : ApiTopo) (p7753 : Int) (p7754 : Int) (H7751 : RSl eBool φ (.slice a7751 n7751 c7751) p7750.Station) (H7752 : RSl eApiLink φ (.slice a7752 n7752 c7752) p7750.Links) : Sim ((recN Try.prog LL cutF (n + 7)).call 14 #[(.agg #[.int .i64 p7750.Nodes, .slice a7751 n7751 c7751, .slice a7752 n7752 c7752]), (.int .i64 p7753), (.int .i64 p7754)] h) (m_topo_Find p7750 p7753 p7754) (fun (d : (Int × Int)) p => p = (.tuple #[.int .i64 d.1, .int .i64 d.2], h)) := by
  refine fcut Try.func14 rfl rfl rfl rfl X ?_
  intro h0 X0
  refine dseq ?_
  refine dreg ?_
  refine lbox rfl rfl rfl rfl rfl X0 (fun b7755 h7757 X7758 => ?_)
  refine lbox rfl rfl rfl rfl rfl X7758 (fun b7759 h7761 X7762 => ?_)
  refine lbox rfl rfl rfl rfl rfl X7762 (fun b7763 h7765 X7766 => ?_)
  refine lalloc rfl tz_3 rfl rfl rfl X7766 (fun b7767 h7769 X7770 => ?_)
  refine lalloc rfl tz_31 rfl rfl rfl X7770 (fun b7771 h7773 X7774 => ?_)
  refine lend ?_
  refine nseq ?_
  refine dseq ?_
  refine dseq ?_
  refine dreg ?_
  refine lread (v := .agg #[.int .i64 p7750.Nodes, .slice a7751 n7751 c7751, .slice a7752 n7752 c7752]) rfl (q_load wd_29 rfl) (St.ld X7774 (j := 4) rfl rfl) rfl ?_
  refine lcall rfl rfl ca_9 rfl rfl (f9_ok X7774 p7750 H7751 H7752) rfl (fun e7775 v7776 h7777 hq7778 => ?_)
  cases hq7778
  refine lpure (v := .int .i64 e7775) rfl (p_assign rfl) rfl rfl ?_
  refine lend ?_
  refine nseq ?_
  refine dseq ?_
  refine dreg ?_
  refine lpure (v := .int .i64 e7775) rfl (p_move rfl) rfl rfl ?_
  refine lpure (v := .bool (decide (e7775 ≠ 0))) rfl (p_ne rfl) rfl rfl ?_
  refine lend ?_
  refine nseq ?_
  refine dcond rfl rfl (fun k7779 => ?_) (fun k7779 => ?_)
  · refine dseq ?_
    refine dreg ?_
    refine lpure (v := .int .i64 e7775) rfl (p_move rfl) rfl rfl ?_
    refine lstore rfl ts_3 rfl rfl (j := 1) rfl rfl rfl rfl rfl rfl X7774 (fun h7780 X7781 => ?_)
    refine lstore rfl ts_31 rfl rfl (j := 0) rfl rfl rfl rfl rfl rfl X7781 (fun h7782 X7783 => ?_)
    refine lend ?_
    refine nseq ?_
    refine dret ?_
    refine rseq ?_
    exact kcut_r (res_2 (resC wd_3 (St.ld X7783 (j := 1) rfl rfl)) (resC wd_31 (St.ld X7783 (j := 0) rfl rfl))) X7783 rfl rfl
  · refine dskip ?_
    refine nseq ?_
    refine dseq ?_
    refine dseq ?_
    refine dreg ?_
    refine lread (v := .agg #[.int .i64 p7750.Nodes, .slice a7751 n7751 c7751, .slice a7752 n7752 c7752]) rfl (q_load wd_29 rfl) (St.ld X7774 (j := 4) rfl rfl) rfl ?_
    refine lread (v := .int .i64 p7753) rfl (q_load wd_3 rfl) (St.ld X7774 (j := 3) rfl rfl) rfl ?_
    refine lcall rfl rfl ca_40 rfl rfl (f40_ok X7774 p7750 p7753 H7751 H7752) rfl (fun e7784 v7785 h7786 hq7787 => ?_)
    cases hq7787
    refine lpure (v := .bool (!e7784)) rfl (p_not rfl) rfl rfl ?_
    refine lpure (v := .bool (!e7784)) rfl (p_move rfl) rfl rfl ?_
    refine ljoinM (τ := Bool) (σ := Unit) (fun s7794 (_ : Unit) => [(3, .pointer (some ⟨b7755, 0, none⟩)), (4, .pointer (some ⟨b7759, 0, none⟩)), (5, .pointer (some ⟨b7763, 0, none⟩)), (6, .pointer (some ⟨b7767, 0, none⟩)), (7, .pointer (some ⟨b7771, 0, none⟩)), (24, .bool s7794)]) (fun s7794 (_ : Unit) hh => St φ h.n hh ([(some b7771, .cells [.int .i64 0] 31 .exact), (some b7767, .cells [.int .i64 0] 3 .exact), (some b7763, .cells [.int .i64 p7754] 3 .exact), (some b7759, .cells [.int .i64 p7753] 3 .exact), (some b7755, .cells [.int .i64 p7750.Nodes, .slice a7751 n7751 c7751, .slice a7752 n7752 c7752] 29 .exact)])) 5 ?_ ?_
    · rintro s7794 _ t0 h7796 X7795
      refine lend ?_
      refine nseq ?_
      refine dcond rfl rfl (fun k7797 => ?_) (fun k7797 => ?_)
      · refine dseq ?_
        refine dreg ?_
        refine lstore rfl ts_3 rfl rfl (j := 1) rfl rfl rfl rfl rfl rfl X7795 (fun h7798 X7799 => ?_)
        refine lstore rfl ts_31 rfl rfl (j := 0) rfl rfl rfl rfl rfl rfl X7799 (fun h7800 X7801 => ?_)
        refine lend ?_
        refine nseq ?_
        refine dret ?_
        refine rseq ?_
        exact kcut_r (res_2 (resC wd_3 (St.ld X7801 (j := 1) rfl rfl)) (resC wd_31 (St.ld X7801 (j := 0) rfl rfl))) X7801 rfl rfl
      · refine dskip ?_
        refine nseq ?_
        refine dseq ?_
        refine dseq ?_
        refine dreg ?_
        refine lread (v := .agg #[.int .i64 p7750.Nodes, .slice a7751 n7751 c7751, .slice a7752 n7752 c7752]) rfl (q_load wd_29 rfl) (St.ld X7795 (j := 4) rfl rfl) rfl ?_
        refine linl rfl rfl rfl rfl ca_41 rfl Try.func41 rfl rfl rfl rfl rfl ?_
        refine dseq ?_
        refine dreg ?_
        refine lbox rfl rfl rfl rfl rfl X7795 (fun b7802 h7804 X7805 => ?_)
        refine lpure (v := .nilFunc) rfl (p_assign rfl) rfl rfl ?_
        refine lend ?_
        refine nseq ?_
        refine dseq ?_
        refine dreg ?_
        refine lpure (v := .func (.func 84) #[] #[.pointer (some ⟨b7802, 0, none⟩)]) rfl (p_makeFunc rfl) rfl rfl ?_
        refine lpure (v := .func (.func 84) #[] #[.pointer (some ⟨b7802, 0, none⟩)]) rfl (p_assign rfl) rfl rfl ?_
        refine lend ?_
        refine nseq ?_
        refine dret ?_
        refine kin_r (res_1 resT) ?_
        refine lend ?_
        refine nseq ?_
        refine dblock ?_
        refine drange rfl rfl ca_84 Try.func84 rfl rfl X7805 (fun _ => rfl) ?_
        intro l7806 q7807 df7808 h7810 Q7809 X7811
        refine dseq ?_
        refine dreg ?_
        refine lpure (v := .pointer (some ⟨b7802, 2, none⟩)) rfl (p_fa fo_29_2 rfl) rfl rfl ?_
        refine lread (v := .slice a7752 n7752 c7752) rfl (q_load wd_27 rfl) (St.ld X7811 (j := 2) rfl rfl) rfl ?_
        refine lpure (v := .int .i64 (p7750.Links.length : Int)) rfl (p_len rfl rfl rfl un_27 rfl) (RSl.lenC H7752) rfl ?_
        refine lpure (v := .int .i64 0) rfl (p_move rfl) rfl rfl ?_
        refine lend ?_
        refine nseq ?_
        refine dblock ?_
        refine dloopM (τ := Int) (σ := Unit) (fun s8012 (_ : Unit) => [(0, .func (.yield l7806) #[] #[]), (6, .slice a7752 n7752 c7752), (7, .int .i64 (p7750.Links.length : Int)), (8, .int .i64 s8012)]) (fun s8012 (_ : Unit) hh => St φ h.n hh ([(some l7806, rdy q7807), (none, .dead), (some b7802, .cells [.int .i64 p7750.Nodes, .slice a7751 n7751 c7751, .slice a7752 n7752 c7752] 29 .exact), (some b7771, .cells [.int .i64 0] 31 .exact), (some b7767, .cells [.int .i64 0] 3 .exact), (some b7763, .cells [.int .i64 p7754] 3 .exact), (some b7759, .cells [.int .i64 p7753] 3 .exact), (some b7755, .cells [.int .i64 p7750.Nodes, .slice a7751 n7751 c7751, .slice a7752 n7752 c7752] 29 .exact)])) 0 () (sub_cons rfl (sub_cons rfl (sub_cons rfl (sub_cons rfl sub_nil)))) (St.pick X7811 (.keep _ (.none _ (.skip _ (.keep _ (.keep _ (.keep _ (.keep _ (.keep _ (.keep _ (.nil _))))))))))) ?_
        rintro n8113 ih8112 s8012 _ t0 h8115 X8114
        refine dseq ?_
        refine dreg ?_
        refine lpure (v := .bool (decide (s8012 < (p7750.Links.length : Int)))) rfl (p_lt rfl) rfl rfl ?_
        refine lend ?_
        refine nseq ?_
        refine dseq ?_
        refine dcond rfl rfl (fun k8116 => ?_) (fun k8116 => ?_)
        · refine dskip ?_
          refine nseq ?_
          refine dseq ?_
          refine dblock ?_
          refine dseq ?_
          refine dreg ?_
          refine lpure (v := .int .i64 s8012) rfl (p_move rfl) rfl rfl ?_
          refine Sim.bindM fun e8117 he8118 => ?_
          obtain ⟨p8119, cs8119, hp8119, hF8119, hR8119⟩ := RSl.ia H7752 he8118 (kd := .i64) (n := 4) rfl
          obtain rfl := eApiLink_el hR8119
          refine lpure (v := p8119) rfl (p_ia rs_27 rfl) hp8119 rfl ?_
          refine lread (v := .agg #[.int .i64 e8117.A, .int .i64 e8117.B, .int .i64 e8117.Per, .int .i64 e8117.Delay]) rfl (q_load wd_75 rfl) (FP.ldw X8114 hF8119 rfl rfl) rfl ?_
          refine lalloc rfl tz_75 rfl rfl rfl X8114 (fun b8120 h8122 X8123 => ?_)
          refine lpure (v := .int .i64 s8012) rfl (p_assign rfl) rfl rfl ?_
          refine lstore rfl ts_75 rfl rfl (j := 0) rfl rfl rfl rfl rfl rfl X8123 (fun h8124 X8125 => ?_)
          refine lend ?_
          refine nseq ?_
          refine dseq ?_
          refine dreg ?_
          refine lpure (v := .func (.yield l7806) #[] #[]) rfl (p_move rfl) rfl rfl ?_
          refine lread (v := .agg #[.int .i64 e8117.A, .int .i64 e8117.B, .int .i64 e8117.Per, .int .i64 e8117.Delay]) rfl (q_load wd_75 rfl) (St.ld X8125 (j := 0) rfl rfl) rfl ?_
          refine lpure (v := .int .i64 s8012) rfl (p_move rfl) rfl rfl ?_
          refine lpure (v := .int .i64 (w64 (2 * s8012))) rfl (p_mul rfl) rfl rfl ?_
          refine lpure (v := .agg #[.int .i64 e8117.A, .int .i64 e8117.B, .int .i64 e8117.Per, .int .i64 e8117.Delay, .int .i64 (w64 (2 * s8012))]) rfl (p_build rfl) (build_st' tz_77 pl_77 rfl) rfl ?_
          refine lround rfl rfl rfl rfl rfl rfl X8125 (j := 1) rfl Q7809 rfl rfl rfl rfl rfl (fun t8126 => ?_)
          refine dreg ?_
          refine lalloc rfl tz_77 rfl rfl rfl X8125 (fun b8127 h8129 X8130 => ?_)
          refine lstore rfl ts_77 rfl rfl (j := 0) rfl rfl rfl rfl rfl rfl X8130 (fun h8131 X8132 => ?_)
          refine lend ?_
          refine basg X8132 (j := 2) rfl (fun h8133 X8134 => ?_)
          refine dblock ?_
          refine dseq ?_
          refine ddraw 0 0 0 (by kernel_rfl) ?_
          refine sload (v := .agg #[.int .i64 e8117.A, .int .i64 e8117.B, .int .i64 e8117.Per, .int .i64 e8117.Delay, .int .i64 (w64 (2 * s8012))]) rfl rfl (q_load wd_77 rfl) (St.ld X8134 (j := 0) rfl rfl) (same_self 20 rfl) rfl ?_
          refine scall (en := fun d => (.int .i64 d)) rfl rfl ca_42 rfl rfl (f42_ok X8134 ((TopoEnd.mk e8117 (w64 (2 * s8012))))) rfl (fun e8135 => ?_)
          refine sload (v := .int .i64 p7753) rfl rfl (q_load wd_3 rfl) (St.ld X8134 (j := 8) rfl rfl) (same_self 20 rfl) rfl ?_
          refine spure (v := .bool (decide (e8135 = p7753))) rfl (p_eq rfl) (lo_t rfl (lo_t rfl rfl)) rfl rfl ?_
          refine spure (v := .bool (decide (e8135 = p7753))) rfl (p_move rfl) (lo_t rfl rfl) rfl rfl ?_
          refine sjoinM (τ := Bool) (σ := Unit) (fun s8145 (_ : Unit) => [(6, .pointer (some ⟨b7767, 0, none⟩)), (7, .pointer (some ⟨b7771, 0, none⟩)), (9, .pointer (some ⟨b8127, 0, none⟩)), (37, .bool s8145)]) (fun s8145 (_ : Unit) hh => St φ h.n hh ([(some b8127, .cells [.int .i64 e8117.A, .int .i64 e8117.B, .int .i64 e8117.Per, .int .i64 e8117.Delay, .int .i64 (w64 (2 * s8012))] 77 .exact), (some b8120, .cells [.int .i64 e8117.A, .int .i64 e8117.B, .int .i64 e8117.Per, .int .i64 e8117.Delay] 75 .exact), (some l7806, bsy q7807), (none, .dead), (some b7802, .cells [.int .i64 p7750.Nodes, .slice a7751 n7751 c7751, .slice a7752 n7752 c7752] 29 .exact), (some b7771, .cells [.int .i64 0] 31 .exact), (some b7767, .cells [.int .i64 0] 3 .exact), (some b7763, .cells [.int .i64 p7754] 3 .exact), (some b7759, .cells [.int .i64 p7753] 3 .exact), (some b7755, .cells [.int .i64 p7750.Nodes, .slice a7751 n7751 c7751, .slice a7752 n7752 c7752] 29 .exact)])) 5 10 ?_ ?_
          · rintro s8145 _ t0 h8147 X8146
            refine send ?_
            refine nseq ?_
            refine dcond rfl rfl (fun k8148 => ?_) (fun k8148 => ?_)
            · refine dseq ?_
              refine dreg ?_
              refine lpure (v := .pointer (some ⟨b8127, 4, none⟩)) rfl (p_fa fo_77_1 rfl) rfl rfl ?_
              refine lread (v := .int .i64 (w64 (2 * s8012))) rfl (q_load wd_3 rfl) (St.ld X8146 (j := 0) rfl rfl) rfl ?_
              refine lstore rfl ts_3 rfl rfl (j := 6) rfl rfl rfl rfl rfl rfl X8146 (fun h8149 X8150 => ?_)
              refine lstore rfl ts_31 rfl rfl (j := 5) rfl rfl rfl rfl rfl rfl X8150 (fun h8151 X8152 => ?_)
              refine lend ?_
              refine nseq ?_
              refine dret ?_
              refine rblock ?_
              refine rrnd X8152 (j := 2) rfl (fun h8153 X8154 => ?_)
              refine lpure (v := .bool true) rfl (p_not rfl) rfl rfl ?_
              refine lpure (v := .bool true) rfl (p_move rfl) rfl rfl ?_
              refine lskip rfl rfl ?_
              refine lskip rfl rfl ?_
              refine lskip rfl rfl ?_
              refine lskip rfl rfl ?_
              refine lskip rfl rfl ?_
              refine lskip rfl rfl ?_
              refine lskip rfl rfl ?_
              refine lskip rfl rfl ?_
              refine lpure (v := .bool true) rfl (p_pick rfl) rfl rfl ?_
              refine lend ?_
              refine nseq ?_
              refine dcondT rfl rfl ?_
              refine dret ?_
              refine rblock ?_
              refine rseq ?_
              refine rloop ?_
              refine rblock ?_
              refine kin_r res_0 ?_
              refine rend_d X8154 (j := 2) rfl (.inl ⟨rfl, rfl⟩) (fun h8155 X8156 => ?_)
              refine rblock ?_
              refine rseq ?_
              exact kcut_r (res_2 (resC wd_3 (St.ld X8156 (j := 6) rfl rfl)) (resC wd_31 (St.ld X8156 (j := 5) rfl rfl))) X8156 rfl rfl
            · refine dskip ?_
              refine nblock ?_
              refine nrnd X8146 (j := 2) rfl (fun h8157 X8158 => ?_)
              refine lpure (v := .bool false) rfl (p_not rfl) rfl rfl ?_
              refine lpure (v := .bool false) rfl (p_move rfl) rfl rfl ?_
              refine lpure (v := .func (.yield l7806) #[] #[]) rfl (p_move rfl) rfl rfl ?_
              refine lread (v := .agg #[.int .i64 e8117.A, .int .i64 e8117.B, .int .i64 e8117.Per, .int .i64 e8117.Delay]) rfl (q_load wd_75 rfl) (St.ld X8158 (j := 1) rfl rfl) rfl ?_
              refine lpure (v := .int .i64 s8012) rfl (p_move rfl) rfl rfl ?_
              refine lpure (v := .int .i64 (w64 (2 * s8012))) rfl (p_mul rfl) rfl rfl ?_
              refine lpure (v := .int .i64 (w64 ((w64 (2 * s8012)) + 1))) rfl (p_add rfl) rfl rfl ?_
              refine lpure (v := .agg #[.int .i64 e8117.A, .int .i64 e8117.B, .int .i64 e8117.Per, .int .i64 e8117.Delay, .int .i64 (w64 ((w64 (2 * s8012)) + 1))]) rfl (p_build rfl) (build_st' tz_77 pl_77 rfl) rfl ?_
              refine lround rfl rfl rfl rfl rfl rfl X8158 (j := 2) rfl Q7809 rfl rfl rfl rfl rfl (fun t8159 => ?_)
              refine dreg ?_
              refine lalloc rfl tz_77 rfl rfl rfl X8158 (fun b8160 h8162 X8163 => ?_)
              refine lstore rfl ts_77 rfl rfl (j := 0) rfl rfl rfl rfl rfl rfl X8163 (fun h8164 X8165 => ?_)
              refine lend ?_
              refine basg X8165 (j := 3) rfl (fun h8166 X8167 => ?_)
              refine dblock ?_
              refine dseq ?_
              refine ddraw 0 0 0 (by kernel_rfl) ?_
              refine sload (v := .agg #[.int .i64 e8117.A, .int .i64 e8117.B, .int .i64 e8117.Per, .int .i64 e8117.Delay, .int .i64 (w64 ((w64 (2 * s8012)) + 1))]) rfl rfl (q_load wd_77 rfl) (St.ld X8167 (j := 0) rfl rfl) (same_self 20 rfl) rfl ?_
              refine scall (en := fun d => (.int .i64 d)) rfl rfl ca_42 rfl rfl (f42_ok X8167 ((TopoEnd.mk e8117 (w64 ((w64 (2 * s8012)) + 1))))) rfl (fun e8168 => ?_)
              refine sload (v := .int .i64 p7753) rfl rfl (q_load wd_3 rfl) (St.ld X8167 (j := 9) rfl rfl) (same_self 20 rfl) rfl ?_
              refine spure (v := .bool (decide (e8168 = p7753))) rfl (p_eq rfl) (lo_t rfl (lo_t rfl rfl)) rfl rfl ?_
              refine spure (v := .bool (decide (e8168 = p7753))) rfl (p_move rfl) (lo_t rfl rfl) rfl rfl ?_
              refine sjoinM (τ := Bool) (σ := Unit) (fun s8178 (_ : Unit) => [(6, .pointer (some ⟨b7767, 0, none⟩)), (7, .pointer (some ⟨b7771, 0, none⟩)), (9, .pointer (some ⟨b8160, 0, none⟩)), (37, .bool s8178)]) (fun s8178 (_ : Unit) hh => St φ h.n hh ([(some b8160, .cells [.int .i64 e8117.A, .int .i64 e8117.B, .int .i64 e8117.Per, .int .i64 e8117.Delay, .int .i64 (w64 ((w64 (2 * s8012)) + 1))] 77 .exact), (some b8127, .cells [.int .i64 e8117.A, .int .i64 e8117.B, .int .i64 e8117.Per, .int .i64 e8117.Delay, .int .i64 (w64 (2 * s8012))] 77 .exact), (some b8120, .cells [.int .i64 e8117.A, .int .i64 e8117.B, .int .i64 e8117.Per, .int .i64 e8117.Delay] 75 .exact), (some l7806, bsy q7807), (none, .dead), (some b7802, .cells [.int .i64 p7750.Nodes, .slice a7751 n7751 c7751, .slice a7752 n7752 c7752] 29 .exact), (some b7771, .cells [.int .i64 0] 31 .exact), (some b7767, .cells [.int .i64 0] 3 .exact), (some b7763, .cells [.int .i64 p7754] 3 .exact), (some b7759, .cells [.int .i64 p7753] 3 .exact), (some b7755, .cells [.int .i64 p7750.Nodes, .slice a7751 n7751 c7751, .slice a7752 n7752 c7752] 29 .exact)])) 5 10 ?_ ?_
              · rintro s8178 _ t0 h8180 X8179
                refine send ?_
                refine nseq ?_
                refine dcond rfl rfl (fun k8181 => ?_) (fun k8181 => ?_)
                · refine dseq ?_
                  refine dreg ?_
                  refine lpure (v := .pointer (some ⟨b8160, 4, none⟩)) rfl (p_fa fo_77_1 rfl) rfl rfl ?_
                  refine lread (v := .int .i64 (w64 ((w64 (2 * s8012)) + 1))) rfl (q_load wd_3 rfl) (St.ld X8179 (j := 0) rfl rfl) rfl ?_
                  refine lstore rfl ts_3 rfl rfl (j := 7) rfl rfl rfl rfl rfl rfl X8179 (fun h8182 X8183 => ?_)
                  refine lstore rfl ts_31 rfl rfl (j := 6) rfl rfl rfl rfl rfl rfl X8183 (fun h8184 X8185 => ?_)
                  refine lend ?_
                  refine nseq ?_
                  refine dret ?_
                  refine rblock ?_
                  refine rrnd X8185 (j := 3) rfl (fun h8186 X8187 => ?_)
                  refine lpure (v := .bool true) rfl (p_not rfl) rfl rfl ?_
                  refine lpure (v := .bool true) rfl (p_pick rfl) rfl rfl ?_
                  refine lend ?_
                  refine nseq ?_
                  refine dcondT rfl rfl ?_
                  refine dret ?_
                  refine rblock ?_
                  refine rseq ?_
                  refine rloop ?_
                  refine rblock ?_
                  refine kin_r res_0 ?_
                  refine rend_d X8187 (j := 3) rfl (.inl ⟨rfl, rfl⟩) (fun h8188 X8189 => ?_)
                  refine rblock ?_
                  refine rseq ?_
                  exact kcut_r (res_2 (resC wd_3 (St.ld X8189 (j := 7) rfl rfl)) (resC wd_31 (St.ld X8189 (j := 6) rfl rfl))) X8189 rfl rfl
                · refine dskip ?_
                  refine nblock ?_
                  refine nrnd X8179 (j := 3) rfl (fun h8190 X8191 => ?_)
                  refine lpure (v := .bool false) rfl (p_not rfl) rfl rfl ?_
                  refine lpure (v := .bool false) rfl (p_pick rfl) rfl rfl ?_
                  refine lend ?_
                  refine nseq ?_
                  refine dcondF rfl rfl ?_
                  refine dskip ?_
                  refine nblock ?_
                  refine nseq ?_
                  refine dreg ?_
                  refine lpure (v := .int .i64 (w64 (s8012 + 1))) rfl (p_add rfl) rfl rfl ?_
                  refine lpure (v := .int .i64 (w64 (s8012 + 1))) rfl (p_move rfl) rfl rfl ?_
                  refine lend ?_
                  exact kbackM ih8112 (w64 (s8012 + 1)) () (sub_cons rfl (sub_cons rfl (sub_cons rfl (sub_cons rfl sub_nil)))) (St.pick X8191 (.skip _ (.skip _ (.skip _ (.keep _ (.none _ (.skip _ (.keep _ (.keep _ (.keep _ (.keep _ (.keep _ (.keep _ (.nil _))))))))))))))
              · intro j8192 J8193
                refine sif (j := 32) (show _ = Value.bool (decide (e8168 = p7753)) from rfl) (fun k8194 => ?_) (fun k8194 => ?_)
                · refine sload (v := .agg #[.int .i64 e8117.A, .int .i64 e8117.B, .int .i64 e8117.Per, .int .i64 e8117.Delay, .int .i64 (w64 ((w64 (2 * s8012)) + 1))]) rfl rfl (q_load wd_77 rfl) (St.ld X8167 (j := 0) rfl rfl) (same_self 20 rfl) rfl ?_
                  refine scall (en := fun d => (.int .i64 d)) rfl rfl ca_44 rfl rfl (f44_ok X8167 ((TopoEnd.mk e8117 (w64 ((w64 (2 * s8012)) + 1))))) rfl (fun e8195 => ?_)
                  refine sload (v := .int .i64 p7754) rfl rfl (q_load wd_3 rfl) (St.ld X8167 (j := 8) rfl rfl) (same_self 20 rfl) rfl ?_
                  refine spure (v := .bool (decide (e8195 = p7754))) rfl (p_eq rfl) (lo_t rfl (lo_t rfl rfl)) rfl rfl ?_
                  refine spure (v := .bool (decide (e8195 = p7754))) rfl (p_pick rfl) (lo_t rfl (lo_t rfl (lo_c rfl))) rfl rfl ?_
                  exact sjmpM J8193 (decide (e8195 = p7754)) () (sub_cons rfl (sub_cons rfl (sub_cons rfl (sub_cons rfl sub_nil)))) (St.pick X8167 (.keep _ (.keep _ (.keep _ (.keep _ (.none _ (.skip _ (.keep _ (.keep _ (.keep _ (.keep _ (.keep _ (.keep _ (.nil _))))))))))))))
                · refine sskip rfl rfl ?_
                  refine sskip rfl rfl ?_
                  refine sskip rfl rfl ?_
                  refine sskip rfl rfl ?_
                  refine spure (v := .bool false) rfl (p_pick rfl) (lo_t rfl (lo_t rfl (lo_c rfl))) rfl rfl ?_
                  exact sjmpM J8193 false () (sub_cons rfl (sub_cons rfl (sub_cons rfl (sub_cons rfl sub_nil)))) (St.pick X8167 (.keep _ (.keep _ (.keep _ (.keep _ (.none _ (.skip _ (.keep _ (.keep _ (.keep _ (.keep _ (.keep _ (.keep _ (.nil _))))))))))))))
          · intro j8199 J8200
            refine sif (j := 32) (show _ = Value.bool (decide (e8135 = p7753)) from rfl) (fun k8201 => ?_) (fun k8201 => ?_)
            · refine sload (v := .agg #[.int .i64 e8117.A, .int .i64 e8117.B, .int .i64 e8117.Per, .int .i64 e8117.Delay, .int .i64 (w64 (2 * s8012))]) rfl rfl (q_load wd_77 rfl) (St.ld X8134 (j := 0) rfl rfl) (same_self 20 rfl) rfl ?_
              refine scall (en := fun d => (.int .i64 d)) rfl rfl ca_44 rfl rfl (f44_ok X8134 ((TopoEnd.mk e8117 (w64 (2 * s8012))))) rfl (fun e8202 => ?_)
              refine sload (v := .int .i64 p7754) rfl rfl (q_load wd_3 rfl) (St.ld X8134 (j := 7) rfl rfl) (same_self 20 rfl) rfl ?_
              refine spure (v := .bool (decide (e8202 = p7754))) rfl (p_eq rfl) (lo_t rfl (lo_t rfl rfl)) rfl rfl ?_
              refine spure (v := .bool (decide (e8202 = p7754))) rfl (p_pick rfl) (lo_t rfl (lo_t rfl (lo_c rfl))) rfl rfl ?_
              exact sjmpM J8200 (decide (e8202 = p7754)) () (sub_cons rfl (sub_cons rfl (sub_cons rfl (sub_cons rfl sub_nil)))) (St.pick X8134 (.keep _ (.keep _ (.keep _ (.none _ (.skip _ (.keep _ (.keep _ (.keep _ (.keep _ (.keep _ (.keep _ (.nil _)))))))))))))
            · refine sskip rfl rfl ?_
              refine sskip rfl rfl ?_
              refine sskip rfl rfl ?_
              refine sskip rfl rfl ?_
              refine spure (v := .bool false) rfl (p_pick rfl) (lo_t rfl (lo_t rfl (lo_c rfl))) rfl rfl ?_
              exact sjmpM J8200 false () (sub_cons rfl (sub_cons rfl (sub_cons rfl (sub_cons rfl sub_nil)))) (St.pick X8134 (.keep _ (.keep _ (.keep _ (.none _ (.skip _ (.keep _ (.keep _ (.keep _ (.keep _ (.keep _ (.keep _ (.nil _)))))))))))))
        · refine dexit ?_
          refine eseq ?_
          refine eloop ?_
          refine xblock ?_
          refine kin_n res_0 ?_
          refine rend_n X8114 (j := 0) rfl (fun h8206 X8207 => ?_)
          refine nblock ?_
          refine nseq ?_
          refine dseq ?_
          refine dreg ?_
          refine lstore rfl ts_3 rfl rfl (j := 4) rfl rfl rfl rfl rfl rfl X8207 (fun h8208 X8209 => ?_)
          refine lstore rfl ts_31 rfl rfl (j := 3) rfl rfl rfl rfl rfl rfl X8209 (fun h8210 X8211 => ?_)
          refine lend ?_
          refine nseq ?_
          refine dret ?_
          exact kcut_r (res_2 (resC wd_3 (St.ld X8211 (j := 4) rfl rfl)) (resC wd_31 (St.ld X8211 (j := 3) rfl rfl))) X8211 rfl rfl
    · intro j8212 J8213
      refine lif (i := 19) (show _ = Value.bool (!e7784) from rfl) (fun k8214 => ?_) (fun k8214 => ?_)
      · refine lskip rfl rfl ?_
        refine lskip rfl rfl ?_
        refine lskip rfl rfl ?_
        refine lskip rfl rfl ?_
        refine lpure (v := .bool true) rfl (p_pick rfl) rfl rfl ?_
        exact ljmpM J8213 true () (sub_cons rfl (sub_cons rfl (sub_cons rfl (sub_cons rfl (sub_cons rfl (sub_cons rfl sub_nil)))))) X7774
      · refine lread (v := .agg #[.int .i64 p7750.Nodes, .slice a7751 n7751 c7751, .slice a7752 n7752 c7752]) rfl (q_load wd_29 rfl) (St.ld X7774 (j := 4) rfl rfl) rfl ?_
        refine lread (v := .int .i64 p7754) rfl (q_load wd_3 rfl) (St.ld X7774 (j := 2) rfl rfl) rfl ?_
        refine lcall rfl rfl ca_40 rfl rfl (f40_ok X7774 p7750 p7754 H7751 H7752) rfl (fun e8215 v8216 h8217 hq8218 => ?_)
        cases hq8218
        refine lpure (v := .bool (!e8215)) rfl (p_not rfl) rfl rfl ?_
        refine lpure (v := .bool (!e8215)) rfl (p_pick rfl) rfl rfl ?_
        exact ljmpM J8213 (!e8215) () (sub_cons rfl (sub_cons rfl (sub_cons rfl (sub_cons rfl (sub_cons rfl (sub_cons rfl sub_nil)))))) X7774
/-! isochron/topo.Reach -/
theorem f32_ok {n : Nat} {φ : Fz} {lo : Nat} {h : Heap} {own : OwnL}  {a8387 : Option Addr} {n8387 c8387 : Nat} {a8388 : Option Addr} {n8388 c8388 : Nat} {a8391 : Option Addr} {n8391 c8391 : Nat} (X : St φ lo h (own)) (p8386 : ApiTopo) (p8389 : Int) (p8390 : (List Int)) (H8387 : RSl eBool φ (.slice a8387 n8387 c8387) p8386.Station) (H8388 : RSl eApiLink φ (.slice a8388 n8388 c8388) p8386.Links) (H8391 : RSl (eInt .i64) φ (.slice a8391 n8391 c8391) p8390) : Sim ((recN Try.prog LL cutF (n + 7)).call 32 #[(.agg #[.int .i64 p8386.Nodes, .slice a8387 n8387 c8387, .slice a8388 n8388 c8388]), (.int .i64 p8389), (.slice a8391 n8391 c8391)] h) (m_topo_Reach p8386 p8389 p8390) (fun (d : ((List Bool) × Int)) p => ∃ φ2 : Fz, ∃ a8547 : Option Addr, ∃ n8547 : Nat, ∃ c8547 : Nat, ∃ ob8547 : Option Nat, ∃ blk8547 : Blk, Fz.le φ φ2 ∧ St φ2 lo p.2 ((ob8547, blk8547) :: own) ∧ p.1 = .tuple #[.slice a8547 n8547 c8547, .int .i64 d.2] ∧ OSl eBool φ2 4 ob8547 blk8547 (.slice a8547 n8547 c8547) d.1) := by
  refine fopen Try.func32 rfl rfl rfl rfl ?_
  refine dseq ?_
  refine dreg ?_
  refine lbox rfl rfl rfl rfl rfl X (fun b8392 h8394 X8395 => ?_)
  refine lpure (v := .slice none 0 0) rfl (p_assign rfl) rfl rfl ?_
  refine lpure (v := .int .i64 0) rfl (p_assign rfl) rfl rfl ?_
  refine lend ?_
  refine nseq ?_
  refine dseq ?_
  refine dseq ?_
  refine dreg ?_
  refine lread (v := .agg #[.int .i64 p8386.Nodes, .slice a8387 n8387 c8387, .slice a8388 n8388 c8388]) rfl (q_load wd_29 rfl) (St.ld X8395 (j := 0) rfl rfl) rfl ?_
  refine lcall rfl rfl ca_9 rfl rfl (f9_ok X8395 p8386 H8387 H8388) rfl (fun e8396 v8397 h8398 hq8399 => ?_)
  cases hq8399
  refine lpure (v := .int .i64 e8396) rfl (p_assign rfl) rfl rfl ?_
  refine lend ?_
  refine nseq ?_
  refine dseq ?_
  refine dreg ?_
  refine lpure (v := .int .i64 e8396) rfl (p_move rfl) rfl rfl ?_
  refine lpure (v := .bool (decide (e8396 ≠ 0))) rfl (p_ne rfl) rfl rfl ?_
  refine lend ?_
  refine nseq ?_
  refine dcond rfl rfl (fun k8400 => ?_) (fun k8400 => ?_)
  · refine dseq ?_
    refine dreg ?_
    refine lpure (v := .int .i64 e8396) rfl (p_move rfl) rfl rfl ?_
    refine lpure (v := .slice none 0 0) rfl (p_assign rfl) rfl rfl ?_
    refine lpure (v := .int .i64 e8396) rfl (p_assign rfl) rfl rfl ?_
    refine lend ?_
    refine nseq ?_
    refine dret ?_
    refine rseq ?_
    exact kopen_r (res_2 resT resT) ⟨φ, none, 0, 0, none, (.dead), (Fz.le_refl _), St.pick X8395 (.none _ (.skip _ (.refl _))), rfl, OSl.nil⟩
  · refine dskip ?_
    refine nseq ?_
    refine dseq ?_
    refine dseq ?_
    refine dreg ?_
    refine lread (v := .agg #[.int .i64 p8386.Nodes, .slice a8387 n8387 c8387, .slice a8388 n8388 c8388]) rfl (q_load wd_29 rfl) (St.ld X8395 (j := 0) rfl rfl) rfl ?_
    refine lpure (v := .int .i64 p8389) rfl (p_move rfl) rfl rfl ?_
    refine lcall rfl rfl ca_40 rfl rfl (f40_ok X8395 p8386 p8389 H8387 H8388) rfl (fun e8401 v8402 h8403 hq8404 => ?_)
    cases hq8404
    refine lpure (v := .bool (!e8401)) rfl (p_not rfl) rfl rfl ?_
    refine lpure (v := .bool (!e8401)) rfl (p_move rfl) rfl rfl ?_
    refine ljoinM (τ := Bool) (σ := Unit) (fun s8469 (_ : Unit) => [(1, .int .i64 p8389), (2, .slice a8391 n8391 c8391), (3, .pointer (some ⟨b8392, 0, none⟩)), (22, .bool s8469)]) (fun s8469 (_ : Unit) hh => St φ lo hh ((some b8392, .cells [.int .i64 p8386.Nodes, .slice a8387 n8387 c8387, .slice a8388 n8388 c8388] 29 .exact) :: own)) 4 ?_ ?_
    · rintro s8469 _ t0 h8471 X8470
      refine lend ?_
      refine nseq ?_
      refine dcond rfl rfl (fun k8472 => ?_) (fun k8472 => ?_)
      · refine dseq ?_
        refine dreg ?_
        refine lpure (v := .slice none 0 0) rfl (p_assign rfl) rfl rfl ?_
        refine lpure (v := .int .i64 2) rfl (p_assign rfl) rfl rfl ?_
        refine lend ?_
        refine nseq ?_
        refine dret ?_
        refine rseq ?_
        exact kopen_r (res_2 resT resT) ⟨φ, none, 0, 0, none, (.dead), (Fz.le_refl _), St.pick X8470 (.none _ (.skip _ (.refl _))), rfl, OSl.nil⟩
      · refine dskip ?_
        refine nseq ?_
        refine dseq ?_
        refine dreg ?_
        refine lread (v := .agg #[.int .i64 p8386.Nodes, .slice a8387 n8387 c8387, .slice a8388 n8388 c8388]) rfl (q_load wd_29 rfl) (St.ld X8470 (j := 0) rfl rfl) rfl ?_
        refine lpure (v := .int .i64 p8389) rfl (p_move rfl) rfl rfl ?_
        refine lpure (v := .slice a8391 n8391 c8391) rfl (p_move rfl) rfl rfl ?_
        refine lcall rfl rfl ca_39 rfl rfl (f39_ok X8470 p8386 p8389 p8390 H8387 H8388 H8391) rfl ?_
        rintro e8473 _ h8475 ⟨φ8477, a8480, n8480, c8480, ob8480, blk8480, g8478, X8479, rfl, O8480⟩
        refine lpure (v := .slice a8480 n8480 c8480) rfl (p_assign rfl) rfl rfl ?_
        refine lpure (v := .int .i64 0) rfl (p_assign rfl) rfl rfl ?_
        refine lend ?_
        refine nseq ?_
        refine dret ?_
        exact kopen_r (res_2 resT resT) ⟨φ8477, a8480, n8480, c8480, ob8480, blk8480, g8478, St.pick X8479 (.keep _ (.skip _ (.refl _))), rfl, O8480⟩
    · intro j8482 J8483
      refine lif (i := 18) (show _ = Value.bool (!e8401) from rfl) (fun k8484 => ?_) (fun k8484 => ?_)
      · refine lskip rfl rfl ?_
        refine lskip rfl rfl ?_
        refine lskip rfl rfl ?_
        refine lpure (v := .bool true) rfl (p_pick rfl) rfl rfl ?_
        exact ljmpM J8483 true () (sub_cons rfl (sub_cons rfl (sub_cons rfl (sub_cons rfl sub_nil)))) X8395
      · refine lpure (v := .slice a8391 n8391 c8391) rfl (p_move rfl) rfl rfl ?_
        refine lpure (v := .func (.func 74) #[] #[.pointer (some ⟨b8392, 0, none⟩)]) rfl (p_makeFunc rfl) rfl rfl ?_
        refine linl rfl rfl rfl rfl ca_73 rfl Try.func73 rfl rfl rfl rfl rfl ?_
        refine dseq ?_
        refine dreg ?_
        refine lpure (v := .bool false) rfl (p_assign rfl) rfl rfl ?_
        refine lend ?_
        refine nseq ?_
        refine dseq ?_
        refine dreg ?_
        refine lpure (v := .slice a8391 n8391 c8391) rfl (p_move rfl) rfl rfl ?_
        refine lpure (v := .func (.func 74) #[] #[.pointer (some ⟨b8392, 0, none⟩)]) rfl (p_move rfl) rfl rfl ?_
        refine linl rfl rfl rfl rfl ca_106 rfl Try.func106 rfl rfl rfl rfl rfl ?_
        refine dseq ?_
        refine dreg ?_
        refine lpure (v := .int .i64 0) rfl (p_assign rfl) rfl rfl ?_
        refine lend ?_
        refine nseq ?_
        refine dseq ?_
        refine dseq ?_
        refine dreg ?_
        refine lpure (v := .slice a8391 n8391 c8391) rfl (p_move rfl) rfl rfl ?_
        refine lpure (v := .int .i64 (p8390.length : Int)) rfl (p_len rfl rfl rfl un_33 rfl) (RSl.lenC H8391) rfl ?_
        refine lpure (v := .int .i64 0) rfl (p_move rfl) rfl rfl ?_
        refine lend ?_
        refine nseq ?_
        refine dblock ?_
        refine dloopM (τ := Int) (σ := Unit) (fun s8515 (_ : Unit) => [(0, .slice a8391 n8391 c8391), (1, .func (.func 74) #[] #[.pointer (some ⟨b8392, 0, none⟩)]), (7, .int .i64 (p8390.length : Int)), (8, .int .i64 s8515)]) (fun s8515 (_ : Unit) hh => St φ lo hh ((some b8392, .cells [.int .i64 p8386.Nodes, .slice a8387 n8387 c8387, .slice a8388 n8388 c8388] 29 .exact) :: own)) 0 () (sub_cons rfl (sub_cons rfl (sub_cons rfl (sub_cons rfl sub_nil)))) X8395 ?_
        rintro n8532 ih8531 s8515 _ t0 h8534 X8533
        refine dseq ?_
        refine dreg ?_
        refine lpure (v := .bool (decide (s8515 < (p8390.length : Int)))) rfl (p_lt rfl) rfl rfl ?_
        refine lend ?_
        refine nseq ?_
        refine dseq ?_
        refine dcond rfl rfl (fun k8535 => ?_) (fun k8535 => ?_)
        · refine dskip ?_
          refine nseq ?_
          refine dseq ?_
          refine dblock ?_
          refine dseq ?_
          refine dreg ?_
          refine lpure (v := .int .i64 s8515) rfl (p_move rfl) rfl rfl ?_
          refine lpure (v := .int .i64 s8515) rfl (p_assign rfl) rfl rfl ?_
          refine lend ?_
          refine nseq ?_
          refine dseq ?_
          refine dreg ?_
          refine lpure (v := .func (.func 74) #[] #[.pointer (some ⟨b8392, 0, none⟩)]) rfl (p_move rfl) rfl rfl ?_
          refine lpure (v := .slice a8391 n8391 c8391) rfl (p_move rfl) rfl rfl ?_
          refine lpure (v := .int .i64 s8515) rfl (p_move rfl) rfl rfl ?_
          refine Sim.bindM fun e8536 he8537 => ?_
          obtain ⟨p8538, cs8538, hp8538, hF8538, hR8538⟩ := RSl.ia H8391 he8537 (kd := .i64) (n := 1) rfl
          have hR8538 : _ = [(.int .i64 e8536 : Value)] := hR8538
          subst hR8538
          refine lpure (v := p8538) rfl (p_ia rs_33 rfl) hp8538 rfl ?_
          refine lread (v := .int .i64 e8536) rfl (q_load wd_3 rfl) (FP.ld X8533 hF8538) rfl ?_
          refine linl rfl rfl rfl rfl ca_74 rfl Try.func74 rfl rfl rfl rfl rfl ?_
          refine dseq ?_
          refine dreg ?_
          refine lpure (v := .bool false) rfl (p_assign rfl) rfl rfl ?_
          refine lend ?_
          refine nseq ?_
          refine dseq ?_
          refine dreg ?_
          refine lpure (v := .int .i64 e8536) rfl (p_move rfl) rfl rfl ?_
          refine lpure (v := .bool (decide (e8536 < 0))) rfl (p_lt rfl) rfl rfl ?_
          refine lpure (v := .bool (decide (e8536 < 0))) rfl (p_move rfl) rfl rfl ?_
          refine lsh (τ := Bool) (σ := Unit) (fun s8540 (_ : Unit) => [(12, .bool s8540)]) (fun s8540 (_ : Unit) hh => St φ lo hh ((some b8392, .cells [.int .i64 p8386.Nodes, .slice a8387 n8387 c8387, .slice a8388 n8388 c8388] 29 .exact) :: own)) 6 ?_ ?_
          · rintro s8540 _ t0 h8542 X8541
            refine lpure (v := .bool s8540) rfl (p_assign rfl) rfl rfl ?_
            refine lend ?_
            refine nseq ?_
            refine dret ?_
            refine kin_r (res_1 resT) ?_
            refine lend ?_
            refine nseq ?_
            refine dcond rfl rfl (fun k8543 => ?_) (fun k8543 => ?_)
            · refine dseq ?_
              refine dreg ?_
              refine lpure (v := .int .i64 s8515) rfl (p_move rfl) rfl rfl ?_
              refine lpure (v := .int .i64 s8515) rfl (p_assign rfl) rfl rfl ?_
              refine lend ?_
              refine nseq ?_
              refine dret ?_
              refine rblock ?_
              refine rseq ?_
              refine rloop ?_
              refine rblock ?_
              refine rseq ?_
              refine kin_r (res_1 resT) ?_
              refine lpure (v := .bool (decide (0 ≤ s8515))) rfl (p_ge rfl) rfl rfl ?_
              refine lpure (v := .bool (decide (0 ≤ s8515))) rfl (p_assign rfl) rfl rfl ?_
              refine lend ?_
              refine nseq ?_
              refine dret ?_
              refine kin_r (res_1 resT) ?_
              refine lpure (v := .bool (decide (0 ≤ s8515))) rfl (p_pick rfl) rfl rfl ?_
              exact ljmpM J8483 (decide (0 ≤ s8515)) () (sub_cons rfl (sub_cons rfl (sub_cons rfl (sub_cons rfl sub_nil)))) X8541
            · refine dskip ?_
              refine nblock ?_
              refine nseq ?_
              refine dreg ?_
              refine lpure (v := .int .i64 (w64 (s8515 + 1))) rfl (p_add rfl) rfl rfl ?_
              refine lpure (v := .int .i64 (w64 (s8515 + 1))) rfl (p_move rfl) rfl rfl ?_
              refine lend ?_
              exact kbackM ih8531 (w64 (s8515 + 1)) () (sub_cons rfl (sub_cons rfl (sub_cons rfl (sub_cons rfl sub_nil)))) X8541
          · intro j8544 J8545
            refine lcase (i := 6) (show _ = Value.bool (decide (e8536 < 0)) from rfl) (fun k8546 => ?_) (fun k8546 => ?_)
            · refine lskip rfl rfl ?_
              refine lskip rfl rfl ?_
              refine lskip rfl rfl ?_
              refine lskip rfl rfl ?_
              refine lskip rfl rfl ?_
              refine lpure (v := .bool true) rfl (p_pick rfl) rfl rfl ?_
              refine Sim.of_eq (congrArg j8544 (show ((decide (e8536 < 0)) || (decide ((p8386.Links.length : Int) ≤ e8536))) = true from by rw [k8546] <;> rfl)) ?_
              exact ljmpM J8545 true () (sub_cons rfl sub_nil) X8533
            · refine lpure (v := .int .i64 e8536) rfl (p_move rfl) rfl rfl ?_
              refine lpure (v := .pointer (some ⟨b8392, 2, none⟩)) rfl (p_fa fo_29_2 rfl) rfl rfl ?_
              refine lread (v := .slice a8388 n8388 c8388) rfl (q_load wd_27 rfl) (St.ld X8533 (j := 0) rfl rfl) rfl ?_
              refine lpure (v := .int .i64 (p8386.Links.length : Int)) rfl (p_len rfl rfl rfl un_27 rfl) (RSl.lenC H8388) rfl ?_
              refine lpure (v := .bool (decide ((p8386.Links.length : Int) ≤ e8536))) rfl (p_ge rfl) rfl rfl ?_
              refine lpure (v := .bool (decide ((p8386.Links.length : Int) ≤ e8536))) rfl (p_pick rfl) rfl rfl ?_
              refine Sim.of_eq (congrArg j8544 (show ((decide (e8536 < 0)) || (decide ((p8386.Links.length : Int) ≤ e8536))) = (decide ((p8386.Links.length : Int) ≤ e8536)) from by rw [k8546] <;> rfl)) ?_
              exact ljmpM J8545 (decide ((p8386.Links.length : Int) ≤ e8536)) () (sub_cons rfl sub_nil) X8533
        · refine dexit ?_
          refine eseq ?_
          refine eloop ?_
          refine xblock ?_
          refine nseq ?_
          refine dseq ?_
          refine dreg ?_
          refine lpure (v := .int .i64 (-1)) rfl (p_assign rfl) rfl rfl ?_
          refine lend ?_
          refine nseq ?_
          refine dret ?_
          refine kin_r (res_1 resT) ?_
          refine lpure (v := .bool false) rfl (p_ge rfl) rfl rfl ?_
          refine lpure (v := .bool false) rfl (p_assign rfl) rfl rfl ?_
          refine lend ?_
          refine nseq ?_
          refine dret ?_
          refine kin_r (res_1 resT) ?_
          refine lpure (v := .bool false) rfl (p_pick rfl) rfl rfl ?_
          exact ljmpM J8483 false () (sub_cons rfl (sub_cons rfl (sub_cons rfl (sub_cons rfl sub_nil)))) X8533
/-! slices.Equal[[]int,int] -/
theorem f28_ok {n : Nat} {φ : Fz} {lo : Nat} {h : Heap} {own : OwnL}  {a8611 : Option Addr} {n8611 c8611 : Nat} {a8613 : Option Addr} {n8613 c8613 : Nat} (X : St φ lo h (own)) (p8610 : (List Int)) (p8612 : (List Int)) (H8611 : RSl (eInt .i64) φ (.slice a8611 n8611 c8611) p8610) (H8613 : RSl (eInt .i64) φ (.slice a8613 n8613 c8613) p8612) : Sim ((recN Try.prog LL cutF (n + 1)).call 28 #[(.slice a8611 n8611 c8611), (.slice a8613 n8613 c8613)] h) (m_slices_Equal_int_int p8610 p8612) (fun (d : Bool) p => p = (.bool d, h)) := by
  refine fcut Try.func28 rfl rfl rfl rfl X ?_
  intro h0 X0
  refine dseq ?_
  refine dreg ?_
  refine lpure (v := .bool false) rfl (p_assign rfl) rfl rfl ?_
  refine lend ?_
  refine nseq ?_
  refine dseq ?_
  refine dseq ?_
  refine dreg ?_
  refine lpure (v := .slice a8611 n8611 c8611) rfl (p_move rfl) rfl rfl ?_
  refine lpure (v := .int .i64 (p8610.length : Int)) rfl (p_len rfl rfl rfl un_33 rfl) (RSl.lenC H8611) rfl ?_
  refine lpure (v := .slice a8613 n8613 c8613) rfl (p_move rfl) rfl rfl ?_
  refine lpure (v := .int .i64 (p8612.length : Int)) rfl (p_len rfl rfl rfl un_33 rfl) (RSl.lenC H8613) rfl ?_
  refine lpure (v := .bool (decide ((p8610.length : Int) ≠ (p8612.length : Int)))) rfl (p_ne rfl) rfl rfl ?_
  refine lend ?_
  refine nseq ?_
  refine dcond rfl rfl (fun k8614 => ?_) (fun k8614 => ?_)
  · refine dseq ?_
    refine dreg ?_
    refine lpure (v := .bool false) rfl (p_assign rfl) rfl rfl ?_
    refine lend ?_
    refine nseq ?_
    refine dret ?_
    refine rseq ?_
    exact kcut_r (res_1 resT) X0 rfl rfl
  · refine dskip ?_
    refine nseq ?_
    refine dseq ?_
    refine dseq ?_
    refine dreg ?_
    refine lpure (v := .slice a8611 n8611 c8611) rfl (p_move rfl) rfl rfl ?_
    refine lpure (v := .int .i64 (p8610.length : Int)) rfl (p_len rfl rfl rfl un_33 rfl) (RSl.lenC H8611) rfl ?_
    refine lpure (v := .int .i64 0) rfl (p_move rfl) rfl rfl ?_
    refine lend ?_
    refine nseq ?_
    refine dblock ?_
    refine dloopM (τ := Int) (σ := Unit) (fun s8637 (_ : Unit) => [(0, .slice a8611 n8611 c8611), (1, .slice a8613 n8613 c8613), (12, .int .i64 (p8610.length : Int)), (13, .int .i64 s8637)]) (fun s8637 (_ : Unit) hh => St φ h.n hh ([])) 0 () (sub_cons rfl (sub_cons rfl (sub_cons rfl (sub_cons rfl sub_nil)))) X0 ?_
    rintro n8650 ih8649 s8637 _ t0 h8652 X8651
    refine dseq ?_
    refine dreg ?_
    refine lpure (v := .bool (decide (s8637 < (p8610.length : Int)))) rfl (p_lt rfl) rfl rfl ?_
    refine lend ?_
    refine nseq ?_
    refine dseq ?_
    refine dcond rfl rfl (fun k8653 => ?_) (fun k8653 => ?_)
    · refine dskip ?_
      refine nseq ?_
      refine dseq ?_
      refine dblock ?_
      refine dseq ?_
      refine dreg ?_
      refine lpure (v := .int .i64 s8637) rfl (p_move rfl) rfl rfl ?_
      refine lpure (v := .int .i64 s8637) rfl (p_assign rfl) rfl rfl ?_
      refine lend ?_
      refine nseq ?_
      refine dseq ?_
      refine ddraw 0 0 0 (by kernel_rfl) ?_
      refine spure (v := .slice a8611 n8611 c8611) rfl (p_move rfl) (lo_t (lo_sl X8651 H8611) rfl) rfl rfl ?_
      refine spure (v := .int .i64 s8637) rfl (p_move rfl) (lo_t rfl rfl) rfl rfl ?_
      refine Sim.bindM fun e8654 he8655 => ?_
      obtain ⟨p8656, cs8656, hp8656, hF8656, hR8656⟩ := RSl.ia H8611 he8655 (kd := .i64) (n := 1) rfl
      have hR8656 : _ = [(.int .i64 e8654 : Value)] := hR8656
      subst hR8656
      refine spure (v := p8656) rfl (p_ia rs_33 rfl) (lo_t (lo_sl X8651 H8611) (lo_t rfl rfl)) hp8656 rfl ?_
      refine sload (v := .int .i64 e8654) rfl rfl (q_load wd_3 rfl) (FP.ld X8651 hF8656) (same_self 20 rfl) rfl ?_
      refine spure (v := .slice a8613 n8613 c8613) rfl (p_move rfl) (lo_t (lo_sl X8651 H8613) rfl) rfl rfl ?_
      refine spure (v := .int .i64 s8637) rfl (p_move rfl) (lo_t rfl rfl) rfl rfl ?_
      refine Sim.bindM fun e8657 he8658 => ?_
      obtain ⟨p8659, cs8659, hp8659, hF8659, hR8659⟩ := RSl.ia H8613 he8658 (kd := .i64) (n := 1) rfl
      have hR8659 : _ = [(.int .i64 e8657 : Value)] := hR8659
      subst hR8659
      refine spure (v := p8659) rfl (p_ia rs_33 rfl) (lo_t (lo_sl X8651 H8613) (lo_t rfl rfl)) hp8659 rfl ?_
      refine sload (v := .int .i64 e8657) rfl rfl (q_load wd_3 rfl) (FP.ld X8651 hF8659) (same_self 20 rfl) rfl ?_
      refine spure (v := .bool (decide (e8654 ≠ e8657))) rfl (p_ne rfl) (lo_t rfl (lo_t rfl rfl)) rfl rfl ?_
      refine send ?_
      refine nseq ?_
      refine dcond rfl rfl (fun k8660 => ?_) (fun k8660 => ?_)
      · refine dseq ?_
        refine dreg ?_
        refine lpure (v := .bool false) rfl (p_assign rfl) rfl rfl ?_
        refine lend ?_
        refine nseq ?_
        refine dret ?_
        refine rblock ?_
        refine rseq ?_
        refine rloop ?_
        refine rblock ?_
        refine rseq ?_
        exact kcut_r (res_1 resT) X8651 rfl rfl
      · refine dskip ?_
        refine nblock ?_
        refine nseq ?_
        refine dreg ?_
        refine lpure (v := .int .i64 (w64 (s8637 + 1))) rfl (p_add rfl) rfl rfl ?_
        refine lpure (v := .int .i64 (w64 (s8637 + 1))) rfl (p_move rfl) rfl rfl ?_
        refine lend ?_
        exact kbackM ih8649 (w64 (s8637 + 1)) () (sub_cons rfl (sub_cons rfl (sub_cons rfl (sub_cons rfl sub_nil)))) X8651
    · refine dexit ?_
      refine eseq ?_
      refine eloop ?_
      refine xblock ?_
      refine nseq ?_
      refine dseq ?_
      refine dreg ?_
      refine lpure (v := .bool true) rfl (p_assign rfl) rfl rfl ?_
      refine lend ?_
      refine nseq ?_
      refine dret ?_
      exact kcut_r (res_1 resT) X8651 rfl rfl
end Go.AM
