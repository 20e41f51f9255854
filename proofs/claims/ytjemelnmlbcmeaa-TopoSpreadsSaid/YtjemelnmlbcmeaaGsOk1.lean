/- Printed: functions of the given program as functions over plain data, and that the machine does what they say; no claim of its own; no condition. -/
import Derived.Test.YtjemelnmlbcmeaaGsFacts
set_option maxRecDepth 100000
set_option maxHeartbeats 4000000
set_option linter.unusedVariables false
set_option linter.unusedSimpArgs false
namespace Go.AM
open Go Go.Proofs

/-! isochron/isochronlaw16.line -/
theorem f38_ok {n : Nat} {φ : Fz} {lo : Nat} {h : Heap} {own : OwnL}  (X : St φ lo h (own)) : Sim ((recN Try.prog LL cutF (n + 1)).call 38 #[] h) (m_isochronlaw16_line) (fun (d : ApiTopo) p => ∃ φ2 : Fz, ∃ a34 : Option Addr, ∃ n34 : Nat, ∃ c34 : Nat, ∃ ob34 : Option Nat, ∃ blk34 : Blk, ∃ a36 : Option Addr, ∃ n36 : Nat, ∃ c36 : Nat, ∃ ob36 : Option Nat, ∃ blk36 : Blk, Fz.le φ φ2 ∧ St φ2 lo p.2 ((ob34, blk34) :: (ob36, blk36) :: own) ∧ p.1 = .agg #[.int .i64 d.Nodes, .slice a34 n34 c34, .slice a36 n36 c36] ∧ OSl eBool φ2 4 ob34 blk34 (.slice a34 n34 c34) d.Station ∧ OSl eApiLink φ2 50 ob36 blk36 (.slice a36 n36 c36) d.Links) := by
  refine fopen Try.func38 rfl rfl rfl rfl ?_
  refine dseq ?_
  refine dreg ?_
  refine lalloc rfl tz_25 rfl rfl rfl X (fun b24 h26 X27 => ?_)
  refine lend ?_
  refine nseq ?_
  refine dseq ?_
  refine dreg ?_
  obtain ⟨h28, b28, hv28, X28, O28⟩ := OSl.lay (E := eBool) (φ := φ) (cs := [.bool true, .bool false, .bool false, .bool true]) (l := [true, false, false, true]) (len := 4) (parts := [(0, .bool true), (1, .bool false), (2, .bool false), (3, .bool true)]) un_22 ts_4 rfl rfl rfl tz_4 rfl rfl (show RowD eBool φ [.bool true, .bool false, .bool false, .bool true] [true, false, false, true] from ⟨[.bool true], _, rfl, rfl, ⟨[.bool false], _, rfl, rfl, ⟨[.bool false], _, rfl, rfl, ⟨[.bool true], _, rfl, rfl, rfl⟩⟩⟩⟩) rfl rfl X27
  refine lheap rfl (h_buildSlice rfl) hv28 rfl ?_
  refine lpure (v := .agg #[.int .i64 0, .int .i64 1, .int .i64 8, .int .i64 50]) rfl (p_build rfl) (build_st' tz_50 pl_50 rfl) rfl ?_
  refine lpure (v := .agg #[.int .i64 1, .int .i64 2, .int .i64 8, .int .i64 0]) rfl (p_build rfl) (build_st' tz_50 pl_50 rfl) rfl ?_
  refine lpure (v := .agg #[.int .i64 2, .int .i64 3, .int .i64 80, .int .i64 7]) rfl (p_build rfl) (build_st' tz_50 pl_50 rfl) rfl ?_
  obtain ⟨h30, b30, hv30, X30, O30⟩ := OSl.lay (E := eApiLink) (φ := φ) (cs := [.int .i64 0, .int .i64 1, .int .i64 8, .int .i64 50, .int .i64 1, .int .i64 2, .int .i64 8, .int .i64 0, .int .i64 2, .int .i64 3, .int .i64 80, .int .i64 7]) (l := [(ApiLink.mk 0 1 8 50), (ApiLink.mk 1 2 8 0), (ApiLink.mk 2 3 80 7)]) (len := 3) (parts := [(0, .agg #[.int .i64 0, .int .i64 1, .int .i64 8, .int .i64 50]), (1, .agg #[.int .i64 1, .int .i64 2, .int .i64 8, .int .i64 0]), (2, .agg #[.int .i64 2, .int .i64 3, .int .i64 80, .int .i64 7])]) un_23 ts_50 rfl rfl rfl tz_50 rfl rfl (show RowD eApiLink φ [.int .i64 0, .int .i64 1, .int .i64 8, .int .i64 50, .int .i64 1, .int .i64 2, .int .i64 8, .int .i64 0, .int .i64 2, .int .i64 3, .int .i64 80, .int .i64 7] [(ApiLink.mk 0 1 8 50), (ApiLink.mk 1 2 8 0), (ApiLink.mk 2 3 80 7)] from ⟨[.int .i64 0, .int .i64 1, .int .i64 8, .int .i64 50], _, rfl, ⟨_, _, rfl, rfl, ⟨_, _, rfl, rfl, ⟨_, _, rfl, rfl, ⟨_, _, rfl, rfl, rfl⟩⟩⟩⟩, ⟨[.int .i64 1, .int .i64 2, .int .i64 8, .int .i64 0], _, rfl, ⟨_, _, rfl, rfl, ⟨_, _, rfl, rfl, ⟨_, _, rfl, rfl, ⟨_, _, rfl, rfl, rfl⟩⟩⟩⟩, ⟨[.int .i64 2, .int .i64 3, .int .i64 80, .int .i64 7], _, rfl, ⟨_, _, rfl, rfl, ⟨_, _, rfl, rfl, ⟨_, _, rfl, rfl, ⟨_, _, rfl, rfl, rfl⟩⟩⟩⟩, rfl⟩⟩⟩) rfl rfl X28
  refine lheap rfl (h_buildSlice rfl) hv30 rfl ?_
  refine lpure (v := .agg #[.int .i64 4, .slice (some ⟨b28, 0, none⟩) 4 4, .slice (some ⟨b30, 0, none⟩) 3 3]) rfl (p_build rfl) (build_st' tz_25 pl_25 rfl) rfl ?_
  refine lstore rfl ts_25 rfl rfl (j := 2) rfl rfl rfl rfl rfl rfl X30 (fun h32 X33 => ?_)
  refine lend ?_
  refine nseq ?_
  refine dret ?_
  exact kopen_r (res_1 (resC wd_25 (St.ld X33 (j := 2) rfl rfl))) ⟨φ, ((some ⟨b28, 0, none⟩)), 4, 4, (some b28), ((.cells [.bool true, .bool false, .bool false, .bool true] 4 .exact)), ((some ⟨b30, 0, none⟩)), 3, 3, (some b30), ((.cells [.int .i64 0, .int .i64 1, .int .i64 8, .int .i64 50, .int .i64 1, .int .i64 2, .int .i64 8, .int .i64 0, .int .i64 2, .int .i64 3, .int .i64 80, .int .i64 7] 50 .exact)), (Fz.le_refl _), St.pick (St.front X33 (j := 1) rfl) (.keep _ (.keep _ (.skip _ (.refl _)))), rfl, O28, O30⟩
/-! isochron/topo.isNode -/
theorem f39_ok {n : Nat} {φ : Fz} {lo : Nat} {h : Heap} {own : OwnL}  {a119 : Option Addr} {n119 c119 : Nat} {a120 : Option Addr} {n120 c120 : Nat} (X : St φ lo h (own)) (p118 : ApiTopo) (p121 : Int) (H119 : RSl eBool φ (.slice a119 n119 c119) p118.Station) (H120 : RSl eApiLink φ (.slice a120 n120 c120) p118.Links) : Sim ((recN Try.prog LL cutF (n + 1)).call 39 #[(.agg #[.int .i64 p118.Nodes, .slice a119 n119 c119, .slice a120 n120 c120]), (.int .i64 p121)] h) (m_topo_isNode p118 p121) (fun (d : Bool) p => p = (.bool d, h)) := by
  refine fcut Try.func39 rfl rfl rfl rfl X ?_
  intro h0 X0
  refine dseq ?_
  refine dreg ?_
  refine lbox rfl rfl rfl rfl rfl X0 (fun b122 h124 X125 => ?_)
  refine lpure (v := .bool false) rfl (p_assign rfl) rfl rfl ?_
  refine lend ?_
  refine nseq ?_
  refine dseq ?_
  refine dreg ?_
  refine lpure (v := .int .i64 p121) rfl (p_move rfl) rfl rfl ?_
  refine lpure (v := .bool (decide (0 ≤ p121))) rfl (p_ge rfl) rfl rfl ?_
  refine lpure (v := .bool (decide (0 ≤ p121))) rfl (p_move rfl) rfl rfl ?_
  refine lsh (τ := Bool) (σ := Unit) (fun s127 (_ : Unit) => [(12, .bool s127)]) (fun s127 (_ : Unit) hh => St φ h.n hh ([(some b122, .cells [.int .i64 p118.Nodes, .slice a119 n119 c119, .slice a120 n120 c120] 25 .exact)])) 5 ?_ ?_
  · rintro s127 _ t0 h129 X128
    refine lpure (v := .bool s127) rfl (p_assign rfl) rfl rfl ?_
    refine lend ?_
    refine nseq ?_
    refine dret ?_
    exact kcut_r (res_1 resT) X128 rfl rfl
  · intro j130 J131
    refine lcase (i := 7) (show _ = Value.bool (decide (0 ≤ p121)) from rfl) (fun k132 => ?_) (fun k132 => ?_)
    · refine lpure (v := .int .i64 p121) rfl (p_move rfl) rfl rfl ?_
      refine lpure (v := .pointer (some ⟨b122, 0, none⟩)) rfl (p_fa fo_25_0 rfl) rfl rfl ?_
      refine lread (v := .int .i64 p118.Nodes) rfl (q_load wd_3 rfl) (St.ld X125 (j := 0) rfl rfl) rfl ?_
      refine lpure (v := .bool (decide (p121 < p118.Nodes))) rfl (p_lt rfl) rfl rfl ?_
      refine lpure (v := .bool (decide (p121 < p118.Nodes))) rfl (p_pick rfl) rfl rfl ?_
      refine Sim.of_eq (congrArg j130 (show ((decide (0 ≤ p121)) && (decide (p121 < p118.Nodes))) = (decide (p121 < p118.Nodes)) from by rw [k132] <;> rfl)) ?_
      exact ljmpM J131 (decide (p121 < p118.Nodes)) () (sub_cons rfl sub_nil) X125
    · refine lskip rfl rfl ?_
      refine lskip rfl rfl ?_
      refine lskip rfl rfl ?_
      refine lskip rfl rfl ?_
      refine lpure (v := .bool false) rfl (p_pick rfl) rfl rfl ?_
      refine Sim.of_eq (congrArg j130 (show ((decide (0 ≤ p121)) && (decide (p121 < p118.Nodes))) = false from by rw [k132] <;> rfl)) ?_
      exact ljmpM J131 false () (sub_cons rfl sub_nil) X125
/-! isochron/topo.validLink -/
theorem f57_ok {n : Nat} {φ : Fz} {lo : Nat} {h : Heap} {own : OwnL}  {a92 : Option Addr} {n92 c92 : Nat} {a93 : Option Addr} {n93 c93 : Nat} (X : St φ lo h (own)) (p91 : ApiTopo) (p94 : Int) (H92 : RSl eBool φ (.slice a92 n92 c92) p91.Station) (H93 : RSl eApiLink φ (.slice a93 n93 c93) p91.Links) : Sim ((recN Try.prog LL cutF (n + 5)).call 57 #[(.agg #[.int .i64 p91.Nodes, .slice a92 n92 c92, .slice a93 n93 c93]), (.int .i64 p94)] h) (m_topo_validLink p91 p94) (fun (d : Bool) p => p = (.bool d, h)) := by
  refine fcut Try.func57 rfl rfl rfl rfl X ?_
  intro h0 X0
  refine dseq ?_
  refine dreg ?_
  refine lbox rfl rfl rfl rfl rfl X0 (fun b95 h97 X98 => ?_)
  refine lbox rfl rfl rfl rfl rfl X98 (fun b99 h101 X102 => ?_)
  refine lpure (v := .bool false) rfl (p_assign rfl) rfl rfl ?_
  refine lend ?_
  refine nseq ?_
  refine dseq ?_
  refine dreg ?_
  refine lpure (v := .pointer (some ⟨b95, 2, none⟩)) rfl (p_fa fo_25_2 rfl) rfl rfl ?_
  refine lread (v := .slice a93 n93 c93) rfl (q_load wd_23 rfl) (St.ld X102 (j := 1) rfl rfl) rfl ?_
  refine lread (v := .int .i64 p94) rfl (q_load wd_3 rfl) (St.ld X102 (j := 0) rfl rfl) rfl ?_
  refine Sim.bindM fun e103 he104 => ?_
  obtain ⟨p105, cs105, hp105, hF105, hR105⟩ := RSl.ia H93 he104 (kd := .i64) (n := 4) rfl
  obtain rfl := eApiLink_el hR105
  refine lpure (v := p105) rfl (p_ia rs_23 rfl) hp105 rfl ?_
  refine lread (v := .agg #[.int .i64 e103.A, .int .i64 e103.B, .int .i64 e103.Per, .int .i64 e103.Delay]) rfl (q_load wd_50 rfl) (FP.ldw X102 hF105 rfl rfl) rfl ?_
  refine lalloc rfl tz_50 rfl rfl rfl X102 (fun b106 h108 X109 => ?_)
  refine lstore rfl ts_50 rfl rfl (j := 0) rfl rfl rfl rfl rfl rfl X109 (fun h110 X111 => ?_)
  refine lend ?_
  refine nseq ?_
  refine dseq ?_
  refine dreg ?_
  refine lpure (v := .func (.func 65) #[] #[.pointer (some ⟨b95, 0, none⟩), .pointer (some ⟨b106, 0, none⟩)]) rfl (p_makeFunc rfl) rfl rfl ?_
  refine lpure (v := .func (.func 66) #[] #[.pointer (some ⟨b95, 0, none⟩), .pointer (some ⟨b106, 0, none⟩)]) rfl (p_makeFunc rfl) rfl rfl ?_
  refine lpure (v := .func (.func 67) #[] #[.pointer (some ⟨b106, 0, none⟩)]) rfl (p_makeFunc rfl) rfl rfl ?_
  refine lpure (v := .func (.func 68) #[] #[.pointer (some ⟨b95, 0, none⟩), .pointer (some ⟨b99, 0, none⟩), .pointer (some ⟨b106, 0, none⟩)]) rfl (p_makeFunc rfl) rfl rfl ?_
  refine lpure (v := .agg #[.func (.func 65) #[] #[.pointer (some ⟨b95, 0, none⟩), .pointer (some ⟨b106, 0, none⟩)], .func (.func 66) #[] #[.pointer (some ⟨b95, 0, none⟩), .pointer (some ⟨b106, 0, none⟩)], .func (.func 67) #[] #[.pointer (some ⟨b106, 0, none⟩)], .func (.func 68) #[] #[.pointer (some ⟨b95, 0, none⟩), .pointer (some ⟨b99, 0, none⟩), .pointer (some ⟨b106, 0, none⟩)]]) rfl (p_build rfl) (build_ar' tz_85 ae_85 rfl) rfl ?_
  refine lalloc rfl tz_85 rfl rfl rfl X111 (fun b112 h114 X115 => ?_)
  refine lstore rfl ts_85 rfl rfl (j := 0) rfl rfl rfl rfl rfl rfl X115 (fun h116 X117 => ?_)
  refine lend ?_
  refine nseq ?_
  refine dseq ?_
  refine dseq ?_
  refine dreg ?_
  refine lread (v := .agg #[.func (.func 65) #[] #[.pointer (some ⟨b95, 0, none⟩), .pointer (some ⟨b106, 0, none⟩)], .func (.func 66) #[] #[.pointer (some ⟨b95, 0, none⟩), .pointer (some ⟨b106, 0, none⟩)], .func (.func 67) #[] #[.pointer (some ⟨b106, 0, none⟩)], .func (.func 68) #[] #[.pointer (some ⟨b95, 0, none⟩), .pointer (some ⟨b99, 0, none⟩), .pointer (some ⟨b106, 0, none⟩)]]) rfl (q_load wd_85 rfl) (St.ld X117 (j := 0) rfl rfl) rfl ?_
  refine lpure (v := .int .i64 0) rfl (p_move rfl) rfl rfl ?_
  refine lend ?_
  refine nseq ?_
  refine dblock ?_
  refine dunroll 999999 rfl ?_
  refine dseq ?_
  refine dreg ?_
  refine lpure (v := .bool true) rfl (p_lt rfl) rfl rfl ?_
  refine lend ?_
  refine nseq ?_
  refine dseq ?_
  refine dcondT rfl rfl ?_
  refine dskip ?_
  refine nseq ?_
  refine dseq ?_
  refine dblock ?_
  refine dseq ?_
  refine dreg ?_
  refine lpure (v := .func (.func 65) #[] #[.pointer (some ⟨b95, 0, none⟩), .pointer (some ⟨b106, 0, none⟩)]) rfl (p_index as_85 rfl) rfl rfl ?_
  refine lpure (v := .func (.func 65) #[] #[.pointer (some ⟨b95, 0, none⟩), .pointer (some ⟨b106, 0, none⟩)]) rfl (p_assign rfl) rfl rfl ?_
  refine lend ?_
  refine nseq ?_
  refine dseq ?_
  refine dreg ?_
  refine lpure (v := .func (.func 65) #[] #[.pointer (some ⟨b95, 0, none⟩), .pointer (some ⟨b106, 0, none⟩)]) rfl (p_move rfl) rfl rfl ?_
  refine linl rfl rfl rfl rfl ca_65 rfl Try.func65 rfl rfl rfl rfl rfl ?_
  refine dseq ?_
  refine dreg ?_
  refine lpure (v := .bool false) rfl (p_assign rfl) rfl rfl ?_
  refine lend ?_
  refine nseq ?_
  refine dseq ?_
  refine dreg ?_
  refine lread (v := .agg #[.int .i64 p91.Nodes, .slice a92 n92 c92, .slice a93 n93 c93]) rfl (q_load wd_25 rfl) (St.ld X117 (j := 3) rfl rfl) rfl ?_
  refine lpure (v := .pointer (some ⟨b106, 0, none⟩)) rfl (p_fa fo_50_0 rfl) rfl rfl ?_
  refine lread (v := .int .i64 e103.A) rfl (q_load wd_3 rfl) (St.ld X117 (j := 1) rfl rfl) rfl ?_
  refine lcall rfl rfl ca_39 rfl rfl (f39_ok X117 p91 (e103.A) H92 H93) rfl (fun e133 v134 h135 hq136 => ?_)
  cases hq136
  refine lpure (v := .bool e133) rfl (p_move rfl) rfl rfl ?_
  refine ljoinM (τ := Bool) (σ := Unit) (fun s143 (_ : Unit) => [(1, .pointer (some ⟨b106, 0, none⟩)), (12, .bool s143)]) (fun s143 (_ : Unit) hh => St φ h.n hh ([(some b112, .cells [.func (.func 65) #[] #[.pointer (some ⟨b95, 0, none⟩), .pointer (some ⟨b106, 0, none⟩)], .func (.func 66) #[] #[.pointer (some ⟨b95, 0, none⟩), .pointer (some ⟨b106, 0, none⟩)], .func (.func 67) #[] #[.pointer (some ⟨b106, 0, none⟩)], .func (.func 68) #[] #[.pointer (some ⟨b95, 0, none⟩), .pointer (some ⟨b99, 0, none⟩), .pointer (some ⟨b106, 0, none⟩)]] 85 .exact), (some b106, .cells [.int .i64 e103.A, .int .i64 e103.B, .int .i64 e103.Per, .int .i64 e103.Delay] 50 .exact), (some b99, .cells [.int .i64 p94] 3 .exact), (some b95, .cells [.int .i64 p91.Nodes, .slice a92 n92 c92, .slice a93 n93 c93] 25 .exact)])) 5 ?_ ?_
  · rintro s143 _ t0 h145 X144
    refine lpure (v := .bool s143) rfl (p_move rfl) rfl rfl ?_
    refine lsh (τ := Bool) (σ := Unit) (fun s147 (_ : Unit) => [(19, .bool s147)]) (fun s147 (_ : Unit) hh => St φ h.n hh ([(some b112, .cells [.func (.func 65) #[] #[.pointer (some ⟨b95, 0, none⟩), .pointer (some ⟨b106, 0, none⟩)], .func (.func 66) #[] #[.pointer (some ⟨b95, 0, none⟩), .pointer (some ⟨b106, 0, none⟩)], .func (.func 67) #[] #[.pointer (some ⟨b106, 0, none⟩)], .func (.func 68) #[] #[.pointer (some ⟨b95, 0, none⟩), .pointer (some ⟨b99, 0, none⟩), .pointer (some ⟨b106, 0, none⟩)]] 85 .exact), (some b106, .cells [.int .i64 e103.A, .int .i64 e103.B, .int .i64 e103.Per, .int .i64 e103.Delay] 50 .exact), (some b99, .cells [.int .i64 p94] 3 .exact), (some b95, .cells [.int .i64 p91.Nodes, .slice a92 n92 c92, .slice a93 n93 c93] 25 .exact)])) 6 ?_ ?_
    · rintro s147 _ t0 h149 X148
      refine lpure (v := .bool s147) rfl (p_assign rfl) rfl rfl ?_
      refine lend ?_
      refine nseq ?_
      refine dret ?_
      refine kin_r (res_1 resT) ?_
      refine lpure (v := .bool (!s147)) rfl (p_not rfl) rfl rfl ?_
      refine lend ?_
      refine nseq ?_
      refine dcond rfl rfl (fun k150 => ?_) (fun k150 => ?_)
      · refine dseq ?_
        refine dreg ?_
        refine lpure (v := .bool false) rfl (p_assign rfl) rfl rfl ?_
        refine lend ?_
        refine nseq ?_
        refine dret ?_
        refine rblock ?_
        refine rseq ?_
        refine rloop ?_
        refine rblock ?_
        refine rseq ?_
        exact kcut_r (res_1 resT) X148 rfl rfl
      · refine dskip ?_
        refine nblock ?_
        refine nseq ?_
        refine dreg ?_
        refine lpure (v := .int .i64 1) rfl (p_add rfl) rfl rfl ?_
        refine lpure (v := .int .i64 1) rfl (p_move rfl) rfl rfl ?_
        refine lend ?_
        refine nunroll 999998 rfl ?_
        refine dseq ?_
        refine dreg ?_
        refine lpure (v := .bool true) rfl (p_lt rfl) rfl rfl ?_
        refine lend ?_
        refine nseq ?_
        refine dseq ?_
        refine dcondT rfl rfl ?_
        refine dskip ?_
        refine nseq ?_
        refine dseq ?_
        refine dblock ?_
        refine dseq ?_
        refine dreg ?_
        refine lpure (v := .func (.func 66) #[] #[.pointer (some ⟨b95, 0, none⟩), .pointer (some ⟨b106, 0, none⟩)]) rfl (p_index as_85 rfl) rfl rfl ?_
        refine lpure (v := .func (.func 66) #[] #[.pointer (some ⟨b95, 0, none⟩), .pointer (some ⟨b106, 0, none⟩)]) rfl (p_assign rfl) rfl rfl ?_
        refine lend ?_
        refine nseq ?_
        refine dseq ?_
        refine dreg ?_
        refine lpure (v := .func (.func 66) #[] #[.pointer (some ⟨b95, 0, none⟩), .pointer (some ⟨b106, 0, none⟩)]) rfl (p_move rfl) rfl rfl ?_
        refine linl rfl rfl rfl rfl ca_66 rfl Try.func66 rfl rfl rfl rfl rfl ?_
        refine dseq ?_
        refine dreg ?_
        refine lpure (v := .bool false) rfl (p_assign rfl) rfl rfl ?_
        refine lend ?_
        refine nseq ?_
        refine dseq ?_
        refine dreg ?_
        refine lpure (v := .pointer (some ⟨b95, 1, none⟩)) rfl (p_fa fo_25_1 rfl) rfl rfl ?_
        refine lread (v := .slice a92 n92 c92) rfl (q_load wd_22 rfl) (St.ld X148 (j := 3) rfl rfl) rfl ?_
        refine lpure (v := .pointer (some ⟨b106, 0, none⟩)) rfl (p_fa fo_50_0 rfl) rfl rfl ?_
        refine lread (v := .int .i64 e103.A) rfl (q_load wd_3 rfl) (St.ld X148 (j := 1) rfl rfl) rfl ?_
        refine Sim.bindM fun e151 he152 => ?_
        obtain ⟨p153, cs153, hp153, hF153, hR153⟩ := RSl.ia H92 he152 (kd := .i64) (n := 1) rfl
        have hR153 : _ = [(.bool e151 : Value)] := hR153
        subst hR153
        refine lpure (v := p153) rfl (p_ia rs_22 rfl) hp153 rfl ?_
        refine lread (v := .bool e151) rfl (q_load wd_4 rfl) (FP.ld X148 hF153) rfl ?_
        refine lpure (v := .bool (!e151)) rfl (p_not rfl) rfl rfl ?_
        refine lpure (v := .bool (!e151)) rfl (p_move rfl) rfl rfl ?_
        refine ljoinM (τ := Bool) (σ := Unit) (fun s159 (_ : Unit) => [(18, .bool s159)]) (fun s159 (_ : Unit) hh => St φ h.n hh ([(some b112, .cells [.func (.func 65) #[] #[.pointer (some ⟨b95, 0, none⟩), .pointer (some ⟨b106, 0, none⟩)], .func (.func 66) #[] #[.pointer (some ⟨b95, 0, none⟩), .pointer (some ⟨b106, 0, none⟩)], .func (.func 67) #[] #[.pointer (some ⟨b106, 0, none⟩)], .func (.func 68) #[] #[.pointer (some ⟨b95, 0, none⟩), .pointer (some ⟨b99, 0, none⟩), .pointer (some ⟨b106, 0, none⟩)]] 85 .exact), (some b106, .cells [.int .i64 e103.A, .int .i64 e103.B, .int .i64 e103.Per, .int .i64 e103.Delay] 50 .exact), (some b99, .cells [.int .i64 p94] 3 .exact), (some b95, .cells [.int .i64 p91.Nodes, .slice a92 n92 c92, .slice a93 n93 c93] 25 .exact)])) 8 ?_ ?_
        · rintro s159 _ t0 h161 X160
          refine lpure (v := .bool s159) rfl (p_assign rfl) rfl rfl ?_
          refine lend ?_
          refine nseq ?_
          refine dret ?_
          refine kin_r (res_1 resT) ?_
          refine lpure (v := .bool (!s159)) rfl (p_not rfl) rfl rfl ?_
          refine lend ?_
          refine nseq ?_
          refine dcond rfl rfl (fun k162 => ?_) (fun k162 => ?_)
          · refine dseq ?_
            refine dreg ?_
            refine lpure (v := .bool false) rfl (p_assign rfl) rfl rfl ?_
            refine lend ?_
            refine nseq ?_
            refine dret ?_
            refine rblock ?_
            refine rseq ?_
            refine rloop ?_
            refine rblock ?_
            refine rseq ?_
            exact kcut_r (res_1 resT) X160 rfl rfl
          · refine dskip ?_
            refine nblock ?_
            refine nseq ?_
            refine dreg ?_
            refine lpure (v := .int .i64 2) rfl (p_add rfl) rfl rfl ?_
            refine lpure (v := .int .i64 2) rfl (p_move rfl) rfl rfl ?_
            refine lend ?_
            refine nunroll 999997 rfl ?_
            refine dseq ?_
            refine dreg ?_
            refine lpure (v := .bool true) rfl (p_lt rfl) rfl rfl ?_
            refine lend ?_
            refine nseq ?_
            refine dseq ?_
            refine dcondT rfl rfl ?_
            refine dskip ?_
            refine nseq ?_
            refine dseq ?_
            refine dblock ?_
            refine dseq ?_
            refine dreg ?_
            refine lpure (v := .func (.func 67) #[] #[.pointer (some ⟨b106, 0, none⟩)]) rfl (p_index as_85 rfl) rfl rfl ?_
            refine lpure (v := .func (.func 67) #[] #[.pointer (some ⟨b106, 0, none⟩)]) rfl (p_assign rfl) rfl rfl ?_
            refine lend ?_
            refine nseq ?_
            refine dseq ?_
            refine dreg ?_
            refine lpure (v := .func (.func 67) #[] #[.pointer (some ⟨b106, 0, none⟩)]) rfl (p_move rfl) rfl rfl ?_
            refine linl rfl rfl rfl rfl ca_67 rfl Try.func67 rfl rfl rfl rfl rfl ?_
            refine dseq ?_
            refine dreg ?_
            refine lpure (v := .bool false) rfl (p_assign rfl) rfl rfl ?_
            refine lend ?_
            refine nseq ?_
            refine dseq ?_
            refine dreg ?_
            refine lpure (v := .pointer (some ⟨b106, 2, none⟩)) rfl (p_fa fo_50_2 rfl) rfl rfl ?_
            refine lread (v := .int .i64 e103.Per) rfl (q_load wd_3 rfl) (St.ld X160 (j := 1) rfl rfl) rfl ?_
            refine lpure (v := .bool (decide (1 ≤ e103.Per))) rfl (p_ge rfl) rfl rfl ?_
            refine lpure (v := .bool (decide (1 ≤ e103.Per))) rfl (p_move rfl) rfl rfl ?_
            refine lsh (τ := Bool) (σ := Unit) (fun s164 (_ : Unit) => [(0, .pointer (some ⟨b106, 0, none⟩)), (9, .bool s164)]) (fun s164 (_ : Unit) hh => St φ h.n hh ([(some b112, .cells [.func (.func 65) #[] #[.pointer (some ⟨b95, 0, none⟩), .pointer (some ⟨b106, 0, none⟩)], .func (.func 66) #[] #[.pointer (some ⟨b95, 0, none⟩), .pointer (some ⟨b106, 0, none⟩)], .func (.func 67) #[] #[.pointer (some ⟨b106, 0, none⟩)], .func (.func 68) #[] #[.pointer (some ⟨b95, 0, none⟩), .pointer (some ⟨b99, 0, none⟩), .pointer (some ⟨b106, 0, none⟩)]] 85 .exact), (some b106, .cells [.int .i64 e103.A, .int .i64 e103.B, .int .i64 e103.Per, .int .i64 e103.Delay] 50 .exact), (some b99, .cells [.int .i64 p94] 3 .exact), (some b95, .cells [.int .i64 p91.Nodes, .slice a92 n92 c92, .slice a93 n93 c93] 25 .exact)])) 4 ?_ ?_
            · rintro s164 _ t0 h166 X165
              refine lpure (v := .bool s164) rfl (p_move rfl) rfl rfl ?_
              refine lsh (τ := Bool) (σ := Unit) (fun s168 (_ : Unit) => [(0, .pointer (some ⟨b106, 0, none⟩)), (14, .bool s168)]) (fun s168 (_ : Unit) hh => St φ h.n hh ([(some b112, .cells [.func (.func 65) #[] #[.pointer (some ⟨b95, 0, none⟩), .pointer (some ⟨b106, 0, none⟩)], .func (.func 66) #[] #[.pointer (some ⟨b95, 0, none⟩), .pointer (some ⟨b106, 0, none⟩)], .func (.func 67) #[] #[.pointer (some ⟨b106, 0, none⟩)], .func (.func 68) #[] #[.pointer (some ⟨b95, 0, none⟩), .pointer (some ⟨b99, 0, none⟩), .pointer (some ⟨b106, 0, none⟩)]] 85 .exact), (some b106, .cells [.int .i64 e103.A, .int .i64 e103.B, .int .i64 e103.Per, .int .i64 e103.Delay] 50 .exact), (some b99, .cells [.int .i64 p94] 3 .exact), (some b95, .cells [.int .i64 p91.Nodes, .slice a92 n92 c92, .slice a93 n93 c93] 25 .exact)])) 4 ?_ ?_
              · rintro s168 _ t0 h170 X169
                refine lpure (v := .bool s168) rfl (p_move rfl) rfl rfl ?_
                refine lsh (τ := Bool) (σ := Unit) (fun s172 (_ : Unit) => [(19, .bool s172)]) (fun s172 (_ : Unit) hh => St φ h.n hh ([(some b112, .cells [.func (.func 65) #[] #[.pointer (some ⟨b95, 0, none⟩), .pointer (some ⟨b106, 0, none⟩)], .func (.func 66) #[] #[.pointer (some ⟨b95, 0, none⟩), .pointer (some ⟨b106, 0, none⟩)], .func (.func 67) #[] #[.pointer (some ⟨b106, 0, none⟩)], .func (.func 68) #[] #[.pointer (some ⟨b95, 0, none⟩), .pointer (some ⟨b99, 0, none⟩), .pointer (some ⟨b106, 0, none⟩)]] 85 .exact), (some b106, .cells [.int .i64 e103.A, .int .i64 e103.B, .int .i64 e103.Per, .int .i64 e103.Delay] 50 .exact), (some b99, .cells [.int .i64 p94] 3 .exact), (some b95, .cells [.int .i64 p91.Nodes, .slice a92 n92 c92, .slice a93 n93 c93] 25 .exact)])) 4 ?_ ?_
                · rintro s172 _ t0 h174 X173
                  refine lpure (v := .bool s172) rfl (p_assign rfl) rfl rfl ?_
                  refine lend ?_
                  refine nseq ?_
                  refine dret ?_
                  refine kin_r (res_1 resT) ?_
                  refine lpure (v := .bool (!s172)) rfl (p_not rfl) rfl rfl ?_
                  refine lend ?_
                  refine nseq ?_
                  refine dcond rfl rfl (fun k175 => ?_) (fun k175 => ?_)
                  · refine dseq ?_
                    refine dreg ?_
                    refine lpure (v := .bool false) rfl (p_assign rfl) rfl rfl ?_
                    refine lend ?_
                    refine nseq ?_
                    refine dret ?_
                    refine rblock ?_
                    refine rseq ?_
                    refine rloop ?_
                    refine rblock ?_
                    refine rseq ?_
                    exact kcut_r (res_1 resT) X173 rfl rfl
                  · refine dskip ?_
                    refine nblock ?_
                    refine nseq ?_
                    refine dreg ?_
                    refine lpure (v := .int .i64 3) rfl (p_add rfl) rfl rfl ?_
                    refine lpure (v := .int .i64 3) rfl (p_move rfl) rfl rfl ?_
                    refine lend ?_
                    refine nunroll 999996 rfl ?_
                    refine dseq ?_
                    refine dreg ?_
                    refine lpure (v := .bool true) rfl (p_lt rfl) rfl rfl ?_
                    refine lend ?_
                    refine nseq ?_
                    refine dseq ?_
                    refine dcondT rfl rfl ?_
                    refine dskip ?_
                    refine nseq ?_
                    refine dseq ?_
                    refine dblock ?_
                    refine dseq ?_
                    refine dreg ?_
                    refine lpure (v := .func (.func 68) #[] #[.pointer (some ⟨b95, 0, none⟩), .pointer (some ⟨b99, 0, none⟩), .pointer (some ⟨b106, 0, none⟩)]) rfl (p_index as_85 rfl) rfl rfl ?_
                    refine lpure (v := .func (.func 68) #[] #[.pointer (some ⟨b95, 0, none⟩), .pointer (some ⟨b99, 0, none⟩), .pointer (some ⟨b106, 0, none⟩)]) rfl (p_assign rfl) rfl rfl ?_
                    refine lend ?_
                    refine nseq ?_
                    refine dseq ?_
                    refine dreg ?_
                    refine lpure (v := .func (.func 68) #[] #[.pointer (some ⟨b95, 0, none⟩), .pointer (some ⟨b99, 0, none⟩), .pointer (some ⟨b106, 0, none⟩)]) rfl (p_move rfl) rfl rfl ?_
                    refine linl rfl rfl rfl rfl ca_68 rfl Try.func68 rfl rfl rfl rfl rfl ?_
                    refine dseq ?_
                    refine dreg ?_
                    refine lpure (v := .bool false) rfl (p_assign rfl) rfl rfl ?_
                    refine lend ?_
                    refine nseq ?_
                    refine dseq ?_
                    refine dreg ?_
                    refine lpure (v := .pointer (some ⟨b95, 2, none⟩)) rfl (p_fa fo_25_2 rfl) rfl rfl ?_
                    refine lread (v := .slice a93 n93 c93) rfl (q_load wd_23 rfl) (St.ld X173 (j := 3) rfl rfl) rfl ?_
                    refine lread (v := .int .i64 p94) rfl (q_load wd_3 rfl) (St.ld X173 (j := 2) rfl rfl) rfl ?_
                    refine Sim.mustM fun k176 => ?_
                    have k176 := of_decide_eq_true k176
                    obtain ⟨a176, n176, c176, hv176, H176⟩ := RSl.slice H93 X173 un_23 ts_50 rfl bnd_none (bnd_int (show 0 ≤ p94 from by omega)) (by omega) (by omega)
                    refine lread rfl (q_slice rfl (evo_ok rfl) (evo_ok rfl) (evo_ok rfl)) hv176 rfl ?_
                    refine lpure (v := .func (.func 70) #[] #[.pointer (some ⟨b106, 0, none⟩)]) rfl (p_makeFunc rfl) rfl rfl ?_
                    refine linl rfl rfl rfl rfl ca_69 rfl Try.func69 rfl rfl rfl rfl rfl ?_
                    refine dseq ?_
                    refine dreg ?_
                    refine lpure (v := .bool false) rfl (p_assign rfl) rfl rfl ?_
                    refine lend ?_
                    refine nseq ?_
                    refine dseq ?_
                    refine dreg ?_
                    refine lpure (v := .slice a176 n176 c176) rfl (p_move rfl) rfl rfl ?_
                    refine lpure (v := .func (.func 70) #[] #[.pointer (some ⟨b106, 0, none⟩)]) rfl (p_move rfl) rfl rfl ?_
                    refine linl rfl rfl rfl rfl ca_82 rfl Try.func82 rfl rfl rfl rfl rfl ?_
                    refine dseq ?_
                    refine dreg ?_
                    refine lpure (v := .int .i64 0) rfl (p_assign rfl) rfl rfl ?_
                    refine lend ?_
                    refine nseq ?_
                    refine dseq ?_
                    refine dseq ?_
                    refine dreg ?_
                    refine lpure (v := .slice a176 n176 c176) rfl (p_move rfl) rfl rfl ?_
                    refine lpure (v := .int .i64 ((p91.Links.take (p94).toNat).length : Int)) rfl (p_len rfl rfl rfl un_23 rfl) (RSl.lenC H176) rfl ?_
                    refine lpure (v := .int .i64 0) rfl (p_move rfl) rfl rfl ?_
                    refine lend ?_
                    refine nseq ?_
                    refine dblock ?_
                    refine dloopM (τ := Int) (σ := Unit) (fun s232 (_ : Unit) => [(0, .slice a176 n176 c176), (1, .func (.func 70) #[] #[.pointer (some ⟨b106, 0, none⟩)]), (7, .int .i64 ((p91.Links.take (p94).toNat).length : Int)), (8, .int .i64 s232)]) (fun s232 (_ : Unit) hh => St φ h.n hh ([(some b112, .cells [.func (.func 65) #[] #[.pointer (some ⟨b95, 0, none⟩), .pointer (some ⟨b106, 0, none⟩)], .func (.func 66) #[] #[.pointer (some ⟨b95, 0, none⟩), .pointer (some ⟨b106, 0, none⟩)], .func (.func 67) #[] #[.pointer (some ⟨b106, 0, none⟩)], .func (.func 68) #[] #[.pointer (some ⟨b95, 0, none⟩), .pointer (some ⟨b99, 0, none⟩), .pointer (some ⟨b106, 0, none⟩)]] 85 .exact), (some b106, .cells [.int .i64 e103.A, .int .i64 e103.B, .int .i64 e103.Per, .int .i64 e103.Delay] 50 .exact), (some b99, .cells [.int .i64 p94] 3 .exact), (some b95, .cells [.int .i64 p91.Nodes, .slice a92 n92 c92, .slice a93 n93 c93] 25 .exact)])) 0 () (sub_cons rfl (sub_cons rfl (sub_cons rfl (sub_cons rfl sub_nil)))) X173 ?_
                    rintro n262 ih261 s232 _ t0 h264 X263
                    refine dseq ?_
                    refine dreg ?_
                    refine lpure (v := .bool (decide (s232 < ((p91.Links.take (p94).toNat).length : Int)))) rfl (p_lt rfl) rfl rfl ?_
                    refine lend ?_
                    refine nseq ?_
                    refine dseq ?_
                    refine dcond rfl rfl (fun k265 => ?_) (fun k265 => ?_)
                    · refine dskip ?_
                      refine nseq ?_
                      refine dseq ?_
                      refine dblock ?_
                      refine dseq ?_
                      refine dreg ?_
                      refine lpure (v := .int .i64 s232) rfl (p_move rfl) rfl rfl ?_
                      refine lpure (v := .int .i64 s232) rfl (p_assign rfl) rfl rfl ?_
                      refine lend ?_
                      refine nseq ?_
                      refine dseq ?_
                      refine dreg ?_
                      refine lpure (v := .func (.func 70) #[] #[.pointer (some ⟨b106, 0, none⟩)]) rfl (p_move rfl) rfl rfl ?_
                      refine lpure (v := .slice a176 n176 c176) rfl (p_move rfl) rfl rfl ?_
                      refine lpure (v := .int .i64 s232) rfl (p_move rfl) rfl rfl ?_
                      refine Sim.bindM fun e266 he267 => ?_
                      obtain ⟨p268, cs268, hp268, hF268, hR268⟩ := RSl.ia H176 he267 (kd := .i64) (n := 4) rfl
                      obtain rfl := eApiLink_el hR268
                      refine lpure (v := p268) rfl (p_ia rs_23 rfl) hp268 rfl ?_
                      refine lread (v := .agg #[.int .i64 e266.A, .int .i64 e266.B, .int .i64 e266.Per, .int .i64 e266.Delay]) rfl (q_load wd_50 rfl) (FP.ldw X263 hF268 rfl rfl) rfl ?_
                      refine linl rfl rfl rfl rfl ca_70 rfl Try.func70 rfl rfl rfl rfl rfl ?_
                      refine dseq ?_
                      refine dreg ?_
                      refine lbox rfl rfl rfl rfl rfl X263 (fun b269 h271 X272 => ?_)
                      refine lpure (v := .bool false) rfl (p_assign rfl) rfl rfl ?_
                      refine lend ?_
                      refine nseq ?_
                      refine dseq ?_
                      refine dreg ?_
                      refine lpure (v := .pointer (some ⟨b269, 0, none⟩)) rfl (p_fa fo_50_0 rfl) rfl rfl ?_
                      refine lread (v := .int .i64 e266.A) rfl (q_load wd_3 rfl) (St.ld X272 (j := 0) rfl rfl) rfl ?_
                      refine lpure (v := .pointer (some ⟨b106, 0, none⟩)) rfl (p_fa fo_50_0 rfl) rfl rfl ?_
                      refine lread (v := .int .i64 e103.A) rfl (q_load wd_3 rfl) (St.ld X272 (j := 2) rfl rfl) rfl ?_
                      refine lpure (v := .bool (decide (e266.A = e103.A))) rfl (p_eq rfl) rfl rfl ?_
                      refine lpure (v := .bool (decide (e266.A = e103.A))) rfl (p_move rfl) rfl rfl ?_
                      refine lsh (τ := Bool) (σ := Unit) (fun s274 (_ : Unit) => [(1, .pointer (some ⟨b106, 0, none⟩)), (2, .pointer (some ⟨b269, 0, none⟩)), (15, .bool s274)]) (fun s274 (_ : Unit) hh => St φ h.n hh ([(some b269, .cells [.int .i64 e266.A, .int .i64 e266.B, .int .i64 e266.Per, .int .i64 e266.Delay] 50 .exact), (some b112, .cells [.func (.func 65) #[] #[.pointer (some ⟨b95, 0, none⟩), .pointer (some ⟨b106, 0, none⟩)], .func (.func 66) #[] #[.pointer (some ⟨b95, 0, none⟩), .pointer (some ⟨b106, 0, none⟩)], .func (.func 67) #[] #[.pointer (some ⟨b106, 0, none⟩)], .func (.func 68) #[] #[.pointer (some ⟨b95, 0, none⟩), .pointer (some ⟨b99, 0, none⟩), .pointer (some ⟨b106, 0, none⟩)]] 85 .exact), (some b106, .cells [.int .i64 e103.A, .int .i64 e103.B, .int .i64 e103.Per, .int .i64 e103.Delay] 50 .exact), (some b99, .cells [.int .i64 p94] 3 .exact), (some b95, .cells [.int .i64 p91.Nodes, .slice a92 n92 c92, .slice a93 n93 c93] 25 .exact)])) 6 ?_ ?_
                      · rintro s274 _ t0 h276 X275
                        refine lpure (v := .bool s274) rfl (p_move rfl) rfl rfl ?_
                        refine lsh (τ := Bool) (σ := Unit) (fun s278 (_ : Unit) => [(29, .bool s278)]) (fun s278 (_ : Unit) hh => St φ h.n hh ([(some b269, .cells [.int .i64 e266.A, .int .i64 e266.B, .int .i64 e266.Per, .int .i64 e266.Delay] 50 .exact), (some b112, .cells [.func (.func 65) #[] #[.pointer (some ⟨b95, 0, none⟩), .pointer (some ⟨b106, 0, none⟩)], .func (.func 66) #[] #[.pointer (some ⟨b95, 0, none⟩), .pointer (some ⟨b106, 0, none⟩)], .func (.func 67) #[] #[.pointer (some ⟨b106, 0, none⟩)], .func (.func 68) #[] #[.pointer (some ⟨b95, 0, none⟩), .pointer (some ⟨b99, 0, none⟩), .pointer (some ⟨b106, 0, none⟩)]] 85 .exact), (some b106, .cells [.int .i64 e103.A, .int .i64 e103.B, .int .i64 e103.Per, .int .i64 e103.Delay] 50 .exact), (some b99, .cells [.int .i64 p94] 3 .exact), (some b95, .cells [.int .i64 p91.Nodes, .slice a92 n92 c92, .slice a93 n93 c93] 25 .exact)])) 13 ?_ ?_
                        · rintro s278 _ t0 h280 X279
                          refine lpure (v := .bool s278) rfl (p_assign rfl) rfl rfl ?_
                          refine lend ?_
                          refine nseq ?_
                          refine dret ?_
                          refine kin_r (res_1 resT) ?_
                          refine lend ?_
                          refine nseq ?_
                          refine dcond rfl rfl (fun k281 => ?_) (fun k281 => ?_)
                          · refine dseq ?_
                            refine dreg ?_
                            refine lpure (v := .int .i64 s232) rfl (p_move rfl) rfl rfl ?_
                            refine lpure (v := .int .i64 s232) rfl (p_assign rfl) rfl rfl ?_
                            refine lend ?_
                            refine nseq ?_
                            refine dret ?_
                            refine rblock ?_
                            refine rseq ?_
                            refine rloop ?_
                            refine rblock ?_
                            refine rseq ?_
                            refine kin_r (res_1 resT) ?_
                            refine lpure (v := .bool (decide (0 ≤ s232))) rfl (p_ge rfl) rfl rfl ?_
                            refine lpure (v := .bool (decide (0 ≤ s232))) rfl (p_assign rfl) rfl rfl ?_
                            refine lend ?_
                            refine nseq ?_
                            refine dret ?_
                            refine kin_r (res_1 resT) ?_
                            refine lpure (v := .bool (!(decide (0 ≤ s232)))) rfl (p_not rfl) rfl rfl ?_
                            refine lpure (v := .bool (!(decide (0 ≤ s232)))) rfl (p_assign rfl) rfl rfl ?_
                            refine lend ?_
                            refine nseq ?_
                            refine dret ?_
                            refine kin_r (res_1 resT) ?_
                            refine lpure (v := .bool (!(!(decide (0 ≤ s232))))) rfl (p_not rfl) rfl rfl ?_
                            refine lend ?_
                            refine nseq ?_
                            refine dcond rfl rfl (fun k282 => ?_) (fun k282 => ?_)
                            · refine dseq ?_
                              refine dreg ?_
                              refine lpure (v := .bool false) rfl (p_assign rfl) rfl rfl ?_
                              refine lend ?_
                              refine nseq ?_
                              refine dret ?_
                              refine rblock ?_
                              refine rseq ?_
                              refine rloop ?_
                              refine rblock ?_
                              refine rseq ?_
                              exact kcut_r (res_1 resT) X279 rfl rfl
                            · refine dskip ?_
                              refine nblock ?_
                              refine nseq ?_
                              refine dreg ?_
                              refine lpure (v := .int .i64 4) rfl (p_add rfl) rfl rfl ?_
                              refine lpure (v := .int .i64 4) rfl (p_move rfl) rfl rfl ?_
                              refine lend ?_
                              refine nunroll 999995 rfl ?_
                              refine dseq ?_
                              refine dreg ?_
                              refine lpure (v := .bool false) rfl (p_lt rfl) rfl rfl ?_
                              refine lend ?_
                              refine nseq ?_
                              refine dseq ?_
                              refine dcondF rfl rfl ?_
                              refine dexit ?_
                              refine eseq ?_
                              refine eloop ?_
                              refine xblock ?_
                              refine nseq ?_
                              refine dseq ?_
                              refine dreg ?_
                              refine lpure (v := .bool true) rfl (p_assign rfl) rfl rfl ?_
                              refine lend ?_
                              refine nseq ?_
                              refine dret ?_
                              exact kcut_r (res_1 resT) X279 rfl rfl
                          · refine dskip ?_
                            refine nblock ?_
                            refine nseq ?_
                            refine dreg ?_
                            refine lpure (v := .int .i64 (w64 (s232 + 1))) rfl (p_add rfl) rfl rfl ?_
                            refine lpure (v := .int .i64 (w64 (s232 + 1))) rfl (p_move rfl) rfl rfl ?_
                            refine lend ?_
                            exact kbackM ih261 (w64 (s232 + 1)) () (sub_cons rfl (sub_cons rfl (sub_cons rfl (sub_cons rfl sub_nil)))) (St.pick X279 (.skip _ (.keep _ (.keep _ (.keep _ (.keep _ (.nil _)))))))
                        · intro j283 J284
                          refine lcase (i := 16) (show _ = Value.bool s274 from rfl) (fun k285 => ?_) (fun k285 => ?_)
                          · refine lskip rfl rfl ?_
                            refine lskip rfl rfl ?_
                            refine lskip rfl rfl ?_
                            refine lskip rfl rfl ?_
                            refine lskip rfl rfl ?_
                            refine lskip rfl rfl ?_
                            refine lskip rfl rfl ?_
                            refine lskip rfl rfl ?_
                            refine lskip rfl rfl ?_
                            refine lskip rfl rfl ?_
                            refine lskip rfl rfl ?_
                            refine lskip rfl rfl ?_
                            refine lpure (v := .bool true) rfl (p_pick rfl) rfl rfl ?_
                            refine Sim.of_eq (congrArg j283 (show (s274 || ((decide (e266.A = e103.B)) && (decide (e266.B = e103.A)))) = true from by rw [k285] <;> rfl)) ?_
                            exact ljmpM J284 true () (sub_cons rfl sub_nil) X275
                          · refine lpure (v := .pointer (some ⟨b269, 0, none⟩)) rfl (p_fa fo_50_0 rfl) rfl rfl ?_
                            refine lread (v := .int .i64 e266.A) rfl (q_load wd_3 rfl) (St.ld X275 (j := 0) rfl rfl) rfl ?_
                            refine lpure (v := .pointer (some ⟨b106, 1, none⟩)) rfl (p_fa fo_50_1 rfl) rfl rfl ?_
                            refine lread (v := .int .i64 e103.B) rfl (q_load wd_3 rfl) (St.ld X275 (j := 2) rfl rfl) rfl ?_
                            refine lpure (v := .bool (decide (e266.A = e103.B))) rfl (p_eq rfl) rfl rfl ?_
                            refine lpure (v := .bool (decide (e266.A = e103.B))) rfl (p_move rfl) rfl rfl ?_
                            refine lcase (i := 22) (show _ = Value.bool (decide (e266.A = e103.B)) from rfl) (fun k286 => ?_) (fun k286 => ?_)
                            · refine lpure (v := .pointer (some ⟨b269, 1, none⟩)) rfl (p_fa fo_50_1 rfl) rfl rfl ?_
                              refine lread (v := .int .i64 e266.B) rfl (q_load wd_3 rfl) (St.ld X275 (j := 0) rfl rfl) rfl ?_
                              refine lpure (v := .pointer (some ⟨b106, 0, none⟩)) rfl (p_fa fo_50_0 rfl) rfl rfl ?_
                              refine lread (v := .int .i64 e103.A) rfl (q_load wd_3 rfl) (St.ld X275 (j := 2) rfl rfl) rfl ?_
                              refine lpure (v := .bool (decide (e266.B = e103.A))) rfl (p_eq rfl) rfl rfl ?_
                              refine lpure (v := .bool (decide (e266.B = e103.A))) rfl (p_pick rfl) rfl rfl ?_
                              refine lpure (v := .bool (decide (e266.B = e103.A))) rfl (p_pick rfl) rfl rfl ?_
                              refine Sim.of_eq (congrArg j283 (show (s274 || ((decide (e266.A = e103.B)) && (decide (e266.B = e103.A)))) = (decide (e266.B = e103.A)) from by rw [k285, k286] <;> rfl)) ?_
                              exact ljmpM J284 (decide (e266.B = e103.A)) () (sub_cons rfl sub_nil) X275
                            · refine lskip rfl rfl ?_
                              refine lskip rfl rfl ?_
                              refine lskip rfl rfl ?_
                              refine lskip rfl rfl ?_
                              refine lskip rfl rfl ?_
                              refine lpure (v := .bool false) rfl (p_pick rfl) rfl rfl ?_
                              refine lpure (v := .bool false) rfl (p_pick rfl) rfl rfl ?_
                              refine Sim.of_eq (congrArg j283 (show (s274 || ((decide (e266.A = e103.B)) && (decide (e266.B = e103.A)))) = false from by rw [k285, k286] <;> rfl)) ?_
                              exact ljmpM J284 false () (sub_cons rfl sub_nil) X275
                      · intro j287 J288
                        refine lcase (i := 9) (show _ = Value.bool (decide (e266.A = e103.A)) from rfl) (fun k289 => ?_) (fun k289 => ?_)
                        · refine lpure (v := .pointer (some ⟨b269, 1, none⟩)) rfl (p_fa fo_50_1 rfl) rfl rfl ?_
                          refine lread (v := .int .i64 e266.B) rfl (q_load wd_3 rfl) (St.ld X272 (j := 0) rfl rfl) rfl ?_
                          refine lpure (v := .pointer (some ⟨b106, 1, none⟩)) rfl (p_fa fo_50_1 rfl) rfl rfl ?_
                          refine lread (v := .int .i64 e103.B) rfl (q_load wd_3 rfl) (St.ld X272 (j := 2) rfl rfl) rfl ?_
                          refine lpure (v := .bool (decide (e266.B = e103.B))) rfl (p_eq rfl) rfl rfl ?_
                          refine lpure (v := .bool (decide (e266.B = e103.B))) rfl (p_pick rfl) rfl rfl ?_
                          refine Sim.of_eq (congrArg j287 (show ((decide (e266.A = e103.A)) && (decide (e266.B = e103.B))) = (decide (e266.B = e103.B)) from by rw [k289] <;> rfl)) ?_
                          exact ljmpM J288 (decide (e266.B = e103.B)) () (sub_cons rfl (sub_cons rfl (sub_cons rfl sub_nil))) X272
                        · refine lskip rfl rfl ?_
                          refine lskip rfl rfl ?_
                          refine lskip rfl rfl ?_
                          refine lskip rfl rfl ?_
                          refine lskip rfl rfl ?_
                          refine lpure (v := .bool false) rfl (p_pick rfl) rfl rfl ?_
                          refine Sim.of_eq (congrArg j287 (show ((decide (e266.A = e103.A)) && (decide (e266.B = e103.B))) = false from by rw [k289] <;> rfl)) ?_
                          exact ljmpM J288 false () (sub_cons rfl (sub_cons rfl (sub_cons rfl sub_nil))) X272
                    · refine dexit ?_
                      refine eseq ?_
                      refine eloop ?_
                      refine xblock ?_
                      refine nseq ?_
                      refine dseq ?_
                      refine dreg ?_
                      refine lpure (v := .int .i64 (-1)) rfl (p_assign rfl) rfl rfl ?_
                      refine lend ?_
                      refine nseq ?_
                      refine dret ?_
                      refine kin_r (res_1 resT) ?_
                      refine lpure (v := .bool false) rfl (p_ge rfl) rfl rfl ?_
                      refine lpure (v := .bool false) rfl (p_assign rfl) rfl rfl ?_
                      refine lend ?_
                      refine nseq ?_
                      refine dret ?_
                      refine kin_r (res_1 resT) ?_
                      refine lpure (v := .bool true) rfl (p_not rfl) rfl rfl ?_
                      refine lpure (v := .bool true) rfl (p_assign rfl) rfl rfl ?_
                      refine lend ?_
                      refine nseq ?_
                      refine dret ?_
                      refine kin_r (res_1 resT) ?_
                      refine lpure (v := .bool false) rfl (p_not rfl) rfl rfl ?_
                      refine lend ?_
                      refine nseq ?_
                      refine dcondF rfl rfl ?_
                      refine dskip ?_
                      refine nblock ?_
                      refine nseq ?_
                      refine dreg ?_
                      refine lpure (v := .int .i64 4) rfl (p_add rfl) rfl rfl ?_
                      refine lpure (v := .int .i64 4) rfl (p_move rfl) rfl rfl ?_
                      refine lend ?_
                      refine nunroll 999995 rfl ?_
                      refine dseq ?_
                      refine dreg ?_
                      refine lpure (v := .bool false) rfl (p_lt rfl) rfl rfl ?_
                      refine lend ?_
                      refine nseq ?_
                      refine dseq ?_
                      refine dcondF rfl rfl ?_
                      refine dexit ?_
                      refine eseq ?_
                      refine eloop ?_
                      refine xblock ?_
                      refine nseq ?_
                      refine dseq ?_
                      refine dreg ?_
                      refine lpure (v := .bool true) rfl (p_assign rfl) rfl rfl ?_
                      refine lend ?_
                      refine nseq ?_
                      refine dret ?_
                      exact kcut_r (res_1 resT) X263 rfl rfl
                · intro j290 J291
                  refine lcase (i := 15) (show _ = Value.bool s168 from rfl) (fun k292 => ?_) (fun k292 => ?_)
                  · refine lpure (v := .pointer (some ⟨b106, 3, none⟩)) rfl (p_fa fo_50_3 rfl) rfl rfl ?_
                    refine lread (v := .int .i64 e103.Delay) rfl (q_load wd_3 rfl) (St.ld X169 (j := 1) rfl rfl) rfl ?_
                    refine lpure (v := .bool (decide (e103.Delay ≤ 10000))) rfl (p_le rfl) rfl rfl ?_
                    refine lpure (v := .bool (decide (e103.Delay ≤ 10000))) rfl (p_pick rfl) rfl rfl ?_
                    refine Sim.of_eq (congrArg j290 (show (s168 && (decide (e103.Delay ≤ 10000))) = (decide (e103.Delay ≤ 10000)) from by rw [k292] <;> rfl)) ?_
                    exact ljmpM J291 (decide (e103.Delay ≤ 10000)) () (sub_cons rfl sub_nil) X169
                  · refine lskip rfl rfl ?_
                    refine lskip rfl rfl ?_
                    refine lskip rfl rfl ?_
                    refine lpure (v := .bool false) rfl (p_pick rfl) rfl rfl ?_
                    refine Sim.of_eq (congrArg j290 (show (s168 && (decide (e103.Delay ≤ 10000))) = false from by rw [k292] <;> rfl)) ?_
                    exact ljmpM J291 false () (sub_cons rfl sub_nil) X169
              · intro j293 J294
                refine lcase (i := 10) (show _ = Value.bool s164 from rfl) (fun k295 => ?_) (fun k295 => ?_)
                · refine lpure (v := .pointer (some ⟨b106, 3, none⟩)) rfl (p_fa fo_50_3 rfl) rfl rfl ?_
                  refine lread (v := .int .i64 e103.Delay) rfl (q_load wd_3 rfl) (St.ld X165 (j := 1) rfl rfl) rfl ?_
                  refine lpure (v := .bool (decide (0 ≤ e103.Delay))) rfl (p_ge rfl) rfl rfl ?_
                  refine lpure (v := .bool (decide (0 ≤ e103.Delay))) rfl (p_pick rfl) rfl rfl ?_
                  refine Sim.of_eq (congrArg j293 (show (s164 && (decide (0 ≤ e103.Delay))) = (decide (0 ≤ e103.Delay)) from by rw [k295] <;> rfl)) ?_
                  exact ljmpM J294 (decide (0 ≤ e103.Delay)) () (sub_cons rfl (sub_cons rfl sub_nil)) X165
                · refine lskip rfl rfl ?_
                  refine lskip rfl rfl ?_
                  refine lskip rfl rfl ?_
                  refine lpure (v := .bool false) rfl (p_pick rfl) rfl rfl ?_
                  refine Sim.of_eq (congrArg j293 (show (s164 && (decide (0 ≤ e103.Delay))) = false from by rw [k295] <;> rfl)) ?_
                  exact ljmpM J294 false () (sub_cons rfl (sub_cons rfl sub_nil)) X165
            · intro j296 J297
              refine lcase (i := 5) (show _ = Value.bool (decide (1 ≤ e103.Per)) from rfl) (fun k298 => ?_) (fun k298 => ?_)
              · refine lpure (v := .pointer (some ⟨b106, 2, none⟩)) rfl (p_fa fo_50_2 rfl) rfl rfl ?_
                refine lread (v := .int .i64 e103.Per) rfl (q_load wd_3 rfl) (St.ld X160 (j := 1) rfl rfl) rfl ?_
                refine lpure (v := .bool (decide (e103.Per ≤ 1000))) rfl (p_le rfl) rfl rfl ?_
                refine lpure (v := .bool (decide (e103.Per ≤ 1000))) rfl (p_pick rfl) rfl rfl ?_
                refine Sim.of_eq (congrArg j296 (show ((decide (1 ≤ e103.Per)) && (decide (e103.Per ≤ 1000))) = (decide (e103.Per ≤ 1000)) from by rw [k298] <;> rfl)) ?_
                exact ljmpM J297 (decide (e103.Per ≤ 1000)) () (sub_cons rfl (sub_cons rfl sub_nil)) X160
              · refine lskip rfl rfl ?_
                refine lskip rfl rfl ?_
                refine lskip rfl rfl ?_
                refine lpure (v := .bool false) rfl (p_pick rfl) rfl rfl ?_
                refine Sim.of_eq (congrArg j296 (show ((decide (1 ≤ e103.Per)) && (decide (e103.Per ≤ 1000))) = false from by rw [k298] <;> rfl)) ?_
                exact ljmpM J297 false () (sub_cons rfl (sub_cons rfl sub_nil)) X160
        · intro j299 J300
          refine lif (i := 10) (show _ = Value.bool (!e151) from rfl) (fun k301 => ?_) (fun k301 => ?_)
          · refine lskip rfl rfl ?_
            refine lskip rfl rfl ?_
            refine lskip rfl rfl ?_
            refine lskip rfl rfl ?_
            refine lskip rfl rfl ?_
            refine lskip rfl rfl ?_
            refine lskip rfl rfl ?_
            refine lpure (v := .bool true) rfl (p_pick rfl) rfl rfl ?_
            exact ljmpM J300 true () (sub_cons rfl sub_nil) X148
          · refine lpure (v := .pointer (some ⟨b95, 1, none⟩)) rfl (p_fa fo_25_1 rfl) rfl rfl ?_
            refine lread (v := .slice a92 n92 c92) rfl (q_load wd_22 rfl) (St.ld X148 (j := 3) rfl rfl) rfl ?_
            refine lpure (v := .pointer (some ⟨b106, 1, none⟩)) rfl (p_fa fo_50_1 rfl) rfl rfl ?_
            refine lread (v := .int .i64 e103.B) rfl (q_load wd_3 rfl) (St.ld X148 (j := 1) rfl rfl) rfl ?_
            refine Sim.bindM fun e302 he303 => ?_
            obtain ⟨p304, cs304, hp304, hF304, hR304⟩ := RSl.ia H92 he303 (kd := .i64) (n := 1) rfl
            have hR304 : _ = [(.bool e302 : Value)] := hR304
            subst hR304
            refine lpure (v := p304) rfl (p_ia rs_22 rfl) hp304 rfl ?_
            refine lread (v := .bool e302) rfl (q_load wd_4 rfl) (FP.ld X148 hF304) rfl ?_
            refine lpure (v := .bool (!e302)) rfl (p_not rfl) rfl rfl ?_
            refine lpure (v := .bool (!e302)) rfl (p_pick rfl) rfl rfl ?_
            exact ljmpM J300 (!e302) () (sub_cons rfl sub_nil) X148
    · intro j305 J306
      refine lcase (i := 13) (show _ = Value.bool s143 from rfl) (fun k307 => ?_) (fun k307 => ?_)
      · refine lpure (v := .pointer (some ⟨b106, 0, none⟩)) rfl (p_fa fo_50_0 rfl) rfl rfl ?_
        refine lread (v := .int .i64 e103.A) rfl (q_load wd_3 rfl) (St.ld X144 (j := 1) rfl rfl) rfl ?_
        refine lpure (v := .pointer (some ⟨b106, 1, none⟩)) rfl (p_fa fo_50_1 rfl) rfl rfl ?_
        refine lread (v := .int .i64 e103.B) rfl (q_load wd_3 rfl) (St.ld X144 (j := 1) rfl rfl) rfl ?_
        refine lpure (v := .bool (decide (e103.A ≠ e103.B))) rfl (p_ne rfl) rfl rfl ?_
        refine lpure (v := .bool (decide (e103.A ≠ e103.B))) rfl (p_pick rfl) rfl rfl ?_
        refine Sim.of_eq (congrArg j305 (show (s143 && (decide (e103.A ≠ e103.B))) = (decide (e103.A ≠ e103.B)) from by rw [k307] <;> rfl)) ?_
        exact ljmpM J306 (decide (e103.A ≠ e103.B)) () (sub_cons rfl sub_nil) X144
      · refine lskip rfl rfl ?_
        refine lskip rfl rfl ?_
        refine lskip rfl rfl ?_
        refine lskip rfl rfl ?_
        refine lskip rfl rfl ?_
        refine lpure (v := .bool false) rfl (p_pick rfl) rfl rfl ?_
        refine Sim.of_eq (congrArg j305 (show (s143 && (decide (e103.A ≠ e103.B))) = false from by rw [k307] <;> rfl)) ?_
        exact ljmpM J306 false () (sub_cons rfl sub_nil) X144
  · intro j308 J309
    refine lif (i := 7) (show _ = Value.bool e133 from rfl) (fun k310 => ?_) (fun k310 => ?_)
    · refine lread (v := .agg #[.int .i64 p91.Nodes, .slice a92 n92 c92, .slice a93 n93 c93]) rfl (q_load wd_25 rfl) (St.ld X117 (j := 3) rfl rfl) rfl ?_
      refine lpure (v := .pointer (some ⟨b106, 1, none⟩)) rfl (p_fa fo_50_1 rfl) rfl rfl ?_
      refine lread (v := .int .i64 e103.B) rfl (q_load wd_3 rfl) (St.ld X117 (j := 1) rfl rfl) rfl ?_
      refine lcall rfl rfl ca_39 rfl rfl (f39_ok X117 p91 (e103.B) H92 H93) rfl (fun e311 v312 h313 hq314 => ?_)
      cases hq314
      refine lpure (v := .bool e311) rfl (p_pick rfl) rfl rfl ?_
      exact ljmpM J309 e311 () (sub_cons rfl (sub_cons rfl sub_nil)) X117
    · refine lskip rfl rfl ?_
      refine lskip rfl rfl ?_
      refine lskip rfl rfl ?_
      refine lskip rfl rfl ?_
      refine lpure (v := .bool false) rfl (p_pick rfl) rfl rfl ?_
      exact ljmpM J309 false () (sub_cons rfl (sub_cons rfl sub_nil)) X117
/-! (isochron/topo.end).from -/
theorem f41_ok {n : Nat} {φ : Fz} {lo : Nat} {h : Heap} {own : OwnL}  (X : St φ lo h (own)) (p381 : TopoEnd) : Sim ((recN Try.prog LL cutF (n + 1)).call 41 #[(.agg #[.int .i64 p381.Link.A, .int .i64 p381.Link.B, .int .i64 p381.Link.Per, .int .i64 p381.Link.Delay, .int .i64 p381.port])] h) (m_topo_end_from p381) (fun (d : Int) p => p = (.int .i64 d, h)) := by
  refine fcut Try.func41 rfl rfl rfl rfl X ?_
  intro h0 X0
  refine dseq ?_
  refine dreg ?_
  refine lbox rfl rfl rfl rfl rfl X0 (fun b382 h384 X385 => ?_)
  refine lpure (v := .int .i64 0) rfl (p_assign rfl) rfl rfl ?_
  refine lend ?_
  refine nseq ?_
  refine dseq ?_
  refine dseq ?_
  refine dreg ?_
  refine lpure (v := .pointer (some ⟨b382, 4, none⟩)) rfl (p_fa fo_65_1 rfl) rfl rfl ?_
  refine lread (v := .int .i64 p381.port) rfl (q_load wd_3 rfl) (St.ld X385 (j := 0) rfl rfl) rfl ?_
  refine lpure (v := .int .i64 (Int.tmod p381.port 2)) rfl (p_rem rfl) rfl rfl ?_
  refine lpure (v := .bool (decide ((Int.tmod p381.port 2) = 0))) rfl (p_eq rfl) rfl rfl ?_
  refine lend ?_
  refine nseq ?_
  refine dcond rfl rfl (fun k386 => ?_) (fun k386 => ?_)
  · refine dseq ?_
    refine dreg ?_
    refine lpure (v := .pointer (some ⟨b382, 0, none⟩)) rfl (p_fa fo_65_0 rfl) rfl rfl ?_
    refine lpure (v := .pointer (some ⟨b382, 0, none⟩)) rfl (p_fa fo_50_0 rfl) rfl rfl ?_
    refine lread (v := .int .i64 p381.Link.A) rfl (q_load wd_3 rfl) (St.ld X385 (j := 0) rfl rfl) rfl ?_
    refine lpure (v := .int .i64 p381.Link.A) rfl (p_assign rfl) rfl rfl ?_
    refine lend ?_
    refine nseq ?_
    refine dret ?_
    refine rseq ?_
    exact kcut_r (res_1 resT) X385 rfl rfl
  · refine dskip ?_
    refine nseq ?_
    refine dseq ?_
    refine dreg ?_
    refine lpure (v := .pointer (some ⟨b382, 0, none⟩)) rfl (p_fa fo_65_0 rfl) rfl rfl ?_
    refine lpure (v := .pointer (some ⟨b382, 1, none⟩)) rfl (p_fa fo_50_1 rfl) rfl rfl ?_
    refine lread (v := .int .i64 p381.Link.B) rfl (q_load wd_3 rfl) (St.ld X385 (j := 0) rfl rfl) rfl ?_
    refine lpure (v := .int .i64 p381.Link.B) rfl (p_assign rfl) rfl rfl ?_
    refine lend ?_
    refine nseq ?_
    refine dret ?_
    exact kcut_r (res_1 resT) X385 rfl rfl
/-! isochron/topo.degree -/
theorem f58_ok {n : Nat} {φ : Fz} {lo : Nat} {h : Heap} {own : OwnL}  {a330 : Option Addr} {n330 c330 : Nat} {a331 : Option Addr} {n331 c331 : Nat} (X : St φ lo h (own)) (p329 : ApiTopo) (p332 : Int) (H330 : RSl eBool φ (.slice a330 n330 c330) p329.Station) (H331 : RSl eApiLink φ (.slice a331 n331 c331) p329.Links) : Sim ((recN Try.prog LL cutF (n + 4)).call 58 #[(.agg #[.int .i64 p329.Nodes, .slice a330 n330 c330, .slice a331 n331 c331]), (.int .i64 p332)] h) (m_topo_degree p329 p332) (fun (d : Int) p => p = (.int .i64 d, h)) := by
  refine fcut Try.func58 rfl rfl rfl rfl X ?_
  intro h0 X0
  refine dseq ?_
  refine dreg ?_
  refine lbox rfl rfl rfl rfl rfl X0 (fun b333 h335 X336 => ?_)
  refine lbox rfl rfl rfl rfl rfl X336 (fun b337 h339 X340 => ?_)
  refine lpure (v := .int .i64 0) rfl (p_assign rfl) rfl rfl ?_
  refine lend ?_
  refine nseq ?_
  refine dseq ?_
  refine dreg ?_
  refine lalloc rfl tz_3 rfl rfl rfl X340 (fun b341 h343 X344 => ?_)
  refine lstore rfl ts_3 rfl rfl (j := 0) rfl rfl rfl rfl rfl rfl X344 (fun h345 X346 => ?_)
  refine lend ?_
  refine nseq ?_
  refine dseq ?_
  refine dseq ?_
  refine dreg ?_
  refine lread (v := .agg #[.int .i64 p329.Nodes, .slice a330 n330 c330, .slice a331 n331 c331]) rfl (q_load wd_25 rfl) (St.ld X346 (j := 2) rfl rfl) rfl ?_
  refine linl rfl rfl rfl rfl ca_40 rfl Try.func40 rfl rfl rfl rfl rfl ?_
  refine dseq ?_
  refine dreg ?_
  refine lbox rfl rfl rfl rfl rfl X346 (fun b347 h349 X350 => ?_)
  refine lpure (v := .nilFunc) rfl (p_assign rfl) rfl rfl ?_
  refine lend ?_
  refine nseq ?_
  refine dseq ?_
  refine dreg ?_
  refine lpure (v := .func (.func 62) #[] #[.pointer (some ⟨b347, 0, none⟩)]) rfl (p_makeFunc rfl) rfl rfl ?_
  refine lpure (v := .func (.func 62) #[] #[.pointer (some ⟨b347, 0, none⟩)]) rfl (p_assign rfl) rfl rfl ?_
  refine lend ?_
  refine nseq ?_
  refine dret ?_
  refine kin_r (res_1 resT) ?_
  refine lend ?_
  refine nseq ?_
  refine dblock ?_
  refine drange rfl rfl ca_62 Try.func62 rfl rfl X350 (fun _ => rfl) ?_
  intro l351 q352 df353 h355 Q354 X356
  refine dseq ?_
  refine dreg ?_
  refine lpure (v := .pointer (some ⟨b347, 2, none⟩)) rfl (p_fa fo_25_2 rfl) rfl rfl ?_
  refine lread (v := .slice a331 n331 c331) rfl (q_load wd_23 rfl) (St.ld X356 (j := 2) rfl rfl) rfl ?_
  refine lpure (v := .int .i64 (p329.Links.length : Int)) rfl (p_len rfl rfl rfl un_23 rfl) (RSl.lenC H331) rfl ?_
  refine lpure (v := .int .i64 0) rfl (p_move rfl) rfl rfl ?_
  refine lend ?_
  refine nseq ?_
  refine dblock ?_
  refine dloopM (τ := Int × Int) (σ := Unit) (fun s495 (_ : Unit) => [(0, .func (.yield l351) #[] #[]), (6, .slice a331 n331 c331), (7, .int .i64 (p329.Links.length : Int)), (8, .int .i64 s495.1)]) (fun s495 (_ : Unit) hh => St φ h.n hh ([(some l351, rdy q352), (none, .dead), (some b347, .cells [.int .i64 p329.Nodes, .slice a330 n330 c330, .slice a331 n331 c331] 25 .exact), (some b341, .cells [.int .i64 s495.2] 3 .exact), (some b337, .cells [.int .i64 p332] 3 .exact), (some b333, .cells [.int .i64 p329.Nodes, .slice a330 n330 c330, .slice a331 n331 c331] 25 .exact)])) (0, 0) () (sub_cons rfl (sub_cons rfl (sub_cons rfl (sub_cons rfl sub_nil)))) (St.pick X356 (.keep _ (.none _ (.skip _ (.keep _ (.keep _ (.keep _ (.keep _ (.nil _))))))))) ?_
  rintro n562 ih561 s495 _ t0 h564 X563
  refine dseq ?_
  refine dreg ?_
  refine lpure (v := .bool (decide (s495.1 < (p329.Links.length : Int)))) rfl (p_lt rfl) rfl rfl ?_
  refine lend ?_
  refine nseq ?_
  refine dseq ?_
  refine dcond rfl rfl (fun k565 => ?_) (fun k565 => ?_)
  · refine dskip ?_
    refine nseq ?_
    refine dseq ?_
    refine dblock ?_
    refine dseq ?_
    refine dreg ?_
    refine lpure (v := .int .i64 s495.1) rfl (p_move rfl) rfl rfl ?_
    refine Sim.bindM fun e566 he567 => ?_
    obtain ⟨p568, cs568, hp568, hF568, hR568⟩ := RSl.ia H331 he567 (kd := .i64) (n := 4) rfl
    obtain rfl := eApiLink_el hR568
    refine lpure (v := p568) rfl (p_ia rs_23 rfl) hp568 rfl ?_
    refine lread (v := .agg #[.int .i64 e566.A, .int .i64 e566.B, .int .i64 e566.Per, .int .i64 e566.Delay]) rfl (q_load wd_50 rfl) (FP.ldw X563 hF568 rfl rfl) rfl ?_
    refine lalloc rfl tz_50 rfl rfl rfl X563 (fun b569 h571 X572 => ?_)
    refine lpure (v := .int .i64 s495.1) rfl (p_assign rfl) rfl rfl ?_
    refine lstore rfl ts_50 rfl rfl (j := 0) rfl rfl rfl rfl rfl rfl X572 (fun h573 X574 => ?_)
    refine lend ?_
    refine nseq ?_
    refine dseq ?_
    refine dreg ?_
    refine lpure (v := .func (.yield l351) #[] #[]) rfl (p_move rfl) rfl rfl ?_
    refine lread (v := .agg #[.int .i64 e566.A, .int .i64 e566.B, .int .i64 e566.Per, .int .i64 e566.Delay]) rfl (q_load wd_50 rfl) (St.ld X574 (j := 0) rfl rfl) rfl ?_
    refine lpure (v := .int .i64 s495.1) rfl (p_move rfl) rfl rfl ?_
    refine lpure (v := .int .i64 (w64 (2 * s495.1))) rfl (p_mul rfl) rfl rfl ?_
    refine lpure (v := .agg #[.int .i64 e566.A, .int .i64 e566.B, .int .i64 e566.Per, .int .i64 e566.Delay, .int .i64 (w64 (2 * s495.1))]) rfl (p_build rfl) (build_st' tz_65 pl_65 rfl) rfl ?_
    refine lround rfl rfl rfl rfl rfl rfl X574 (j := 1) rfl Q354 rfl rfl rfl rfl rfl (fun t575 => ?_)
    refine dreg ?_
    refine lalloc rfl tz_65 rfl rfl rfl X574 (fun b576 h578 X579 => ?_)
    refine lstore rfl ts_65 rfl rfl (j := 0) rfl rfl rfl rfl rfl rfl X579 (fun h580 X581 => ?_)
    refine lend ?_
    refine basg X581 (j := 2) rfl (fun h582 X583 => ?_)
    refine dblock ?_
    refine dseq ?_
    refine ddraw 0 0 0 (by kernel_rfl) ?_
    refine sload (v := .agg #[.int .i64 e566.A, .int .i64 e566.B, .int .i64 e566.Per, .int .i64 e566.Delay, .int .i64 (w64 (2 * s495.1))]) rfl rfl (q_load wd_65 rfl) (St.ld X583 (j := 0) rfl rfl) (same_self 20 rfl) rfl ?_
    refine scall (en := fun d => (.int .i64 d)) rfl rfl ca_41 rfl rfl (f41_ok X583 ((TopoEnd.mk e566 (w64 (2 * s495.1))))) rfl (fun e584 => ?_)
    refine sload (v := .int .i64 p332) rfl rfl (q_load wd_3 rfl) (St.ld X583 (j := 6) rfl rfl) (same_self 20 rfl) rfl ?_
    refine spure (v := .bool (decide (e584 = p332))) rfl (p_eq rfl) (lo_t rfl (lo_t rfl rfl)) rfl rfl ?_
    refine send ?_
    refine nseq ?_
    refine djoinM (τ := Int) (σ := Unit) (fun s591 (_ : Unit) => []) (fun s591 (_ : Unit) hh => St φ h.n hh ([(some b576, .cells [.int .i64 e566.A, .int .i64 e566.B, .int .i64 e566.Per, .int .i64 e566.Delay, .int .i64 (w64 (2 * s495.1))] 65 .exact), (some b569, .cells [.int .i64 e566.A, .int .i64 e566.B, .int .i64 e566.Per, .int .i64 e566.Delay] 50 .exact), (some l351, bsy q352), (none, .dead), (some b347, .cells [.int .i64 p329.Nodes, .slice a330 n330 c330, .slice a331 n331 c331] 25 .exact), (some b341, .cells [.int .i64 s591] 3 .exact), (some b337, .cells [.int .i64 p332] 3 .exact), (some b333, .cells [.int .i64 p329.Nodes, .slice a330 n330 c330, .slice a331 n331 c331] 25 .exact)])) ?_ ?_
    · rintro s591 _ t0 h593 X592
      refine nblock ?_
      refine nrnd X592 (j := 2) rfl (fun h596 X597 => ?_)
      refine lpure (v := .bool false) rfl (p_not rfl) rfl rfl ?_
      refine lpure (v := .bool false) rfl (p_move rfl) rfl rfl ?_
      refine lpure (v := .func (.yield l351) #[] #[]) rfl (p_move rfl) rfl rfl ?_
      refine lread (v := .agg #[.int .i64 e566.A, .int .i64 e566.B, .int .i64 e566.Per, .int .i64 e566.Delay]) rfl (q_load wd_50 rfl) (St.ld X597 (j := 1) rfl rfl) rfl ?_
      refine lpure (v := .int .i64 s495.1) rfl (p_move rfl) rfl rfl ?_
      refine lpure (v := .int .i64 (w64 (2 * s495.1))) rfl (p_mul rfl) rfl rfl ?_
      refine lpure (v := .int .i64 (w64 ((w64 (2 * s495.1)) + 1))) rfl (p_add rfl) rfl rfl ?_
      refine lpure (v := .agg #[.int .i64 e566.A, .int .i64 e566.B, .int .i64 e566.Per, .int .i64 e566.Delay, .int .i64 (w64 ((w64 (2 * s495.1)) + 1))]) rfl (p_build rfl) (build_st' tz_65 pl_65 rfl) rfl ?_
      refine lround rfl rfl rfl rfl rfl rfl X597 (j := 2) rfl Q354 rfl rfl rfl rfl rfl (fun t598 => ?_)
      refine dreg ?_
      refine lalloc rfl tz_65 rfl rfl rfl X597 (fun b599 h601 X602 => ?_)
      refine lstore rfl ts_65 rfl rfl (j := 0) rfl rfl rfl rfl rfl rfl X602 (fun h603 X604 => ?_)
      refine lend ?_
      refine basg X604 (j := 3) rfl (fun h605 X606 => ?_)
      refine dblock ?_
      refine dseq ?_
      refine ddraw 0 0 0 (by kernel_rfl) ?_
      refine sload (v := .agg #[.int .i64 e566.A, .int .i64 e566.B, .int .i64 e566.Per, .int .i64 e566.Delay, .int .i64 (w64 ((w64 (2 * s495.1)) + 1))]) rfl rfl (q_load wd_65 rfl) (St.ld X606 (j := 0) rfl rfl) (same_self 20 rfl) rfl ?_
      refine scall (en := fun d => (.int .i64 d)) rfl rfl ca_41 rfl rfl (f41_ok X606 ((TopoEnd.mk e566 (w64 ((w64 (2 * s495.1)) + 1))))) rfl (fun e607 => ?_)
      refine sload (v := .int .i64 p332) rfl rfl (q_load wd_3 rfl) (St.ld X606 (j := 7) rfl rfl) (same_self 20 rfl) rfl ?_
      refine spure (v := .bool (decide (e607 = p332))) rfl (p_eq rfl) (lo_t rfl (lo_t rfl rfl)) rfl rfl ?_
      refine send ?_
      refine nseq ?_
      refine djoinM (τ := Int) (σ := Unit) (fun s614 (_ : Unit) => []) (fun s614 (_ : Unit) hh => St φ h.n hh ([(some b599, .cells [.int .i64 e566.A, .int .i64 e566.B, .int .i64 e566.Per, .int .i64 e566.Delay, .int .i64 (w64 ((w64 (2 * s495.1)) + 1))] 65 .exact), (some b576, .cells [.int .i64 e566.A, .int .i64 e566.B, .int .i64 e566.Per, .int .i64 e566.Delay, .int .i64 (w64 (2 * s495.1))] 65 .exact), (some b569, .cells [.int .i64 e566.A, .int .i64 e566.B, .int .i64 e566.Per, .int .i64 e566.Delay] 50 .exact), (some l351, bsy q352), (none, .dead), (some b347, .cells [.int .i64 p329.Nodes, .slice a330 n330 c330, .slice a331 n331 c331] 25 .exact), (some b341, .cells [.int .i64 s614] 3 .exact), (some b337, .cells [.int .i64 p332] 3 .exact), (some b333, .cells [.int .i64 p329.Nodes, .slice a330 n330 c330, .slice a331 n331 c331] 25 .exact)])) ?_ ?_
      · rintro s614 _ t0 h616 X615
        refine nblock ?_
        refine nrnd X615 (j := 3) rfl (fun h619 X620 => ?_)
        refine lpure (v := .bool false) rfl (p_not rfl) rfl rfl ?_
        refine lpure (v := .bool false) rfl (p_pick rfl) rfl rfl ?_
        refine lend ?_
        refine nseq ?_
        refine dcondF rfl rfl ?_
        refine dskip ?_
        refine nblock ?_
        refine nseq ?_
        refine dreg ?_
        refine lpure (v := .int .i64 (w64 (s495.1 + 1))) rfl (p_add rfl) rfl rfl ?_
        refine lpure (v := .int .i64 (w64 (s495.1 + 1))) rfl (p_move rfl) rfl rfl ?_
        refine lend ?_
        exact kbackM ih561 ((w64 (s495.1 + 1)), s614) () (sub_cons rfl (sub_cons rfl (sub_cons rfl (sub_cons rfl sub_nil)))) (St.pick X620 (.skip _ (.skip _ (.skip _ (.keep _ (.none _ (.skip _ (.keep _ (.keep _ (.keep _ (.keep _ (.nil _))))))))))))
      · intro j617 J618
        refine dcond rfl rfl (fun k611 => ?_) (fun k611 => ?_)
        · refine dreg ?_
          refine lread (v := .int .i64 s591) rfl (q_load wd_3 rfl) (St.ld X606 (j := 6) rfl rfl) rfl ?_
          refine lpure (v := .int .i64 (w64 (s591 + 1))) rfl (p_add rfl) rfl rfl ?_
          refine lstore rfl ts_3 rfl rfl (j := 6) rfl rfl rfl rfl rfl rfl X606 (fun h621 X622 => ?_)
          refine lend ?_
          exact jmpM J618 (w64 (s591 + 1)) () sub_nil (St.pick X622 (.keep _ (.keep _ (.keep _ (.keep _ (.none _ (.skip _ (.keep _ (.keep _ (.keep _ (.keep _ (.nil _))))))))))))
        · refine dskip ?_
          exact jmpM J618 s591 () sub_nil (St.pick X606 (.keep _ (.keep _ (.keep _ (.keep _ (.none _ (.skip _ (.keep _ (.keep _ (.keep _ (.keep _ (.nil _))))))))))))
    · intro j594 J595
      refine dcond rfl rfl (fun k588 => ?_) (fun k588 => ?_)
      · refine dreg ?_
        refine lread (v := .int .i64 s495.2) rfl (q_load wd_3 rfl) (St.ld X583 (j := 5) rfl rfl) rfl ?_
        refine lpure (v := .int .i64 (w64 (s495.2 + 1))) rfl (p_add rfl) rfl rfl ?_
        refine lstore rfl ts_3 rfl rfl (j := 5) rfl rfl rfl rfl rfl rfl X583 (fun h623 X624 => ?_)
        refine lend ?_
        exact jmpM J595 (w64 (s495.2 + 1)) () sub_nil (St.pick X624 (.keep _ (.keep _ (.keep _ (.none _ (.skip _ (.keep _ (.keep _ (.keep _ (.keep _ (.nil _)))))))))))
      · refine dskip ?_
        exact jmpM J595 s495.2 () sub_nil (St.pick X583 (.keep _ (.keep _ (.keep _ (.none _ (.skip _ (.keep _ (.keep _ (.keep _ (.keep _ (.nil _)))))))))))
  · refine dexit ?_
    refine eseq ?_
    refine eloop ?_
    refine xblock ?_
    refine kin_n res_0 ?_
    refine rend_n X563 (j := 0) rfl (fun h625 X626 => ?_)
    refine nblock ?_
    refine nseq ?_
    refine dseq ?_
    refine dreg ?_
    refine lread (v := .int .i64 s495.2) rfl (q_load wd_3 rfl) (St.ld X626 (j := 3) rfl rfl) rfl ?_
    refine lpure (v := .int .i64 s495.2) rfl (p_assign rfl) rfl rfl ?_
    refine lend ?_
    refine nseq ?_
    refine dret ?_
    exact kcut_r (res_1 resT) X626 rfl rfl
/-! (isochron/topo.end).to -/
theorem f42_ok {n : Nat} {φ : Fz} {lo : Nat} {h : Heap} {own : OwnL}  (X : St φ lo h (own)) (p717 : TopoEnd) : Sim ((recN Try.prog LL cutF (n + 2)).call 42 #[(.agg #[.int .i64 p717.Link.A, .int .i64 p717.Link.B, .int .i64 p717.Link.Per, .int .i64 p717.Link.Delay, .int .i64 p717.port])] h) (m_topo_end_to p717) (fun (d : Int) p => p = (.int .i64 d, h)) := by
  refine fcut Try.func42 rfl rfl rfl rfl X ?_
  intro h0 X0
  refine dseq ?_
  refine dreg ?_
  refine lbox rfl rfl rfl rfl rfl X0 (fun b718 h720 X721 => ?_)
  refine lpure (v := .int .i64 0) rfl (p_assign rfl) rfl rfl ?_
  refine lend ?_
  refine nseq ?_
  refine dseq ?_
  refine ddraw 0 0 0 (by kernel_rfl) ?_
  refine spure (v := .pointer (some ⟨b718, 0, none⟩)) rfl (p_fa fo_65_0 rfl) (lo_t (lo_own X721 (j := 0) (o := 0) (s := none) (f := 0) rfl) rfl) rfl rfl ?_
  refine spure (v := .pointer (some ⟨b718, 0, none⟩)) rfl (p_fa fo_50_0 rfl) (lo_t (lo_own X721 (j := 0) (o := 0) (s := none) (f := 0) rfl) rfl) rfl rfl ?_
  refine sload (v := .int .i64 p717.Link.A) rfl rfl (q_load wd_3 rfl) (St.ld X721 (j := 0) rfl rfl) (same_self 20 rfl) rfl ?_
  refine spure (v := .pointer (some ⟨b718, 0, none⟩)) rfl (p_fa fo_65_0 rfl) (lo_t (lo_own X721 (j := 0) (o := 0) (s := none) (f := 0) rfl) rfl) rfl rfl ?_
  refine spure (v := .pointer (some ⟨b718, 1, none⟩)) rfl (p_fa fo_50_1 rfl) (lo_t (lo_own X721 (j := 0) (o := 0) (s := none) (f := 0) rfl) rfl) rfl rfl ?_
  refine sload (v := .int .i64 p717.Link.B) rfl rfl (q_load wd_3 rfl) (St.ld X721 (j := 0) rfl rfl) (same_self 20 rfl) rfl ?_
  refine spure (v := .int .i64 (w64 (p717.Link.A + p717.Link.B))) rfl (p_add rfl) (lo_t rfl (lo_t rfl rfl)) rfl rfl ?_
  refine sload (v := .agg #[.int .i64 p717.Link.A, .int .i64 p717.Link.B, .int .i64 p717.Link.Per, .int .i64 p717.Link.Delay, .int .i64 p717.port]) rfl rfl (q_load wd_65 rfl) (St.ld X721 (j := 0) rfl rfl) (same_self 20 rfl) rfl ?_
  refine scall (en := fun d => (.int .i64 d)) rfl rfl ca_41 rfl rfl (f41_ok X721 p717) rfl (fun e722 => ?_)
  refine spure (v := .int .i64 (w64 ((w64 (p717.Link.A + p717.Link.B)) - e722))) rfl (p_sub rfl) (lo_t rfl (lo_t rfl rfl)) rfl rfl ?_
  refine spure (v := .int .i64 (w64 ((w64 (p717.Link.A + p717.Link.B)) - e722))) rfl (p_assign rfl) (lo_t rfl rfl) rfl rfl ?_
  refine send ?_
  refine nseq ?_
  refine dret ?_
  exact kcut_r (res_1 resT) X721 rfl rfl
/-! slices.Index[[]int,int] -/
theorem f52_ok {n : Nat} {φ : Fz} {lo : Nat} {h : Heap} {own : OwnL}  {a730 : Option Addr} {n730 c730 : Nat} (X : St φ lo h (own)) (p729 : (List Int)) (p731 : Int) (H730 : RSl (eInt .i64) φ (.slice a730 n730 c730) p729) : Sim ((recN Try.prog LL cutF (n + 1)).call 52 #[(.slice a730 n730 c730), (.int .i64 p731)] h) (m_slices_Index_int_int p729 p731) (fun (d : Int) p => p = (.int .i64 d, h)) := by
  refine fcut Try.func52 rfl rfl rfl rfl X ?_
  intro h0 X0
  refine dseq ?_
  refine dreg ?_
  refine lpure (v := .int .i64 0) rfl (p_assign rfl) rfl rfl ?_
  refine lend ?_
  refine nseq ?_
  refine dseq ?_
  refine dseq ?_
  refine dreg ?_
  refine lpure (v := .slice a730 n730 c730) rfl (p_move rfl) rfl rfl ?_
  refine lpure (v := .int .i64 (p729.length : Int)) rfl (p_len rfl rfl rfl un_28 rfl) (RSl.lenC H730) rfl ?_
  refine lpure (v := .int .i64 0) rfl (p_move rfl) rfl rfl ?_
  refine lend ?_
  refine nseq ?_
  refine dblock ?_
  refine dloopM (τ := Int) (σ := Unit) (fun s748 (_ : Unit) => [(0, .slice a730 n730 c730), (1, .int .i64 p731), (7, .int .i64 (p729.length : Int)), (8, .int .i64 s748)]) (fun s748 (_ : Unit) hh => St φ h.n hh ([])) 0 () (sub_cons rfl (sub_cons rfl (sub_cons rfl (sub_cons rfl sub_nil)))) X0 ?_
  rintro n758 ih757 s748 _ t0 h760 X759
  refine dseq ?_
  refine dreg ?_
  refine lpure (v := .bool (decide (s748 < (p729.length : Int)))) rfl (p_lt rfl) rfl rfl ?_
  refine lend ?_
  refine nseq ?_
  refine dseq ?_
  refine dcond rfl rfl (fun k761 => ?_) (fun k761 => ?_)
  · refine dskip ?_
    refine nseq ?_
    refine dseq ?_
    refine dblock ?_
    refine dseq ?_
    refine dreg ?_
    refine lpure (v := .int .i64 s748) rfl (p_move rfl) rfl rfl ?_
    refine lpure (v := .int .i64 s748) rfl (p_assign rfl) rfl rfl ?_
    refine lend ?_
    refine nseq ?_
    refine dseq ?_
    refine dreg ?_
    refine lpure (v := .int .i64 p731) rfl (p_move rfl) rfl rfl ?_
    refine lpure (v := .slice a730 n730 c730) rfl (p_move rfl) rfl rfl ?_
    refine lpure (v := .int .i64 s748) rfl (p_move rfl) rfl rfl ?_
    refine Sim.bindM fun e762 he763 => ?_
    obtain ⟨p764, cs764, hp764, hF764, hR764⟩ := RSl.ia H730 he763 (kd := .i64) (n := 1) rfl
    have hR764 : _ = [(.int .i64 e762 : Value)] := hR764
    subst hR764
    refine lpure (v := p764) rfl (p_ia rs_28 rfl) hp764 rfl ?_
    refine lread (v := .int .i64 e762) rfl (q_load wd_3 rfl) (FP.ld X759 hF764) rfl ?_
    refine lpure (v := .bool (decide (p731 = e762))) rfl (p_eq rfl) rfl rfl ?_
    refine lend ?_
    refine nseq ?_
    refine dcond rfl rfl (fun k765 => ?_) (fun k765 => ?_)
    · refine dseq ?_
      refine dreg ?_
      refine lpure (v := .int .i64 s748) rfl (p_move rfl) rfl rfl ?_
      refine lpure (v := .int .i64 s748) rfl (p_assign rfl) rfl rfl ?_
      refine lend ?_
      refine nseq ?_
      refine dret ?_
      refine rblock ?_
      refine rseq ?_
      refine rloop ?_
      refine rblock ?_
      refine rseq ?_
      exact kcut_r (res_1 resT) X759 rfl rfl
    · refine dskip ?_
      refine nblock ?_
      refine nseq ?_
      refine dreg ?_
      refine lpure (v := .int .i64 (w64 (s748 + 1))) rfl (p_add rfl) rfl rfl ?_
      refine lpure (v := .int .i64 (w64 (s748 + 1))) rfl (p_move rfl) rfl rfl ?_
      refine lend ?_
      exact kbackM ih757 (w64 (s748 + 1)) () (sub_cons rfl (sub_cons rfl (sub_cons rfl (sub_cons rfl sub_nil)))) X759
  · refine dexit ?_
    refine eseq ?_
    refine eloop ?_
    refine xblock ?_
    refine nseq ?_
    refine dseq ?_
    refine dreg ?_
    refine lpure (v := .int .i64 (-1)) rfl (p_assign rfl) rfl rfl ?_
    refine lend ?_
    refine nseq ?_
    refine dret ?_
    exact kcut_r (res_1 resT) X759 rfl rfl
/-! slices.Contains[[]int,int] -/
theorem f22_ok {n : Nat} {φ : Fz} {lo : Nat} {h : Heap} {own : OwnL}  {a727 : Option Addr} {n727 c727 : Nat} (X : St φ lo h (own)) (p726 : (List Int)) (p728 : Int) (H727 : RSl (eInt .i64) φ (.slice a727 n727 c727) p726) : Sim ((recN Try.prog LL cutF (n + 2)).call 22 #[(.slice a727 n727 c727), (.int .i64 p728)] h) (m_slices_Contains_int_int p726 p728) (fun (d : Bool) p => p = (.bool d, h)) := by
  refine fcut Try.func22 rfl rfl rfl rfl X ?_
  intro h0 X0
  refine dseq ?_
  refine dreg ?_
  refine lpure (v := .bool false) rfl (p_assign rfl) rfl rfl ?_
  refine lend ?_
  refine nseq ?_
  refine dseq ?_
  refine dreg ?_
  refine lpure (v := .slice a727 n727 c727) rfl (p_move rfl) rfl rfl ?_
  refine lpure (v := .int .i64 p728) rfl (p_move rfl) rfl rfl ?_
  refine lcall rfl rfl ca_52 rfl rfl (f52_ok X0 p726 p728 H727) rfl (fun e766 v767 h768 hq769 => ?_)
  cases hq769
  refine lpure (v := .bool (decide (0 ≤ e766))) rfl (p_ge rfl) rfl rfl ?_
  refine lpure (v := .bool (decide (0 ≤ e766))) rfl (p_assign rfl) rfl rfl ?_
  refine lend ?_
  refine nseq ?_
  refine dret ?_
  exact kcut_r (res_1 resT) X0 rfl rfl
/-! isochron/topo.reach -/
theorem f47_ok {n : Nat} {φ : Fz} {lo : Nat} {h : Heap} {own : OwnL}  {a3324 : Option Addr} {n3324 c3324 : Nat} {a3325 : Option Addr} {n3325 c3325 : Nat} {a3328 : Option Addr} {n3328 c3328 : Nat} (X : St φ lo h (own)) (p3323 : ApiTopo) (p3326 : Int) (p3327 : (List Int)) (H3324 : RSl eBool φ (.slice a3324 n3324 c3324) p3323.Station) (H3325 : RSl eApiLink φ (.slice a3325 n3325 c3325) p3323.Links) (H3328 : RSl (eInt .i64) φ (.slice a3328 n3328 c3328) p3327) : Sim ((recN Try.prog LL cutF (n + 5)).call 47 #[(.agg #[.int .i64 p3323.Nodes, .slice a3324 n3324 c3324, .slice a3325 n3325 c3325]), (.int .i64 p3326), (.slice a3328 n3328 c3328)] h) (m_topo_reach p3323 p3326 p3327) (fun (d : (List Bool)) p => ∃ φ2 : Fz, ∃ a5941 : Option Addr, ∃ n5941 : Nat, ∃ c5941 : Nat, ∃ ob5941 : Option Nat, ∃ blk5941 : Blk, Fz.le φ φ2 ∧ St φ2 lo p.2 ((ob5941, blk5941) :: own) ∧ p.1 = .slice a5941 n5941 c5941 ∧ OSl eBool φ2 4 ob5941 blk5941 (.slice a5941 n5941 c5941) d) := by
  refine fopen Try.func47 rfl rfl rfl rfl ?_
  refine dseq ?_
  refine dreg ?_
  refine lbox rfl rfl rfl rfl rfl X (fun b3329 h3331 X3332 => ?_)
  refine lbox rfl rfl rfl rfl rfl X3332 (fun b3333 h3335 X3336 => ?_)
  refine lpure (v := .slice none 0 0) rfl (p_assign rfl) rfl rfl ?_
  refine lend ?_
  refine nseq ?_
  refine dscope ?_
  refine dseq ?_
  refine dreg ?_
  refine lpure (v := .pointer (some ⟨b3329, 0, none⟩)) rfl (p_fa fo_25_0 rfl) rfl rfl ?_
  refine lread (v := .int .i64 p3323.Nodes) rfl (q_load wd_3 rfl) (St.ld X3336 (j := 1) rfl rfl) rfl ?_
  refine Sim.mustM fun k3337 => ?_
  have k3337 := of_decide_eq_true k3337
  obtain ⟨h3337, b3337, vs3337, hv3337, X3337, O3337⟩ := OSl.mk (E := eBool) (φ := φ) (a0 := false) (k := .i64) (k' := .i64) (l := p3323.Nodes) (c := p3323.Nodes) un_22 tb_4 rfl ts_4 rfl rfl tz_4 rfl rfl rfl (by omega) (by omega) (by omega) X3336
  refine lheap rfl (h_makeSlice rfl) hv3337 rfl ?_
  refine lalloc rfl tz_22 rfl rfl rfl X3337 (fun b3339 h3341 X3342 => ?_)
  refine lstore rfl ts_22 rfl rfl (j := 0) rfl rfl rfl rfl rfl rfl X3342 (fun h3343 X3344 => ?_)
  refine lend ?_
  refine nseq ?_
  refine dseq ?_
  refine dreg ?_
  refine lread (v := .slice (some ⟨b3337, 0, none⟩) (p3323.Nodes).toNat (p3323.Nodes).toNat) rfl (q_load wd_22 rfl) (St.ld X3344 (j := 0) rfl rfl) rfl ?_
  refine lpure (v := .int .i64 p3326) rfl (p_move rfl) rfl rfl ?_
  refine Sim.bindM fun e3345 he3346 => ?_
  obtain ⟨off3347, cs3347, hp3347, hc3347, hR3347, hl3347, hm3347, hs3347⟩ := OSl.iaC O3337 he3346 (kd := .i64) (n := 1) rfl
  have hR3347 : _ = [(.bool e3345 : Value)] := hR3347
  subst hR3347
  refine lpure (v := .pointer (some ⟨b3337, off3347, none⟩)) rfl (p_ia rs_22 rfl) hp3347 rfl ?_
  have O3350 := hs3347 [.bool true] (true) rfl
  refine lstore rfl ts_4 rfl rfl (j := 1) rfl hm3347 rfl rfl (ble_iff.2 hl3347) rfl X3344 (fun h3348 X3349 => ?_)
  refine lend ?_
  refine nseq ?_
  refine dseq ?_
  refine dlabel ?_
  refine nseq ?_
  refine dseq ?_
  refine dblock ?_
  refine dloopM (τ := (List Bool)) (σ := Option Addr × Nat × Nat × Option Nat × Blk) (fun s4644 (a4645, n4645, c4645, ob4645, blk4645) => [(3, .pointer (some ⟨b3329, 0, none⟩)), (5, .pointer (some ⟨b3333, 0, none⟩)), (7, .pointer (some ⟨b3339, 0, none⟩))]) (fun s4644 (a4645, n4645, c4645, ob4645, blk4645) hh => St φ lo hh ((some b3339, .cells [.slice a4645 n4645 c4645] 22 .exact) :: (ob4645, blk4645) :: (some b3333, .cells [.slice a3328 n3328 c3328] 28 .exact) :: (some b3329, .cells [.int .i64 p3323.Nodes, .slice a3324 n3324 c3324, .slice a3325 n3325 c3325] 25 .exact) :: own) ∧ OSl eBool φ 4 ob4645 blk4645 (.slice a4645 n4645 c4645) s4644) ((List.replicate (p3323.Nodes).toNat false).set (p3326).toNat true) ((some ⟨b3337, 0, none⟩), (p3323.Nodes).toNat, (p3323.Nodes).toNat, some b3337, (.cells (setAt vs3337 off3347 [.bool true]) 4 .exact)) (sub_cons rfl (sub_cons rfl (sub_cons rfl sub_nil))) ⟨X3349, O3350⟩ ?_
  rintro n5294 ih5293 s4644 ⟨a4645, n4645, c4645, ob4645, blk4645⟩ t0 h5296 ⟨X5295, O4645⟩
  refine dblock ?_
  refine dseq ?_
  refine dseq ?_
  refine dreg ?_
  refine lread (v := .agg #[.int .i64 p3323.Nodes, .slice a3324 n3324 c3324, .slice a3325 n3325 c3325]) rfl (q_load wd_25 rfl) (St.ld X5295 (j := 3) rfl rfl) rfl ?_
  refine linl rfl rfl rfl rfl ca_40 rfl Try.func40 rfl rfl rfl rfl rfl ?_
  refine dseq ?_
  refine dreg ?_
  refine lbox rfl rfl rfl rfl rfl X5295 (fun b5297 h5299 X5300 => ?_)
  refine lpure (v := .nilFunc) rfl (p_assign rfl) rfl rfl ?_
  refine lend ?_
  refine nseq ?_
  refine dseq ?_
  refine dreg ?_
  refine lpure (v := .func (.func 62) #[] #[.pointer (some ⟨b5297, 0, none⟩)]) rfl (p_makeFunc rfl) rfl rfl ?_
  refine lpure (v := .func (.func 62) #[] #[.pointer (some ⟨b5297, 0, none⟩)]) rfl (p_assign rfl) rfl rfl ?_
  refine lend ?_
  refine nseq ?_
  refine dret ?_
  refine kin_r (res_1 resT) ?_
  refine lend ?_
  refine nseq ?_
  refine dblock ?_
  refine drange rfl rfl ca_62 Try.func62 rfl rfl X5300 (fun _ => rfl) ?_
  intro l5301 q5302 df5303 h5305 Q5304 X5306
  refine dseq ?_
  refine dreg ?_
  refine lpure (v := .pointer (some ⟨b5297, 2, none⟩)) rfl (p_fa fo_25_2 rfl) rfl rfl ?_
  refine lread (v := .slice a3325 n3325 c3325) rfl (q_load wd_23 rfl) (St.ld X5306 (j := 2) rfl rfl) rfl ?_
  refine lpure (v := .int .i64 (p3323.Links.length : Int)) rfl (p_len rfl rfl rfl un_23 rfl) (RSl.lenC H3325) rfl ?_
  refine lpure (v := .int .i64 0) rfl (p_move rfl) rfl rfl ?_
  refine lend ?_
  refine nseq ?_
  refine dblock ?_
  refine dloopM (τ := Int × (List Bool)) (σ := Option Addr × Nat × Nat × Option Nat × Blk) (fun s5624 (a5625, n5625, c5625, ob5625, blk5625) => [(0, .func (.yield l5301) #[] #[]), (6, .slice a3325 n3325 c3325), (7, .int .i64 (p3323.Links.length : Int)), (8, .int .i64 s5624.1)]) (fun s5624 (a5625, n5625, c5625, ob5625, blk5625) hh => St φ lo hh ((some l5301, rdy q5302) :: (none, .dead) :: (some b5297, .cells [.int .i64 p3323.Nodes, .slice a3324 n3324 c3324, .slice a3325 n3325 c3325] 25 .exact) :: (some b3339, .cells [.slice a5625 n5625 c5625] 22 .exact) :: (ob5625, blk5625) :: (some b3333, .cells [.slice a3328 n3328 c3328] 28 .exact) :: (some b3329, .cells [.int .i64 p3323.Nodes, .slice a3324 n3324 c3324, .slice a3325 n3325 c3325] 25 .exact) :: own) ∧ OSl eBool φ 4 ob5625 blk5625 (.slice a5625 n5625 c5625) s5624.2) (0, s4644) (a4645, n4645, c4645, ob4645, blk4645) (sub_cons rfl (sub_cons rfl (sub_cons rfl (sub_cons rfl sub_nil)))) ⟨(St.pick X5306 (.keep _ (.none _ (.skip _ (.keep _ (.keep _ (.keep _ (.keep _ (.keep _ (.refl _)))))))))), O4645⟩ ?_
  rintro n5784 ih5783 s5624 ⟨a5625, n5625, c5625, ob5625, blk5625⟩ t0 h5786 ⟨X5785, O5625⟩
  refine dseq ?_
  refine dreg ?_
  refine lpure (v := .bool (decide (s5624.1 < (p3323.Links.length : Int)))) rfl (p_lt rfl) rfl rfl ?_
  refine lend ?_
  refine nseq ?_
  refine dseq ?_
  refine dcond rfl rfl (fun k5787 => ?_) (fun k5787 => ?_)
  · refine dskip ?_
    refine nseq ?_
    refine dseq ?_
    refine dblock ?_
    refine dseq ?_
    refine dreg ?_
    refine lpure (v := .int .i64 s5624.1) rfl (p_move rfl) rfl rfl ?_
    refine Sim.bindM fun e5788 he5789 => ?_
    obtain ⟨p5790, cs5790, hp5790, hF5790, hR5790⟩ := RSl.ia H3325 he5789 (kd := .i64) (n := 4) rfl
    obtain rfl := eApiLink_el hR5790
    refine lpure (v := p5790) rfl (p_ia rs_23 rfl) hp5790 rfl ?_
    refine lread (v := .agg #[.int .i64 e5788.A, .int .i64 e5788.B, .int .i64 e5788.Per, .int .i64 e5788.Delay]) rfl (q_load wd_50 rfl) (FP.ldw X5785 hF5790 rfl rfl) rfl ?_
    refine lalloc rfl tz_50 rfl rfl rfl X5785 (fun b5791 h5793 X5794 => ?_)
    refine lpure (v := .int .i64 s5624.1) rfl (p_assign rfl) rfl rfl ?_
    refine lstore rfl ts_50 rfl rfl (j := 0) rfl rfl rfl rfl rfl rfl X5794 (fun h5795 X5796 => ?_)
    refine lend ?_
    refine nseq ?_
    refine dseq ?_
    refine dreg ?_
    refine lpure (v := .func (.yield l5301) #[] #[]) rfl (p_move rfl) rfl rfl ?_
    refine lread (v := .agg #[.int .i64 e5788.A, .int .i64 e5788.B, .int .i64 e5788.Per, .int .i64 e5788.Delay]) rfl (q_load wd_50 rfl) (St.ld X5796 (j := 0) rfl rfl) rfl ?_
    refine lpure (v := .int .i64 s5624.1) rfl (p_move rfl) rfl rfl ?_
    refine lpure (v := .int .i64 (w64 (2 * s5624.1))) rfl (p_mul rfl) rfl rfl ?_
    refine lpure (v := .agg #[.int .i64 e5788.A, .int .i64 e5788.B, .int .i64 e5788.Per, .int .i64 e5788.Delay, .int .i64 (w64 (2 * s5624.1))]) rfl (p_build rfl) (build_st' tz_65 pl_65 rfl) rfl ?_
    refine lround rfl rfl rfl rfl rfl rfl X5796 (j := 1) rfl Q5304 rfl rfl rfl rfl rfl (fun t5797 => ?_)
    refine dreg ?_
    refine lalloc rfl tz_65 rfl rfl rfl X5796 (fun b5798 h5800 X5801 => ?_)
    refine lstore rfl ts_65 rfl rfl (j := 0) rfl rfl rfl rfl rfl rfl X5801 (fun h5802 X5803 => ?_)
    refine lend ?_
    refine basg X5803 (j := 2) rfl (fun h5804 X5805 => ?_)
    refine dblock ?_
    refine dseq ?_
    refine ddraw 0 0 0 (by kernel_rfl) ?_
    refine sload (v := .slice a5625 n5625 c5625) rfl rfl (q_load wd_22 rfl) (St.ld X5805 (j := 5) rfl rfl) (same_self 20 rfl) rfl ?_
    refine sload (v := .agg #[.int .i64 e5788.A, .int .i64 e5788.B, .int .i64 e5788.Per, .int .i64 e5788.Delay, .int .i64 (w64 (2 * s5624.1))]) rfl rfl (q_load wd_65 rfl) (St.ld X5805 (j := 0) rfl rfl) (same_self 20 rfl) rfl ?_
    refine scall (en := fun d => (.int .i64 d)) rfl rfl ca_41 rfl rfl (f41_ok X5805 ((TopoEnd.mk e5788 (w64 (2 * s5624.1))))) rfl (fun e5806 => ?_)
    refine Sim.bindM fun e5810 he5811 => ?_
    obtain ⟨b5812, vs5812, m5812, off5812, cs5812, rfl, rfl, hp5812, hc5812, hR5812, hl5812, hm5812, hs5812⟩ := OSl.ia O5625 he5811 (kd := .i64) (n := 1) rfl
    have hR5812 : _ = [(.bool e5810 : Value)] := hR5812
    subst hR5812
    refine spure (v := .pointer (some ⟨b5812, off5812, none⟩)) rfl (p_ia rs_22 rfl) (lo_t (lo_osl X5805 (j := 6) rfl O5625) (lo_t rfl rfl)) hp5812 rfl ?_
    refine sload (v := .bool e5810) rfl rfl (q_load wd_4 rfl) (St.ld X5805 (j := 6) rfl (rdE1 hc5812 (k := 0) rfl rfl)) (same_self 20 rfl) rfl ?_
    refine spure (v := .bool e5810) rfl (p_move rfl) (lo_t rfl rfl) rfl rfl ?_
    refine sjoinM (τ := Bool) (σ := Unit) (fun s5822 (_ : Unit) => [(5, .pointer (some ⟨b3333, 0, none⟩)), (7, .pointer (some ⟨b3339, 0, none⟩)), (8, .pointer (some ⟨b5798, 0, none⟩)), (30, .bool s5822)]) (fun s5822 (_ : Unit) hh => St φ lo hh ((some b5798, .cells [.int .i64 e5788.A, .int .i64 e5788.B, .int .i64 e5788.Per, .int .i64 e5788.Delay, .int .i64 (w64 (2 * s5624.1))] 65 .exact) :: (some b5791, .cells [.int .i64 e5788.A, .int .i64 e5788.B, .int .i64 e5788.Per, .int .i64 e5788.Delay] 50 .exact) :: (some l5301, bsy q5302) :: (none, .dead) :: (some b5297, .cells [.int .i64 p3323.Nodes, .slice a3324 n3324 c3324, .slice a3325 n3325 c3325] 25 .exact) :: (some b3339, .cells [.slice a5625 n5625 c5625] 22 .exact) :: (some b5812, .cells vs5812 4 m5812) :: (some b3333, .cells [.slice a3328 n3328 c3328] 28 .exact) :: (some b3329, .cells [.int .i64 p3323.Nodes, .slice a3324 n3324 c3324, .slice a3325 n3325 c3325] 25 .exact) :: own)) 7 13 ?_ ?_
    · rintro s5822 _ t0 h5824 X5823
      refine spure (v := .bool s5822) rfl (p_move rfl) (lo_t rfl rfl) rfl rfl ?_
      refine sjoinM (τ := Bool) (σ := Unit) (fun s5831 (_ : Unit) => [(7, .pointer (some ⟨b3339, 0, none⟩)), (8, .pointer (some ⟨b5798, 0, none⟩)), (38, .bool s5831)]) (fun s5831 (_ : Unit) hh => St φ lo hh ((some b5798, .cells [.int .i64 e5788.A, .int .i64 e5788.B, .int .i64 e5788.Per, .int .i64 e5788.Delay, .int .i64 (w64 (2 * s5624.1))] 65 .exact) :: (some b5791, .cells [.int .i64 e5788.A, .int .i64 e5788.B, .int .i64 e5788.Per, .int .i64 e5788.Delay] 50 .exact) :: (some l5301, bsy q5302) :: (none, .dead) :: (some b5297, .cells [.int .i64 p3323.Nodes, .slice a3324 n3324 c3324, .slice a3325 n3325 c3325] 25 .exact) :: (some b3339, .cells [.slice a5625 n5625 c5625] 22 .exact) :: (some b5812, .cells vs5812 4 m5812) :: (some b3333, .cells [.slice a3328 n3328 c3328] 28 .exact) :: (some b3329, .cells [.int .i64 p3323.Nodes, .slice a3324 n3324 c3324, .slice a3325 n3325 c3325] 25 .exact) :: own)) 7 21 ?_ ?_
      · rintro s5831 _ t0 h5833 X5832
        refine send ?_
        refine nseq ?_
        refine dcond rfl rfl (fun k5834 => ?_) (fun k5834 => ?_)
        · refine dseq ?_
          refine ddraw 16 16 0 (by kernel_rfl) ?_
          refine sload (v := .slice a5625 n5625 c5625) rfl rfl (q_load wd_22 rfl) (St.ld X5832 (j := 5) rfl rfl) (same_self 20 rfl) rfl ?_
          refine sload (v := .agg #[.int .i64 e5788.A, .int .i64 e5788.B, .int .i64 e5788.Per, .int .i64 e5788.Delay, .int .i64 (w64 (2 * s5624.1))]) rfl rfl (q_load wd_65 rfl) (St.ld X5832 (j := 0) rfl rfl) (same_self 20 rfl) rfl ?_
          refine scall (en := fun d => (.int .i64 d)) rfl rfl ca_42 rfl rfl (f42_ok X5832 ((TopoEnd.mk e5788 (w64 (2 * s5624.1))))) rfl (fun e5835 => ?_)
          refine Sim.bindM fun e5839 he5840 => ?_
          obtain ⟨off5841, cs5841, hp5841, hc5841, hR5841, hl5841, hm5841, hs5841⟩ := OSl.iaC O5625 he5840 (kd := .i64) (n := 1) rfl
          have hR5841 : _ = [(.bool e5839 : Value)] := hR5841
          subst hR5841
          refine spure (v := .pointer (some ⟨b5812, off5841, none⟩)) rfl (p_ia rs_22 rfl) (lo_t (lo_osl X5832 (j := 6) rfl O5625) (lo_t rfl rfl)) hp5841 rfl ?_
          have O5844 := hs5841 [.bool true] (true) rfl
          refine sstore rfl rfl ts_4 rfl rfl (j := 6) rfl hm5841 rfl rfl (ble_iff.2 hl5841) rfl X5832 (fun h5842 X5843 => ?_)
          refine send ?_
          refine nseq ?_
          refine dexit ?_
          refine eblock rfl ?_
          refine ernd X5843 (j := 2) rfl (fun h5845 X5846 => ?_)
          refine lpure (v := .bool true) rfl (p_not rfl) rfl rfl ?_
          refine lpure (v := .bool true) rfl (p_move rfl) rfl rfl ?_
          refine lskip rfl rfl ?_
          refine lskip rfl rfl ?_
          refine lskip rfl rfl ?_
          refine lskip rfl rfl ?_
          refine lskip rfl rfl ?_
          refine lskip rfl rfl ?_
          refine lskip rfl rfl ?_
          refine lskip rfl rfl ?_
          refine lpure (v := .bool true) rfl (p_pick rfl) rfl rfl ?_
          refine lend ?_
          refine nseq ?_
          refine dcondT rfl rfl ?_
          refine dret ?_
          refine rblock ?_
          refine rseq ?_
          refine rloop ?_
          refine rblock ?_
          refine kin_r res_0 ?_
          refine rend_d X5846 (j := 2) rfl (.inr ⟨_, rfl, rfl⟩) (fun h5847 X5848 => ?_)
          refine eblock rfl ?_
          refine eseq ?_
          refine xblock ?_
          exact kbackM ih5293 (s5624.2.set (e5835).toNat true) (a5625, n5625, c5625, some b5812, (.cells (setAt vs5812 off5841 [.bool true]) 4 m5812)) (sub_cons rfl (sub_cons rfl (sub_cons rfl sub_nil))) ⟨(St.pick X5848 (.skip _ (.skip _ (.skip _ (.skip _ (.skip _ (.keep _ (.keep _ (.keep _ (.keep _ (.refl _))))))))))), O5844⟩
        · refine dskip ?_
          refine nblock ?_
          refine nrnd X5832 (j := 2) rfl (fun h5849 X5850 => ?_)
          refine lpure (v := .bool false) rfl (p_not rfl) rfl rfl ?_
          refine lpure (v := .bool false) rfl (p_move rfl) rfl rfl ?_
          refine lpure (v := .func (.yield l5301) #[] #[]) rfl (p_move rfl) rfl rfl ?_
          refine lread (v := .agg #[.int .i64 e5788.A, .int .i64 e5788.B, .int .i64 e5788.Per, .int .i64 e5788.Delay]) rfl (q_load wd_50 rfl) (St.ld X5850 (j := 1) rfl rfl) rfl ?_
          refine lpure (v := .int .i64 s5624.1) rfl (p_move rfl) rfl rfl ?_
          refine lpure (v := .int .i64 (w64 (2 * s5624.1))) rfl (p_mul rfl) rfl rfl ?_
          refine lpure (v := .int .i64 (w64 ((w64 (2 * s5624.1)) + 1))) rfl (p_add rfl) rfl rfl ?_
          refine lpure (v := .agg #[.int .i64 e5788.A, .int .i64 e5788.B, .int .i64 e5788.Per, .int .i64 e5788.Delay, .int .i64 (w64 ((w64 (2 * s5624.1)) + 1))]) rfl (p_build rfl) (build_st' tz_65 pl_65 rfl) rfl ?_
          refine lround rfl rfl rfl rfl rfl rfl X5850 (j := 2) rfl Q5304 rfl rfl rfl rfl rfl (fun t5851 => ?_)
          refine dreg ?_
          refine lalloc rfl tz_65 rfl rfl rfl X5850 (fun b5852 h5854 X5855 => ?_)
          refine lstore rfl ts_65 rfl rfl (j := 0) rfl rfl rfl rfl rfl rfl X5855 (fun h5856 X5857 => ?_)
          refine lend ?_
          refine basg X5857 (j := 3) rfl (fun h5858 X5859 => ?_)
          refine dblock ?_
          refine dseq ?_
          refine ddraw 0 0 0 (by kernel_rfl) ?_
          refine sload (v := .slice a5625 n5625 c5625) rfl rfl (q_load wd_22 rfl) (St.ld X5859 (j := 6) rfl rfl) (same_self 20 rfl) rfl ?_
          refine sload (v := .agg #[.int .i64 e5788.A, .int .i64 e5788.B, .int .i64 e5788.Per, .int .i64 e5788.Delay, .int .i64 (w64 ((w64 (2 * s5624.1)) + 1))]) rfl rfl (q_load wd_65 rfl) (St.ld X5859 (j := 0) rfl rfl) (same_self 20 rfl) rfl ?_
          refine scall (en := fun d => (.int .i64 d)) rfl rfl ca_41 rfl rfl (f41_ok X5859 ((TopoEnd.mk e5788 (w64 ((w64 (2 * s5624.1)) + 1))))) rfl (fun e5860 => ?_)
          refine Sim.bindM fun e5864 he5865 => ?_
          obtain ⟨off5866, cs5866, hp5866, hc5866, hR5866, hl5866, hm5866, hs5866⟩ := OSl.iaC O5625 he5865 (kd := .i64) (n := 1) rfl
          have hR5866 : _ = [(.bool e5864 : Value)] := hR5866
          subst hR5866
          refine spure (v := .pointer (some ⟨b5812, off5866, none⟩)) rfl (p_ia rs_22 rfl) (lo_t (lo_osl X5859 (j := 7) rfl O5625) (lo_t rfl rfl)) hp5866 rfl ?_
          refine sload (v := .bool e5864) rfl rfl (q_load wd_4 rfl) (St.ld X5859 (j := 7) rfl (rdE1 hc5866 (k := 0) rfl rfl)) (same_self 20 rfl) rfl ?_
          refine spure (v := .bool e5864) rfl (p_move rfl) (lo_t rfl rfl) rfl rfl ?_
          refine sjoinM (τ := Bool) (σ := Unit) (fun s5876 (_ : Unit) => [(5, .pointer (some ⟨b3333, 0, none⟩)), (7, .pointer (some ⟨b3339, 0, none⟩)), (8, .pointer (some ⟨b5852, 0, none⟩)), (30, .bool s5876)]) (fun s5876 (_ : Unit) hh => St φ lo hh ((some b5852, .cells [.int .i64 e5788.A, .int .i64 e5788.B, .int .i64 e5788.Per, .int .i64 e5788.Delay, .int .i64 (w64 ((w64 (2 * s5624.1)) + 1))] 65 .exact) :: (some b5798, .cells [.int .i64 e5788.A, .int .i64 e5788.B, .int .i64 e5788.Per, .int .i64 e5788.Delay, .int .i64 (w64 (2 * s5624.1))] 65 .exact) :: (some b5791, .cells [.int .i64 e5788.A, .int .i64 e5788.B, .int .i64 e5788.Per, .int .i64 e5788.Delay] 50 .exact) :: (some l5301, bsy q5302) :: (none, .dead) :: (some b5297, .cells [.int .i64 p3323.Nodes, .slice a3324 n3324 c3324, .slice a3325 n3325 c3325] 25 .exact) :: (some b3339, .cells [.slice a5625 n5625 c5625] 22 .exact) :: (some b5812, .cells vs5812 4 m5812) :: (some b3333, .cells [.slice a3328 n3328 c3328] 28 .exact) :: (some b3329, .cells [.int .i64 p3323.Nodes, .slice a3324 n3324 c3324, .slice a3325 n3325 c3325] 25 .exact) :: own)) 7 13 ?_ ?_
          · rintro s5876 _ t0 h5878 X5877
            refine spure (v := .bool s5876) rfl (p_move rfl) (lo_t rfl rfl) rfl rfl ?_
            refine sjoinM (τ := Bool) (σ := Unit) (fun s5885 (_ : Unit) => [(7, .pointer (some ⟨b3339, 0, none⟩)), (8, .pointer (some ⟨b5852, 0, none⟩)), (38, .bool s5885)]) (fun s5885 (_ : Unit) hh => St φ lo hh ((some b5852, .cells [.int .i64 e5788.A, .int .i64 e5788.B, .int .i64 e5788.Per, .int .i64 e5788.Delay, .int .i64 (w64 ((w64 (2 * s5624.1)) + 1))] 65 .exact) :: (some b5798, .cells [.int .i64 e5788.A, .int .i64 e5788.B, .int .i64 e5788.Per, .int .i64 e5788.Delay, .int .i64 (w64 (2 * s5624.1))] 65 .exact) :: (some b5791, .cells [.int .i64 e5788.A, .int .i64 e5788.B, .int .i64 e5788.Per, .int .i64 e5788.Delay] 50 .exact) :: (some l5301, bsy q5302) :: (none, .dead) :: (some b5297, .cells [.int .i64 p3323.Nodes, .slice a3324 n3324 c3324, .slice a3325 n3325 c3325] 25 .exact) :: (some b3339, .cells [.slice a5625 n5625 c5625] 22 .exact) :: (some b5812, .cells vs5812 4 m5812) :: (some b3333, .cells [.slice a3328 n3328 c3328] 28 .exact) :: (some b3329, .cells [.int .i64 p3323.Nodes, .slice a3324 n3324 c3324, .slice a3325 n3325 c3325] 25 .exact) :: own)) 7 21 ?_ ?_
            · rintro s5885 _ t0 h5887 X5886
              refine send ?_
              refine nseq ?_
              refine dcond rfl rfl (fun k5888 => ?_) (fun k5888 => ?_)
              · refine dseq ?_
                refine ddraw 16 16 0 (by kernel_rfl) ?_
                refine sload (v := .slice a5625 n5625 c5625) rfl rfl (q_load wd_22 rfl) (St.ld X5886 (j := 6) rfl rfl) (same_self 20 rfl) rfl ?_
                refine sload (v := .agg #[.int .i64 e5788.A, .int .i64 e5788.B, .int .i64 e5788.Per, .int .i64 e5788.Delay, .int .i64 (w64 ((w64 (2 * s5624.1)) + 1))]) rfl rfl (q_load wd_65 rfl) (St.ld X5886 (j := 0) rfl rfl) (same_self 20 rfl) rfl ?_
                refine scall (en := fun d => (.int .i64 d)) rfl rfl ca_42 rfl rfl (f42_ok X5886 ((TopoEnd.mk e5788 (w64 ((w64 (2 * s5624.1)) + 1))))) rfl (fun e5889 => ?_)
                refine Sim.bindM fun e5893 he5894 => ?_
                obtain ⟨off5895, cs5895, hp5895, hc5895, hR5895, hl5895, hm5895, hs5895⟩ := OSl.iaC O5625 he5894 (kd := .i64) (n := 1) rfl
                have hR5895 : _ = [(.bool e5893 : Value)] := hR5895
                subst hR5895
                refine spure (v := .pointer (some ⟨b5812, off5895, none⟩)) rfl (p_ia rs_22 rfl) (lo_t (lo_osl X5886 (j := 7) rfl O5625) (lo_t rfl rfl)) hp5895 rfl ?_
                have O5898 := hs5895 [.bool true] (true) rfl
                refine sstore rfl rfl ts_4 rfl rfl (j := 7) rfl hm5895 rfl rfl (ble_iff.2 hl5895) rfl X5886 (fun h5896 X5897 => ?_)
                refine send ?_
                refine nseq ?_
                refine dexit ?_
                refine eblock rfl ?_
                refine ernd X5897 (j := 3) rfl (fun h5899 X5900 => ?_)
                refine lpure (v := .bool true) rfl (p_not rfl) rfl rfl ?_
                refine lpure (v := .bool true) rfl (p_pick rfl) rfl rfl ?_
                refine lend ?_
                refine nseq ?_
                refine dcondT rfl rfl ?_
                refine dret ?_
                refine rblock ?_
                refine rseq ?_
                refine rloop ?_
                refine rblock ?_
                refine kin_r res_0 ?_
                refine rend_d X5900 (j := 3) rfl (.inr ⟨_, rfl, rfl⟩) (fun h5901 X5902 => ?_)
                refine eblock rfl ?_
                refine eseq ?_
                refine xblock ?_
                exact kbackM ih5293 (s5624.2.set (e5889).toNat true) (a5625, n5625, c5625, some b5812, (.cells (setAt vs5812 off5895 [.bool true]) 4 m5812)) (sub_cons rfl (sub_cons rfl (sub_cons rfl sub_nil))) ⟨(St.pick X5902 (.skip _ (.skip _ (.skip _ (.skip _ (.skip _ (.skip _ (.keep _ (.keep _ (.keep _ (.keep _ (.refl _)))))))))))), O5898⟩
              · refine dskip ?_
                refine nblock ?_
                refine nrnd X5886 (j := 3) rfl (fun h5903 X5904 => ?_)
                refine lpure (v := .bool false) rfl (p_not rfl) rfl rfl ?_
                refine lpure (v := .bool false) rfl (p_pick rfl) rfl rfl ?_
                refine lend ?_
                refine nseq ?_
                refine dcondF rfl rfl ?_
                refine dskip ?_
                refine nblock ?_
                refine nseq ?_
                refine dreg ?_
                refine lpure (v := .int .i64 (w64 (s5624.1 + 1))) rfl (p_add rfl) rfl rfl ?_
                refine lpure (v := .int .i64 (w64 (s5624.1 + 1))) rfl (p_move rfl) rfl rfl ?_
                refine lend ?_
                exact kbackM ih5783 ((w64 (s5624.1 + 1)), s5624.2) (a5625, n5625, c5625, some b5812, .cells vs5812 4 m5812) (sub_cons rfl (sub_cons rfl (sub_cons rfl (sub_cons rfl sub_nil)))) ⟨(St.pick X5904 (.skip _ (.skip _ (.skip _ (.keep _ (.none _ (.skip _ (.keep _ (.keep _ (.keep _ (.keep _ (.keep _ (.refl _))))))))))))), O5625⟩
            · intro j5905 J5906
              refine sif (j := 31) (show _ = Value.bool s5876 from rfl) (fun k5907 => ?_) (fun k5907 => ?_)
              · refine sload (v := .slice a3328 n3328 c3328) rfl rfl (q_load wd_28 rfl) (St.ld X5877 (j := 8) rfl rfl) (same_self 20 rfl) rfl ?_
                refine spure (v := .pointer (some ⟨b5852, 4, none⟩)) rfl (p_fa fo_65_1 rfl) (lo_t (lo_own X5877 (j := 0) (o := 0) (s := none) (f := 0) rfl) rfl) rfl rfl ?_
                refine sload (v := .int .i64 (w64 ((w64 (2 * s5624.1)) + 1))) rfl rfl (q_load wd_3 rfl) (St.ld X5877 (j := 0) rfl rfl) (same_self 20 rfl) rfl ?_
                refine spure (v := .int .i64 (w64 (Int.tdiv (w64 ((w64 (2 * s5624.1)) + 1)) 2))) rfl (p_quo rfl) (lo_t rfl (lo_c rfl)) rfl rfl ?_
                refine scall (en := fun d => (.bool d)) rfl rfl ca_22 rfl rfl (f22_ok X5877 p3327 ((w64 (Int.tdiv (w64 ((w64 (2 * s5624.1)) + 1)) 2))) H3328) rfl (fun e5908 => ?_)
                refine spure (v := .bool (!e5908)) rfl (p_not rfl) (lo_t rfl rfl) rfl rfl ?_
                refine spure (v := .bool (!e5908)) rfl (p_pick rfl) (lo_t rfl (lo_t rfl (lo_c rfl))) rfl rfl ?_
                exact sjmpM J5906 (!e5908) () (sub_cons rfl (sub_cons rfl (sub_cons rfl sub_nil))) (St.pick X5877 (.keep _ (.keep _ (.keep _ (.keep _ (.none _ (.skip _ (.keep _ (.keep _ (.keep _ (.keep _ (.keep _ (.refl _)))))))))))))
              · refine sskip rfl rfl ?_
                refine sskip rfl rfl ?_
                refine sskip rfl rfl ?_
                refine sskip rfl rfl ?_
                refine sskip rfl rfl ?_
                refine sskip rfl rfl ?_
                refine spure (v := .bool false) rfl (p_pick rfl) (lo_t rfl (lo_t rfl (lo_c rfl))) rfl rfl ?_
                exact sjmpM J5906 false () (sub_cons rfl (sub_cons rfl (sub_cons rfl sub_nil))) (St.pick X5877 (.keep _ (.keep _ (.keep _ (.keep _ (.none _ (.skip _ (.keep _ (.keep _ (.keep _ (.keep _ (.keep _ (.refl _)))))))))))))
          · intro j5912 J5913
            refine sif (j := 23) (show _ = Value.bool e5864 from rfl) (fun k5914 => ?_) (fun k5914 => ?_)
            · refine sload (v := .slice a5625 n5625 c5625) rfl rfl (q_load wd_22 rfl) (St.ld X5859 (j := 6) rfl rfl) (same_self 20 rfl) rfl ?_
              refine sload (v := .agg #[.int .i64 e5788.A, .int .i64 e5788.B, .int .i64 e5788.Per, .int .i64 e5788.Delay, .int .i64 (w64 ((w64 (2 * s5624.1)) + 1))]) rfl rfl (q_load wd_65 rfl) (St.ld X5859 (j := 0) rfl rfl) (same_self 20 rfl) rfl ?_
              refine scall (en := fun d => (.int .i64 d)) rfl rfl ca_42 rfl rfl (f42_ok X5859 ((TopoEnd.mk e5788 (w64 ((w64 (2 * s5624.1)) + 1))))) rfl (fun e5915 => ?_)
              refine Sim.bindM fun e5919 he5920 => ?_
              obtain ⟨off5921, cs5921, hp5921, hc5921, hR5921, hl5921, hm5921, hs5921⟩ := OSl.iaC O5625 he5920 (kd := .i64) (n := 1) rfl
              have hR5921 : _ = [(.bool e5919 : Value)] := hR5921
              subst hR5921
              refine spure (v := .pointer (some ⟨b5812, off5921, none⟩)) rfl (p_ia rs_22 rfl) (lo_t (lo_osl X5859 (j := 7) rfl O5625) (lo_t rfl rfl)) hp5921 rfl ?_
              refine sload (v := .bool e5919) rfl rfl (q_load wd_4 rfl) (St.ld X5859 (j := 7) rfl (rdE1 hc5921 (k := 0) rfl rfl)) (same_self 20 rfl) rfl ?_
              refine spure (v := .bool (!e5919)) rfl (p_not rfl) (lo_t rfl rfl) rfl rfl ?_
              refine spure (v := .bool (!e5919)) rfl (p_pick rfl) (lo_t rfl (lo_t rfl (lo_c rfl))) rfl rfl ?_
              exact sjmpM J5913 (!e5919) () (sub_cons rfl (sub_cons rfl (sub_cons rfl (sub_cons rfl sub_nil)))) (St.pick X5859 (.keep _ (.keep _ (.keep _ (.keep _ (.none _ (.skip _ (.keep _ (.keep _ (.keep _ (.keep _ (.keep _ (.refl _)))))))))))))
            · refine sskip rfl rfl ?_
              refine sskip rfl rfl ?_
              refine sskip rfl rfl ?_
              refine sskip rfl rfl ?_
              refine sskip rfl rfl ?_
              refine sskip rfl rfl ?_
              refine spure (v := .bool false) rfl (p_pick rfl) (lo_t rfl (lo_t rfl (lo_c rfl))) rfl rfl ?_
              exact sjmpM J5913 false () (sub_cons rfl (sub_cons rfl (sub_cons rfl (sub_cons rfl sub_nil)))) (St.pick X5859 (.keep _ (.keep _ (.keep _ (.keep _ (.none _ (.skip _ (.keep _ (.keep _ (.keep _ (.keep _ (.keep _ (.refl _)))))))))))))
      · intro j5922 J5923
        refine sif (j := 31) (show _ = Value.bool s5822 from rfl) (fun k5924 => ?_) (fun k5924 => ?_)
        · refine sload (v := .slice a3328 n3328 c3328) rfl rfl (q_load wd_28 rfl) (St.ld X5823 (j := 7) rfl rfl) (same_self 20 rfl) rfl ?_
          refine spure (v := .pointer (some ⟨b5798, 4, none⟩)) rfl (p_fa fo_65_1 rfl) (lo_t (lo_own X5823 (j := 0) (o := 0) (s := none) (f := 0) rfl) rfl) rfl rfl ?_
          refine sload (v := .int .i64 (w64 (2 * s5624.1))) rfl rfl (q_load wd_3 rfl) (St.ld X5823 (j := 0) rfl rfl) (same_self 20 rfl) rfl ?_
          refine spure (v := .int .i64 (w64 (Int.tdiv (w64 (2 * s5624.1)) 2))) rfl (p_quo rfl) (lo_t rfl (lo_c rfl)) rfl rfl ?_
          refine scall (en := fun d => (.bool d)) rfl rfl ca_22 rfl rfl (f22_ok X5823 p3327 ((w64 (Int.tdiv (w64 (2 * s5624.1)) 2))) H3328) rfl (fun e5925 => ?_)
          refine spure (v := .bool (!e5925)) rfl (p_not rfl) (lo_t rfl rfl) rfl rfl ?_
          refine spure (v := .bool (!e5925)) rfl (p_pick rfl) (lo_t rfl (lo_t rfl (lo_c rfl))) rfl rfl ?_
          exact sjmpM J5923 (!e5925) () (sub_cons rfl (sub_cons rfl (sub_cons rfl sub_nil))) (St.pick X5823 (.keep _ (.keep _ (.keep _ (.none _ (.skip _ (.keep _ (.keep _ (.keep _ (.keep _ (.keep _ (.refl _))))))))))))
        · refine sskip rfl rfl ?_
          refine sskip rfl rfl ?_
          refine sskip rfl rfl ?_
          refine sskip rfl rfl ?_
          refine sskip rfl rfl ?_
          refine sskip rfl rfl ?_
          refine spure (v := .bool false) rfl (p_pick rfl) (lo_t rfl (lo_t rfl (lo_c rfl))) rfl rfl ?_
          exact sjmpM J5923 false () (sub_cons rfl (sub_cons rfl (sub_cons rfl sub_nil))) (St.pick X5823 (.keep _ (.keep _ (.keep _ (.none _ (.skip _ (.keep _ (.keep _ (.keep _ (.keep _ (.keep _ (.refl _))))))))))))
    · intro j5929 J5930
      refine sif (j := 23) (show _ = Value.bool e5810 from rfl) (fun k5931 => ?_) (fun k5931 => ?_)
      · refine sload (v := .slice a5625 n5625 c5625) rfl rfl (q_load wd_22 rfl) (St.ld X5805 (j := 5) rfl rfl) (same_self 20 rfl) rfl ?_
        refine sload (v := .agg #[.int .i64 e5788.A, .int .i64 e5788.B, .int .i64 e5788.Per, .int .i64 e5788.Delay, .int .i64 (w64 (2 * s5624.1))]) rfl rfl (q_load wd_65 rfl) (St.ld X5805 (j := 0) rfl rfl) (same_self 20 rfl) rfl ?_
        refine scall (en := fun d => (.int .i64 d)) rfl rfl ca_42 rfl rfl (f42_ok X5805 ((TopoEnd.mk e5788 (w64 (2 * s5624.1))))) rfl (fun e5932 => ?_)
        refine Sim.bindM fun e5936 he5937 => ?_
        obtain ⟨off5938, cs5938, hp5938, hc5938, hR5938, hl5938, hm5938, hs5938⟩ := OSl.iaC O5625 he5937 (kd := .i64) (n := 1) rfl
        have hR5938 : _ = [(.bool e5936 : Value)] := hR5938
        subst hR5938
        refine spure (v := .pointer (some ⟨b5812, off5938, none⟩)) rfl (p_ia rs_22 rfl) (lo_t (lo_osl X5805 (j := 6) rfl O5625) (lo_t rfl rfl)) hp5938 rfl ?_
        refine sload (v := .bool e5936) rfl rfl (q_load wd_4 rfl) (St.ld X5805 (j := 6) rfl (rdE1 hc5938 (k := 0) rfl rfl)) (same_self 20 rfl) rfl ?_
        refine spure (v := .bool (!e5936)) rfl (p_not rfl) (lo_t rfl rfl) rfl rfl ?_
        refine spure (v := .bool (!e5936)) rfl (p_pick rfl) (lo_t rfl (lo_t rfl (lo_c rfl))) rfl rfl ?_
        exact sjmpM J5930 (!e5936) () (sub_cons rfl (sub_cons rfl (sub_cons rfl (sub_cons rfl sub_nil)))) (St.pick X5805 (.keep _ (.keep _ (.keep _ (.none _ (.skip _ (.keep _ (.keep _ (.keep _ (.keep _ (.keep _ (.refl _))))))))))))
      · refine sskip rfl rfl ?_
        refine sskip rfl rfl ?_
        refine sskip rfl rfl ?_
        refine sskip rfl rfl ?_
        refine sskip rfl rfl ?_
        refine sskip rfl rfl ?_
        refine spure (v := .bool false) rfl (p_pick rfl) (lo_t rfl (lo_t rfl (lo_c rfl))) rfl rfl ?_
        exact sjmpM J5930 false () (sub_cons rfl (sub_cons rfl (sub_cons rfl (sub_cons rfl sub_nil)))) (St.pick X5805 (.keep _ (.keep _ (.keep _ (.none _ (.skip _ (.keep _ (.keep _ (.keep _ (.keep _ (.keep _ (.refl _))))))))))))
  · refine dexit ?_
    refine eseq ?_
    refine eloop ?_
    refine xblock ?_
    refine kin_n res_0 ?_
    refine rend_n X5785 (j := 0) rfl (fun h5939 X5940 => ?_)
    refine nblock ?_
    refine nseq ?_
    refine dexit ?_
    refine eblock rfl ?_
    refine eloop ?_
    refine xblock ?_
    refine nseq ?_
    refine dseq ?_
    refine dreg ?_
    refine lread (v := .slice a5625 n5625 c5625) rfl (q_load wd_22 rfl) (St.ld X5940 (j := 3) rfl rfl) rfl ?_
    refine lpure (v := .slice a5625 n5625 c5625) rfl (p_assign rfl) rfl rfl ?_
    refine lend ?_
    refine nseq ?_
    refine dret ?_
    refine rscope ?_
    exact kopen_r (res_1 resT) ⟨φ, a5625, n5625, c5625, ob5625, blk5625, (Fz.le_refl _), St.pick (St.front X5940 (j := 4) rfl) (.keep _ (.skip _ (.skip _ (.skip _ (.skip _ (.skip _ (.skip _ (.refl _)))))))), rfl, O5625⟩
/-! slices.Index[[]bool,bool] -/
theorem f51_ok {n : Nat} {φ : Fz} {lo : Nat} {h : Heap} {own : OwnL}  {a5956 : Option Addr} {n5956 c5956 : Nat} (X : St φ lo h (own)) (p5955 : (List Bool)) (p5957 : Bool) (H5956 : RSl eBool φ (.slice a5956 n5956 c5956) p5955) : Sim ((recN Try.prog LL cutF (n + 1)).call 51 #[(.slice a5956 n5956 c5956), (.bool p5957)] h) (m_slices_Index_bool_bool p5955 p5957) (fun (d : Int) p => p = (.int .i64 d, h)) := by
  refine fcut Try.func51 rfl rfl rfl rfl X ?_
  intro h0 X0
  refine dseq ?_
  refine dreg ?_
  refine lpure (v := .int .i64 0) rfl (p_assign rfl) rfl rfl ?_
  refine lend ?_
  refine nseq ?_
  refine dseq ?_
  refine dseq ?_
  refine dreg ?_
  refine lpure (v := .slice a5956 n5956 c5956) rfl (p_move rfl) rfl rfl ?_
  refine lpure (v := .int .i64 (p5955.length : Int)) rfl (p_len rfl rfl rfl un_22 rfl) (RSl.lenC H5956) rfl ?_
  refine lpure (v := .int .i64 0) rfl (p_move rfl) rfl rfl ?_
  refine lend ?_
  refine nseq ?_
  refine dblock ?_
  refine dloopM (τ := Int) (σ := Unit) (fun s5974 (_ : Unit) => [(0, .slice a5956 n5956 c5956), (1, .bool p5957), (7, .int .i64 (p5955.length : Int)), (8, .int .i64 s5974)]) (fun s5974 (_ : Unit) hh => St φ h.n hh ([])) 0 () (sub_cons rfl (sub_cons rfl (sub_cons rfl (sub_cons rfl sub_nil)))) X0 ?_
  rintro n5984 ih5983 s5974 _ t0 h5986 X5985
  refine dseq ?_
  refine dreg ?_
  refine lpure (v := .bool (decide (s5974 < (p5955.length : Int)))) rfl (p_lt rfl) rfl rfl ?_
  refine lend ?_
  refine nseq ?_
  refine dseq ?_
  refine dcond rfl rfl (fun k5987 => ?_) (fun k5987 => ?_)
  · refine dskip ?_
    refine nseq ?_
    refine dseq ?_
    refine dblock ?_
    refine dseq ?_
    refine dreg ?_
    refine lpure (v := .int .i64 s5974) rfl (p_move rfl) rfl rfl ?_
    refine lpure (v := .int .i64 s5974) rfl (p_assign rfl) rfl rfl ?_
    refine lend ?_
    refine nseq ?_
    refine dseq ?_
    refine dreg ?_
    refine lpure (v := .bool p5957) rfl (p_move rfl) rfl rfl ?_
    refine lpure (v := .slice a5956 n5956 c5956) rfl (p_move rfl) rfl rfl ?_
    refine lpure (v := .int .i64 s5974) rfl (p_move rfl) rfl rfl ?_
    refine Sim.bindM fun e5988 he5989 => ?_
    obtain ⟨p5990, cs5990, hp5990, hF5990, hR5990⟩ := RSl.ia H5956 he5989 (kd := .i64) (n := 1) rfl
    have hR5990 : _ = [(.bool e5988 : Value)] := hR5990
    subst hR5990
    refine lpure (v := p5990) rfl (p_ia rs_22 rfl) hp5990 rfl ?_
    refine lread (v := .bool e5988) rfl (q_load wd_4 rfl) (FP.ld X5985 hF5990) rfl ?_
    refine lpure (v := .bool (p5957 == e5988)) rfl (p_bin rfl) (bin_eqB un_4) rfl ?_
    refine lend ?_
    refine nseq ?_
    refine dcond rfl rfl (fun k5991 => ?_) (fun k5991 => ?_)
    · refine dseq ?_
      refine dreg ?_
      refine lpure (v := .int .i64 s5974) rfl (p_move rfl) rfl rfl ?_
      refine lpure (v := .int .i64 s5974) rfl (p_assign rfl) rfl rfl ?_
      refine lend ?_
      refine nseq ?_
      refine dret ?_
      refine rblock ?_
      refine rseq ?_
      refine rloop ?_
      refine rblock ?_
      refine rseq ?_
      exact kcut_r (res_1 resT) X5985 rfl rfl
    · refine dskip ?_
      refine nblock ?_
      refine nseq ?_
      refine dreg ?_
      refine lpure (v := .int .i64 (w64 (s5974 + 1))) rfl (p_add rfl) rfl rfl ?_
      refine lpure (v := .int .i64 (w64 (s5974 + 1))) rfl (p_move rfl) rfl rfl ?_
      refine lend ?_
      exact kbackM ih5983 (w64 (s5974 + 1)) () (sub_cons rfl (sub_cons rfl (sub_cons rfl (sub_cons rfl sub_nil)))) X5985
  · refine dexit ?_
    refine eseq ?_
    refine eloop ?_
    refine xblock ?_
    refine nseq ?_
    refine dseq ?_
    refine dreg ?_
    refine lpure (v := .int .i64 (-1)) rfl (p_assign rfl) rfl rfl ?_
    refine lend ?_
    refine nseq ?_
    refine dret ?_
    exact kcut_r (res_1 resT) X5985 rfl rfl
/-! slices.Contains[[]bool,bool] -/
theorem f21_ok {n : Nat} {φ : Fz} {lo : Nat} {h : Heap} {own : OwnL}  {a5953 : Option Addr} {n5953 c5953 : Nat} (X : St φ lo h (own)) (p5952 : (List Bool)) (p5954 : Bool) (H5953 : RSl eBool φ (.slice a5953 n5953 c5953) p5952) : Sim ((recN Try.prog LL cutF (n + 2)).call 21 #[(.slice a5953 n5953 c5953), (.bool p5954)] h) (m_slices_Contains_bool_bool p5952 p5954) (fun (d : Bool) p => p = (.bool d, h)) := by
  refine fcut Try.func21 rfl rfl rfl rfl X ?_
  intro h0 X0
  refine dseq ?_
  refine dreg ?_
  refine lpure (v := .bool false) rfl (p_assign rfl) rfl rfl ?_
  refine lend ?_
  refine nseq ?_
  refine dseq ?_
  refine dreg ?_
  refine lpure (v := .slice a5953 n5953 c5953) rfl (p_move rfl) rfl rfl ?_
  refine lpure (v := .bool p5954) rfl (p_move rfl) rfl rfl ?_
  refine lcall rfl rfl ca_51 rfl rfl (f51_ok X0 p5952 p5954 H5953) rfl (fun e5992 v5993 h5994 hq5995 => ?_)
  cases hq5995
  refine lpure (v := .bool (decide (0 ≤ e5992))) rfl (p_ge rfl) rfl rfl ?_
  refine lpure (v := .bool (decide (0 ≤ e5992))) rfl (p_assign rfl) rfl rfl ?_
  refine lend ?_
  refine nseq ?_
  refine dret ?_
  exact kcut_r (res_1 resT) X0 rfl rfl
/-! isochron/topo.Check -/
theorem f34_ok {n : Nat} {φ : Fz} {lo : Nat} {h : Heap} {own : OwnL}  {a68 : Option Addr} {n68 c68 : Nat} {a69 : Option Addr} {n69 c69 : Nat} (X : St φ lo h (own)) (p67 : ApiTopo) (H68 : RSl eBool φ (.slice a68 n68 c68) p67.Station) (H69 : RSl eApiLink φ (.slice a69 n69 c69) p67.Links) : Sim ((recN Try.prog LL cutF (n + 6)).call 34 #[(.agg #[.int .i64 p67.Nodes, .slice a68 n68 c68, .slice a69 n69 c69])] h) (m_topo_Check p67) (fun (d : Int) p => p = (.int .i64 d, h)) := by
  refine fcut Try.func34 rfl rfl rfl rfl X ?_
  intro h0 X0
  refine dseq ?_
  refine dreg ?_
  refine lbox rfl rfl rfl rfl rfl X0 (fun b70 h72 X73 => ?_)
  refine lpure (v := .int .i64 0) rfl (p_assign rfl) rfl rfl ?_
  refine lend ?_
  refine nseq ?_
  refine dseq ?_
  refine dseq ?_
  refine dreg ?_
  refine lpure (v := .pointer (some ⟨b70, 0, none⟩)) rfl (p_fa fo_25_0 rfl) rfl rfl ?_
  refine lread (v := .int .i64 p67.Nodes) rfl (q_load wd_3 rfl) (St.ld X73 (j := 0) rfl rfl) rfl ?_
  refine lpure (v := .bool (decide (p67.Nodes < 2))) rfl (p_lt rfl) rfl rfl ?_
  refine lpure (v := .bool (decide (p67.Nodes < 2))) rfl (p_move rfl) rfl rfl ?_
  refine lsh (τ := Bool) (σ := Unit) (fun s75 (_ : Unit) => [(1, .pointer (some ⟨b70, 0, none⟩)), (13, .bool s75)]) (fun s75 (_ : Unit) hh => St φ h.n hh ([(some b70, .cells [.int .i64 p67.Nodes, .slice a68 n68 c68, .slice a69 n69 c69] 25 .exact)])) 4 ?_ ?_
  · rintro s75 _ t0 h77 X76
    refine lpure (v := .bool s75) rfl (p_move rfl) rfl rfl ?_
    refine lsh (τ := Bool) (σ := Unit) (fun s79 (_ : Unit) => [(1, .pointer (some ⟨b70, 0, none⟩)), (21, .bool s79)]) (fun s79 (_ : Unit) hh => St φ h.n hh ([(some b70, .cells [.int .i64 p67.Nodes, .slice a68 n68 c68, .slice a69 n69 c69] 25 .exact)])) 7 ?_ ?_
    · rintro s79 _ t0 h81 X80
      refine lpure (v := .bool s79) rfl (p_move rfl) rfl rfl ?_
      refine lsh (τ := Bool) (σ := Unit) (fun s83 (_ : Unit) => [(1, .pointer (some ⟨b70, 0, none⟩)), (27, .bool s83)]) (fun s83 (_ : Unit) hh => St φ h.n hh ([(some b70, .cells [.int .i64 p67.Nodes, .slice a68 n68 c68, .slice a69 n69 c69] 25 .exact)])) 5 ?_ ?_
      · rintro s83 _ t0 h85 X84
        refine lend ?_
        refine nseq ?_
        refine dcond rfl rfl (fun k86 => ?_) (fun k86 => ?_)
        · refine dseq ?_
          refine dreg ?_
          refine lpure (v := .int .i64 260) rfl (p_assign rfl) rfl rfl ?_
          refine lend ?_
          refine nseq ?_
          refine dret ?_
          refine rseq ?_
          exact kcut_r (res_1 resT) X84 rfl rfl
        · refine dskip ?_
          refine nseq ?_
          refine dseq ?_
          refine dseq ?_
          refine dreg ?_
          refine lpure (v := .pointer (some ⟨b70, 2, none⟩)) rfl (p_fa fo_25_2 rfl) rfl rfl ?_
          refine lread (v := .slice a69 n69 c69) rfl (q_load wd_23 rfl) (St.ld X84 (j := 0) rfl rfl) rfl ?_
          refine lpure (v := .int .i64 (p67.Links.length : Int)) rfl (p_len rfl rfl rfl un_23 rfl) (RSl.lenC H69) rfl ?_
          refine lpure (v := .int .i64 0) rfl (p_move rfl) rfl rfl ?_
          refine lend ?_
          refine nseq ?_
          refine dblock ?_
          refine dloopM (τ := Int) (σ := Unit) (fun s6382 (_ : Unit) => [(1, .pointer (some ⟨b70, 0, none⟩)), (30, .int .i64 (p67.Links.length : Int)), (31, .int .i64 s6382)]) (fun s6382 (_ : Unit) hh => St φ h.n hh ([(some b70, .cells [.int .i64 p67.Nodes, .slice a68 n68 c68, .slice a69 n69 c69] 25 .exact)])) 0 () (sub_cons rfl (sub_cons rfl (sub_cons rfl sub_nil))) X84 ?_
          rintro n6603 ih6602 s6382 _ t0 h6605 X6604
          refine dseq ?_
          refine dreg ?_
          refine lpure (v := .bool (decide (s6382 < (p67.Links.length : Int)))) rfl (p_lt rfl) rfl rfl ?_
          refine lend ?_
          refine nseq ?_
          refine dseq ?_
          refine dcond rfl rfl (fun k6606 => ?_) (fun k6606 => ?_)
          · refine dskip ?_
            refine nseq ?_
            refine dseq ?_
            refine dblock ?_
            refine dseq ?_
            refine dreg ?_
            refine lpure (v := .int .i64 s6382) rfl (p_move rfl) rfl rfl ?_
            refine lpure (v := .int .i64 s6382) rfl (p_assign rfl) rfl rfl ?_
            refine lend ?_
            refine nseq ?_
            refine dseq ?_
            refine dreg ?_
            refine lread (v := .agg #[.int .i64 p67.Nodes, .slice a68 n68 c68, .slice a69 n69 c69]) rfl (q_load wd_25 rfl) (St.ld X6604 (j := 0) rfl rfl) rfl ?_
            refine lpure (v := .int .i64 s6382) rfl (p_move rfl) rfl rfl ?_
            refine lcall rfl rfl ca_57 rfl rfl (f57_ok X6604 p67 s6382 H68 H69) rfl (fun e6607 v6608 h6609 hq6610 => ?_)
            cases hq6610
            refine lpure (v := .bool (!e6607)) rfl (p_not rfl) rfl rfl ?_
            refine lend ?_
            refine nseq ?_
            refine dcond rfl rfl (fun k6611 => ?_) (fun k6611 => ?_)
            · refine dseq ?_
              refine dreg ?_
              refine lpure (v := .int .i64 260) rfl (p_assign rfl) rfl rfl ?_
              refine lend ?_
              refine nseq ?_
              refine dret ?_
              refine rblock ?_
              refine rseq ?_
              refine rloop ?_
              refine rblock ?_
              refine rseq ?_
              exact kcut_r (res_1 resT) X6604 rfl rfl
            · refine dskip ?_
              refine nblock ?_
              refine nseq ?_
              refine dreg ?_
              refine lpure (v := .int .i64 (w64 (s6382 + 1))) rfl (p_add rfl) rfl rfl ?_
              refine lpure (v := .int .i64 (w64 (s6382 + 1))) rfl (p_move rfl) rfl rfl ?_
              refine lend ?_
              exact kbackM ih6602 (w64 (s6382 + 1)) () (sub_cons rfl (sub_cons rfl (sub_cons rfl sub_nil))) X6604
          · refine dexit ?_
            refine eseq ?_
            refine eloop ?_
            refine xblock ?_
            refine nseq ?_
            refine dseq ?_
            refine dseq ?_
            refine dreg ?_
            refine lpure (v := .pointer (some ⟨b70, 1, none⟩)) rfl (p_fa fo_25_1 rfl) rfl rfl ?_
            refine lread (v := .slice a68 n68 c68) rfl (q_load wd_22 rfl) (St.ld X6604 (j := 0) rfl rfl) rfl ?_
            refine lpure (v := .int .i64 (p67.Station.length : Int)) rfl (p_len rfl rfl rfl un_22 rfl) (RSl.lenC H68) rfl ?_
            refine lpure (v := .int .i64 0) rfl (p_move rfl) rfl rfl ?_
            refine lend ?_
            refine nseq ?_
            refine dblock ?_
            refine dloopM (τ := Int) (σ := Unit) (fun s6716 (_ : Unit) => [(1, .pointer (some ⟨b70, 0, none⟩)), (40, .slice a68 n68 c68), (41, .int .i64 (p67.Station.length : Int)), (42, .int .i64 s6716)]) (fun s6716 (_ : Unit) hh => St φ h.n hh ([(some b70, .cells [.int .i64 p67.Nodes, .slice a68 n68 c68, .slice a69 n69 c69] 25 .exact)])) 0 () (sub_cons rfl (sub_cons rfl (sub_cons rfl (sub_cons rfl sub_nil)))) X6604 ?_
            rintro n6770 ih6769 s6716 _ t0 h6772 X6771
            refine dseq ?_
            refine dreg ?_
            refine lpure (v := .bool (decide (s6716 < (p67.Station.length : Int)))) rfl (p_lt rfl) rfl rfl ?_
            refine lend ?_
            refine nseq ?_
            refine dseq ?_
            refine dcond rfl rfl (fun k6773 => ?_) (fun k6773 => ?_)
            · refine dskip ?_
              refine nseq ?_
              refine dseq ?_
              refine dblock ?_
              refine dseq ?_
              refine dreg ?_
              refine lpure (v := .int .i64 s6716) rfl (p_move rfl) rfl rfl ?_
              refine Sim.bindM fun e6774 he6775 => ?_
              obtain ⟨p6776, cs6776, hp6776, hF6776, hR6776⟩ := RSl.ia H68 he6775 (kd := .i64) (n := 1) rfl
              have hR6776 : _ = [(.bool e6774 : Value)] := hR6776
              subst hR6776
              refine lpure (v := p6776) rfl (p_ia rs_22 rfl) hp6776 rfl ?_
              refine lread (v := .bool e6774) rfl (q_load wd_4 rfl) (FP.ld X6771 hF6776) rfl ?_
              refine lpure (v := .int .i64 s6716) rfl (p_assign rfl) rfl rfl ?_
              refine lpure (v := .bool e6774) rfl (p_assign rfl) rfl rfl ?_
              refine lend ?_
              refine nseq ?_
              refine dseq ?_
              refine dreg ?_
              refine lpure (v := .bool e6774) rfl (p_move rfl) rfl rfl ?_
              refine lpure (v := .bool e6774) rfl (p_move rfl) rfl rfl ?_
              refine ljoinM (τ := Bool) (σ := Unit) (fun s6788 (_ : Unit) => [(1, .pointer (some ⟨b70, 0, none⟩)), (40, .slice a68 n68 c68), (41, .int .i64 (p67.Station.length : Int)), (42, .int .i64 s6716), (59, .bool s6788)]) (fun s6788 (_ : Unit) hh => St φ h.n hh ([(some b70, .cells [.int .i64 p67.Nodes, .slice a68 n68 c68, .slice a69 n69 c69] 25 .exact)])) 11 ?_ ?_
              · rintro s6788 _ t0 h6790 X6789
                refine lend ?_
                refine nseq ?_
                refine dcond rfl rfl (fun k6791 => ?_) (fun k6791 => ?_)
                · refine dseq ?_
                  refine dreg ?_
                  refine lpure (v := .int .i64 260) rfl (p_assign rfl) rfl rfl ?_
                  refine lend ?_
                  refine nseq ?_
                  refine dret ?_
                  refine rblock ?_
                  refine rseq ?_
                  refine rloop ?_
                  refine rblock ?_
                  refine rseq ?_
                  exact kcut_r (res_1 resT) X6789 rfl rfl
                · refine dskip ?_
                  refine nblock ?_
                  refine nseq ?_
                  refine dreg ?_
                  refine lpure (v := .int .i64 (w64 (s6716 + 1))) rfl (p_add rfl) rfl rfl ?_
                  refine lpure (v := .int .i64 (w64 (s6716 + 1))) rfl (p_move rfl) rfl rfl ?_
                  refine lend ?_
                  exact kbackM ih6769 (w64 (s6716 + 1)) () (sub_cons rfl (sub_cons rfl (sub_cons rfl (sub_cons rfl sub_nil)))) X6789
              · intro j6792 J6793
                refine lif (i := 48) (show _ = Value.bool e6774 from rfl) (fun k6794 => ?_) (fun k6794 => ?_)
                · refine lread (v := .agg #[.int .i64 p67.Nodes, .slice a68 n68 c68, .slice a69 n69 c69]) rfl (q_load wd_25 rfl) (St.ld X6771 (j := 0) rfl rfl) rfl ?_
                  refine lpure (v := .int .i64 s6716) rfl (p_move rfl) rfl rfl ?_
                  refine lcall rfl rfl ca_58 rfl rfl (f58_ok X6771 p67 s6716 H68 H69) rfl (fun e6795 v6796 h6797 hq6798 => ?_)
                  cases hq6798
                  refine lpure (v := .bool (decide (e6795 < 1))) rfl (p_lt rfl) rfl rfl ?_
                  refine lpure (v := .bool (decide (e6795 < 1))) rfl (p_move rfl) rfl rfl ?_
                  refine lif (i := 53) (show _ = Value.bool (decide (e6795 < 1)) from rfl) (fun k6799 => ?_) (fun k6799 => ?_)
                  · refine lskip rfl rfl ?_
                    refine lskip rfl rfl ?_
                    refine lskip rfl rfl ?_
                    refine lskip rfl rfl ?_
                    refine lpure (v := .bool true) rfl (p_pick rfl) rfl rfl ?_
                    refine lpure (v := .bool true) rfl (p_pick rfl) rfl rfl ?_
                    exact ljmpM J6793 true () (sub_cons rfl (sub_cons rfl (sub_cons rfl (sub_cons rfl (sub_cons rfl sub_nil))))) X6771
                  · refine lread (v := .agg #[.int .i64 p67.Nodes, .slice a68 n68 c68, .slice a69 n69 c69]) rfl (q_load wd_25 rfl) (St.ld X6771 (j := 0) rfl rfl) rfl ?_
                    refine lpure (v := .int .i64 s6716) rfl (p_move rfl) rfl rfl ?_
                    refine lcall rfl rfl ca_58 rfl rfl (f58_ok X6771 p67 s6716 H68 H69) rfl (fun e6800 v6801 h6802 hq6803 => ?_)
                    cases hq6803
                    refine lpure (v := .bool (decide (2 < e6800))) rfl (p_gt rfl) rfl rfl ?_
                    refine lpure (v := .bool (decide (2 < e6800))) rfl (p_pick rfl) rfl rfl ?_
                    refine lpure (v := .bool (decide (2 < e6800))) rfl (p_pick rfl) rfl rfl ?_
                    exact ljmpM J6793 (decide (2 < e6800)) () (sub_cons rfl (sub_cons rfl (sub_cons rfl (sub_cons rfl (sub_cons rfl sub_nil))))) X6771
                · refine lskip rfl rfl ?_
                  refine lskip rfl rfl ?_
                  refine lskip rfl rfl ?_
                  refine lskip rfl rfl ?_
                  refine lskip rfl rfl ?_
                  refine lskip rfl rfl ?_
                  refine lskip rfl rfl ?_
                  refine lskip rfl rfl ?_
                  refine lskip rfl rfl ?_
                  refine lskip rfl rfl ?_
                  refine lpure (v := .bool false) rfl (p_pick rfl) rfl rfl ?_
                  exact ljmpM J6793 false () (sub_cons rfl (sub_cons rfl (sub_cons rfl (sub_cons rfl (sub_cons rfl sub_nil))))) X6771
            · refine dexit ?_
              refine eseq ?_
              refine eloop ?_
              refine xblock ?_
              refine nseq ?_
              refine dseq ?_
              refine dseq ?_
              refine dreg ?_
              refine lread (v := .agg #[.int .i64 p67.Nodes, .slice a68 n68 c68, .slice a69 n69 c69]) rfl (q_load wd_25 rfl) (St.ld X6771 (j := 0) rfl rfl) rfl ?_
              refine lcall rfl rfl ca_47 rfl rfl (f47_ok X6771 p67 0 ([]) H68 H69 (.inl ⟨rfl, rfl⟩)) rfl ?_
              rintro e6804 _ h6806 ⟨φ6808, a6811, n6811, c6811, ob6811, blk6811, g6809, X6810, rfl, O6811⟩
              obtain ⟨φ6813, g6814, X6815, H6816⟩ := OSl.freeze X6810 (j := 0) rfl O6811
              refine lcall rfl rfl ca_21 rfl rfl (f21_ok X6815 e6804 false H6816) rfl (fun e6817 v6818 h6819 hq6820 => ?_)
              cases hq6820
              refine lend ?_
              refine nseq ?_
              refine dcond rfl rfl (fun k6821 => ?_) (fun k6821 => ?_)
              · refine dseq ?_
                refine dreg ?_
                refine lpure (v := .int .i64 260) rfl (p_assign rfl) rfl rfl ?_
                refine lend ?_
                refine nseq ?_
                refine dret ?_
                refine rseq ?_
                exact kcut_r (res_1 resT) X6810 rfl rfl
              · refine dskip ?_
                refine nseq ?_
                refine dseq ?_
                refine dreg ?_
                refine lpure (v := .int .i64 0) rfl (p_assign rfl) rfl rfl ?_
                refine lend ?_
                refine nseq ?_
                refine dret ?_
                exact kcut_r (res_1 resT) X6810 rfl rfl
      · intro j6822 J6823
        refine lcase (i := 22) (show _ = Value.bool s79 from rfl) (fun k6824 => ?_) (fun k6824 => ?_)
        · refine lskip rfl rfl ?_
          refine lskip rfl rfl ?_
          refine lskip rfl rfl ?_
          refine lskip rfl rfl ?_
          refine lpure (v := .bool true) rfl (p_pick rfl) rfl rfl ?_
          refine Sim.of_eq (congrArg j6822 (show (s79 || (decide (24 < (p67.Links.length : Int)))) = true from by rw [k6824] <;> rfl)) ?_
          exact ljmpM J6823 true () (sub_cons rfl (sub_cons rfl sub_nil)) X80
        · refine lpure (v := .pointer (some ⟨b70, 2, none⟩)) rfl (p_fa fo_25_2 rfl) rfl rfl ?_
          refine lread (v := .slice a69 n69 c69) rfl (q_load wd_23 rfl) (St.ld X80 (j := 0) rfl rfl) rfl ?_
          refine lpure (v := .int .i64 (p67.Links.length : Int)) rfl (p_len rfl rfl rfl un_23 rfl) (RSl.lenC H69) rfl ?_
          refine lpure (v := .bool (decide (24 < (p67.Links.length : Int)))) rfl (p_gt rfl) rfl rfl ?_
          refine lpure (v := .bool (decide (24 < (p67.Links.length : Int)))) rfl (p_pick rfl) rfl rfl ?_
          refine Sim.of_eq (congrArg j6822 (show (s79 || (decide (24 < (p67.Links.length : Int)))) = (decide (24 < (p67.Links.length : Int))) from by rw [k6824] <;> rfl)) ?_
          exact ljmpM J6823 (decide (24 < (p67.Links.length : Int))) () (sub_cons rfl (sub_cons rfl sub_nil)) X80
    · intro j6825 J6826
      refine lcase (i := 14) (show _ = Value.bool s75 from rfl) (fun k6827 => ?_) (fun k6827 => ?_)
      · refine lskip rfl rfl ?_
        refine lskip rfl rfl ?_
        refine lskip rfl rfl ?_
        refine lskip rfl rfl ?_
        refine lskip rfl rfl ?_
        refine lskip rfl rfl ?_
        refine lpure (v := .bool true) rfl (p_pick rfl) rfl rfl ?_
        refine Sim.of_eq (congrArg j6825 (show (s75 || (decide ((p67.Station.length : Int) ≠ p67.Nodes))) = true from by rw [k6827] <;> rfl)) ?_
        exact ljmpM J6826 true () (sub_cons rfl (sub_cons rfl sub_nil)) X76
      · refine lpure (v := .pointer (some ⟨b70, 1, none⟩)) rfl (p_fa fo_25_1 rfl) rfl rfl ?_
        refine lread (v := .slice a68 n68 c68) rfl (q_load wd_22 rfl) (St.ld X76 (j := 0) rfl rfl) rfl ?_
        refine lpure (v := .int .i64 (p67.Station.length : Int)) rfl (p_len rfl rfl rfl un_22 rfl) (RSl.lenC H68) rfl ?_
        refine lpure (v := .pointer (some ⟨b70, 0, none⟩)) rfl (p_fa fo_25_0 rfl) rfl rfl ?_
        refine lread (v := .int .i64 p67.Nodes) rfl (q_load wd_3 rfl) (St.ld X76 (j := 0) rfl rfl) rfl ?_
        refine lpure (v := .bool (decide ((p67.Station.length : Int) ≠ p67.Nodes))) rfl (p_ne rfl) rfl rfl ?_
        refine lpure (v := .bool (decide ((p67.Station.length : Int) ≠ p67.Nodes))) rfl (p_pick rfl) rfl rfl ?_
        refine Sim.of_eq (congrArg j6825 (show (s75 || (decide ((p67.Station.length : Int) ≠ p67.Nodes))) = (decide ((p67.Station.length : Int) ≠ p67.Nodes)) from by rw [k6827] <;> rfl)) ?_
        exact ljmpM J6826 (decide ((p67.Station.length : Int) ≠ p67.Nodes)) () (sub_cons rfl (sub_cons rfl sub_nil)) X76
  · intro j6828 J6829
    refine lcase (i := 9) (show _ = Value.bool (decide (p67.Nodes < 2)) from rfl) (fun k6830 => ?_) (fun k6830 => ?_)
    · refine lskip rfl rfl ?_
      refine lskip rfl rfl ?_
      refine lskip rfl rfl ?_
      refine lpure (v := .bool true) rfl (p_pick rfl) rfl rfl ?_
      refine Sim.of_eq (congrArg j6828 (show ((decide (p67.Nodes < 2)) || (decide (12 < p67.Nodes))) = true from by rw [k6830] <;> rfl)) ?_
      exact ljmpM J6829 true () (sub_cons rfl (sub_cons rfl sub_nil)) X73
    · refine lpure (v := .pointer (some ⟨b70, 0, none⟩)) rfl (p_fa fo_25_0 rfl) rfl rfl ?_
      refine lread (v := .int .i64 p67.Nodes) rfl (q_load wd_3 rfl) (St.ld X73 (j := 0) rfl rfl) rfl ?_
      refine lpure (v := .bool (decide (12 < p67.Nodes))) rfl (p_gt rfl) rfl rfl ?_
      refine lpure (v := .bool (decide (12 < p67.Nodes))) rfl (p_pick rfl) rfl rfl ?_
      refine Sim.of_eq (congrArg j6828 (show ((decide (p67.Nodes < 2)) || (decide (12 < p67.Nodes))) = (decide (12 < p67.Nodes)) from by rw [k6830] <;> rfl)) ?_
      exact ljmpM J6829 (decide (12 < p67.Nodes)) () (sub_cons rfl (sub_cons rfl sub_nil)) X73
/-! isochron/topo.From -/
theorem f23_ok {n : Nat} {φ : Fz} {lo : Nat} {h : Heap} {own : OwnL}  {a56 : Option Addr} {n56 c56 : Nat} {a57 : Option Addr} {n57 c57 : Nat} (X : St φ lo h (own)) (p55 : ApiTopo) (p58 : Int) (H56 : RSl eBool φ (.slice a56 n56 c56) p55.Station) (H57 : RSl eApiLink φ (.slice a57 n57 c57) p55.Links) : Sim ((recN Try.prog LL cutF (n + 8)).call 23 #[(.agg #[.int .i64 p55.Nodes, .slice a56 n56 c56, .slice a57 n57 c57]), (.int .i64 p58)] h) (m_topo_From p55 p58) (fun (d : (Int × Int)) p => p = (.tuple #[.int .i64 d.1, .int .i64 d.2], h)) := by
  refine fcut Try.func23 rfl rfl rfl rfl X ?_
  intro h0 X0
  refine dseq ?_
  refine dreg ?_
  refine lbox rfl rfl rfl rfl rfl X0 (fun b59 h61 X62 => ?_)
  refine lpure (v := .int .i64 0) rfl (p_assign rfl) rfl rfl ?_
  refine lpure (v := .int .i64 0) rfl (p_assign rfl) rfl rfl ?_
  refine lend ?_
  refine nseq ?_
  refine dseq ?_
  refine dreg ?_
  refine lread (v := .agg #[.int .i64 p55.Nodes, .slice a56 n56 c56, .slice a57 n57 c57]) rfl (q_load wd_25 rfl) (St.ld X62 (j := 0) rfl rfl) rfl ?_
  refine lpure (v := .int .i64 p58) rfl (p_move rfl) rfl rfl ?_
  refine linl rfl rfl rfl rfl ca_53 rfl Try.func53 rfl rfl rfl rfl rfl ?_
  refine dseq ?_
  refine dreg ?_
  refine lbox rfl rfl rfl rfl rfl X62 (fun b63 h65 X66 => ?_)
  refine lpure (v := .int .i64 0) rfl (p_assign rfl) rfl rfl ?_
  refine lpure (v := .int .i64 0) rfl (p_assign rfl) rfl rfl ?_
  refine lend ?_
  refine nseq ?_
  refine dseq ?_
  refine dreg ?_
  refine lpure (v := .int .i64 0) rfl (p_assign rfl) rfl rfl ?_
  refine lend ?_
  refine nseq ?_
  refine dseq ?_
  refine dseq ?_
  refine dreg ?_
  refine lread (v := .agg #[.int .i64 p55.Nodes, .slice a56 n56 c56, .slice a57 n57 c57]) rfl (q_load wd_25 rfl) (St.ld X66 (j := 0) rfl rfl) rfl ?_
  refine lcall rfl rfl ca_34 rfl rfl (f34_ok X66 p55 H56 H57) rfl (fun e6831 v6832 h6833 hq6834 => ?_)
  cases hq6834
  refine lpure (v := .int .i64 e6831) rfl (p_assign rfl) rfl rfl ?_
  refine lend ?_
  refine nseq ?_
  refine dseq ?_
  refine dreg ?_
  refine lpure (v := .int .i64 e6831) rfl (p_move rfl) rfl rfl ?_
  refine lpure (v := .bool (decide (e6831 ≠ 0))) rfl (p_ne rfl) rfl rfl ?_
  refine lend ?_
  refine nseq ?_
  refine dcond rfl rfl (fun k6835 => ?_) (fun k6835 => ?_)
  · refine dseq ?_
    refine dreg ?_
    refine lpure (v := .int .i64 0) rfl (p_move rfl) rfl rfl ?_
    refine lpure (v := .int .i64 e6831) rfl (p_move rfl) rfl rfl ?_
    refine lpure (v := .int .i64 0) rfl (p_assign rfl) rfl rfl ?_
    refine lpure (v := .int .i64 e6831) rfl (p_assign rfl) rfl rfl ?_
    refine lend ?_
    refine nseq ?_
    refine dret ?_
    refine rseq ?_
    refine kin_r (res_2 resT resT) ?_
    refine lpure (v := .int .i64 0) rfl (p_extract rfl) rfl rfl ?_
    refine lpure (v := .int .i64 e6831) rfl (p_extract rfl) rfl rfl ?_
    refine lpure (v := .int .i64 0) rfl (p_assign rfl) rfl rfl ?_
    refine lpure (v := .int .i64 e6831) rfl (p_assign rfl) rfl rfl ?_
    refine lend ?_
    refine nseq ?_
    refine dret ?_
    exact kcut_r (res_2 resT resT) X66 rfl rfl
  · refine dskip ?_
    refine nseq ?_
    refine dseq ?_
    refine dseq ?_
    refine dreg ?_
    refine lpure (v := .int .i64 p58) rfl (p_move rfl) rfl rfl ?_
    refine lpure (v := .bool (decide (p58 < 0))) rfl (p_lt rfl) rfl rfl ?_
    refine lpure (v := .bool (decide (p58 < 0))) rfl (p_move rfl) rfl rfl ?_
    refine lsh (τ := Bool) (σ := Unit) (fun s6837 (_ : Unit) => [(1, .int .i64 p58), (2, .func (.func 41) #[] #[]), (3, .pointer (some ⟨b63, 0, none⟩)), (8, .int .i64 0), (25, .bool s6837)]) (fun s6837 (_ : Unit) hh => St φ h.n hh ([(some b63, .cells [.int .i64 p55.Nodes, .slice a56 n56 c56, .slice a57 n57 c57] 25 .exact), (some b59, .cells [.int .i64 p55.Nodes, .slice a56 n56 c56, .slice a57 n57 c57] 25 .exact)])) 7 ?_ ?_
    · rintro s6837 _ t0 h6839 X6838
      refine lend ?_
      refine nseq ?_
      refine dcond rfl rfl (fun k6840 => ?_) (fun k6840 => ?_)
      · refine dseq ?_
        refine dreg ?_
        refine lpure (v := .int .i64 0) rfl (p_move rfl) rfl rfl ?_
        refine lpure (v := .int .i64 0) rfl (p_assign rfl) rfl rfl ?_
        refine lpure (v := .int .i64 2) rfl (p_assign rfl) rfl rfl ?_
        refine lend ?_
        refine nseq ?_
        refine dret ?_
        refine rseq ?_
        refine kin_r (res_2 resT resT) ?_
        refine lpure (v := .int .i64 0) rfl (p_extract rfl) rfl rfl ?_
        refine lpure (v := .int .i64 2) rfl (p_extract rfl) rfl rfl ?_
        refine lpure (v := .int .i64 0) rfl (p_assign rfl) rfl rfl ?_
        refine lpure (v := .int .i64 2) rfl (p_assign rfl) rfl rfl ?_
        refine lend ?_
        refine nseq ?_
        refine dret ?_
        exact kcut_r (res_2 resT resT) X6838 rfl rfl
      · refine dskip ?_
        refine nseq ?_
        refine dseq ?_
        refine dreg ?_
        refine lpure (v := .func (.func 41) #[] #[]) rfl (p_move rfl) rfl rfl ?_
        refine lpure (v := .pointer (some ⟨b63, 2, none⟩)) rfl (p_fa fo_25_2 rfl) rfl rfl ?_
        refine lread (v := .slice a57 n57 c57) rfl (q_load wd_23 rfl) (St.ld X6838 (j := 0) rfl rfl) rfl ?_
        refine lpure (v := .int .i64 p58) rfl (p_move rfl) rfl rfl ?_
        refine lpure (v := .int .i64 (w64 (Int.tdiv p58 2))) rfl (p_quo rfl) rfl rfl ?_
        refine Sim.bindM fun e6841 he6842 => ?_
        obtain ⟨p6843, cs6843, hp6843, hF6843, hR6843⟩ := RSl.ia H57 he6842 (kd := .i64) (n := 4) rfl
        obtain rfl := eApiLink_el hR6843
        refine lpure (v := p6843) rfl (p_ia rs_23 rfl) hp6843 rfl ?_
        refine lread (v := .agg #[.int .i64 e6841.A, .int .i64 e6841.B, .int .i64 e6841.Per, .int .i64 e6841.Delay]) rfl (q_load wd_50 rfl) (FP.ldw X6838 hF6843 rfl rfl) rfl ?_
        refine lpure (v := .int .i64 p58) rfl (p_move rfl) rfl rfl ?_
        refine lpure (v := .agg #[.int .i64 e6841.A, .int .i64 e6841.B, .int .i64 e6841.Per, .int .i64 e6841.Delay, .int .i64 p58]) rfl (p_build rfl) (build_st' tz_65 pl_65 rfl) rfl ?_
        refine lcallv rfl rfl rfl rfl ca_41 rfl rfl (f41_ok X6838 ((TopoEnd.mk e6841 p58))) rfl (fun e6844 v6845 h6846 hq6847 => ?_)
        cases hq6847
        refine lpure (v := .int .i64 e6844) rfl (p_assign rfl) rfl rfl ?_
        refine lpure (v := .int .i64 0) rfl (p_assign rfl) rfl rfl ?_
        refine lend ?_
        refine nseq ?_
        refine dret ?_
        refine kin_r (res_2 resT resT) ?_
        refine lpure (v := .int .i64 e6844) rfl (p_extract rfl) rfl rfl ?_
        refine lpure (v := .int .i64 0) rfl (p_extract rfl) rfl rfl ?_
        refine lpure (v := .int .i64 e6844) rfl (p_assign rfl) rfl rfl ?_
        refine lpure (v := .int .i64 0) rfl (p_assign rfl) rfl rfl ?_
        refine lend ?_
        refine nseq ?_
        refine dret ?_
        exact kcut_r (res_2 resT resT) X6838 rfl rfl
    · intro j6848 J6849
      refine lcase (i := 18) (show _ = Value.bool (decide (p58 < 0)) from rfl) (fun k6850 => ?_) (fun k6850 => ?_)
      · refine lskip rfl rfl ?_
        refine lskip rfl rfl ?_
        refine lskip rfl rfl ?_
        refine lskip rfl rfl ?_
        refine lskip rfl rfl ?_
        refine lskip rfl rfl ?_
        refine lpure (v := .bool true) rfl (p_pick rfl) rfl rfl ?_
        refine Sim.of_eq (congrArg j6848 (show ((decide (p58 < 0)) || (decide ((w64 (2 * (p55.Links.length : Int))) ≤ p58))) = true from by rw [k6850] <;> rfl)) ?_
        exact ljmpM J6849 true () (sub_cons rfl (sub_cons rfl (sub_cons rfl (sub_cons rfl (sub_cons rfl sub_nil))))) X66
      · refine lpure (v := .int .i64 p58) rfl (p_move rfl) rfl rfl ?_
        refine lpure (v := .pointer (some ⟨b63, 2, none⟩)) rfl (p_fa fo_25_2 rfl) rfl rfl ?_
        refine lread (v := .slice a57 n57 c57) rfl (q_load wd_23 rfl) (St.ld X66 (j := 0) rfl rfl) rfl ?_
        refine lpure (v := .int .i64 (p55.Links.length : Int)) rfl (p_len rfl rfl rfl un_23 rfl) (RSl.lenC H57) rfl ?_
        refine lpure (v := .int .i64 (w64 (2 * (p55.Links.length : Int)))) rfl (p_mul rfl) rfl rfl ?_
        refine lpure (v := .bool (decide ((w64 (2 * (p55.Links.length : Int))) ≤ p58))) rfl (p_ge rfl) rfl rfl ?_
        refine lpure (v := .bool (decide ((w64 (2 * (p55.Links.length : Int))) ≤ p58))) rfl (p_pick rfl) rfl rfl ?_
        refine Sim.of_eq (congrArg j6848 (show ((decide (p58 < 0)) || (decide ((w64 (2 * (p55.Links.length : Int))) ≤ p58))) = (decide ((w64 (2 * (p55.Links.length : Int))) ≤ p58)) from by rw [k6850] <;> rfl)) ?_
        exact ljmpM J6849 (decide ((w64 (2 * (p55.Links.length : Int))) ≤ p58)) () (sub_cons rfl (sub_cons rfl (sub_cons rfl (sub_cons rfl (sub_cons rfl sub_nil))))) X66
/-! isochron/topo.To -/
theorem f24_ok {n : Nat} {φ : Fz} {lo : Nat} {h : Heap} {own : OwnL}  {a6864 : Option Addr} {n6864 c6864 : Nat} {a6865 : Option Addr} {n6865 c6865 : Nat} (X : St φ lo h (own)) (p6863 : ApiTopo) (p6866 : Int) (H6864 : RSl eBool φ (.slice a6864 n6864 c6864) p6863.Station) (H6865 : RSl eApiLink φ (.slice a6865 n6865 c6865) p6863.Links) : Sim ((recN Try.prog LL cutF (n + 8)).call 24 #[(.agg #[.int .i64 p6863.Nodes, .slice a6864 n6864 c6864, .slice a6865 n6865 c6865]), (.int .i64 p6866)] h) (m_topo_To p6863 p6866) (fun (d : (Int × Int)) p => p = (.tuple #[.int .i64 d.1, .int .i64 d.2], h)) := by
  refine fcut Try.func24 rfl rfl rfl rfl X ?_
  intro h0 X0
  refine dseq ?_
  refine dreg ?_
  refine lbox rfl rfl rfl rfl rfl X0 (fun b6867 h6869 X6870 => ?_)
  refine lpure (v := .int .i64 0) rfl (p_assign rfl) rfl rfl ?_
  refine lpure (v := .int .i64 0) rfl (p_assign rfl) rfl rfl ?_
  refine lend ?_
  refine nseq ?_
  refine dseq ?_
  refine dreg ?_
  refine lread (v := .agg #[.int .i64 p6863.Nodes, .slice a6864 n6864 c6864, .slice a6865 n6865 c6865]) rfl (q_load wd_25 rfl) (St.ld X6870 (j := 0) rfl rfl) rfl ?_
  refine lpure (v := .int .i64 p6866) rfl (p_move rfl) rfl rfl ?_
  refine linl rfl rfl rfl rfl ca_53 rfl Try.func53 rfl rfl rfl rfl rfl ?_
  refine dseq ?_
  refine dreg ?_
  refine lbox rfl rfl rfl rfl rfl X6870 (fun b6871 h6873 X6874 => ?_)
  refine lpure (v := .int .i64 0) rfl (p_assign rfl) rfl rfl ?_
  refine lpure (v := .int .i64 0) rfl (p_assign rfl) rfl rfl ?_
  refine lend ?_
  refine nseq ?_
  refine dseq ?_
  refine dreg ?_
  refine lpure (v := .int .i64 0) rfl (p_assign rfl) rfl rfl ?_
  refine lend ?_
  refine nseq ?_
  refine dseq ?_
  refine dseq ?_
  refine dreg ?_
  refine lread (v := .agg #[.int .i64 p6863.Nodes, .slice a6864 n6864 c6864, .slice a6865 n6865 c6865]) rfl (q_load wd_25 rfl) (St.ld X6874 (j := 0) rfl rfl) rfl ?_
  refine lcall rfl rfl ca_34 rfl rfl (f34_ok X6874 p6863 H6864 H6865) rfl (fun e6875 v6876 h6877 hq6878 => ?_)
  cases hq6878
  refine lpure (v := .int .i64 e6875) rfl (p_assign rfl) rfl rfl ?_
  refine lend ?_
  refine nseq ?_
  refine dseq ?_
  refine dreg ?_
  refine lpure (v := .int .i64 e6875) rfl (p_move rfl) rfl rfl ?_
  refine lpure (v := .bool (decide (e6875 ≠ 0))) rfl (p_ne rfl) rfl rfl ?_
  refine lend ?_
  refine nseq ?_
  refine dcond rfl rfl (fun k6879 => ?_) (fun k6879 => ?_)
  · refine dseq ?_
    refine dreg ?_
    refine lpure (v := .int .i64 0) rfl (p_move rfl) rfl rfl ?_
    refine lpure (v := .int .i64 e6875) rfl (p_move rfl) rfl rfl ?_
    refine lpure (v := .int .i64 0) rfl (p_assign rfl) rfl rfl ?_
    refine lpure (v := .int .i64 e6875) rfl (p_assign rfl) rfl rfl ?_
    refine lend ?_
    refine nseq ?_
    refine dret ?_
    refine rseq ?_
    refine kin_r (res_2 resT resT) ?_
    refine lpure (v := .int .i64 0) rfl (p_extract rfl) rfl rfl ?_
    refine lpure (v := .int .i64 e6875) rfl (p_extract rfl) rfl rfl ?_
    refine lpure (v := .int .i64 0) rfl (p_assign rfl) rfl rfl ?_
    refine lpure (v := .int .i64 e6875) rfl (p_assign rfl) rfl rfl ?_
    refine lend ?_
    refine nseq ?_
    refine dret ?_
    exact kcut_r (res_2 resT resT) X6874 rfl rfl
  · refine dskip ?_
    refine nseq ?_
    refine dseq ?_
    refine dseq ?_
    refine dreg ?_
    refine lpure (v := .int .i64 p6866) rfl (p_move rfl) rfl rfl ?_
    refine lpure (v := .bool (decide (p6866 < 0))) rfl (p_lt rfl) rfl rfl ?_
    refine lpure (v := .bool (decide (p6866 < 0))) rfl (p_move rfl) rfl rfl ?_
    refine lsh (τ := Bool) (σ := Unit) (fun s6881 (_ : Unit) => [(1, .int .i64 p6866), (2, .func (.func 42) #[] #[]), (3, .pointer (some ⟨b6871, 0, none⟩)), (8, .int .i64 0), (25, .bool s6881)]) (fun s6881 (_ : Unit) hh => St φ h.n hh ([(some b6871, .cells [.int .i64 p6863.Nodes, .slice a6864 n6864 c6864, .slice a6865 n6865 c6865] 25 .exact), (some b6867, .cells [.int .i64 p6863.Nodes, .slice a6864 n6864 c6864, .slice a6865 n6865 c6865] 25 .exact)])) 7 ?_ ?_
    · rintro s6881 _ t0 h6883 X6882
      refine lend ?_
      refine nseq ?_
      refine dcond rfl rfl (fun k6884 => ?_) (fun k6884 => ?_)
      · refine dseq ?_
        refine dreg ?_
        refine lpure (v := .int .i64 0) rfl (p_move rfl) rfl rfl ?_
        refine lpure (v := .int .i64 0) rfl (p_assign rfl) rfl rfl ?_
        refine lpure (v := .int .i64 2) rfl (p_assign rfl) rfl rfl ?_
        refine lend ?_
        refine nseq ?_
        refine dret ?_
        refine rseq ?_
        refine kin_r (res_2 resT resT) ?_
        refine lpure (v := .int .i64 0) rfl (p_extract rfl) rfl rfl ?_
        refine lpure (v := .int .i64 2) rfl (p_extract rfl) rfl rfl ?_
        refine lpure (v := .int .i64 0) rfl (p_assign rfl) rfl rfl ?_
        refine lpure (v := .int .i64 2) rfl (p_assign rfl) rfl rfl ?_
        refine lend ?_
        refine nseq ?_
        refine dret ?_
        exact kcut_r (res_2 resT resT) X6882 rfl rfl
      · refine dskip ?_
        refine nseq ?_
        refine dseq ?_
        refine dreg ?_
        refine lpure (v := .func (.func 42) #[] #[]) rfl (p_move rfl) rfl rfl ?_
        refine lpure (v := .pointer (some ⟨b6871, 2, none⟩)) rfl (p_fa fo_25_2 rfl) rfl rfl ?_
        refine lread (v := .slice a6865 n6865 c6865) rfl (q_load wd_23 rfl) (St.ld X6882 (j := 0) rfl rfl) rfl ?_
        refine lpure (v := .int .i64 p6866) rfl (p_move rfl) rfl rfl ?_
        refine lpure (v := .int .i64 (w64 (Int.tdiv p6866 2))) rfl (p_quo rfl) rfl rfl ?_
        refine Sim.bindM fun e6885 he6886 => ?_
        obtain ⟨p6887, cs6887, hp6887, hF6887, hR6887⟩ := RSl.ia H6865 he6886 (kd := .i64) (n := 4) rfl
        obtain rfl := eApiLink_el hR6887
        refine lpure (v := p6887) rfl (p_ia rs_23 rfl) hp6887 rfl ?_
        refine lread (v := .agg #[.int .i64 e6885.A, .int .i64 e6885.B, .int .i64 e6885.Per, .int .i64 e6885.Delay]) rfl (q_load wd_50 rfl) (FP.ldw X6882 hF6887 rfl rfl) rfl ?_
        refine lpure (v := .int .i64 p6866) rfl (p_move rfl) rfl rfl ?_
        refine lpure (v := .agg #[.int .i64 e6885.A, .int .i64 e6885.B, .int .i64 e6885.Per, .int .i64 e6885.Delay, .int .i64 p6866]) rfl (p_build rfl) (build_st' tz_65 pl_65 rfl) rfl ?_
        refine lcallv rfl rfl rfl rfl ca_42 rfl rfl (f42_ok X6882 ((TopoEnd.mk e6885 p6866))) rfl (fun e6888 v6889 h6890 hq6891 => ?_)
        cases hq6891
        refine lpure (v := .int .i64 e6888) rfl (p_assign rfl) rfl rfl ?_
        refine lpure (v := .int .i64 0) rfl (p_assign rfl) rfl rfl ?_
        refine lend ?_
        refine nseq ?_
        refine dret ?_
        refine kin_r (res_2 resT resT) ?_
        refine lpure (v := .int .i64 e6888) rfl (p_extract rfl) rfl rfl ?_
        refine lpure (v := .int .i64 0) rfl (p_extract rfl) rfl rfl ?_
        refine lpure (v := .int .i64 e6888) rfl (p_assign rfl) rfl rfl ?_
        refine lpure (v := .int .i64 0) rfl (p_assign rfl) rfl rfl ?_
        refine lend ?_
        refine nseq ?_
        refine dret ?_
        exact kcut_r (res_2 resT resT) X6882 rfl rfl
    · intro j6892 J6893
      refine lcase (i := 18) (show _ = Value.bool (decide (p6866 < 0)) from rfl) (fun k6894 => ?_) (fun k6894 => ?_)
      · refine lskip rfl rfl ?_
        refine lskip rfl rfl ?_
        refine lskip rfl rfl ?_
        refine lskip rfl rfl ?_
        refine lskip rfl rfl ?_
        refine lskip rfl rfl ?_
        refine lpure (v := .bool true) rfl (p_pick rfl) rfl rfl ?_
        refine Sim.of_eq (congrArg j6892 (show ((decide (p6866 < 0)) || (decide ((w64 (2 * (p6863.Links.length : Int))) ≤ p6866))) = true from by rw [k6894] <;> rfl)) ?_
        exact ljmpM J6893 true () (sub_cons rfl (sub_cons rfl (sub_cons rfl (sub_cons rfl (sub_cons rfl sub_nil))))) X6874
      · refine lpure (v := .int .i64 p6866) rfl (p_move rfl) rfl rfl ?_
        refine lpure (v := .pointer (some ⟨b6871, 2, none⟩)) rfl (p_fa fo_25_2 rfl) rfl rfl ?_
        refine lread (v := .slice a6865 n6865 c6865) rfl (q_load wd_23 rfl) (St.ld X6874 (j := 0) rfl rfl) rfl ?_
        refine lpure (v := .int .i64 (p6863.Links.length : Int)) rfl (p_len rfl rfl rfl un_23 rfl) (RSl.lenC H6865) rfl ?_
        refine lpure (v := .int .i64 (w64 (2 * (p6863.Links.length : Int)))) rfl (p_mul rfl) rfl rfl ?_
        refine lpure (v := .bool (decide ((w64 (2 * (p6863.Links.length : Int))) ≤ p6866))) rfl (p_ge rfl) rfl rfl ?_
        refine lpure (v := .bool (decide ((w64 (2 * (p6863.Links.length : Int))) ≤ p6866))) rfl (p_pick rfl) rfl rfl ?_
        refine Sim.of_eq (congrArg j6892 (show ((decide (p6866 < 0)) || (decide ((w64 (2 * (p6863.Links.length : Int))) ≤ p6866))) = (decide ((w64 (2 * (p6863.Links.length : Int))) ≤ p6866)) from by rw [k6894] <;> rfl)) ?_
        exact ljmpM J6893 (decide ((w64 (2 * (p6863.Links.length : Int))) ≤ p6866)) () (sub_cons rfl (sub_cons rfl (sub_cons rfl (sub_cons rfl (sub_cons rfl sub_nil))))) X6874
/-! (isochron/topo.end).per -/
theorem f54_ok {n : Nat} {φ : Fz} {lo : Nat} {h : Heap} {own : OwnL}  (X : St φ lo h (own)) (p6932 : TopoEnd) : Sim ((recN Try.prog LL cutF (n + 1)).call 54 #[(.agg #[.int .i64 p6932.Link.A, .int .i64 p6932.Link.B, .int .i64 p6932.Link.Per, .int .i64 p6932.Link.Delay, .int .i64 p6932.port])] h) (m_topo_end_per p6932) (fun (d : Int) p => p = (.int .i64 d, h)) := by
  refine fcut Try.func54 rfl rfl rfl rfl X ?_
  intro h0 X0
  refine dseq ?_
  refine dreg ?_
  refine lbox rfl rfl rfl rfl rfl X0 (fun b6933 h6935 X6936 => ?_)
  refine lpure (v := .int .i64 0) rfl (p_assign rfl) rfl rfl ?_
  refine lend ?_
  refine nseq ?_
  refine dseq ?_
  refine dreg ?_
  refine lpure (v := .pointer (some ⟨b6933, 0, none⟩)) rfl (p_fa fo_65_0 rfl) rfl rfl ?_
  refine lpure (v := .pointer (some ⟨b6933, 2, none⟩)) rfl (p_fa fo_50_2 rfl) rfl rfl ?_
  refine lread (v := .int .i64 p6932.Link.Per) rfl (q_load wd_3 rfl) (St.ld X6936 (j := 0) rfl rfl) rfl ?_
  refine lpure (v := .int .i64 p6932.Link.Per) rfl (p_assign rfl) rfl rfl ?_
  refine lend ?_
  refine nseq ?_
  refine dret ?_
  exact kcut_r (res_1 resT) X6936 rfl rfl
/-! isochron/topo.Per -/
theorem f25_ok {n : Nat} {φ : Fz} {lo : Nat} {h : Heap} {own : OwnL}  {a6908 : Option Addr} {n6908 c6908 : Nat} {a6909 : Option Addr} {n6909 c6909 : Nat} (X : St φ lo h (own)) (p6907 : ApiTopo) (p6910 : Int) (H6908 : RSl eBool φ (.slice a6908 n6908 c6908) p6907.Station) (H6909 : RSl eApiLink φ (.slice a6909 n6909 c6909) p6907.Links) : Sim ((recN Try.prog LL cutF (n + 8)).call 25 #[(.agg #[.int .i64 p6907.Nodes, .slice a6908 n6908 c6908, .slice a6909 n6909 c6909]), (.int .i64 p6910)] h) (m_topo_Per p6907 p6910) (fun (d : (Int × Int)) p => p = (.tuple #[.int .i64 d.1, .int .i64 d.2], h)) := by
  refine fcut Try.func25 rfl rfl rfl rfl X ?_
  intro h0 X0
  refine dseq ?_
  refine dreg ?_
  refine lbox rfl rfl rfl rfl rfl X0 (fun b6911 h6913 X6914 => ?_)
  refine lpure (v := .int .i64 0) rfl (p_assign rfl) rfl rfl ?_
  refine lpure (v := .int .i64 0) rfl (p_assign rfl) rfl rfl ?_
  refine lend ?_
  refine nseq ?_
  refine dseq ?_
  refine dreg ?_
  refine lread (v := .agg #[.int .i64 p6907.Nodes, .slice a6908 n6908 c6908, .slice a6909 n6909 c6909]) rfl (q_load wd_25 rfl) (St.ld X6914 (j := 0) rfl rfl) rfl ?_
  refine lpure (v := .int .i64 p6910) rfl (p_move rfl) rfl rfl ?_
  refine linl rfl rfl rfl rfl ca_53 rfl Try.func53 rfl rfl rfl rfl rfl ?_
  refine dseq ?_
  refine dreg ?_
  refine lbox rfl rfl rfl rfl rfl X6914 (fun b6915 h6917 X6918 => ?_)
  refine lpure (v := .int .i64 0) rfl (p_assign rfl) rfl rfl ?_
  refine lpure (v := .int .i64 0) rfl (p_assign rfl) rfl rfl ?_
  refine lend ?_
  refine nseq ?_
  refine dseq ?_
  refine dreg ?_
  refine lpure (v := .int .i64 0) rfl (p_assign rfl) rfl rfl ?_
  refine lend ?_
  refine nseq ?_
  refine dseq ?_
  refine dseq ?_
  refine dreg ?_
  refine lread (v := .agg #[.int .i64 p6907.Nodes, .slice a6908 n6908 c6908, .slice a6909 n6909 c6909]) rfl (q_load wd_25 rfl) (St.ld X6918 (j := 0) rfl rfl) rfl ?_
  refine lcall rfl rfl ca_34 rfl rfl (f34_ok X6918 p6907 H6908 H6909) rfl (fun e6919 v6920 h6921 hq6922 => ?_)
  cases hq6922
  refine lpure (v := .int .i64 e6919) rfl (p_assign rfl) rfl rfl ?_
  refine lend ?_
  refine nseq ?_
  refine dseq ?_
  refine dreg ?_
  refine lpure (v := .int .i64 e6919) rfl (p_move rfl) rfl rfl ?_
  refine lpure (v := .bool (decide (e6919 ≠ 0))) rfl (p_ne rfl) rfl rfl ?_
  refine lend ?_
  refine nseq ?_
  refine dcond rfl rfl (fun k6923 => ?_) (fun k6923 => ?_)
  · refine dseq ?_
    refine dreg ?_
    refine lpure (v := .int .i64 0) rfl (p_move rfl) rfl rfl ?_
    refine lpure (v := .int .i64 e6919) rfl (p_move rfl) rfl rfl ?_
    refine lpure (v := .int .i64 0) rfl (p_assign rfl) rfl rfl ?_
    refine lpure (v := .int .i64 e6919) rfl (p_assign rfl) rfl rfl ?_
    refine lend ?_
    refine nseq ?_
    refine dret ?_
    refine rseq ?_
    refine kin_r (res_2 resT resT) ?_
    refine lpure (v := .int .i64 0) rfl (p_extract rfl) rfl rfl ?_
    refine lpure (v := .int .i64 e6919) rfl (p_extract rfl) rfl rfl ?_
    refine lpure (v := .int .i64 0) rfl (p_assign rfl) rfl rfl ?_
    refine lpure (v := .int .i64 e6919) rfl (p_assign rfl) rfl rfl ?_
    refine lend ?_
    refine nseq ?_
    refine dret ?_
    exact kcut_r (res_2 resT resT) X6918 rfl rfl
  · refine dskip ?_
    refine nseq ?_
    refine dseq ?_
    refine dseq ?_
    refine dreg ?_
    refine lpure (v := .int .i64 p6910) rfl (p_move rfl) rfl rfl ?_
    refine lpure (v := .bool (decide (p6910 < 0))) rfl (p_lt rfl) rfl rfl ?_
    refine lpure (v := .bool (decide (p6910 < 0))) rfl (p_move rfl) rfl rfl ?_
    refine lsh (τ := Bool) (σ := Unit) (fun s6925 (_ : Unit) => [(1, .int .i64 p6910), (2, .func (.func 54) #[] #[]), (3, .pointer (some ⟨b6915, 0, none⟩)), (8, .int .i64 0), (25, .bool s6925)]) (fun s6925 (_ : Unit) hh => St φ h.n hh ([(some b6915, .cells [.int .i64 p6907.Nodes, .slice a6908 n6908 c6908, .slice a6909 n6909 c6909] 25 .exact), (some b6911, .cells [.int .i64 p6907.Nodes, .slice a6908 n6908 c6908, .slice a6909 n6909 c6909] 25 .exact)])) 7 ?_ ?_
    · rintro s6925 _ t0 h6927 X6926
      refine lend ?_
      refine nseq ?_
      refine dcond rfl rfl (fun k6928 => ?_) (fun k6928 => ?_)
      · refine dseq ?_
        refine dreg ?_
        refine lpure (v := .int .i64 0) rfl (p_move rfl) rfl rfl ?_
        refine lpure (v := .int .i64 0) rfl (p_assign rfl) rfl rfl ?_
        refine lpure (v := .int .i64 2) rfl (p_assign rfl) rfl rfl ?_
        refine lend ?_
        refine nseq ?_
        refine dret ?_
        refine rseq ?_
        refine kin_r (res_2 resT resT) ?_
        refine lpure (v := .int .i64 0) rfl (p_extract rfl) rfl rfl ?_
        refine lpure (v := .int .i64 2) rfl (p_extract rfl) rfl rfl ?_
        refine lpure (v := .int .i64 0) rfl (p_assign rfl) rfl rfl ?_
        refine lpure (v := .int .i64 2) rfl (p_assign rfl) rfl rfl ?_
        refine lend ?_
        refine nseq ?_
        refine dret ?_
        exact kcut_r (res_2 resT resT) X6926 rfl rfl
      · refine dskip ?_
        refine nseq ?_
        refine dseq ?_
        refine dreg ?_
        refine lpure (v := .func (.func 54) #[] #[]) rfl (p_move rfl) rfl rfl ?_
        refine lpure (v := .pointer (some ⟨b6915, 2, none⟩)) rfl (p_fa fo_25_2 rfl) rfl rfl ?_
        refine lread (v := .slice a6909 n6909 c6909) rfl (q_load wd_23 rfl) (St.ld X6926 (j := 0) rfl rfl) rfl ?_
        refine lpure (v := .int .i64 p6910) rfl (p_move rfl) rfl rfl ?_
        refine lpure (v := .int .i64 (w64 (Int.tdiv p6910 2))) rfl (p_quo rfl) rfl rfl ?_
        refine Sim.bindM fun e6929 he6930 => ?_
        obtain ⟨p6931, cs6931, hp6931, hF6931, hR6931⟩ := RSl.ia H6909 he6930 (kd := .i64) (n := 4) rfl
        obtain rfl := eApiLink_el hR6931
        refine lpure (v := p6931) rfl (p_ia rs_23 rfl) hp6931 rfl ?_
        refine lread (v := .agg #[.int .i64 e6929.A, .int .i64 e6929.B, .int .i64 e6929.Per, .int .i64 e6929.Delay]) rfl (q_load wd_50 rfl) (FP.ldw X6926 hF6931 rfl rfl) rfl ?_
        refine lpure (v := .int .i64 p6910) rfl (p_move rfl) rfl rfl ?_
        refine lpure (v := .agg #[.int .i64 e6929.A, .int .i64 e6929.B, .int .i64 e6929.Per, .int .i64 e6929.Delay, .int .i64 p6910]) rfl (p_build rfl) (build_st' tz_65 pl_65 rfl) rfl ?_
        refine lcallv rfl rfl rfl rfl ca_54 rfl rfl (f54_ok X6926 ((TopoEnd.mk e6929 p6910))) rfl (fun e6937 v6938 h6939 hq6940 => ?_)
        cases hq6940
        refine lpure (v := .int .i64 e6937) rfl (p_assign rfl) rfl rfl ?_
        refine lpure (v := .int .i64 0) rfl (p_assign rfl) rfl rfl ?_
        refine lend ?_
        refine nseq ?_
        refine dret ?_
        refine kin_r (res_2 resT resT) ?_
        refine lpure (v := .int .i64 e6937) rfl (p_extract rfl) rfl rfl ?_
        refine lpure (v := .int .i64 0) rfl (p_extract rfl) rfl rfl ?_
        refine lpure (v := .int .i64 e6937) rfl (p_assign rfl) rfl rfl ?_
        refine lpure (v := .int .i64 0) rfl (p_assign rfl) rfl rfl ?_
        refine lend ?_
        refine nseq ?_
        refine dret ?_
        exact kcut_r (res_2 resT resT) X6926 rfl rfl
    · intro j6941 J6942
      refine lcase (i := 18) (show _ = Value.bool (decide (p6910 < 0)) from rfl) (fun k6943 => ?_) (fun k6943 => ?_)
      · refine lskip rfl rfl ?_
        refine lskip rfl rfl ?_
        refine lskip rfl rfl ?_
        refine lskip rfl rfl ?_
        refine lskip rfl rfl ?_
        refine lskip rfl rfl ?_
        refine lpure (v := .bool true) rfl (p_pick rfl) rfl rfl ?_
        refine Sim.of_eq (congrArg j6941 (show ((decide (p6910 < 0)) || (decide ((w64 (2 * (p6907.Links.length : Int))) ≤ p6910))) = true from by rw [k6943] <;> rfl)) ?_
        exact ljmpM J6942 true () (sub_cons rfl (sub_cons rfl (sub_cons rfl (sub_cons rfl (sub_cons rfl sub_nil))))) X6918
      · refine lpure (v := .int .i64 p6910) rfl (p_move rfl) rfl rfl ?_
        refine lpure (v := .pointer (some ⟨b6915, 2, none⟩)) rfl (p_fa fo_25_2 rfl) rfl rfl ?_
        refine lread (v := .slice a6909 n6909 c6909) rfl (q_load wd_23 rfl) (St.ld X6918 (j := 0) rfl rfl) rfl ?_
        refine lpure (v := .int .i64 (p6907.Links.length : Int)) rfl (p_len rfl rfl rfl un_23 rfl) (RSl.lenC H6909) rfl ?_
        refine lpure (v := .int .i64 (w64 (2 * (p6907.Links.length : Int)))) rfl (p_mul rfl) rfl rfl ?_
        refine lpure (v := .bool (decide ((w64 (2 * (p6907.Links.length : Int))) ≤ p6910))) rfl (p_ge rfl) rfl rfl ?_
        refine lpure (v := .bool (decide ((w64 (2 * (p6907.Links.length : Int))) ≤ p6910))) rfl (p_pick rfl) rfl rfl ?_
        refine Sim.of_eq (congrArg j6941 (show ((decide (p6910 < 0)) || (decide ((w64 (2 * (p6907.Links.length : Int))) ≤ p6910))) = (decide ((w64 (2 * (p6907.Links.length : Int))) ≤ p6910)) from by rw [k6943] <;> rfl)) ?_
        exact ljmpM J6942 (decide ((w64 (2 * (p6907.Links.length : Int))) ≤ p6910)) () (sub_cons rfl (sub_cons rfl (sub_cons rfl (sub_cons rfl (sub_cons rfl sub_nil))))) X6918
/-! (isochron/topo.end).delay -/
theorem f55_ok {n : Nat} {φ : Fz} {lo : Nat} {h : Heap} {own : OwnL}  (X : St φ lo h (own)) (p6981 : TopoEnd) : Sim ((recN Try.prog LL cutF (n + 1)).call 55 #[(.agg #[.int .i64 p6981.Link.A, .int .i64 p6981.Link.B, .int .i64 p6981.Link.Per, .int .i64 p6981.Link.Delay, .int .i64 p6981.port])] h) (m_topo_end_delay p6981) (fun (d : Int) p => p = (.int .i64 d, h)) := by
  refine fcut Try.func55 rfl rfl rfl rfl X ?_
  intro h0 X0
  refine dseq ?_
  refine dreg ?_
  refine lbox rfl rfl rfl rfl rfl X0 (fun b6982 h6984 X6985 => ?_)
  refine lpure (v := .int .i64 0) rfl (p_assign rfl) rfl rfl ?_
  refine lend ?_
  refine nseq ?_
  refine dseq ?_
  refine dreg ?_
  refine lpure (v := .pointer (some ⟨b6982, 0, none⟩)) rfl (p_fa fo_65_0 rfl) rfl rfl ?_
  refine lpure (v := .pointer (some ⟨b6982, 3, none⟩)) rfl (p_fa fo_50_3 rfl) rfl rfl ?_
  refine lread (v := .int .i64 p6981.Link.Delay) rfl (q_load wd_3 rfl) (St.ld X6985 (j := 0) rfl rfl) rfl ?_
  refine lpure (v := .int .i64 p6981.Link.Delay) rfl (p_assign rfl) rfl rfl ?_
  refine lend ?_
  refine nseq ?_
  refine dret ?_
  exact kcut_r (res_1 resT) X6985 rfl rfl
/-! isochron/topo.Delay -/
theorem f26_ok {n : Nat} {φ : Fz} {lo : Nat} {h : Heap} {own : OwnL}  {a6957 : Option Addr} {n6957 c6957 : Nat} {a6958 : Option Addr} {n6958 c6958 : Nat} (X : St φ lo h (own)) (p6956 : ApiTopo) (p6959 : Int) (H6957 : RSl eBool φ (.slice a6957 n6957 c6957) p6956.Station) (H6958 : RSl eApiLink φ (.slice a6958 n6958 c6958) p6956.Links) : Sim ((recN Try.prog LL cutF (n + 8)).call 26 #[(.agg #[.int .i64 p6956.Nodes, .slice a6957 n6957 c6957, .slice a6958 n6958 c6958]), (.int .i64 p6959)] h) (m_topo_Delay p6956 p6959) (fun (d : (Int × Int)) p => p = (.tuple #[.int .i64 d.1, .int .i64 d.2], h)) := by
  refine fcut Try.func26 rfl rfl rfl rfl X ?_
  intro h0 X0
  refine dseq ?_
  refine dreg ?_
  refine lbox rfl rfl rfl rfl rfl X0 (fun b6960 h6962 X6963 => ?_)
  refine lpure (v := .int .i64 0) rfl (p_assign rfl) rfl rfl ?_
  refine lpure (v := .int .i64 0) rfl (p_assign rfl) rfl rfl ?_
  refine lend ?_
  refine nseq ?_
  refine dseq ?_
  refine dreg ?_
  refine lread (v := .agg #[.int .i64 p6956.Nodes, .slice a6957 n6957 c6957, .slice a6958 n6958 c6958]) rfl (q_load wd_25 rfl) (St.ld X6963 (j := 0) rfl rfl) rfl ?_
  refine lpure (v := .int .i64 p6959) rfl (p_move rfl) rfl rfl ?_
  refine linl rfl rfl rfl rfl ca_53 rfl Try.func53 rfl rfl rfl rfl rfl ?_
  refine dseq ?_
  refine dreg ?_
  refine lbox rfl rfl rfl rfl rfl X6963 (fun b6964 h6966 X6967 => ?_)
  refine lpure (v := .int .i64 0) rfl (p_assign rfl) rfl rfl ?_
  refine lpure (v := .int .i64 0) rfl (p_assign rfl) rfl rfl ?_
  refine lend ?_
  refine nseq ?_
  refine dseq ?_
  refine dreg ?_
  refine lpure (v := .int .i64 0) rfl (p_assign rfl) rfl rfl ?_
  refine lend ?_
  refine nseq ?_
  refine dseq ?_
  refine dseq ?_
  refine dreg ?_
  refine lread (v := .agg #[.int .i64 p6956.Nodes, .slice a6957 n6957 c6957, .slice a6958 n6958 c6958]) rfl (q_load wd_25 rfl) (St.ld X6967 (j := 0) rfl rfl) rfl ?_
  refine lcall rfl rfl ca_34 rfl rfl (f34_ok X6967 p6956 H6957 H6958) rfl (fun e6968 v6969 h6970 hq6971 => ?_)
  cases hq6971
  refine lpure (v := .int .i64 e6968) rfl (p_assign rfl) rfl rfl ?_
  refine lend ?_
  refine nseq ?_
  refine dseq ?_
  refine dreg ?_
  refine lpure (v := .int .i64 e6968) rfl (p_move rfl) rfl rfl ?_
  refine lpure (v := .bool (decide (e6968 ≠ 0))) rfl (p_ne rfl) rfl rfl ?_
  refine lend ?_
  refine nseq ?_
  refine dcond rfl rfl (fun k6972 => ?_) (fun k6972 => ?_)
  · refine dseq ?_
    refine dreg ?_
    refine lpure (v := .int .i64 0) rfl (p_move rfl) rfl rfl ?_
    refine lpure (v := .int .i64 e6968) rfl (p_move rfl) rfl rfl ?_
    refine lpure (v := .int .i64 0) rfl (p_assign rfl) rfl rfl ?_
    refine lpure (v := .int .i64 e6968) rfl (p_assign rfl) rfl rfl ?_
    refine lend ?_
    refine nseq ?_
    refine dret ?_
    refine rseq ?_
    refine kin_r (res_2 resT resT) ?_
    refine lpure (v := .int .i64 0) rfl (p_extract rfl) rfl rfl ?_
    refine lpure (v := .int .i64 e6968) rfl (p_extract rfl) rfl rfl ?_
    refine lpure (v := .int .i64 0) rfl (p_assign rfl) rfl rfl ?_
    refine lpure (v := .int .i64 e6968) rfl (p_assign rfl) rfl rfl ?_
    refine lend ?_
    refine nseq ?_
    refine dret ?_
    exact kcut_r (res_2 resT resT) X6967 rfl rfl
  · refine dskip ?_
    refine nseq ?_
    refine dseq ?_
    refine dseq ?_
    refine dreg ?_
    refine lpure (v := .int .i64 p6959) rfl (p_move rfl) rfl rfl ?_
    refine lpure (v := .bool (decide (p6959 < 0))) rfl (p_lt rfl) rfl rfl ?_
    refine lpure (v := .bool (decide (p6959 < 0))) rfl (p_move rfl) rfl rfl ?_
    refine lsh (τ := Bool) (σ := Unit) (fun s6974 (_ : Unit) => [(1, .int .i64 p6959), (2, .func (.func 55) #[] #[]), (3, .pointer (some ⟨b6964, 0, none⟩)), (8, .int .i64 0), (25, .bool s6974)]) (fun s6974 (_ : Unit) hh => St φ h.n hh ([(some b6964, .cells [.int .i64 p6956.Nodes, .slice a6957 n6957 c6957, .slice a6958 n6958 c6958] 25 .exact), (some b6960, .cells [.int .i64 p6956.Nodes, .slice a6957 n6957 c6957, .slice a6958 n6958 c6958] 25 .exact)])) 7 ?_ ?_
    · rintro s6974 _ t0 h6976 X6975
      refine lend ?_
      refine nseq ?_
      refine dcond rfl rfl (fun k6977 => ?_) (fun k6977 => ?_)
      · refine dseq ?_
        refine dreg ?_
        refine lpure (v := .int .i64 0) rfl (p_move rfl) rfl rfl ?_
        refine lpure (v := .int .i64 0) rfl (p_assign rfl) rfl rfl ?_
        refine lpure (v := .int .i64 2) rfl (p_assign rfl) rfl rfl ?_
        refine lend ?_
        refine nseq ?_
        refine dret ?_
        refine rseq ?_
        refine kin_r (res_2 resT resT) ?_
        refine lpure (v := .int .i64 0) rfl (p_extract rfl) rfl rfl ?_
        refine lpure (v := .int .i64 2) rfl (p_extract rfl) rfl rfl ?_
        refine lpure (v := .int .i64 0) rfl (p_assign rfl) rfl rfl ?_
        refine lpure (v := .int .i64 2) rfl (p_assign rfl) rfl rfl ?_
        refine lend ?_
        refine nseq ?_
        refine dret ?_
        exact kcut_r (res_2 resT resT) X6975 rfl rfl
      · refine dskip ?_
        refine nseq ?_
        refine dseq ?_
        refine dreg ?_
        refine lpure (v := .func (.func 55) #[] #[]) rfl (p_move rfl) rfl rfl ?_
        refine lpure (v := .pointer (some ⟨b6964, 2, none⟩)) rfl (p_fa fo_25_2 rfl) rfl rfl ?_
        refine lread (v := .slice a6958 n6958 c6958) rfl (q_load wd_23 rfl) (St.ld X6975 (j := 0) rfl rfl) rfl ?_
        refine lpure (v := .int .i64 p6959) rfl (p_move rfl) rfl rfl ?_
        refine lpure (v := .int .i64 (w64 (Int.tdiv p6959 2))) rfl (p_quo rfl) rfl rfl ?_
        refine Sim.bindM fun e6978 he6979 => ?_
        obtain ⟨p6980, cs6980, hp6980, hF6980, hR6980⟩ := RSl.ia H6958 he6979 (kd := .i64) (n := 4) rfl
        obtain rfl := eApiLink_el hR6980
        refine lpure (v := p6980) rfl (p_ia rs_23 rfl) hp6980 rfl ?_
        refine lread (v := .agg #[.int .i64 e6978.A, .int .i64 e6978.B, .int .i64 e6978.Per, .int .i64 e6978.Delay]) rfl (q_load wd_50 rfl) (FP.ldw X6975 hF6980 rfl rfl) rfl ?_
        refine lpure (v := .int .i64 p6959) rfl (p_move rfl) rfl rfl ?_
        refine lpure (v := .agg #[.int .i64 e6978.A, .int .i64 e6978.B, .int .i64 e6978.Per, .int .i64 e6978.Delay, .int .i64 p6959]) rfl (p_build rfl) (build_st' tz_65 pl_65 rfl) rfl ?_
        refine lcallv rfl rfl rfl rfl ca_55 rfl rfl (f55_ok X6975 ((TopoEnd.mk e6978 p6959))) rfl (fun e6986 v6987 h6988 hq6989 => ?_)
        cases hq6989
        refine lpure (v := .int .i64 e6986) rfl (p_assign rfl) rfl rfl ?_
        refine lpure (v := .int .i64 0) rfl (p_assign rfl) rfl rfl ?_
        refine lend ?_
        refine nseq ?_
        refine dret ?_
        refine kin_r (res_2 resT resT) ?_
        refine lpure (v := .int .i64 e6986) rfl (p_extract rfl) rfl rfl ?_
        refine lpure (v := .int .i64 0) rfl (p_extract rfl) rfl rfl ?_
        refine lpure (v := .int .i64 e6986) rfl (p_assign rfl) rfl rfl ?_
        refine lpure (v := .int .i64 0) rfl (p_assign rfl) rfl rfl ?_
        refine lend ?_
        refine nseq ?_
        refine dret ?_
        exact kcut_r (res_2 resT resT) X6975 rfl rfl
    · intro j6990 J6991
      refine lcase (i := 18) (show _ = Value.bool (decide (p6959 < 0)) from rfl) (fun k6992 => ?_) (fun k6992 => ?_)
      · refine lskip rfl rfl ?_
        refine lskip rfl rfl ?_
        refine lskip rfl rfl ?_
        refine lskip rfl rfl ?_
        refine lskip rfl rfl ?_
        refine lskip rfl rfl ?_
        refine lpure (v := .bool true) rfl (p_pick rfl) rfl rfl ?_
        refine Sim.of_eq (congrArg j6990 (show ((decide (p6959 < 0)) || (decide ((w64 (2 * (p6956.Links.length : Int))) ≤ p6959))) = true from by rw [k6992] <;> rfl)) ?_
        exact ljmpM J6991 true () (sub_cons rfl (sub_cons rfl (sub_cons rfl (sub_cons rfl (sub_cons rfl sub_nil))))) X6967
      · refine lpure (v := .int .i64 p6959) rfl (p_move rfl) rfl rfl ?_
        refine lpure (v := .pointer (some ⟨b6964, 2, none⟩)) rfl (p_fa fo_25_2 rfl) rfl rfl ?_
        refine lread (v := .slice a6958 n6958 c6958) rfl (q_load wd_23 rfl) (St.ld X6967 (j := 0) rfl rfl) rfl ?_
        refine lpure (v := .int .i64 (p6956.Links.length : Int)) rfl (p_len rfl rfl rfl un_23 rfl) (RSl.lenC H6958) rfl ?_
        refine lpure (v := .int .i64 (w64 (2 * (p6956.Links.length : Int)))) rfl (p_mul rfl) rfl rfl ?_
        refine lpure (v := .bool (decide ((w64 (2 * (p6956.Links.length : Int))) ≤ p6959))) rfl (p_ge rfl) rfl rfl ?_
        refine lpure (v := .bool (decide ((w64 (2 * (p6956.Links.length : Int))) ≤ p6959))) rfl (p_pick rfl) rfl rfl ?_
        refine Sim.of_eq (congrArg j6990 (show ((decide (p6959 < 0)) || (decide ((w64 (2 * (p6956.Links.length : Int))) ≤ p6959))) = (decide ((w64 (2 * (p6956.Links.length : Int))) ≤ p6959)) from by rw [k6992] <;> rfl)) ?_
        exact ljmpM J6991 (decide ((w64 (2 * (p6956.Links.length : Int))) ≤ p6959)) () (sub_cons rfl (sub_cons rfl (sub_cons rfl (sub_cons rfl (sub_cons rfl sub_nil))))) X6967
/-! isochron/topo.Ports -/
theorem f11_ok {n : Nat} {φ : Fz} {lo : Nat} {h : Heap} {own : OwnL}  {a7371 : Option Addr} {n7371 c7371 : Nat} {a7372 : Option Addr} {n7372 c7372 : Nat} (X : St φ lo h (own)) (p7370 : ApiTopo) (p7373 : Int) (H7371 : RSl eBool φ (.slice a7371 n7371 c7371) p7370.Station) (H7372 : RSl eApiLink φ (.slice a7372 n7372 c7372) p7370.Links) : Sim ((recN Try.prog LL cutF (n + 7)).call 11 #[(.agg #[.int .i64 p7370.Nodes, .slice a7371 n7371 c7371, .slice a7372 n7372 c7372]), (.int .i64 p7373)] h) (m_topo_Ports p7370 p7373) (fun (d : ((List Int) × Int)) p => ∃ φ2 : Fz, ∃ a7735 : Option Addr, ∃ n7735 : Nat, ∃ c7735 : Nat, ∃ ob7735 : Option Nat, ∃ blk7735 : Blk, Fz.le φ φ2 ∧ St φ2 lo p.2 ((ob7735, blk7735) :: own) ∧ p.1 = .tuple #[.slice a7735 n7735 c7735, .int .i64 d.2] ∧ OSl (eInt .i64) φ2 3 ob7735 blk7735 (.slice a7735 n7735 c7735) d.1) := by
  refine fopen Try.func11 rfl rfl rfl rfl ?_
  refine dseq ?_
  refine dreg ?_
  refine lbox rfl rfl rfl rfl rfl X (fun b7374 h7376 X7377 => ?_)
  refine lbox rfl rfl rfl rfl rfl X7377 (fun b7378 h7380 X7381 => ?_)
  refine lpure (v := .slice none 0 0) rfl (p_assign rfl) rfl rfl ?_
  refine lpure (v := .int .i64 0) rfl (p_assign rfl) rfl rfl ?_
  refine lend ?_
  refine nseq ?_
  refine dseq ?_
  refine dseq ?_
  refine dreg ?_
  refine lread (v := .agg #[.int .i64 p7370.Nodes, .slice a7371 n7371 c7371, .slice a7372 n7372 c7372]) rfl (q_load wd_25 rfl) (St.ld X7381 (j := 1) rfl rfl) rfl ?_
  refine lcall rfl rfl ca_34 rfl rfl (f34_ok X7381 p7370 H7371 H7372) rfl (fun e7382 v7383 h7384 hq7385 => ?_)
  cases hq7385
  refine lpure (v := .int .i64 e7382) rfl (p_assign rfl) rfl rfl ?_
  refine lend ?_
  refine nseq ?_
  refine dseq ?_
  refine dreg ?_
  refine lpure (v := .int .i64 e7382) rfl (p_move rfl) rfl rfl ?_
  refine lpure (v := .bool (decide (e7382 ≠ 0))) rfl (p_ne rfl) rfl rfl ?_
  refine lend ?_
  refine nseq ?_
  refine dcond rfl rfl (fun k7386 => ?_) (fun k7386 => ?_)
  · refine dseq ?_
    refine dreg ?_
    refine lpure (v := .int .i64 e7382) rfl (p_move rfl) rfl rfl ?_
    refine lpure (v := .slice none 0 0) rfl (p_assign rfl) rfl rfl ?_
    refine lpure (v := .int .i64 e7382) rfl (p_assign rfl) rfl rfl ?_
    refine lend ?_
    refine nseq ?_
    refine dret ?_
    refine rseq ?_
    exact kopen_r (res_2 resT resT) ⟨φ, none, 0, 0, none, (.dead), (Fz.le_refl _), St.pick X7381 (.none _ (.skip _ (.skip _ (.refl _)))), rfl, OSl.nil⟩
  · refine dskip ?_
    refine nseq ?_
    refine dseq ?_
    refine dseq ?_
    refine dreg ?_
    refine lread (v := .agg #[.int .i64 p7370.Nodes, .slice a7371 n7371 c7371, .slice a7372 n7372 c7372]) rfl (q_load wd_25 rfl) (St.ld X7381 (j := 1) rfl rfl) rfl ?_
    refine lread (v := .int .i64 p7373) rfl (q_load wd_3 rfl) (St.ld X7381 (j := 0) rfl rfl) rfl ?_
    refine lcall rfl rfl ca_39 rfl rfl (f39_ok X7381 p7370 p7373 H7371 H7372) rfl (fun e7387 v7388 h7389 hq7390 => ?_)
    cases hq7390
    refine lpure (v := .bool (!e7387)) rfl (p_not rfl) rfl rfl ?_
    refine lend ?_
    refine nseq ?_
    refine dcond rfl rfl (fun k7391 => ?_) (fun k7391 => ?_)
    · refine dseq ?_
      refine dreg ?_
      refine lpure (v := .slice none 0 0) rfl (p_assign rfl) rfl rfl ?_
      refine lpure (v := .int .i64 2) rfl (p_assign rfl) rfl rfl ?_
      refine lend ?_
      refine nseq ?_
      refine dret ?_
      refine rseq ?_
      exact kopen_r (res_2 resT resT) ⟨φ, none, 0, 0, none, (.dead), (Fz.le_refl _), St.pick X7381 (.none _ (.skip _ (.skip _ (.refl _)))), rfl, OSl.nil⟩
    · refine dskip ?_
      refine nseq ?_
      refine dseq ?_
      refine dreg ?_
      refine lalloc rfl tz_28 rfl rfl rfl X7381 (fun b7392 h7394 X7395 => ?_)
      refine lend ?_
      refine nseq ?_
      refine dseq ?_
      refine dseq ?_
      refine dreg ?_
      refine lread (v := .agg #[.int .i64 p7370.Nodes, .slice a7371 n7371 c7371, .slice a7372 n7372 c7372]) rfl (q_load wd_25 rfl) (St.ld X7395 (j := 2) rfl rfl) rfl ?_
      refine linl rfl rfl rfl rfl ca_40 rfl Try.func40 rfl rfl rfl rfl rfl ?_
      refine dseq ?_
      refine dreg ?_
      refine lbox rfl rfl rfl rfl rfl X7395 (fun b7396 h7398 X7399 => ?_)
      refine lpure (v := .nilFunc) rfl (p_assign rfl) rfl rfl ?_
      refine lend ?_
      refine nseq ?_
      refine dseq ?_
      refine dreg ?_
      refine lpure (v := .func (.func 62) #[] #[.pointer (some ⟨b7396, 0, none⟩)]) rfl (p_makeFunc rfl) rfl rfl ?_
      refine lpure (v := .func (.func 62) #[] #[.pointer (some ⟨b7396, 0, none⟩)]) rfl (p_assign rfl) rfl rfl ?_
      refine lend ?_
      refine nseq ?_
      refine dret ?_
      refine kin_r (res_1 resT) ?_
      refine lend ?_
      refine nseq ?_
      refine dblock ?_
      refine drange rfl rfl ca_62 Try.func62 rfl rfl X7399 (fun _ => rfl) ?_
      intro l7400 q7401 df7402 h7404 Q7403 X7405
      refine dseq ?_
      refine dreg ?_
      refine lpure (v := .pointer (some ⟨b7396, 2, none⟩)) rfl (p_fa fo_25_2 rfl) rfl rfl ?_
      refine lread (v := .slice a7372 n7372 c7372) rfl (q_load wd_23 rfl) (St.ld X7405 (j := 2) rfl rfl) rfl ?_
      refine lpure (v := .int .i64 (p7370.Links.length : Int)) rfl (p_len rfl rfl rfl un_23 rfl) (RSl.lenC H7372) rfl ?_
      refine lpure (v := .int .i64 0) rfl (p_move rfl) rfl rfl ?_
      refine lend ?_
      refine nseq ?_
      refine dblock ?_
      refine dloopM (τ := Int × (List Int)) (σ := Option Addr × Nat × Nat × Option Nat × Blk) (fun s7573 (a7575, n7575, c7575, ob7575, blk7575) => [(0, .func (.yield l7400) #[] #[]), (6, .slice a7372 n7372 c7372), (7, .int .i64 (p7370.Links.length : Int)), (8, .int .i64 s7573.1)]) (fun s7573 (a7575, n7575, c7575, ob7575, blk7575) hh => St φ lo hh ((ob7575, blk7575) :: (some l7400, rdy q7401) :: (none, .dead) :: (some b7396, .cells [.int .i64 p7370.Nodes, .slice a7371 n7371 c7371, .slice a7372 n7372 c7372] 25 .exact) :: (some b7392, .cells [.slice a7575 n7575 c7575] 28 .exact) :: (some b7378, .cells [.int .i64 p7373] 3 .exact) :: (some b7374, .cells [.int .i64 p7370.Nodes, .slice a7371 n7371 c7371, .slice a7372 n7372 c7372] 25 .exact) :: own) ∧ OSl (eInt .i64) φ 3 ob7575 blk7575 (.slice a7575 n7575 c7575) s7573.2) (0, []) (none, 0, 0, none, .dead) (sub_cons rfl (sub_cons rfl (sub_cons rfl (sub_cons rfl sub_nil)))) ⟨(St.pick X7405 (.none _ (.keep _ (.none _ (.skip _ (.keep _ (.keep _ (.keep _ (.keep _ (.refl _)))))))))), OSl.nil⟩ ?_
      rintro n7656 ih7655 s7573 ⟨a7575, n7575, c7575, ob7575, blk7575⟩ t0 h7658 ⟨X7657, O7575⟩
      refine dseq ?_
      refine dreg ?_
      refine lpure (v := .bool (decide (s7573.1 < (p7370.Links.length : Int)))) rfl (p_lt rfl) rfl rfl ?_
      refine lend ?_
      refine nseq ?_
      refine dseq ?_
      refine dcond rfl rfl (fun k7659 => ?_) (fun k7659 => ?_)
      · refine dskip ?_
        refine nseq ?_
        refine dseq ?_
        refine dblock ?_
        refine dseq ?_
        refine dreg ?_
        refine lpure (v := .int .i64 s7573.1) rfl (p_move rfl) rfl rfl ?_
        refine Sim.bindM fun e7660 he7661 => ?_
        obtain ⟨p7662, cs7662, hp7662, hF7662, hR7662⟩ := RSl.ia H7372 he7661 (kd := .i64) (n := 4) rfl
        obtain rfl := eApiLink_el hR7662
        refine lpure (v := p7662) rfl (p_ia rs_23 rfl) hp7662 rfl ?_
        refine lread (v := .agg #[.int .i64 e7660.A, .int .i64 e7660.B, .int .i64 e7660.Per, .int .i64 e7660.Delay]) rfl (q_load wd_50 rfl) (FP.ldw X7657 hF7662 rfl rfl) rfl ?_
        refine lalloc rfl tz_50 rfl rfl rfl X7657 (fun b7663 h7665 X7666 => ?_)
        refine lpure (v := .int .i64 s7573.1) rfl (p_assign rfl) rfl rfl ?_
        refine lstore rfl ts_50 rfl rfl (j := 0) rfl rfl rfl rfl rfl rfl X7666 (fun h7667 X7668 => ?_)
        refine lend ?_
        refine nseq ?_
        refine dseq ?_
        refine dreg ?_
        refine lpure (v := .func (.yield l7400) #[] #[]) rfl (p_move rfl) rfl rfl ?_
        refine lread (v := .agg #[.int .i64 e7660.A, .int .i64 e7660.B, .int .i64 e7660.Per, .int .i64 e7660.Delay]) rfl (q_load wd_50 rfl) (St.ld X7668 (j := 0) rfl rfl) rfl ?_
        refine lpure (v := .int .i64 s7573.1) rfl (p_move rfl) rfl rfl ?_
        refine lpure (v := .int .i64 (w64 (2 * s7573.1))) rfl (p_mul rfl) rfl rfl ?_
        refine lpure (v := .agg #[.int .i64 e7660.A, .int .i64 e7660.B, .int .i64 e7660.Per, .int .i64 e7660.Delay, .int .i64 (w64 (2 * s7573.1))]) rfl (p_build rfl) (build_st' tz_65 pl_65 rfl) rfl ?_
        refine lround rfl rfl rfl rfl rfl rfl X7668 (j := 2) rfl Q7403 rfl rfl rfl rfl rfl (fun t7669 => ?_)
        refine dreg ?_
        refine lalloc rfl tz_65 rfl rfl rfl X7668 (fun b7670 h7672 X7673 => ?_)
        refine lstore rfl ts_65 rfl rfl (j := 0) rfl rfl rfl rfl rfl rfl X7673 (fun h7674 X7675 => ?_)
        refine lend ?_
        refine basg X7675 (j := 3) rfl (fun h7676 X7677 => ?_)
        refine dblock ?_
        refine dseq ?_
        refine ddraw 0 0 0 (by kernel_rfl) ?_
        refine sload (v := .agg #[.int .i64 e7660.A, .int .i64 e7660.B, .int .i64 e7660.Per, .int .i64 e7660.Delay, .int .i64 (w64 (2 * s7573.1))]) rfl rfl (q_load wd_65 rfl) (St.ld X7677 (j := 0) rfl rfl) (same_self 20 rfl) rfl ?_
        refine scall (en := fun d => (.int .i64 d)) rfl rfl ca_41 rfl rfl (f41_ok X7677 ((TopoEnd.mk e7660 (w64 (2 * s7573.1))))) rfl (fun e7678 => ?_)
        refine sload (v := .int .i64 p7373) rfl rfl (q_load wd_3 rfl) (St.ld X7677 (j := 7) rfl rfl) (same_self 20 rfl) rfl ?_
        refine spure (v := .bool (decide (e7678 = p7373))) rfl (p_eq rfl) (lo_t rfl (lo_t rfl rfl)) rfl rfl ?_
        refine send ?_
        refine nseq ?_
        refine djoinM (τ := (List Int)) (σ := Option Addr × Nat × Nat × Option Nat × Blk) (fun s7688 (a7689, n7689, c7689, ob7689, blk7689) => []) (fun s7688 (a7689, n7689, c7689, ob7689, blk7689) hh => St φ lo hh ((some b7670, .cells [.int .i64 e7660.A, .int .i64 e7660.B, .int .i64 e7660.Per, .int .i64 e7660.Delay, .int .i64 (w64 (2 * s7573.1))] 65 .exact) :: (some b7663, .cells [.int .i64 e7660.A, .int .i64 e7660.B, .int .i64 e7660.Per, .int .i64 e7660.Delay] 50 .exact) :: (ob7689, blk7689) :: (some l7400, bsy q7401) :: (none, .dead) :: (some b7396, .cells [.int .i64 p7370.Nodes, .slice a7371 n7371 c7371, .slice a7372 n7372 c7372] 25 .exact) :: (some b7392, .cells [.slice a7689 n7689 c7689] 28 .exact) :: (some b7378, .cells [.int .i64 p7373] 3 .exact) :: (some b7374, .cells [.int .i64 p7370.Nodes, .slice a7371 n7371 c7371, .slice a7372 n7372 c7372] 25 .exact) :: own) ∧ OSl (eInt .i64) φ 3 ob7689 blk7689 (.slice a7689 n7689 c7689) s7688) ?_ ?_
        · rintro s7688 ⟨a7689, n7689, c7689, ob7689, blk7689⟩ t0 h7691 ⟨X7690, O7689⟩
          refine nblock ?_
          refine nrnd X7690 (j := 3) rfl (fun h7694 X7695 => ?_)
          refine lpure (v := .bool false) rfl (p_not rfl) rfl rfl ?_
          refine lpure (v := .bool false) rfl (p_move rfl) rfl rfl ?_
          refine lpure (v := .func (.yield l7400) #[] #[]) rfl (p_move rfl) rfl rfl ?_
          refine lread (v := .agg #[.int .i64 e7660.A, .int .i64 e7660.B, .int .i64 e7660.Per, .int .i64 e7660.Delay]) rfl (q_load wd_50 rfl) (St.ld X7695 (j := 1) rfl rfl) rfl ?_
          refine lpure (v := .int .i64 s7573.1) rfl (p_move rfl) rfl rfl ?_
          refine lpure (v := .int .i64 (w64 (2 * s7573.1))) rfl (p_mul rfl) rfl rfl ?_
          refine lpure (v := .int .i64 (w64 ((w64 (2 * s7573.1)) + 1))) rfl (p_add rfl) rfl rfl ?_
          refine lpure (v := .agg #[.int .i64 e7660.A, .int .i64 e7660.B, .int .i64 e7660.Per, .int .i64 e7660.Delay, .int .i64 (w64 ((w64 (2 * s7573.1)) + 1))]) rfl (p_build rfl) (build_st' tz_65 pl_65 rfl) rfl ?_
          refine lround rfl rfl rfl rfl rfl rfl X7695 (j := 3) rfl Q7403 rfl rfl rfl rfl rfl (fun t7696 => ?_)
          refine dreg ?_
          refine lalloc rfl tz_65 rfl rfl rfl X7695 (fun b7697 h7699 X7700 => ?_)
          refine lstore rfl ts_65 rfl rfl (j := 0) rfl rfl rfl rfl rfl rfl X7700 (fun h7701 X7702 => ?_)
          refine lend ?_
          refine basg X7702 (j := 4) rfl (fun h7703 X7704 => ?_)
          refine dblock ?_
          refine dseq ?_
          refine ddraw 0 0 0 (by kernel_rfl) ?_
          refine sload (v := .agg #[.int .i64 e7660.A, .int .i64 e7660.B, .int .i64 e7660.Per, .int .i64 e7660.Delay, .int .i64 (w64 ((w64 (2 * s7573.1)) + 1))]) rfl rfl (q_load wd_65 rfl) (St.ld X7704 (j := 0) rfl rfl) (same_self 20 rfl) rfl ?_
          refine scall (en := fun d => (.int .i64 d)) rfl rfl ca_41 rfl rfl (f41_ok X7704 ((TopoEnd.mk e7660 (w64 ((w64 (2 * s7573.1)) + 1))))) rfl (fun e7705 => ?_)
          refine sload (v := .int .i64 p7373) rfl rfl (q_load wd_3 rfl) (St.ld X7704 (j := 8) rfl rfl) (same_self 20 rfl) rfl ?_
          refine spure (v := .bool (decide (e7705 = p7373))) rfl (p_eq rfl) (lo_t rfl (lo_t rfl rfl)) rfl rfl ?_
          refine send ?_
          refine nseq ?_
          refine djoinM (τ := (List Int)) (σ := Option Addr × Nat × Nat × Option Nat × Blk) (fun s7715 (a7716, n7716, c7716, ob7716, blk7716) => []) (fun s7715 (a7716, n7716, c7716, ob7716, blk7716) hh => St φ lo hh ((some b7697, .cells [.int .i64 e7660.A, .int .i64 e7660.B, .int .i64 e7660.Per, .int .i64 e7660.Delay, .int .i64 (w64 ((w64 (2 * s7573.1)) + 1))] 65 .exact) :: (some b7670, .cells [.int .i64 e7660.A, .int .i64 e7660.B, .int .i64 e7660.Per, .int .i64 e7660.Delay, .int .i64 (w64 (2 * s7573.1))] 65 .exact) :: (some b7663, .cells [.int .i64 e7660.A, .int .i64 e7660.B, .int .i64 e7660.Per, .int .i64 e7660.Delay] 50 .exact) :: (ob7716, blk7716) :: (some l7400, bsy q7401) :: (none, .dead) :: (some b7396, .cells [.int .i64 p7370.Nodes, .slice a7371 n7371 c7371, .slice a7372 n7372 c7372] 25 .exact) :: (some b7392, .cells [.slice a7716 n7716 c7716] 28 .exact) :: (some b7378, .cells [.int .i64 p7373] 3 .exact) :: (some b7374, .cells [.int .i64 p7370.Nodes, .slice a7371 n7371 c7371, .slice a7372 n7372 c7372] 25 .exact) :: own) ∧ OSl (eInt .i64) φ 3 ob7716 blk7716 (.slice a7716 n7716 c7716) s7715) ?_ ?_
          · rintro s7715 ⟨a7716, n7716, c7716, ob7716, blk7716⟩ t0 h7718 ⟨X7717, O7716⟩
            refine nblock ?_
            refine nrnd X7717 (j := 4) rfl (fun h7721 X7722 => ?_)
            refine lpure (v := .bool false) rfl (p_not rfl) rfl rfl ?_
            refine lpure (v := .bool false) rfl (p_pick rfl) rfl rfl ?_
            refine lend ?_
            refine nseq ?_
            refine dcondF rfl rfl ?_
            refine dskip ?_
            refine nblock ?_
            refine nseq ?_
            refine dreg ?_
            refine lpure (v := .int .i64 (w64 (s7573.1 + 1))) rfl (p_add rfl) rfl rfl ?_
            refine lpure (v := .int .i64 (w64 (s7573.1 + 1))) rfl (p_move rfl) rfl rfl ?_
            refine lend ?_
            exact kbackM ih7655 ((w64 (s7573.1 + 1)), s7715) (a7716, n7716, c7716, ob7716, blk7716) (sub_cons rfl (sub_cons rfl (sub_cons rfl (sub_cons rfl sub_nil)))) ⟨(St.pick X7722 (.skip _ (.skip _ (.skip _ (.keep _ (.keep _ (.none _ (.skip _ (.keep _ (.keep _ (.keep _ (.keep _ (.refl _))))))))))))), O7716⟩
          · intro j7719 J7720
            refine dcond rfl rfl (fun k7709 => ?_) (fun k7709 => ?_)
            · refine dreg ?_
              refine lread (v := .slice a7689 n7689 c7689) rfl (q_load wd_28 rfl) (St.ld X7704 (j := 7) rfl rfl) rfl ?_
              refine lpure (v := .pointer (some ⟨b7697, 4, none⟩)) rfl (p_fa fo_65_1 rfl) rfl rfl ?_
              refine lread (v := .int .i64 (w64 ((w64 (2 * s7573.1)) + 1))) rfl (q_load wd_3 rfl) (St.ld X7704 (j := 0) rfl rfl) rfl ?_
              obtain ⟨h7723, b7723, hv7723, X7723, O7723⟩ := OSl.lay (E := (eInt .i64)) (φ := φ) (cs := [.int .i64 (w64 ((w64 (2 * s7573.1)) + 1))]) (l := [(w64 ((w64 (2 * s7573.1)) + 1))]) (len := 1) (parts := [(0, .int .i64 (w64 ((w64 (2 * s7573.1)) + 1)))]) un_28 ts_3 rfl rfl rfl tz_3 rfl rfl (show RowD (eInt .i64) φ [.int .i64 (w64 ((w64 (2 * s7573.1)) + 1))] [(w64 ((w64 (2 * s7573.1)) + 1))] from ⟨[.int .i64 (w64 ((w64 (2 * s7573.1)) + 1))], _, rfl, rfl, rfl⟩) rfl rfl X7704
              refine lheap rfl (h_buildSlice rfl) hv7723 rfl ?_
              obtain ⟨ws7725, hw7725⟩ := OSl.read O7723 X7723 (k := 0) rfl (n := 1) rfl
              refine Sim.mustM fun k7725 => ?_
              obtain ⟨h7725, a7725, c7725, ob7725, blk7725, hv7725, X7725, O7725⟩ := OSl.append O7689 X7723 (j := 4) rfl hw7725 k7725 (ts := #[28, 28]) rfl un_28 (argOk_of ax_28_28) ts_3 rfl rfl tb_3 rfl tz_3 rfl
              refine lheap rfl (h_builtin rfl rfl) hv7725 rfl ?_
              refine lstore rfl ts_28 rfl rfl (j := 8) rfl rfl rfl rfl rfl rfl X7725 (fun h7726 X7727 => ?_)
              refine lend ?_
              exact jmpM J7720 (s7688 ++ ([(w64 ((w64 (2 * s7573.1)) + 1))])) (a7725, (s7688.length + ([(w64 ((w64 (2 * s7573.1)) + 1))]).length), c7725, ob7725, blk7725) sub_nil ⟨(St.pick X7727 (.skip _ (.keep _ (.keep _ (.keep _ (.keep _ (.keep _ (.none _ (.skip _ (.keep _ (.keep _ (.keep _ (.keep _ (.refl _)))))))))))))), O7725⟩
            · refine dskip ?_
              exact jmpM J7720 s7688 (a7689, n7689, c7689, ob7689, blk7689) sub_nil ⟨(St.pick X7704 (.keep _ (.keep _ (.keep _ (.keep _ (.keep _ (.none _ (.skip _ (.keep _ (.keep _ (.keep _ (.keep _ (.refl _))))))))))))), O7689⟩
        · intro j7692 J7693
          refine dcond rfl rfl (fun k7682 => ?_) (fun k7682 => ?_)
          · refine dreg ?_
            refine lread (v := .slice a7575 n7575 c7575) rfl (q_load wd_28 rfl) (St.ld X7677 (j := 6) rfl rfl) rfl ?_
            refine lpure (v := .pointer (some ⟨b7670, 4, none⟩)) rfl (p_fa fo_65_1 rfl) rfl rfl ?_
            refine lread (v := .int .i64 (w64 (2 * s7573.1))) rfl (q_load wd_3 rfl) (St.ld X7677 (j := 0) rfl rfl) rfl ?_
            obtain ⟨h7728, b7728, hv7728, X7728, O7728⟩ := OSl.lay (E := (eInt .i64)) (φ := φ) (cs := [.int .i64 (w64 (2 * s7573.1))]) (l := [(w64 (2 * s7573.1))]) (len := 1) (parts := [(0, .int .i64 (w64 (2 * s7573.1)))]) un_28 ts_3 rfl rfl rfl tz_3 rfl rfl (show RowD (eInt .i64) φ [.int .i64 (w64 (2 * s7573.1))] [(w64 (2 * s7573.1))] from ⟨[.int .i64 (w64 (2 * s7573.1))], _, rfl, rfl, rfl⟩) rfl rfl X7677
            refine lheap rfl (h_buildSlice rfl) hv7728 rfl ?_
            obtain ⟨ws7730, hw7730⟩ := OSl.read O7728 X7728 (k := 0) rfl (n := 1) rfl
            refine Sim.mustM fun k7730 => ?_
            obtain ⟨h7730, a7730, c7730, ob7730, blk7730, hv7730, X7730, O7730⟩ := OSl.append O7575 X7728 (j := 3) rfl hw7730 k7730 (ts := #[28, 28]) rfl un_28 (argOk_of ax_28_28) ts_3 rfl rfl tb_3 rfl tz_3 rfl
            refine lheap rfl (h_builtin rfl rfl) hv7730 rfl ?_
            refine lstore rfl ts_28 rfl rfl (j := 7) rfl rfl rfl rfl rfl rfl X7730 (fun h7731 X7732 => ?_)
            refine lend ?_
            exact jmpM J7693 (s7573.2 ++ ([(w64 (2 * s7573.1))])) (a7730, (s7573.2.length + ([(w64 (2 * s7573.1))]).length), c7730, ob7730, blk7730) sub_nil ⟨(St.pick X7732 (.skip _ (.keep _ (.keep _ (.keep _ (.keep _ (.none _ (.skip _ (.keep _ (.keep _ (.keep _ (.keep _ (.refl _))))))))))))), O7730⟩
          · refine dskip ?_
            exact jmpM J7693 s7573.2 (a7575, n7575, c7575, ob7575, blk7575) sub_nil ⟨(St.pick X7677 (.keep _ (.keep _ (.keep _ (.keep _ (.none _ (.skip _ (.keep _ (.keep _ (.keep _ (.keep _ (.refl _)))))))))))), O7575⟩
      · refine dexit ?_
        refine eseq ?_
        refine eloop ?_
        refine xblock ?_
        refine kin_n res_0 ?_
        refine rend_n X7657 (j := 1) rfl (fun h7733 X7734 => ?_)
        refine nblock ?_
        refine nseq ?_
        refine dseq ?_
        refine dreg ?_
        refine lread (v := .slice a7575 n7575 c7575) rfl (q_load wd_28 rfl) (St.ld X7734 (j := 4) rfl rfl) rfl ?_
        refine lpure (v := .slice a7575 n7575 c7575) rfl (p_assign rfl) rfl rfl ?_
        refine lpure (v := .int .i64 0) rfl (p_assign rfl) rfl rfl ?_
        refine lend ?_
        refine nseq ?_
        refine dret ?_
        exact kopen_r (res_2 resT resT) ⟨φ, a7575, n7575, c7575, ob7575, blk7575, (Fz.le_refl _), St.pick X7734 (.keep _ (.skip _ (.skip _ (.skip _ (.skip _ (.skip _ (.skip _ (.refl _)))))))), rfl, O7575⟩
/-! isochron/topo.Find -/
theorem f12_ok {n : Nat} {φ : Fz} {lo : Nat} {h : Heap} {own : OwnL}  {a7755 : Option Addr} {n7755 c7755 : Nat} {a7756 : Option Addr} {n7756 c7756 : Nat} (X : St φ lo h (own)) (p7754 : ApiTopo) (p7757 : Int) (p7758 : Int) (H7755 : RSl eBool φ (.slice a7755 n7755 c7755) p7754.Station) (H7756 : RSl eApiLink φ (.slice a7756 n7756 c7756) p7754.Links) : Sim ((recN Try.prog LL cutF (n + 7)).call 12 #[(.agg #[.int .i64 p7754.Nodes, .slice a7755 n7755 c7755, .slice a7756 n7756 c7756]), (.int .i64 p7757), (.int .i64 p7758)] h) (m_topo_Find p7754 p7757 p7758) (fun (d : (Int × Int)) p => p = (.tuple #[.int .i64 d.1, .int .i64 d.2], h)) := by
  refine fcut Try.func12 rfl rfl rfl rfl X ?_
  intro h0 X0
  refine dseq ?_
  refine dreg ?_
  refine lbox rfl rfl rfl rfl rfl X0 (fun b7759 h7761 X7762 => ?_)
  refine lbox rfl rfl rfl rfl rfl X7762 (fun b7763 h7765 X7766 => ?_)
  refine lbox rfl rfl rfl rfl rfl X7766 (fun b7767 h7769 X7770 => ?_)
  refine lalloc rfl tz_3 rfl rfl rfl X7770 (fun b7771 h7773 X7774 => ?_)
  refine lalloc rfl tz_29 rfl rfl rfl X7774 (fun b7775 h7777 X7778 => ?_)
  refine lend ?_
  refine nseq ?_
  refine dseq ?_
  refine dseq ?_
  refine dreg ?_
  refine lread (v := .agg #[.int .i64 p7754.Nodes, .slice a7755 n7755 c7755, .slice a7756 n7756 c7756]) rfl (q_load wd_25 rfl) (St.ld X7778 (j := 4) rfl rfl) rfl ?_
  refine lcall rfl rfl ca_34 rfl rfl (f34_ok X7778 p7754 H7755 H7756) rfl (fun e7779 v7780 h7781 hq7782 => ?_)
  cases hq7782
  refine lpure (v := .int .i64 e7779) rfl (p_assign rfl) rfl rfl ?_
  refine lend ?_
  refine nseq ?_
  refine dseq ?_
  refine dreg ?_
  refine lpure (v := .int .i64 e7779) rfl (p_move rfl) rfl rfl ?_
  refine lpure (v := .bool (decide (e7779 ≠ 0))) rfl (p_ne rfl) rfl rfl ?_
  refine lend ?_
  refine nseq ?_
  refine dcond rfl rfl (fun k7783 => ?_) (fun k7783 => ?_)
  · refine dseq ?_
    refine dreg ?_
    refine lpure (v := .int .i64 e7779) rfl (p_move rfl) rfl rfl ?_
    refine lstore rfl ts_3 rfl rfl (j := 1) rfl rfl rfl rfl rfl rfl X7778 (fun h7784 X7785 => ?_)
    refine lstore rfl ts_29 rfl rfl (j := 0) rfl rfl rfl rfl rfl rfl X7785 (fun h7786 X7787 => ?_)
    refine lend ?_
    refine nseq ?_
    refine dret ?_
    refine rseq ?_
    exact kcut_r (res_2 (resC wd_3 (St.ld X7787 (j := 1) rfl rfl)) (resC wd_29 (St.ld X7787 (j := 0) rfl rfl))) X7787 rfl rfl
  · refine dskip ?_
    refine nseq ?_
    refine dseq ?_
    refine dseq ?_
    refine dreg ?_
    refine lread (v := .agg #[.int .i64 p7754.Nodes, .slice a7755 n7755 c7755, .slice a7756 n7756 c7756]) rfl (q_load wd_25 rfl) (St.ld X7778 (j := 4) rfl rfl) rfl ?_
    refine lread (v := .int .i64 p7757) rfl (q_load wd_3 rfl) (St.ld X7778 (j := 3) rfl rfl) rfl ?_
    refine lcall rfl rfl ca_39 rfl rfl (f39_ok X7778 p7754 p7757 H7755 H7756) rfl (fun e7788 v7789 h7790 hq7791 => ?_)
    cases hq7791
    refine lpure (v := .bool (!e7788)) rfl (p_not rfl) rfl rfl ?_
    refine lpure (v := .bool (!e7788)) rfl (p_move rfl) rfl rfl ?_
    refine ljoinM (τ := Bool) (σ := Unit) (fun s7798 (_ : Unit) => [(3, .pointer (some ⟨b7759, 0, none⟩)), (4, .pointer (some ⟨b7763, 0, none⟩)), (5, .pointer (some ⟨b7767, 0, none⟩)), (6, .pointer (some ⟨b7771, 0, none⟩)), (7, .pointer (some ⟨b7775, 0, none⟩)), (24, .bool s7798)]) (fun s7798 (_ : Unit) hh => St φ h.n hh ([(some b7775, .cells [.int .i64 0] 29 .exact), (some b7771, .cells [.int .i64 0] 3 .exact), (some b7767, .cells [.int .i64 p7758] 3 .exact), (some b7763, .cells [.int .i64 p7757] 3 .exact), (some b7759, .cells [.int .i64 p7754.Nodes, .slice a7755 n7755 c7755, .slice a7756 n7756 c7756] 25 .exact)])) 5 ?_ ?_
    · rintro s7798 _ t0 h7800 X7799
      refine lend ?_
      refine nseq ?_
      refine dcond rfl rfl (fun k7801 => ?_) (fun k7801 => ?_)
      · refine dseq ?_
        refine dreg ?_
        refine lstore rfl ts_3 rfl rfl (j := 1) rfl rfl rfl rfl rfl rfl X7799 (fun h7802 X7803 => ?_)
        refine lstore rfl ts_29 rfl rfl (j := 0) rfl rfl rfl rfl rfl rfl X7803 (fun h7804 X7805 => ?_)
        refine lend ?_
        refine nseq ?_
        refine dret ?_
        refine rseq ?_
        exact kcut_r (res_2 (resC wd_3 (St.ld X7805 (j := 1) rfl rfl)) (resC wd_29 (St.ld X7805 (j := 0) rfl rfl))) X7805 rfl rfl
      · refine dskip ?_
        refine nseq ?_
        refine dseq ?_
        refine dseq ?_
        refine dreg ?_
        refine lread (v := .agg #[.int .i64 p7754.Nodes, .slice a7755 n7755 c7755, .slice a7756 n7756 c7756]) rfl (q_load wd_25 rfl) (St.ld X7799 (j := 4) rfl rfl) rfl ?_
        refine linl rfl rfl rfl rfl ca_40 rfl Try.func40 rfl rfl rfl rfl rfl ?_
        refine dseq ?_
        refine dreg ?_
        refine lbox rfl rfl rfl rfl rfl X7799 (fun b7806 h7808 X7809 => ?_)
        refine lpure (v := .nilFunc) rfl (p_assign rfl) rfl rfl ?_
        refine lend ?_
        refine nseq ?_
        refine dseq ?_
        refine dreg ?_
        refine lpure (v := .func (.func 62) #[] #[.pointer (some ⟨b7806, 0, none⟩)]) rfl (p_makeFunc rfl) rfl rfl ?_
        refine lpure (v := .func (.func 62) #[] #[.pointer (some ⟨b7806, 0, none⟩)]) rfl (p_assign rfl) rfl rfl ?_
        refine lend ?_
        refine nseq ?_
        refine dret ?_
        refine kin_r (res_1 resT) ?_
        refine lend ?_
        refine nseq ?_
        refine dblock ?_
        refine drange rfl rfl ca_62 Try.func62 rfl rfl X7809 (fun _ => rfl) ?_
        intro l7810 q7811 df7812 h7814 Q7813 X7815
        refine dseq ?_
        refine dreg ?_
        refine lpure (v := .pointer (some ⟨b7806, 2, none⟩)) rfl (p_fa fo_25_2 rfl) rfl rfl ?_
        refine lread (v := .slice a7756 n7756 c7756) rfl (q_load wd_23 rfl) (St.ld X7815 (j := 2) rfl rfl) rfl ?_
        refine lpure (v := .int .i64 (p7754.Links.length : Int)) rfl (p_len rfl rfl rfl un_23 rfl) (RSl.lenC H7756) rfl ?_
        refine lpure (v := .int .i64 0) rfl (p_move rfl) rfl rfl ?_
        refine lend ?_
        refine nseq ?_
        refine dblock ?_
        refine dloopM (τ := Int) (σ := Unit) (fun s8016 (_ : Unit) => [(0, .func (.yield l7810) #[] #[]), (6, .slice a7756 n7756 c7756), (7, .int .i64 (p7754.Links.length : Int)), (8, .int .i64 s8016)]) (fun s8016 (_ : Unit) hh => St φ h.n hh ([(some l7810, rdy q7811), (none, .dead), (some b7806, .cells [.int .i64 p7754.Nodes, .slice a7755 n7755 c7755, .slice a7756 n7756 c7756] 25 .exact), (some b7775, .cells [.int .i64 0] 29 .exact), (some b7771, .cells [.int .i64 0] 3 .exact), (some b7767, .cells [.int .i64 p7758] 3 .exact), (some b7763, .cells [.int .i64 p7757] 3 .exact), (some b7759, .cells [.int .i64 p7754.Nodes, .slice a7755 n7755 c7755, .slice a7756 n7756 c7756] 25 .exact)])) 0 () (sub_cons rfl (sub_cons rfl (sub_cons rfl (sub_cons rfl sub_nil)))) (St.pick X7815 (.keep _ (.none _ (.skip _ (.keep _ (.keep _ (.keep _ (.keep _ (.keep _ (.keep _ (.nil _))))))))))) ?_
        rintro n8117 ih8116 s8016 _ t0 h8119 X8118
        refine dseq ?_
        refine dreg ?_
        refine lpure (v := .bool (decide (s8016 < (p7754.Links.length : Int)))) rfl (p_lt rfl) rfl rfl ?_
        refine lend ?_
        refine nseq ?_
        refine dseq ?_
        refine dcond rfl rfl (fun k8120 => ?_) (fun k8120 => ?_)
        · refine dskip ?_
          refine nseq ?_
          refine dseq ?_
          refine dblock ?_
          refine dseq ?_
          refine dreg ?_
          refine lpure (v := .int .i64 s8016) rfl (p_move rfl) rfl rfl ?_
          refine Sim.bindM fun e8121 he8122 => ?_
          obtain ⟨p8123, cs8123, hp8123, hF8123, hR8123⟩ := RSl.ia H7756 he8122 (kd := .i64) (n := 4) rfl
          obtain rfl := eApiLink_el hR8123
          refine lpure (v := p8123) rfl (p_ia rs_23 rfl) hp8123 rfl ?_
          refine lread (v := .agg #[.int .i64 e8121.A, .int .i64 e8121.B, .int .i64 e8121.Per, .int .i64 e8121.Delay]) rfl (q_load wd_50 rfl) (FP.ldw X8118 hF8123 rfl rfl) rfl ?_
          refine lalloc rfl tz_50 rfl rfl rfl X8118 (fun b8124 h8126 X8127 => ?_)
          refine lpure (v := .int .i64 s8016) rfl (p_assign rfl) rfl rfl ?_
          refine lstore rfl ts_50 rfl rfl (j := 0) rfl rfl rfl rfl rfl rfl X8127 (fun h8128 X8129 => ?_)
          refine lend ?_
          refine nseq ?_
          refine dseq ?_
          refine dreg ?_
          refine lpure (v := .func (.yield l7810) #[] #[]) rfl (p_move rfl) rfl rfl ?_
          refine lread (v := .agg #[.int .i64 e8121.A, .int .i64 e8121.B, .int .i64 e8121.Per, .int .i64 e8121.Delay]) rfl (q_load wd_50 rfl) (St.ld X8129 (j := 0) rfl rfl) rfl ?_
          refine lpure (v := .int .i64 s8016) rfl (p_move rfl) rfl rfl ?_
          refine lpure (v := .int .i64 (w64 (2 * s8016))) rfl (p_mul rfl) rfl rfl ?_
          refine lpure (v := .agg #[.int .i64 e8121.A, .int .i64 e8121.B, .int .i64 e8121.Per, .int .i64 e8121.Delay, .int .i64 (w64 (2 * s8016))]) rfl (p_build rfl) (build_st' tz_65 pl_65 rfl) rfl ?_
          refine lround rfl rfl rfl rfl rfl rfl X8129 (j := 1) rfl Q7813 rfl rfl rfl rfl rfl (fun t8130 => ?_)
          refine dreg ?_
          refine lalloc rfl tz_65 rfl rfl rfl X8129 (fun b8131 h8133 X8134 => ?_)
          refine lstore rfl ts_65 rfl rfl (j := 0) rfl rfl rfl rfl rfl rfl X8134 (fun h8135 X8136 => ?_)
          refine lend ?_
          refine basg X8136 (j := 2) rfl (fun h8137 X8138 => ?_)
          refine dblock ?_
          refine dseq ?_
          refine ddraw 0 0 0 (by kernel_rfl) ?_
          refine sload (v := .agg #[.int .i64 e8121.A, .int .i64 e8121.B, .int .i64 e8121.Per, .int .i64 e8121.Delay, .int .i64 (w64 (2 * s8016))]) rfl rfl (q_load wd_65 rfl) (St.ld X8138 (j := 0) rfl rfl) (same_self 20 rfl) rfl ?_
          refine scall (en := fun d => (.int .i64 d)) rfl rfl ca_41 rfl rfl (f41_ok X8138 ((TopoEnd.mk e8121 (w64 (2 * s8016))))) rfl (fun e8139 => ?_)
          refine sload (v := .int .i64 p7757) rfl rfl (q_load wd_3 rfl) (St.ld X8138 (j := 8) rfl rfl) (same_self 20 rfl) rfl ?_
          refine spure (v := .bool (decide (e8139 = p7757))) rfl (p_eq rfl) (lo_t rfl (lo_t rfl rfl)) rfl rfl ?_
          refine spure (v := .bool (decide (e8139 = p7757))) rfl (p_move rfl) (lo_t rfl rfl) rfl rfl ?_
          refine sjoinM (τ := Bool) (σ := Unit) (fun s8149 (_ : Unit) => [(6, .pointer (some ⟨b7771, 0, none⟩)), (7, .pointer (some ⟨b7775, 0, none⟩)), (9, .pointer (some ⟨b8131, 0, none⟩)), (37, .bool s8149)]) (fun s8149 (_ : Unit) hh => St φ h.n hh ([(some b8131, .cells [.int .i64 e8121.A, .int .i64 e8121.B, .int .i64 e8121.Per, .int .i64 e8121.Delay, .int .i64 (w64 (2 * s8016))] 65 .exact), (some b8124, .cells [.int .i64 e8121.A, .int .i64 e8121.B, .int .i64 e8121.Per, .int .i64 e8121.Delay] 50 .exact), (some l7810, bsy q7811), (none, .dead), (some b7806, .cells [.int .i64 p7754.Nodes, .slice a7755 n7755 c7755, .slice a7756 n7756 c7756] 25 .exact), (some b7775, .cells [.int .i64 0] 29 .exact), (some b7771, .cells [.int .i64 0] 3 .exact), (some b7767, .cells [.int .i64 p7758] 3 .exact), (some b7763, .cells [.int .i64 p7757] 3 .exact), (some b7759, .cells [.int .i64 p7754.Nodes, .slice a7755 n7755 c7755, .slice a7756 n7756 c7756] 25 .exact)])) 5 10 ?_ ?_
          · rintro s8149 _ t0 h8151 X8150
            refine send ?_
            refine nseq ?_
            refine dcond rfl rfl (fun k8152 => ?_) (fun k8152 => ?_)
            · refine dseq ?_
              refine dreg ?_
              refine lpure (v := .pointer (some ⟨b8131, 4, none⟩)) rfl (p_fa fo_65_1 rfl) rfl rfl ?_
              refine lread (v := .int .i64 (w64 (2 * s8016))) rfl (q_load wd_3 rfl) (St.ld X8150 (j := 0) rfl rfl) rfl ?_
              refine lstore rfl ts_3 rfl rfl (j := 6) rfl rfl rfl rfl rfl rfl X8150 (fun h8153 X8154 => ?_)
              refine lstore rfl ts_29 rfl rfl (j := 5) rfl rfl rfl rfl rfl rfl X8154 (fun h8155 X8156 => ?_)
              refine lend ?_
              refine nseq ?_
              refine dret ?_
              refine rblock ?_
              refine rrnd X8156 (j := 2) rfl (fun h8157 X8158 => ?_)
              refine lpure (v := .bool true) rfl (p_not rfl) rfl rfl ?_
              refine lpure (v := .bool true) rfl (p_move rfl) rfl rfl ?_
              refine lskip rfl rfl ?_
              refine lskip rfl rfl ?_
              refine lskip rfl rfl ?_
              refine lskip rfl rfl ?_
              refine lskip rfl rfl ?_
              refine lskip rfl rfl ?_
              refine lskip rfl rfl ?_
              refine lskip rfl rfl ?_
              refine lpure (v := .bool true) rfl (p_pick rfl) rfl rfl ?_
              refine lend ?_
              refine nseq ?_
              refine dcondT rfl rfl ?_
              refine dret ?_
              refine rblock ?_
              refine rseq ?_
              refine rloop ?_
              refine rblock ?_
              refine kin_r res_0 ?_
              refine rend_d X8158 (j := 2) rfl (.inl ⟨rfl, rfl⟩) (fun h8159 X8160 => ?_)
              refine rblock ?_
              refine rseq ?_
              exact kcut_r (res_2 (resC wd_3 (St.ld X8160 (j := 6) rfl rfl)) (resC wd_29 (St.ld X8160 (j := 5) rfl rfl))) X8160 rfl rfl
            · refine dskip ?_
              refine nblock ?_
              refine nrnd X8150 (j := 2) rfl (fun h8161 X8162 => ?_)
              refine lpure (v := .bool false) rfl (p_not rfl) rfl rfl ?_
              refine lpure (v := .bool false) rfl (p_move rfl) rfl rfl ?_
              refine lpure (v := .func (.yield l7810) #[] #[]) rfl (p_move rfl) rfl rfl ?_
              refine lread (v := .agg #[.int .i64 e8121.A, .int .i64 e8121.B, .int .i64 e8121.Per, .int .i64 e8121.Delay]) rfl (q_load wd_50 rfl) (St.ld X8162 (j := 1) rfl rfl) rfl ?_
              refine lpure (v := .int .i64 s8016) rfl (p_move rfl) rfl rfl ?_
              refine lpure (v := .int .i64 (w64 (2 * s8016))) rfl (p_mul rfl) rfl rfl ?_
              refine lpure (v := .int .i64 (w64 ((w64 (2 * s8016)) + 1))) rfl (p_add rfl) rfl rfl ?_
              refine lpure (v := .agg #[.int .i64 e8121.A, .int .i64 e8121.B, .int .i64 e8121.Per, .int .i64 e8121.Delay, .int .i64 (w64 ((w64 (2 * s8016)) + 1))]) rfl (p_build rfl) (build_st' tz_65 pl_65 rfl) rfl ?_
              refine lround rfl rfl rfl rfl rfl rfl X8162 (j := 2) rfl Q7813 rfl rfl rfl rfl rfl (fun t8163 => ?_)
              refine dreg ?_
              refine lalloc rfl tz_65 rfl rfl rfl X8162 (fun b8164 h8166 X8167 => ?_)
              refine lstore rfl ts_65 rfl rfl (j := 0) rfl rfl rfl rfl rfl rfl X8167 (fun h8168 X8169 => ?_)
              refine lend ?_
              refine basg X8169 (j := 3) rfl (fun h8170 X8171 => ?_)
              refine dblock ?_
              refine dseq ?_
              refine ddraw 0 0 0 (by kernel_rfl) ?_
              refine sload (v := .agg #[.int .i64 e8121.A, .int .i64 e8121.B, .int .i64 e8121.Per, .int .i64 e8121.Delay, .int .i64 (w64 ((w64 (2 * s8016)) + 1))]) rfl rfl (q_load wd_65 rfl) (St.ld X8171 (j := 0) rfl rfl) (same_self 20 rfl) rfl ?_
              refine scall (en := fun d => (.int .i64 d)) rfl rfl ca_41 rfl rfl (f41_ok X8171 ((TopoEnd.mk e8121 (w64 ((w64 (2 * s8016)) + 1))))) rfl (fun e8172 => ?_)
              refine sload (v := .int .i64 p7757) rfl rfl (q_load wd_3 rfl) (St.ld X8171 (j := 9) rfl rfl) (same_self 20 rfl) rfl ?_
              refine spure (v := .bool (decide (e8172 = p7757))) rfl (p_eq rfl) (lo_t rfl (lo_t rfl rfl)) rfl rfl ?_
              refine spure (v := .bool (decide (e8172 = p7757))) rfl (p_move rfl) (lo_t rfl rfl) rfl rfl ?_
              refine sjoinM (τ := Bool) (σ := Unit) (fun s8182 (_ : Unit) => [(6, .pointer (some ⟨b7771, 0, none⟩)), (7, .pointer (some ⟨b7775, 0, none⟩)), (9, .pointer (some ⟨b8164, 0, none⟩)), (37, .bool s8182)]) (fun s8182 (_ : Unit) hh => St φ h.n hh ([(some b8164, .cells [.int .i64 e8121.A, .int .i64 e8121.B, .int .i64 e8121.Per, .int .i64 e8121.Delay, .int .i64 (w64 ((w64 (2 * s8016)) + 1))] 65 .exact), (some b8131, .cells [.int .i64 e8121.A, .int .i64 e8121.B, .int .i64 e8121.Per, .int .i64 e8121.Delay, .int .i64 (w64 (2 * s8016))] 65 .exact), (some b8124, .cells [.int .i64 e8121.A, .int .i64 e8121.B, .int .i64 e8121.Per, .int .i64 e8121.Delay] 50 .exact), (some l7810, bsy q7811), (none, .dead), (some b7806, .cells [.int .i64 p7754.Nodes, .slice a7755 n7755 c7755, .slice a7756 n7756 c7756] 25 .exact), (some b7775, .cells [.int .i64 0] 29 .exact), (some b7771, .cells [.int .i64 0] 3 .exact), (some b7767, .cells [.int .i64 p7758] 3 .exact), (some b7763, .cells [.int .i64 p7757] 3 .exact), (some b7759, .cells [.int .i64 p7754.Nodes, .slice a7755 n7755 c7755, .slice a7756 n7756 c7756] 25 .exact)])) 5 10 ?_ ?_
              · rintro s8182 _ t0 h8184 X8183
                refine send ?_
                refine nseq ?_
                refine dcond rfl rfl (fun k8185 => ?_) (fun k8185 => ?_)
                · refine dseq ?_
                  refine dreg ?_
                  refine lpure (v := .pointer (some ⟨b8164, 4, none⟩)) rfl (p_fa fo_65_1 rfl) rfl rfl ?_
                  refine lread (v := .int .i64 (w64 ((w64 (2 * s8016)) + 1))) rfl (q_load wd_3 rfl) (St.ld X8183 (j := 0) rfl rfl) rfl ?_
                  refine lstore rfl ts_3 rfl rfl (j := 7) rfl rfl rfl rfl rfl rfl X8183 (fun h8186 X8187 => ?_)
                  refine lstore rfl ts_29 rfl rfl (j := 6) rfl rfl rfl rfl rfl rfl X8187 (fun h8188 X8189 => ?_)
                  refine lend ?_
                  refine nseq ?_
                  refine dret ?_
                  refine rblock ?_
                  refine rrnd X8189 (j := 3) rfl (fun h8190 X8191 => ?_)
                  refine lpure (v := .bool true) rfl (p_not rfl) rfl rfl ?_
                  refine lpure (v := .bool true) rfl (p_pick rfl) rfl rfl ?_
                  refine lend ?_
                  refine nseq ?_
                  refine dcondT rfl rfl ?_
                  refine dret ?_
                  refine rblock ?_
                  refine rseq ?_
                  refine rloop ?_
                  refine rblock ?_
                  refine kin_r res_0 ?_
                  refine rend_d X8191 (j := 3) rfl (.inl ⟨rfl, rfl⟩) (fun h8192 X8193 => ?_)
                  refine rblock ?_
                  refine rseq ?_
                  exact kcut_r (res_2 (resC wd_3 (St.ld X8193 (j := 7) rfl rfl)) (resC wd_29 (St.ld X8193 (j := 6) rfl rfl))) X8193 rfl rfl
                · refine dskip ?_
                  refine nblock ?_
                  refine nrnd X8183 (j := 3) rfl (fun h8194 X8195 => ?_)
                  refine lpure (v := .bool false) rfl (p_not rfl) rfl rfl ?_
                  refine lpure (v := .bool false) rfl (p_pick rfl) rfl rfl ?_
                  refine lend ?_
                  refine nseq ?_
                  refine dcondF rfl rfl ?_
                  refine dskip ?_
                  refine nblock ?_
                  refine nseq ?_
                  refine dreg ?_
                  refine lpure (v := .int .i64 (w64 (s8016 + 1))) rfl (p_add rfl) rfl rfl ?_
                  refine lpure (v := .int .i64 (w64 (s8016 + 1))) rfl (p_move rfl) rfl rfl ?_
                  refine lend ?_
                  exact kbackM ih8116 (w64 (s8016 + 1)) () (sub_cons rfl (sub_cons rfl (sub_cons rfl (sub_cons rfl sub_nil)))) (St.pick X8195 (.skip _ (.skip _ (.skip _ (.keep _ (.none _ (.skip _ (.keep _ (.keep _ (.keep _ (.keep _ (.keep _ (.keep _ (.nil _))))))))))))))
              · intro j8196 J8197
                refine sif (j := 32) (show _ = Value.bool (decide (e8172 = p7757)) from rfl) (fun k8198 => ?_) (fun k8198 => ?_)
                · refine sload (v := .agg #[.int .i64 e8121.A, .int .i64 e8121.B, .int .i64 e8121.Per, .int .i64 e8121.Delay, .int .i64 (w64 ((w64 (2 * s8016)) + 1))]) rfl rfl (q_load wd_65 rfl) (St.ld X8171 (j := 0) rfl rfl) (same_self 20 rfl) rfl ?_
                  refine scall (en := fun d => (.int .i64 d)) rfl rfl ca_42 rfl rfl (f42_ok X8171 ((TopoEnd.mk e8121 (w64 ((w64 (2 * s8016)) + 1))))) rfl (fun e8199 => ?_)
                  refine sload (v := .int .i64 p7758) rfl rfl (q_load wd_3 rfl) (St.ld X8171 (j := 8) rfl rfl) (same_self 20 rfl) rfl ?_
                  refine spure (v := .bool (decide (e8199 = p7758))) rfl (p_eq rfl) (lo_t rfl (lo_t rfl rfl)) rfl rfl ?_
                  refine spure (v := .bool (decide (e8199 = p7758))) rfl (p_pick rfl) (lo_t rfl (lo_t rfl (lo_c rfl))) rfl rfl ?_
                  exact sjmpM J8197 (decide (e8199 = p7758)) () (sub_cons rfl (sub_cons rfl (sub_cons rfl (sub_cons rfl sub_nil)))) (St.pick X8171 (.keep _ (.keep _ (.keep _ (.keep _ (.none _ (.skip _ (.keep _ (.keep _ (.keep _ (.keep _ (.keep _ (.keep _ (.nil _))))))))))))))
                · refine sskip rfl rfl ?_
                  refine sskip rfl rfl ?_
                  refine sskip rfl rfl ?_
                  refine sskip rfl rfl ?_
                  refine spure (v := .bool false) rfl (p_pick rfl) (lo_t rfl (lo_t rfl (lo_c rfl))) rfl rfl ?_
                  exact sjmpM J8197 false () (sub_cons rfl (sub_cons rfl (sub_cons rfl (sub_cons rfl sub_nil)))) (St.pick X8171 (.keep _ (.keep _ (.keep _ (.keep _ (.none _ (.skip _ (.keep _ (.keep _ (.keep _ (.keep _ (.keep _ (.keep _ (.nil _))))))))))))))
          · intro j8203 J8204
            refine sif (j := 32) (show _ = Value.bool (decide (e8139 = p7757)) from rfl) (fun k8205 => ?_) (fun k8205 => ?_)
            · refine sload (v := .agg #[.int .i64 e8121.A, .int .i64 e8121.B, .int .i64 e8121.Per, .int .i64 e8121.Delay, .int .i64 (w64 (2 * s8016))]) rfl rfl (q_load wd_65 rfl) (St.ld X8138 (j := 0) rfl rfl) (same_self 20 rfl) rfl ?_
              refine scall (en := fun d => (.int .i64 d)) rfl rfl ca_42 rfl rfl (f42_ok X8138 ((TopoEnd.mk e8121 (w64 (2 * s8016))))) rfl (fun e8206 => ?_)
              refine sload (v := .int .i64 p7758) rfl rfl (q_load wd_3 rfl) (St.ld X8138 (j := 7) rfl rfl) (same_self 20 rfl) rfl ?_
              refine spure (v := .bool (decide (e8206 = p7758))) rfl (p_eq rfl) (lo_t rfl (lo_t rfl rfl)) rfl rfl ?_
              refine spure (v := .bool (decide (e8206 = p7758))) rfl (p_pick rfl) (lo_t rfl (lo_t rfl (lo_c rfl))) rfl rfl ?_
              exact sjmpM J8204 (decide (e8206 = p7758)) () (sub_cons rfl (sub_cons rfl (sub_cons rfl (sub_cons rfl sub_nil)))) (St.pick X8138 (.keep _ (.keep _ (.keep _ (.none _ (.skip _ (.keep _ (.keep _ (.keep _ (.keep _ (.keep _ (.keep _ (.nil _)))))))))))))
            · refine sskip rfl rfl ?_
              refine sskip rfl rfl ?_
              refine sskip rfl rfl ?_
              refine sskip rfl rfl ?_
              refine spure (v := .bool false) rfl (p_pick rfl) (lo_t rfl (lo_t rfl (lo_c rfl))) rfl rfl ?_
              exact sjmpM J8204 false () (sub_cons rfl (sub_cons rfl (sub_cons rfl (sub_cons rfl sub_nil)))) (St.pick X8138 (.keep _ (.keep _ (.keep _ (.none _ (.skip _ (.keep _ (.keep _ (.keep _ (.keep _ (.keep _ (.keep _ (.nil _)))))))))))))
        · refine dexit ?_
          refine eseq ?_
          refine eloop ?_
          refine xblock ?_
          refine kin_n res_0 ?_
          refine rend_n X8118 (j := 0) rfl (fun h8210 X8211 => ?_)
          refine nblock ?_
          refine nseq ?_
          refine dseq ?_
          refine dreg ?_
          refine lstore rfl ts_3 rfl rfl (j := 4) rfl rfl rfl rfl rfl rfl X8211 (fun h8212 X8213 => ?_)
          refine lstore rfl ts_29 rfl rfl (j := 3) rfl rfl rfl rfl rfl rfl X8213 (fun h8214 X8215 => ?_)
          refine lend ?_
          refine nseq ?_
          refine dret ?_
          exact kcut_r (res_2 (resC wd_3 (St.ld X8215 (j := 4) rfl rfl)) (resC wd_29 (St.ld X8215 (j := 3) rfl rfl))) X8215 rfl rfl
    · intro j8216 J8217
      refine lif (i := 19) (show _ = Value.bool (!e7788) from rfl) (fun k8218 => ?_) (fun k8218 => ?_)
      · refine lskip rfl rfl ?_
        refine lskip rfl rfl ?_
        refine lskip rfl rfl ?_
        refine lskip rfl rfl ?_
        refine lpure (v := .bool true) rfl (p_pick rfl) rfl rfl ?_
        exact ljmpM J8217 true () (sub_cons rfl (sub_cons rfl (sub_cons rfl (sub_cons rfl (sub_cons rfl (sub_cons rfl sub_nil)))))) X7778
      · refine lread (v := .agg #[.int .i64 p7754.Nodes, .slice a7755 n7755 c7755, .slice a7756 n7756 c7756]) rfl (q_load wd_25 rfl) (St.ld X7778 (j := 4) rfl rfl) rfl ?_
        refine lread (v := .int .i64 p7758) rfl (q_load wd_3 rfl) (St.ld X7778 (j := 2) rfl rfl) rfl ?_
        refine lcall rfl rfl ca_39 rfl rfl (f39_ok X7778 p7754 p7758 H7755 H7756) rfl (fun e8219 v8220 h8221 hq8222 => ?_)
        cases hq8222
        refine lpure (v := .bool (!e8219)) rfl (p_not rfl) rfl rfl ?_
        refine lpure (v := .bool (!e8219)) rfl (p_pick rfl) rfl rfl ?_
        exact ljmpM J8217 (!e8219) () (sub_cons rfl (sub_cons rfl (sub_cons rfl (sub_cons rfl (sub_cons rfl (sub_cons rfl sub_nil)))))) X7778
/-! isochron/topo.Reach -/
theorem f17_ok {n : Nat} {φ : Fz} {lo : Nat} {h : Heap} {own : OwnL}  {a8391 : Option Addr} {n8391 c8391 : Nat} {a8392 : Option Addr} {n8392 c8392 : Nat} {a8395 : Option Addr} {n8395 c8395 : Nat} (X : St φ lo h (own)) (p8390 : ApiTopo) (p8393 : Int) (p8394 : (List Int)) (H8391 : RSl eBool φ (.slice a8391 n8391 c8391) p8390.Station) (H8392 : RSl eApiLink φ (.slice a8392 n8392 c8392) p8390.Links) (H8395 : RSl (eInt .i64) φ (.slice a8395 n8395 c8395) p8394) : Sim ((recN Try.prog LL cutF (n + 7)).call 17 #[(.agg #[.int .i64 p8390.Nodes, .slice a8391 n8391 c8391, .slice a8392 n8392 c8392]), (.int .i64 p8393), (.slice a8395 n8395 c8395)] h) (m_topo_Reach p8390 p8393 p8394) (fun (d : ((List Bool) × Int)) p => ∃ φ2 : Fz, ∃ a8551 : Option Addr, ∃ n8551 : Nat, ∃ c8551 : Nat, ∃ ob8551 : Option Nat, ∃ blk8551 : Blk, Fz.le φ φ2 ∧ St φ2 lo p.2 ((ob8551, blk8551) :: own) ∧ p.1 = .tuple #[.slice a8551 n8551 c8551, .int .i64 d.2] ∧ OSl eBool φ2 4 ob8551 blk8551 (.slice a8551 n8551 c8551) d.1) := by
  refine fopen Try.func17 rfl rfl rfl rfl ?_
  refine dseq ?_
  refine dreg ?_
  refine lbox rfl rfl rfl rfl rfl X (fun b8396 h8398 X8399 => ?_)
  refine lpure (v := .slice none 0 0) rfl (p_assign rfl) rfl rfl ?_
  refine lpure (v := .int .i64 0) rfl (p_assign rfl) rfl rfl ?_
  refine lend ?_
  refine nseq ?_
  refine dseq ?_
  refine dseq ?_
  refine dreg ?_
  refine lread (v := .agg #[.int .i64 p8390.Nodes, .slice a8391 n8391 c8391, .slice a8392 n8392 c8392]) rfl (q_load wd_25 rfl) (St.ld X8399 (j := 0) rfl rfl) rfl ?_
  refine lcall rfl rfl ca_34 rfl rfl (f34_ok X8399 p8390 H8391 H8392) rfl (fun e8400 v8401 h8402 hq8403 => ?_)
  cases hq8403
  refine lpure (v := .int .i64 e8400) rfl (p_assign rfl) rfl rfl ?_
  refine lend ?_
  refine nseq ?_
  refine dseq ?_
  refine dreg ?_
  refine lpure (v := .int .i64 e8400) rfl (p_move rfl) rfl rfl ?_
  refine lpure (v := .bool (decide (e8400 ≠ 0))) rfl (p_ne rfl) rfl rfl ?_
  refine lend ?_
  refine nseq ?_
  refine dcond rfl rfl (fun k8404 => ?_) (fun k8404 => ?_)
  · refine dseq ?_
    refine dreg ?_
    refine lpure (v := .int .i64 e8400) rfl (p_move rfl) rfl rfl ?_
    refine lpure (v := .slice none 0 0) rfl (p_assign rfl) rfl rfl ?_
    refine lpure (v := .int .i64 e8400) rfl (p_assign rfl) rfl rfl ?_
    refine lend ?_
    refine nseq ?_
    refine dret ?_
    refine rseq ?_
    exact kopen_r (res_2 resT resT) ⟨φ, none, 0, 0, none, (.dead), (Fz.le_refl _), St.pick X8399 (.none _ (.skip _ (.refl _))), rfl, OSl.nil⟩
  · refine dskip ?_
    refine nseq ?_
    refine dseq ?_
    refine dseq ?_
    refine dreg ?_
    refine lread (v := .agg #[.int .i64 p8390.Nodes, .slice a8391 n8391 c8391, .slice a8392 n8392 c8392]) rfl (q_load wd_25 rfl) (St.ld X8399 (j := 0) rfl rfl) rfl ?_
    refine lpure (v := .int .i64 p8393) rfl (p_move rfl) rfl rfl ?_
    refine lcall rfl rfl ca_39 rfl rfl (f39_ok X8399 p8390 p8393 H8391 H8392) rfl (fun e8405 v8406 h8407 hq8408 => ?_)
    cases hq8408
    refine lpure (v := .bool (!e8405)) rfl (p_not rfl) rfl rfl ?_
    refine lpure (v := .bool (!e8405)) rfl (p_move rfl) rfl rfl ?_
    refine ljoinM (τ := Bool) (σ := Unit) (fun s8473 (_ : Unit) => [(1, .int .i64 p8393), (2, .slice a8395 n8395 c8395), (3, .pointer (some ⟨b8396, 0, none⟩)), (22, .bool s8473)]) (fun s8473 (_ : Unit) hh => St φ lo hh ((some b8396, .cells [.int .i64 p8390.Nodes, .slice a8391 n8391 c8391, .slice a8392 n8392 c8392] 25 .exact) :: own)) 4 ?_ ?_
    · rintro s8473 _ t0 h8475 X8474
      refine lend ?_
      refine nseq ?_
      refine dcond rfl rfl (fun k8476 => ?_) (fun k8476 => ?_)
      · refine dseq ?_
        refine dreg ?_
        refine lpure (v := .slice none 0 0) rfl (p_assign rfl) rfl rfl ?_
        refine lpure (v := .int .i64 2) rfl (p_assign rfl) rfl rfl ?_
        refine lend ?_
        refine nseq ?_
        refine dret ?_
        refine rseq ?_
        exact kopen_r (res_2 resT resT) ⟨φ, none, 0, 0, none, (.dead), (Fz.le_refl _), St.pick X8474 (.none _ (.skip _ (.refl _))), rfl, OSl.nil⟩
      · refine dskip ?_
        refine nseq ?_
        refine dseq ?_
        refine dreg ?_
        refine lread (v := .agg #[.int .i64 p8390.Nodes, .slice a8391 n8391 c8391, .slice a8392 n8392 c8392]) rfl (q_load wd_25 rfl) (St.ld X8474 (j := 0) rfl rfl) rfl ?_
        refine lpure (v := .int .i64 p8393) rfl (p_move rfl) rfl rfl ?_
        refine lpure (v := .slice a8395 n8395 c8395) rfl (p_move rfl) rfl rfl ?_
        refine lcall rfl rfl ca_47 rfl rfl (f47_ok X8474 p8390 p8393 p8394 H8391 H8392 H8395) rfl ?_
        rintro e8477 _ h8479 ⟨φ8481, a8484, n8484, c8484, ob8484, blk8484, g8482, X8483, rfl, O8484⟩
        refine lpure (v := .slice a8484 n8484 c8484) rfl (p_assign rfl) rfl rfl ?_
        refine lpure (v := .int .i64 0) rfl (p_assign rfl) rfl rfl ?_
        refine lend ?_
        refine nseq ?_
        refine dret ?_
        exact kopen_r (res_2 resT resT) ⟨φ8481, a8484, n8484, c8484, ob8484, blk8484, g8482, St.pick X8483 (.keep _ (.skip _ (.refl _))), rfl, O8484⟩
    · intro j8486 J8487
      refine lif (i := 18) (show _ = Value.bool (!e8405) from rfl) (fun k8488 => ?_) (fun k8488 => ?_)
      · refine lskip rfl rfl ?_
        refine lskip rfl rfl ?_
        refine lskip rfl rfl ?_
        refine lpure (v := .bool true) rfl (p_pick rfl) rfl rfl ?_
        exact ljmpM J8487 true () (sub_cons rfl (sub_cons rfl (sub_cons rfl (sub_cons rfl sub_nil)))) X8399
      · refine lpure (v := .slice a8395 n8395 c8395) rfl (p_move rfl) rfl rfl ?_
        refine lpure (v := .func (.func 46) #[] #[.pointer (some ⟨b8396, 0, none⟩)]) rfl (p_makeFunc rfl) rfl rfl ?_
        refine linl rfl rfl rfl rfl ca_45 rfl Try.func45 rfl rfl rfl rfl rfl ?_
        refine dseq ?_
        refine dreg ?_
        refine lpure (v := .bool false) rfl (p_assign rfl) rfl rfl ?_
        refine lend ?_
        refine nseq ?_
        refine dseq ?_
        refine dreg ?_
        refine lpure (v := .slice a8395 n8395 c8395) rfl (p_move rfl) rfl rfl ?_
        refine lpure (v := .func (.func 46) #[] #[.pointer (some ⟨b8396, 0, none⟩)]) rfl (p_move rfl) rfl rfl ?_
        refine linl rfl rfl rfl rfl ca_64 rfl Try.func64 rfl rfl rfl rfl rfl ?_
        refine dseq ?_
        refine dreg ?_
        refine lpure (v := .int .i64 0) rfl (p_assign rfl) rfl rfl ?_
        refine lend ?_
        refine nseq ?_
        refine dseq ?_
        refine dseq ?_
        refine dreg ?_
        refine lpure (v := .slice a8395 n8395 c8395) rfl (p_move rfl) rfl rfl ?_
        refine lpure (v := .int .i64 (p8394.length : Int)) rfl (p_len rfl rfl rfl un_28 rfl) (RSl.lenC H8395) rfl ?_
        refine lpure (v := .int .i64 0) rfl (p_move rfl) rfl rfl ?_
        refine lend ?_
        refine nseq ?_
        refine dblock ?_
        refine dloopM (τ := Int) (σ := Unit) (fun s8519 (_ : Unit) => [(0, .slice a8395 n8395 c8395), (1, .func (.func 46) #[] #[.pointer (some ⟨b8396, 0, none⟩)]), (7, .int .i64 (p8394.length : Int)), (8, .int .i64 s8519)]) (fun s8519 (_ : Unit) hh => St φ lo hh ((some b8396, .cells [.int .i64 p8390.Nodes, .slice a8391 n8391 c8391, .slice a8392 n8392 c8392] 25 .exact) :: own)) 0 () (sub_cons rfl (sub_cons rfl (sub_cons rfl (sub_cons rfl sub_nil)))) X8399 ?_
        rintro n8536 ih8535 s8519 _ t0 h8538 X8537
        refine dseq ?_
        refine dreg ?_
        refine lpure (v := .bool (decide (s8519 < (p8394.length : Int)))) rfl (p_lt rfl) rfl rfl ?_
        refine lend ?_
        refine nseq ?_
        refine dseq ?_
        refine dcond rfl rfl (fun k8539 => ?_) (fun k8539 => ?_)
        · refine dskip ?_
          refine nseq ?_
          refine dseq ?_
          refine dblock ?_
          refine dseq ?_
          refine dreg ?_
          refine lpure (v := .int .i64 s8519) rfl (p_move rfl) rfl rfl ?_
          refine lpure (v := .int .i64 s8519) rfl (p_assign rfl) rfl rfl ?_
          refine lend ?_
          refine nseq ?_
          refine dseq ?_
          refine dreg ?_
          refine lpure (v := .func (.func 46) #[] #[.pointer (some ⟨b8396, 0, none⟩)]) rfl (p_move rfl) rfl rfl ?_
          refine lpure (v := .slice a8395 n8395 c8395) rfl (p_move rfl) rfl rfl ?_
          refine lpure (v := .int .i64 s8519) rfl (p_move rfl) rfl rfl ?_
          refine Sim.bindM fun e8540 he8541 => ?_
          obtain ⟨p8542, cs8542, hp8542, hF8542, hR8542⟩ := RSl.ia H8395 he8541 (kd := .i64) (n := 1) rfl
          have hR8542 : _ = [(.int .i64 e8540 : Value)] := hR8542
          subst hR8542
          refine lpure (v := p8542) rfl (p_ia rs_28 rfl) hp8542 rfl ?_
          refine lread (v := .int .i64 e8540) rfl (q_load wd_3 rfl) (FP.ld X8537 hF8542) rfl ?_
          refine linl rfl rfl rfl rfl ca_46 rfl Try.func46 rfl rfl rfl rfl rfl ?_
          refine dseq ?_
          refine dreg ?_
          refine lpure (v := .bool false) rfl (p_assign rfl) rfl rfl ?_
          refine lend ?_
          refine nseq ?_
          refine dseq ?_
          refine dreg ?_
          refine lpure (v := .int .i64 e8540) rfl (p_move rfl) rfl rfl ?_
          refine lpure (v := .bool (decide (e8540 < 0))) rfl (p_lt rfl) rfl rfl ?_
          refine lpure (v := .bool (decide (e8540 < 0))) rfl (p_move rfl) rfl rfl ?_
          refine lsh (τ := Bool) (σ := Unit) (fun s8544 (_ : Unit) => [(12, .bool s8544)]) (fun s8544 (_ : Unit) hh => St φ lo hh ((some b8396, .cells [.int .i64 p8390.Nodes, .slice a8391 n8391 c8391, .slice a8392 n8392 c8392] 25 .exact) :: own)) 6 ?_ ?_
          · rintro s8544 _ t0 h8546 X8545
            refine lpure (v := .bool s8544) rfl (p_assign rfl) rfl rfl ?_
            refine lend ?_
            refine nseq ?_
            refine dret ?_
            refine kin_r (res_1 resT) ?_
            refine lend ?_
            refine nseq ?_
            refine dcond rfl rfl (fun k8547 => ?_) (fun k8547 => ?_)
            · refine dseq ?_
              refine dreg ?_
              refine lpure (v := .int .i64 s8519) rfl (p_move rfl) rfl rfl ?_
              refine lpure (v := .int .i64 s8519) rfl (p_assign rfl) rfl rfl ?_
              refine lend ?_
              refine nseq ?_
              refine dret ?_
              refine rblock ?_
              refine rseq ?_
              refine rloop ?_
              refine rblock ?_
              refine rseq ?_
              refine kin_r (res_1 resT) ?_
              refine lpure (v := .bool (decide (0 ≤ s8519))) rfl (p_ge rfl) rfl rfl ?_
              refine lpure (v := .bool (decide (0 ≤ s8519))) rfl (p_assign rfl) rfl rfl ?_
              refine lend ?_
              refine nseq ?_
              refine dret ?_
              refine kin_r (res_1 resT) ?_
              refine lpure (v := .bool (decide (0 ≤ s8519))) rfl (p_pick rfl) rfl rfl ?_
              exact ljmpM J8487 (decide (0 ≤ s8519)) () (sub_cons rfl (sub_cons rfl (sub_cons rfl (sub_cons rfl sub_nil)))) X8545
            · refine dskip ?_
              refine nblock ?_
              refine nseq ?_
              refine dreg ?_
              refine lpure (v := .int .i64 (w64 (s8519 + 1))) rfl (p_add rfl) rfl rfl ?_
              refine lpure (v := .int .i64 (w64 (s8519 + 1))) rfl (p_move rfl) rfl rfl ?_
              refine lend ?_
              exact kbackM ih8535 (w64 (s8519 + 1)) () (sub_cons rfl (sub_cons rfl (sub_cons rfl (sub_cons rfl sub_nil)))) X8545
          · intro j8548 J8549
            refine lcase (i := 6) (show _ = Value.bool (decide (e8540 < 0)) from rfl) (fun k8550 => ?_) (fun k8550 => ?_)
            · refine lskip rfl rfl ?_
              refine lskip rfl rfl ?_
              refine lskip rfl rfl ?_
              refine lskip rfl rfl ?_
              refine lskip rfl rfl ?_
              refine lpure (v := .bool true) rfl (p_pick rfl) rfl rfl ?_
              refine Sim.of_eq (congrArg j8548 (show ((decide (e8540 < 0)) || (decide ((p8390.Links.length : Int) ≤ e8540))) = true from by rw [k8550] <;> rfl)) ?_
              exact ljmpM J8549 true () (sub_cons rfl sub_nil) X8537
            · refine lpure (v := .int .i64 e8540) rfl (p_move rfl) rfl rfl ?_
              refine lpure (v := .pointer (some ⟨b8396, 2, none⟩)) rfl (p_fa fo_25_2 rfl) rfl rfl ?_
              refine lread (v := .slice a8392 n8392 c8392) rfl (q_load wd_23 rfl) (St.ld X8537 (j := 0) rfl rfl) rfl ?_
              refine lpure (v := .int .i64 (p8390.Links.length : Int)) rfl (p_len rfl rfl rfl un_23 rfl) (RSl.lenC H8392) rfl ?_
              refine lpure (v := .bool (decide ((p8390.Links.length : Int) ≤ e8540))) rfl (p_ge rfl) rfl rfl ?_
              refine lpure (v := .bool (decide ((p8390.Links.length : Int) ≤ e8540))) rfl (p_pick rfl) rfl rfl ?_
              refine Sim.of_eq (congrArg j8548 (show ((decide (e8540 < 0)) || (decide ((p8390.Links.length : Int) ≤ e8540))) = (decide ((p8390.Links.length : Int) ≤ e8540)) from by rw [k8550] <;> rfl)) ?_
              exact ljmpM J8549 (decide ((p8390.Links.length : Int) ≤ e8540)) () (sub_cons rfl sub_nil) X8537
        · refine dexit ?_
          refine eseq ?_
          refine eloop ?_
          refine xblock ?_
          refine nseq ?_
          refine dseq ?_
          refine dreg ?_
          refine lpure (v := .int .i64 (-1)) rfl (p_assign rfl) rfl rfl ?_
          refine lend ?_
          refine nseq ?_
          refine dret ?_
          refine kin_r (res_1 resT) ?_
          refine lpure (v := .bool false) rfl (p_ge rfl) rfl rfl ?_
          refine lpure (v := .bool false) rfl (p_assign rfl) rfl rfl ?_
          refine lend ?_
          refine nseq ?_
          refine dret ?_
          refine kin_r (res_1 resT) ?_
          refine lpure (v := .bool false) rfl (p_pick rfl) rfl rfl ?_
          exact ljmpM J8487 false () (sub_cons rfl (sub_cons rfl (sub_cons rfl (sub_cons rfl sub_nil)))) X8537
/-! slices.Equal[[]int,int] -/
theorem f14_ok {n : Nat} {φ : Fz} {lo : Nat} {h : Heap} {own : OwnL}  {a8615 : Option Addr} {n8615 c8615 : Nat} {a8617 : Option Addr} {n8617 c8617 : Nat} (X : St φ lo h (own)) (p8614 : (List Int)) (p8616 : (List Int)) (H8615 : RSl (eInt .i64) φ (.slice a8615 n8615 c8615) p8614) (H8617 : RSl (eInt .i64) φ (.slice a8617 n8617 c8617) p8616) : Sim ((recN Try.prog LL cutF (n + 1)).call 14 #[(.slice a8615 n8615 c8615), (.slice a8617 n8617 c8617)] h) (m_slices_Equal_int_int p8614 p8616) (fun (d : Bool) p => p = (.bool d, h)) := by
  refine fcut Try.func14 rfl rfl rfl rfl X ?_
  intro h0 X0
  refine dseq ?_
  refine dreg ?_
  refine lpure (v := .bool false) rfl (p_assign rfl) rfl rfl ?_
  refine lend ?_
  refine nseq ?_
  refine dseq ?_
  refine dseq ?_
  refine dreg ?_
  refine lpure (v := .slice a8615 n8615 c8615) rfl (p_move rfl) rfl rfl ?_
  refine lpure (v := .int .i64 (p8614.length : Int)) rfl (p_len rfl rfl rfl un_28 rfl) (RSl.lenC H8615) rfl ?_
  refine lpure (v := .slice a8617 n8617 c8617) rfl (p_move rfl) rfl rfl ?_
  refine lpure (v := .int .i64 (p8616.length : Int)) rfl (p_len rfl rfl rfl un_28 rfl) (RSl.lenC H8617) rfl ?_
  refine lpure (v := .bool (decide ((p8614.length : Int) ≠ (p8616.length : Int)))) rfl (p_ne rfl) rfl rfl ?_
  refine lend ?_
  refine nseq ?_
  refine dcond rfl rfl (fun k8618 => ?_) (fun k8618 => ?_)
  · refine dseq ?_
    refine dreg ?_
    refine lpure (v := .bool false) rfl (p_assign rfl) rfl rfl ?_
    refine lend ?_
    refine nseq ?_
    refine dret ?_
    refine rseq ?_
    exact kcut_r (res_1 resT) X0 rfl rfl
  · refine dskip ?_
    refine nseq ?_
    refine dseq ?_
    refine dseq ?_
    refine dreg ?_
    refine lpure (v := .slice a8615 n8615 c8615) rfl (p_move rfl) rfl rfl ?_
    refine lpure (v := .int .i64 (p8614.length : Int)) rfl (p_len rfl rfl rfl un_28 rfl) (RSl.lenC H8615) rfl ?_
    refine lpure (v := .int .i64 0) rfl (p_move rfl) rfl rfl ?_
    refine lend ?_
    refine nseq ?_
    refine dblock ?_
    refine dloopM (τ := Int) (σ := Unit) (fun s8641 (_ : Unit) => [(0, .slice a8615 n8615 c8615), (1, .slice a8617 n8617 c8617), (12, .int .i64 (p8614.length : Int)), (13, .int .i64 s8641)]) (fun s8641 (_ : Unit) hh => St φ h.n hh ([])) 0 () (sub_cons rfl (sub_cons rfl (sub_cons rfl (sub_cons rfl sub_nil)))) X0 ?_
    rintro n8654 ih8653 s8641 _ t0 h8656 X8655
    refine dseq ?_
    refine dreg ?_
    refine lpure (v := .bool (decide (s8641 < (p8614.length : Int)))) rfl (p_lt rfl) rfl rfl ?_
    refine lend ?_
    refine nseq ?_
    refine dseq ?_
    refine dcond rfl rfl (fun k8657 => ?_) (fun k8657 => ?_)
    · refine dskip ?_
      refine nseq ?_
      refine dseq ?_
      refine dblock ?_
      refine dseq ?_
      refine dreg ?_
      refine lpure (v := .int .i64 s8641) rfl (p_move rfl) rfl rfl ?_
      refine lpure (v := .int .i64 s8641) rfl (p_assign rfl) rfl rfl ?_
      refine lend ?_
      refine nseq ?_
      refine dseq ?_
      refine ddraw 0 0 0 (by kernel_rfl) ?_
      refine spure (v := .slice a8615 n8615 c8615) rfl (p_move rfl) (lo_t (lo_sl X8655 H8615) rfl) rfl rfl ?_
      refine spure (v := .int .i64 s8641) rfl (p_move rfl) (lo_t rfl rfl) rfl rfl ?_
      refine Sim.bindM fun e8658 he8659 => ?_
      obtain ⟨p8660, cs8660, hp8660, hF8660, hR8660⟩ := RSl.ia H8615 he8659 (kd := .i64) (n := 1) rfl
      have hR8660 : _ = [(.int .i64 e8658 : Value)] := hR8660
      subst hR8660
      refine spure (v := p8660) rfl (p_ia rs_28 rfl) (lo_t (lo_sl X8655 H8615) (lo_t rfl rfl)) hp8660 rfl ?_
      refine sload (v := .int .i64 e8658) rfl rfl (q_load wd_3 rfl) (FP.ld X8655 hF8660) (same_self 20 rfl) rfl ?_
      refine spure (v := .slice a8617 n8617 c8617) rfl (p_move rfl) (lo_t (lo_sl X8655 H8617) rfl) rfl rfl ?_
      refine spure (v := .int .i64 s8641) rfl (p_move rfl) (lo_t rfl rfl) rfl rfl ?_
      refine Sim.bindM fun e8661 he8662 => ?_
      obtain ⟨p8663, cs8663, hp8663, hF8663, hR8663⟩ := RSl.ia H8617 he8662 (kd := .i64) (n := 1) rfl
      have hR8663 : _ = [(.int .i64 e8661 : Value)] := hR8663
      subst hR8663
      refine spure (v := p8663) rfl (p_ia rs_28 rfl) (lo_t (lo_sl X8655 H8617) (lo_t rfl rfl)) hp8663 rfl ?_
      refine sload (v := .int .i64 e8661) rfl rfl (q_load wd_3 rfl) (FP.ld X8655 hF8663) (same_self 20 rfl) rfl ?_
      refine spure (v := .bool (decide (e8658 ≠ e8661))) rfl (p_ne rfl) (lo_t rfl (lo_t rfl rfl)) rfl rfl ?_
      refine send ?_
      refine nseq ?_
      refine dcond rfl rfl (fun k8664 => ?_) (fun k8664 => ?_)
      · refine dseq ?_
        refine dreg ?_
        refine lpure (v := .bool false) rfl (p_assign rfl) rfl rfl ?_
        refine lend ?_
        refine nseq ?_
        refine dret ?_
        refine rblock ?_
        refine rseq ?_
        refine rloop ?_
        refine rblock ?_
        refine rseq ?_
        exact kcut_r (res_1 resT) X8655 rfl rfl
      · refine dskip ?_
        refine nblock ?_
        refine nseq ?_
        refine dreg ?_
        refine lpure (v := .int .i64 (w64 (s8641 + 1))) rfl (p_add rfl) rfl rfl ?_
        refine lpure (v := .int .i64 (w64 (s8641 + 1))) rfl (p_move rfl) rfl rfl ?_
        refine lend ?_
        exact kbackM ih8653 (w64 (s8641 + 1)) () (sub_cons rfl (sub_cons rfl (sub_cons rfl (sub_cons rfl sub_nil)))) X8655
    · refine dexit ?_
      refine eseq ?_
      refine eloop ?_
      refine xblock ?_
      refine nseq ?_
      refine dseq ?_
      refine dreg ?_
      refine lpure (v := .bool true) rfl (p_assign rfl) rfl rfl ?_
      refine lend ?_
      refine nseq ?_
      refine dret ?_
      exact kcut_r (res_1 resT) X8655 rfl rfl
end Go.AM
