/- Printed: functions of the given program as functions over plain data, and that the machine does what they say; no claim of its own; no condition. -/
import Derived.Test.YtlkddekecegfdaaGuFacts
set_option maxRecDepth 100000
set_option maxHeartbeats 4000000
set_option linter.unusedVariables false
set_option linter.unusedSimpArgs false
namespace Go.AM
open Go Go.Proofs

/-! isochron/isochronlaw21.line -/
theorem f48_ok {n : Nat} {φ : Fz} {lo : Nat} {h : Heap} {own : OwnL}  (X : St φ lo h (own)) : Sim ((recN Try.prog LL cutF (n + 1)).call 48 #[] h) (m_isochronlaw21_line) (fun (d : ApiTopo) p => ∃ φ2 : Fz, ∃ a32 : Option Addr, ∃ n32 : Nat, ∃ c32 : Nat, ∃ ob32 : Option Nat, ∃ blk32 : Blk, ∃ a34 : Option Addr, ∃ n34 : Nat, ∃ c34 : Nat, ∃ ob34 : Option Nat, ∃ blk34 : Blk, Fz.le φ φ2 ∧ St φ2 lo p.2 ((ob32, blk32) :: (ob34, blk34) :: own) ∧ p.1 = .agg #[.int .i64 d.Nodes, .slice a32 n32 c32, .slice a34 n34 c34] ∧ OSl eBool φ2 4 ob32 blk32 (.slice a32 n32 c32) d.Station ∧ OSl eApiLink φ2 75 ob34 blk34 (.slice a34 n34 c34) d.Links) := by
  refine fopen Try.func48 rfl rfl rfl rfl ?_
  refine dseq (dreg ?_)
  refine lalloc rfl tz_29 rfl rfl rfl X (fun b22 h24 X25 => ?_)
  refine lend (nseq (dseq (dreg ?_)))
  obtain ⟨h26, b26, hv26, X26, O26⟩ := OSl.lay (E := eBool) (φ := φ) (cs := [.bool true, .bool false, .bool false, .bool true]) (l := [true, false, false, true]) (len := 4) (parts := [(0, .bool true), (1, .bool false), (2, .bool false), (3, .bool true)]) un_26 ts_4 rfl rfl rfl tz_4 rfl rfl (show RowD eBool φ [.bool true, .bool false, .bool false, .bool true] [true, false, false, true] from ⟨[.bool true], _, rfl, rfl, ⟨[.bool false], _, rfl, rfl, ⟨[.bool false], _, rfl, rfl, ⟨[.bool true], _, rfl, rfl, rfl⟩⟩⟩⟩) rfl rfl X25
  refine lheap rfl (h_buildSlice rfl) hv26 rfl ?_
  refine lpure (v := .agg #[.int .i64 0, .int .i64 1, .int .i64 8, .int .i64 50]) rfl (p_build rfl) (build_st' tz_75 pl_75 rfl) rfl ?_
  refine lpure (v := .agg #[.int .i64 1, .int .i64 2, .int .i64 8, .int .i64 0]) rfl (p_build rfl) (build_st' tz_75 pl_75 rfl) rfl ?_
  refine lpure (v := .agg #[.int .i64 2, .int .i64 3, .int .i64 80, .int .i64 7]) rfl (p_build rfl) (build_st' tz_75 pl_75 rfl) rfl ?_
  obtain ⟨h28, b28, hv28, X28, O28⟩ := OSl.lay (E := eApiLink) (φ := φ) (cs := [.int .i64 0, .int .i64 1, .int .i64 8, .int .i64 50, .int .i64 1, .int .i64 2, .int .i64 8, .int .i64 0, .int .i64 2, .int .i64 3, .int .i64 80, .int .i64 7]) (l := [(ApiLink.mk 0 1 8 50), (ApiLink.mk 1 2 8 0), (ApiLink.mk 2 3 80 7)]) (len := 3) (parts := [(0, .agg #[.int .i64 0, .int .i64 1, .int .i64 8, .int .i64 50]), (1, .agg #[.int .i64 1, .int .i64 2, .int .i64 8, .int .i64 0]), (2, .agg #[.int .i64 2, .int .i64 3, .int .i64 80, .int .i64 7])]) un_27 ts_75 rfl rfl rfl tz_75 rfl rfl (show RowD eApiLink φ [.int .i64 0, .int .i64 1, .int .i64 8, .int .i64 50, .int .i64 1, .int .i64 2, .int .i64 8, .int .i64 0, .int .i64 2, .int .i64 3, .int .i64 80, .int .i64 7] [(ApiLink.mk 0 1 8 50), (ApiLink.mk 1 2 8 0), (ApiLink.mk 2 3 80 7)] from ⟨[.int .i64 0, .int .i64 1, .int .i64 8, .int .i64 50], _, rfl, ⟨_, _, rfl, rfl, ⟨_, _, rfl, rfl, ⟨_, _, rfl, rfl, ⟨_, _, rfl, rfl, rfl⟩⟩⟩⟩, ⟨[.int .i64 1, .int .i64 2, .int .i64 8, .int .i64 0], _, rfl, ⟨_, _, rfl, rfl, ⟨_, _, rfl, rfl, ⟨_, _, rfl, rfl, ⟨_, _, rfl, rfl, rfl⟩⟩⟩⟩, ⟨[.int .i64 2, .int .i64 3, .int .i64 80, .int .i64 7], _, rfl, ⟨_, _, rfl, rfl, ⟨_, _, rfl, rfl, ⟨_, _, rfl, rfl, ⟨_, _, rfl, rfl, rfl⟩⟩⟩⟩, rfl⟩⟩⟩) rfl rfl X26
  refine lheap rfl (h_buildSlice rfl) hv28 rfl ?_
  refine lpure (v := .agg #[.int .i64 4, .slice (some ⟨b26, 0, none⟩) 4 4, .slice (some ⟨b28, 0, none⟩) 3 3]) rfl (p_build rfl) (build_st' tz_29 pl_29 rfl) rfl ?_
  refine lstore rfl ts_29 rfl rfl (j := 2) rfl rfl rfl rfl rfl rfl X28 (fun h30 X31 => ?_)
  refine lend (nseq (dret ?_))
  exact kopen_r (res_1 (resC wd_29 (St.ld X31 (j := 2) rfl rfl))) ⟨φ, ((some ⟨b26, 0, none⟩)), 4, 4, (some b26), ((.cells [.bool true, .bool false, .bool false, .bool true] 4 .exact)), ((some ⟨b28, 0, none⟩)), 3, 3, (some b28), ((.cells [.int .i64 0, .int .i64 1, .int .i64 8, .int .i64 50, .int .i64 1, .int .i64 2, .int .i64 8, .int .i64 0, .int .i64 2, .int .i64 3, .int .i64 80, .int .i64 7] 75 .exact)), (Fz.le_refl _), St.pick (St.front X31 (j := 1) rfl) (.keep _ (.keep _ (.skip _ (.refl _)))), rfl, O26, O28⟩
/-! isochron/topo.isNode -/
theorem f40_ok {n : Nat} {φ : Fz} {lo : Nat} {h : Heap} {own : OwnL}  {a133 : Option Addr} {n133 c133 : Nat} {a134 : Option Addr} {n134 c134 : Nat} (X : St φ lo h (own)) (p132 : ApiTopo) (p135 : Int) (H133 : RSl eBool φ (.slice a133 n133 c133) p132.Station) (H134 : RSl eApiLink φ (.slice a134 n134 c134) p132.Links) : Sim ((recN Try.prog LL cutF (n + 1)).call 40 #[(.agg #[.int .i64 p132.Nodes, .slice a133 n133 c133, .slice a134 n134 c134]), (.int .i64 p135)] h) (m_topo_isNode p132 p135) (fun (d : Bool) p => p = (.bool d, h)) := by
  refine fcut Try.func40 rfl rfl rfl rfl X ?_
  intro h0 X0
  refine dseq (dreg ?_)
  refine lbox rfl rfl rfl rfl rfl X0 (fun b136 h138 X139 => ?_)
  refine lpure (v := .bool false) rfl (p_assign rfl) rfl rfl ?_
  refine lend (nseq (dseq (dreg ?_)))
  refine lpure (v := .int .i64 p135) rfl (p_move rfl) rfl rfl ?_
  refine lpure (v := .bool (decide (0 ≤ p135))) rfl (p_ge rfl) rfl rfl ?_
  refine lpure (v := .bool (decide (0 ≤ p135))) rfl (p_move rfl) rfl rfl ?_
  refine lsh (τ := Bool) (σ := Unit) (fun s141 (_ : Unit) => [(12, .bool s141)]) (fun s141 (_ : Unit) hh => St φ h.n hh ([(some b136, .cells [.int .i64 p132.Nodes, .slice a133 n133 c133, .slice a134 n134 c134] 29 .exact)])) 5 ?_ ?_
  · rintro s141 _ t0 h143 X142
    refine lpure (v := .bool s141) rfl (p_assign rfl) rfl rfl ?_
    refine lend (nseq (dret ?_))
    exact kcut_r (res_1 resT) X142 rfl rfl
  intro j144 J145
  refine lcase (i := 7) (show _ = Value.bool (decide (0 ≤ p135)) from rfl) (fun k146 => ?_) (fun k146 => ?_)
  · refine lpure (v := .int .i64 p135) rfl (p_move rfl) rfl rfl ?_
    refine lpure (v := .pointer (some ⟨b136, 0, none⟩)) rfl (p_fa fo_29_0 rfl) rfl rfl ?_
    refine lread (v := .int .i64 p132.Nodes) rfl (q_load wd_3 rfl) (St.ld X139 (j := 0) rfl rfl) rfl ?_
    refine lpure (v := .bool (decide (p135 < p132.Nodes))) rfl (p_lt rfl) rfl rfl ?_
    refine lpure (v := .bool (decide (p135 < p132.Nodes))) rfl (p_pick rfl) rfl rfl ?_
    refine Sim.of_eq (congrArg j144 (show ((decide (0 ≤ p135)) && (decide (p135 < p132.Nodes))) = (decide (p135 < p132.Nodes)) from by rw [k146] <;> rfl)) ?_
    exact ljmpM J145 (decide (p135 < p132.Nodes)) () (sub_cons rfl sub_nil) X139
  refine lskip rfl rfl ?_
  refine lskip rfl rfl ?_
  refine lskip rfl rfl ?_
  refine lskip rfl rfl ?_
  refine lpure (v := .bool false) rfl (p_pick rfl) rfl rfl ?_
  refine Sim.of_eq (congrArg j144 (show ((decide (0 ≤ p135)) && (decide (p135 < p132.Nodes))) = false from by rw [k146] <;> rfl)) ?_
  exact ljmpM J145 false () (sub_cons rfl sub_nil) X139
/-! isochron/topo.validLink -/
theorem f36_ok {n : Nat} {φ : Fz} {lo : Nat} {h : Heap} {own : OwnL}  {a106 : Option Addr} {n106 c106 : Nat} {a107 : Option Addr} {n107 c107 : Nat} (X : St φ lo h (own)) (p105 : ApiTopo) (p108 : Int) (H106 : RSl eBool φ (.slice a106 n106 c106) p105.Station) (H107 : RSl eApiLink φ (.slice a107 n107 c107) p105.Links) : Sim ((recN Try.prog LL cutF (n + 5)).call 36 #[(.agg #[.int .i64 p105.Nodes, .slice a106 n106 c106, .slice a107 n107 c107]), (.int .i64 p108)] h) (m_topo_validLink p105 p108) (fun (d : Bool) p => p = (.bool d, h)) := by
  refine fcut Try.func36 rfl rfl rfl rfl X ?_
  intro h0 X0
  refine dseq (dreg ?_)
  refine lbox rfl rfl rfl rfl rfl X0 (fun b109 h111 X112 => ?_)
  refine lbox rfl rfl rfl rfl rfl X112 (fun b113 h115 X116 => ?_)
  refine lpure (v := .bool false) rfl (p_assign rfl) rfl rfl ?_
  refine lend (nseq (dseq (dreg ?_)))
  refine lpure (v := .pointer (some ⟨b109, 2, none⟩)) rfl (p_fa fo_29_2 rfl) rfl rfl ?_
  refine lread (v := .slice a107 n107 c107) rfl (q_load wd_27 rfl) (St.ld X116 (j := 1) rfl rfl) rfl ?_
  refine lread (v := .int .i64 p108) rfl (q_load wd_3 rfl) (St.ld X116 (j := 0) rfl rfl) rfl ?_
  refine Sim.bindM fun e117 he118 => ?_
  obtain ⟨p119, cs119, hp119, hF119, hR119⟩ := RSl.ia H107 he118 (kd := .i64) (n := 4) rfl
  obtain rfl := eApiLink_el hR119
  refine lpure (v := p119) rfl (p_ia rs_27 rfl) hp119 rfl ?_
  refine lread (v := .agg #[.int .i64 e117.A, .int .i64 e117.B, .int .i64 e117.Per, .int .i64 e117.Delay]) rfl (q_load wd_75 rfl) (FP.ldw X116 hF119 rfl rfl) rfl ?_
  refine lalloc rfl tz_75 rfl rfl rfl X116 (fun b120 h122 X123 => ?_)
  refine lstore rfl ts_75 rfl rfl (j := 0) rfl rfl rfl rfl rfl rfl X123 (fun h124 X125 => ?_)
  refine lend (nseq (dseq (dreg ?_)))
  refine lpure (v := .func (.func 77) #[] #[.pointer (some ⟨b109, 0, none⟩), .pointer (some ⟨b120, 0, none⟩)]) rfl (p_makeFunc rfl) rfl rfl ?_
  refine lpure (v := .func (.func 78) #[] #[.pointer (some ⟨b109, 0, none⟩), .pointer (some ⟨b120, 0, none⟩)]) rfl (p_makeFunc rfl) rfl rfl ?_
  refine lpure (v := .func (.func 79) #[] #[.pointer (some ⟨b120, 0, none⟩)]) rfl (p_makeFunc rfl) rfl rfl ?_
  refine lpure (v := .func (.func 80) #[] #[.pointer (some ⟨b109, 0, none⟩), .pointer (some ⟨b113, 0, none⟩), .pointer (some ⟨b120, 0, none⟩)]) rfl (p_makeFunc rfl) rfl rfl ?_
  refine lpure (v := .agg #[.func (.func 77) #[] #[.pointer (some ⟨b109, 0, none⟩), .pointer (some ⟨b120, 0, none⟩)], .func (.func 78) #[] #[.pointer (some ⟨b109, 0, none⟩), .pointer (some ⟨b120, 0, none⟩)], .func (.func 79) #[] #[.pointer (some ⟨b120, 0, none⟩)], .func (.func 80) #[] #[.pointer (some ⟨b109, 0, none⟩), .pointer (some ⟨b113, 0, none⟩), .pointer (some ⟨b120, 0, none⟩)]]) rfl (p_build rfl) (build_ar' tz_108 ae_108 rfl) rfl ?_
  refine lalloc rfl tz_108 rfl rfl rfl X125 (fun b126 h128 X129 => ?_)
  refine lstore rfl ts_108 rfl rfl (j := 0) rfl rfl rfl rfl rfl rfl X129 (fun h130 X131 => ?_)
  refine lend (nseq (dseq (dseq (dreg ?_))))
  refine lread (v := .agg #[.func (.func 77) #[] #[.pointer (some ⟨b109, 0, none⟩), .pointer (some ⟨b120, 0, none⟩)], .func (.func 78) #[] #[.pointer (some ⟨b109, 0, none⟩), .pointer (some ⟨b120, 0, none⟩)], .func (.func 79) #[] #[.pointer (some ⟨b120, 0, none⟩)], .func (.func 80) #[] #[.pointer (some ⟨b109, 0, none⟩), .pointer (some ⟨b113, 0, none⟩), .pointer (some ⟨b120, 0, none⟩)]]) rfl (q_load wd_108 rfl) (St.ld X131 (j := 0) rfl rfl) rfl ?_
  refine lpure (v := .int .i64 0) rfl (p_move rfl) rfl rfl ?_
  refine lend (nseq (dblock ?_))
  refine dunroll 999999 rfl ?_
  refine dseq (dreg ?_)
  refine lpure (v := .bool true) rfl (p_lt rfl) rfl rfl ?_
  refine lend (nseq (dseq (dcondT rfl rfl (dskip (nseq (dseq (dblock (dseq (dreg ?_)))))))))
  refine lpure (v := .func (.func 77) #[] #[.pointer (some ⟨b109, 0, none⟩), .pointer (some ⟨b120, 0, none⟩)]) rfl (p_index as_108 rfl) rfl rfl ?_
  refine lpure (v := .func (.func 77) #[] #[.pointer (some ⟨b109, 0, none⟩), .pointer (some ⟨b120, 0, none⟩)]) rfl (p_assign rfl) rfl rfl ?_
  refine lend (nseq (dseq (dreg ?_)))
  refine lpure (v := .func (.func 77) #[] #[.pointer (some ⟨b109, 0, none⟩), .pointer (some ⟨b120, 0, none⟩)]) rfl (p_move rfl) rfl rfl ?_
  refine linl rfl rfl rfl rfl ca_77 rfl Try.func77 rfl rfl rfl rfl rfl ?_
  refine dseq (dreg ?_)
  refine lpure (v := .bool false) rfl (p_assign rfl) rfl rfl ?_
  refine lend (nseq (dseq (dreg ?_)))
  refine lread (v := .agg #[.int .i64 p105.Nodes, .slice a106 n106 c106, .slice a107 n107 c107]) rfl (q_load wd_29 rfl) (St.ld X131 (j := 3) rfl rfl) rfl ?_
  refine lpure (v := .pointer (some ⟨b120, 0, none⟩)) rfl (p_fa fo_75_0 rfl) rfl rfl ?_
  refine lread (v := .int .i64 e117.A) rfl (q_load wd_3 rfl) (St.ld X131 (j := 1) rfl rfl) rfl ?_
  refine lcall rfl rfl ca_40 rfl rfl (f40_ok X131 p105 (e117.A) H106 H107) rfl (fun e147 v148 h149 hq150 => ?_)
  cases hq150
  refine lpure (v := .bool e147) rfl (p_move rfl) rfl rfl ?_
  refine ljoinM (τ := Bool) (σ := Unit) (fun s157 (_ : Unit) => [(1, .pointer (some ⟨b120, 0, none⟩)), (12, .bool s157)]) (fun s157 (_ : Unit) hh => St φ h.n hh ([(some b126, .cells [.func (.func 77) #[] #[.pointer (some ⟨b109, 0, none⟩), .pointer (some ⟨b120, 0, none⟩)], .func (.func 78) #[] #[.pointer (some ⟨b109, 0, none⟩), .pointer (some ⟨b120, 0, none⟩)], .func (.func 79) #[] #[.pointer (some ⟨b120, 0, none⟩)], .func (.func 80) #[] #[.pointer (some ⟨b109, 0, none⟩), .pointer (some ⟨b113, 0, none⟩), .pointer (some ⟨b120, 0, none⟩)]] 108 .exact), (some b120, .cells [.int .i64 e117.A, .int .i64 e117.B, .int .i64 e117.Per, .int .i64 e117.Delay] 75 .exact), (some b113, .cells [.int .i64 p108] 3 .exact), (some b109, .cells [.int .i64 p105.Nodes, .slice a106 n106 c106, .slice a107 n107 c107] 29 .exact)])) 5 ?_ ?_
  · rintro s157 _ t0 h159 X158
    refine lpure (v := .bool s157) rfl (p_move rfl) rfl rfl ?_
    refine lsh (τ := Bool) (σ := Unit) (fun s161 (_ : Unit) => [(19, .bool s161)]) (fun s161 (_ : Unit) hh => St φ h.n hh ([(some b126, .cells [.func (.func 77) #[] #[.pointer (some ⟨b109, 0, none⟩), .pointer (some ⟨b120, 0, none⟩)], .func (.func 78) #[] #[.pointer (some ⟨b109, 0, none⟩), .pointer (some ⟨b120, 0, none⟩)], .func (.func 79) #[] #[.pointer (some ⟨b120, 0, none⟩)], .func (.func 80) #[] #[.pointer (some ⟨b109, 0, none⟩), .pointer (some ⟨b113, 0, none⟩), .pointer (some ⟨b120, 0, none⟩)]] 108 .exact), (some b120, .cells [.int .i64 e117.A, .int .i64 e117.B, .int .i64 e117.Per, .int .i64 e117.Delay] 75 .exact), (some b113, .cells [.int .i64 p108] 3 .exact), (some b109, .cells [.int .i64 p105.Nodes, .slice a106 n106 c106, .slice a107 n107 c107] 29 .exact)])) 6 ?_ ?_
    · rintro s161 _ t0 h163 X162
      refine lpure (v := .bool s161) rfl (p_assign rfl) rfl rfl ?_
      refine lend (nseq (dret ?_))
      refine kin_r (res_1 resT) ?_
      refine lpure (v := .bool (!s161)) rfl (p_not rfl) rfl rfl ?_
      refine lend (nseq ?_)
      refine dcond rfl rfl (fun k164 => ?_) (fun k164 => ?_)
      · refine dseq (dreg ?_)
        refine lpure (v := .bool false) rfl (p_assign rfl) rfl rfl ?_
        refine lend (nseq (dret (rblock (rseq (rloop (rblock (rseq ?_)))))))
        exact kcut_r (res_1 resT) X162 rfl rfl
      refine dskip (nblock (nseq (dreg ?_)))
      refine lpure (v := .int .i64 1) rfl (p_add rfl) rfl rfl ?_
      refine lpure (v := .int .i64 1) rfl (p_move rfl) rfl rfl ?_
      refine lend ?_
      refine nunroll 999998 rfl ?_
      refine dseq (dreg ?_)
      refine lpure (v := .bool true) rfl (p_lt rfl) rfl rfl ?_
      refine lend (nseq (dseq (dcondT rfl rfl (dskip (nseq (dseq (dblock (dseq (dreg ?_)))))))))
      refine lpure (v := .func (.func 78) #[] #[.pointer (some ⟨b109, 0, none⟩), .pointer (some ⟨b120, 0, none⟩)]) rfl (p_index as_108 rfl) rfl rfl ?_
      refine lpure (v := .func (.func 78) #[] #[.pointer (some ⟨b109, 0, none⟩), .pointer (some ⟨b120, 0, none⟩)]) rfl (p_assign rfl) rfl rfl ?_
      refine lend (nseq (dseq (dreg ?_)))
      refine lpure (v := .func (.func 78) #[] #[.pointer (some ⟨b109, 0, none⟩), .pointer (some ⟨b120, 0, none⟩)]) rfl (p_move rfl) rfl rfl ?_
      refine linl rfl rfl rfl rfl ca_78 rfl Try.func78 rfl rfl rfl rfl rfl ?_
      refine dseq (dreg ?_)
      refine lpure (v := .bool false) rfl (p_assign rfl) rfl rfl ?_
      refine lend (nseq (dseq (dreg ?_)))
      refine lpure (v := .pointer (some ⟨b109, 1, none⟩)) rfl (p_fa fo_29_1 rfl) rfl rfl ?_
      refine lread (v := .slice a106 n106 c106) rfl (q_load wd_26 rfl) (St.ld X162 (j := 3) rfl rfl) rfl ?_
      refine lpure (v := .pointer (some ⟨b120, 0, none⟩)) rfl (p_fa fo_75_0 rfl) rfl rfl ?_
      refine lread (v := .int .i64 e117.A) rfl (q_load wd_3 rfl) (St.ld X162 (j := 1) rfl rfl) rfl ?_
      refine Sim.bindM fun e165 he166 => ?_
      obtain ⟨p167, cs167, hp167, hF167, hR167⟩ := RSl.ia H106 he166 (kd := .i64) (n := 1) rfl
      have hR167 : _ = [(.bool e165 : Value)] := hR167
      subst hR167
      refine lpure (v := p167) rfl (p_ia rs_26 rfl) hp167 rfl ?_
      refine lread (v := .bool e165) rfl (q_load wd_4 rfl) (FP.ld X162 hF167) rfl ?_
      refine lpure (v := .bool (!e165)) rfl (p_not rfl) rfl rfl ?_
      refine lpure (v := .bool (!e165)) rfl (p_move rfl) rfl rfl ?_
      refine ljoinM (τ := Bool) (σ := Unit) (fun s173 (_ : Unit) => [(18, .bool s173)]) (fun s173 (_ : Unit) hh => St φ h.n hh ([(some b126, .cells [.func (.func 77) #[] #[.pointer (some ⟨b109, 0, none⟩), .pointer (some ⟨b120, 0, none⟩)], .func (.func 78) #[] #[.pointer (some ⟨b109, 0, none⟩), .pointer (some ⟨b120, 0, none⟩)], .func (.func 79) #[] #[.pointer (some ⟨b120, 0, none⟩)], .func (.func 80) #[] #[.pointer (some ⟨b109, 0, none⟩), .pointer (some ⟨b113, 0, none⟩), .pointer (some ⟨b120, 0, none⟩)]] 108 .exact), (some b120, .cells [.int .i64 e117.A, .int .i64 e117.B, .int .i64 e117.Per, .int .i64 e117.Delay] 75 .exact), (some b113, .cells [.int .i64 p108] 3 .exact), (some b109, .cells [.int .i64 p105.Nodes, .slice a106 n106 c106, .slice a107 n107 c107] 29 .exact)])) 8 ?_ ?_
      · rintro s173 _ t0 h175 X174
        refine lpure (v := .bool s173) rfl (p_assign rfl) rfl rfl ?_
        refine lend (nseq (dret ?_))
        refine kin_r (res_1 resT) ?_
        refine lpure (v := .bool (!s173)) rfl (p_not rfl) rfl rfl ?_
        refine lend (nseq ?_)
        refine dcond rfl rfl (fun k176 => ?_) (fun k176 => ?_)
        · refine dseq (dreg ?_)
          refine lpure (v := .bool false) rfl (p_assign rfl) rfl rfl ?_
          refine lend (nseq (dret (rblock (rseq (rloop (rblock (rseq ?_)))))))
          exact kcut_r (res_1 resT) X174 rfl rfl
        refine dskip (nblock (nseq (dreg ?_)))
        refine lpure (v := .int .i64 2) rfl (p_add rfl) rfl rfl ?_
        refine lpure (v := .int .i64 2) rfl (p_move rfl) rfl rfl ?_
        refine lend ?_
        refine nunroll 999997 rfl ?_
        refine dseq (dreg ?_)
        refine lpure (v := .bool true) rfl (p_lt rfl) rfl rfl ?_
        refine lend (nseq (dseq (dcondT rfl rfl (dskip (nseq (dseq (dblock (dseq (dreg ?_)))))))))
        refine lpure (v := .func (.func 79) #[] #[.pointer (some ⟨b120, 0, none⟩)]) rfl (p_index as_108 rfl) rfl rfl ?_
        refine lpure (v := .func (.func 79) #[] #[.pointer (some ⟨b120, 0, none⟩)]) rfl (p_assign rfl) rfl rfl ?_
        refine lend (nseq (dseq (dreg ?_)))
        refine lpure (v := .func (.func 79) #[] #[.pointer (some ⟨b120, 0, none⟩)]) rfl (p_move rfl) rfl rfl ?_
        refine linl rfl rfl rfl rfl ca_79 rfl Try.func79 rfl rfl rfl rfl rfl ?_
        refine dseq (dreg ?_)
        refine lpure (v := .bool false) rfl (p_assign rfl) rfl rfl ?_
        refine lend (nseq (dseq (dreg ?_)))
        refine lpure (v := .pointer (some ⟨b120, 2, none⟩)) rfl (p_fa fo_75_2 rfl) rfl rfl ?_
        refine lread (v := .int .i64 e117.Per) rfl (q_load wd_3 rfl) (St.ld X174 (j := 1) rfl rfl) rfl ?_
        refine lpure (v := .bool (decide (1 ≤ e117.Per))) rfl (p_ge rfl) rfl rfl ?_
        refine lpure (v := .bool (decide (1 ≤ e117.Per))) rfl (p_move rfl) rfl rfl ?_
        refine lsh (τ := Bool) (σ := Unit) (fun s178 (_ : Unit) => [(0, .pointer (some ⟨b120, 0, none⟩)), (9, .bool s178)]) (fun s178 (_ : Unit) hh => St φ h.n hh ([(some b126, .cells [.func (.func 77) #[] #[.pointer (some ⟨b109, 0, none⟩), .pointer (some ⟨b120, 0, none⟩)], .func (.func 78) #[] #[.pointer (some ⟨b109, 0, none⟩), .pointer (some ⟨b120, 0, none⟩)], .func (.func 79) #[] #[.pointer (some ⟨b120, 0, none⟩)], .func (.func 80) #[] #[.pointer (some ⟨b109, 0, none⟩), .pointer (some ⟨b113, 0, none⟩), .pointer (some ⟨b120, 0, none⟩)]] 108 .exact), (some b120, .cells [.int .i64 e117.A, .int .i64 e117.B, .int .i64 e117.Per, .int .i64 e117.Delay] 75 .exact), (some b113, .cells [.int .i64 p108] 3 .exact), (some b109, .cells [.int .i64 p105.Nodes, .slice a106 n106 c106, .slice a107 n107 c107] 29 .exact)])) 4 ?_ ?_
        · rintro s178 _ t0 h180 X179
          refine lpure (v := .bool s178) rfl (p_move rfl) rfl rfl ?_
          refine lsh (τ := Bool) (σ := Unit) (fun s182 (_ : Unit) => [(0, .pointer (some ⟨b120, 0, none⟩)), (14, .bool s182)]) (fun s182 (_ : Unit) hh => St φ h.n hh ([(some b126, .cells [.func (.func 77) #[] #[.pointer (some ⟨b109, 0, none⟩), .pointer (some ⟨b120, 0, none⟩)], .func (.func 78) #[] #[.pointer (some ⟨b109, 0, none⟩), .pointer (some ⟨b120, 0, none⟩)], .func (.func 79) #[] #[.pointer (some ⟨b120, 0, none⟩)], .func (.func 80) #[] #[.pointer (some ⟨b109, 0, none⟩), .pointer (some ⟨b113, 0, none⟩), .pointer (some ⟨b120, 0, none⟩)]] 108 .exact), (some b120, .cells [.int .i64 e117.A, .int .i64 e117.B, .int .i64 e117.Per, .int .i64 e117.Delay] 75 .exact), (some b113, .cells [.int .i64 p108] 3 .exact), (some b109, .cells [.int .i64 p105.Nodes, .slice a106 n106 c106, .slice a107 n107 c107] 29 .exact)])) 4 ?_ ?_
          · rintro s182 _ t0 h184 X183
            refine lpure (v := .bool s182) rfl (p_move rfl) rfl rfl ?_
            refine lsh (τ := Bool) (σ := Unit) (fun s186 (_ : Unit) => [(19, .bool s186)]) (fun s186 (_ : Unit) hh => St φ h.n hh ([(some b126, .cells [.func (.func 77) #[] #[.pointer (some ⟨b109, 0, none⟩), .pointer (some ⟨b120, 0, none⟩)], .func (.func 78) #[] #[.pointer (some ⟨b109, 0, none⟩), .pointer (some ⟨b120, 0, none⟩)], .func (.func 79) #[] #[.pointer (some ⟨b120, 0, none⟩)], .func (.func 80) #[] #[.pointer (some ⟨b109, 0, none⟩), .pointer (some ⟨b113, 0, none⟩), .pointer (some ⟨b120, 0, none⟩)]] 108 .exact), (some b120, .cells [.int .i64 e117.A, .int .i64 e117.B, .int .i64 e117.Per, .int .i64 e117.Delay] 75 .exact), (some b113, .cells [.int .i64 p108] 3 .exact), (some b109, .cells [.int .i64 p105.Nodes, .slice a106 n106 c106, .slice a107 n107 c107] 29 .exact)])) 4 ?_ ?_
            · rintro s186 _ t0 h188 X187
              refine lpure (v := .bool s186) rfl (p_assign rfl) rfl rfl ?_
              refine lend (nseq (dret ?_))
              refine kin_r (res_1 resT) ?_
              refine lpure (v := .bool (!s186)) rfl (p_not rfl) rfl rfl ?_
              refine lend (nseq ?_)
              refine dcond rfl rfl (fun k189 => ?_) (fun k189 => ?_)
              · refine dseq (dreg ?_)
                refine lpure (v := .bool false) rfl (p_assign rfl) rfl rfl ?_
                refine lend (nseq (dret (rblock (rseq (rloop (rblock (rseq ?_)))))))
                exact kcut_r (res_1 resT) X187 rfl rfl
              refine dskip (nblock (nseq (dreg ?_)))
              refine lpure (v := .int .i64 3) rfl (p_add rfl) rfl rfl ?_
              refine lpure (v := .int .i64 3) rfl (p_move rfl) rfl rfl ?_
              refine lend ?_
              refine nunroll 999996 rfl ?_
              refine dseq (dreg ?_)
              refine lpure (v := .bool true) rfl (p_lt rfl) rfl rfl ?_
              refine lend (nseq (dseq (dcondT rfl rfl (dskip (nseq (dseq (dblock (dseq (dreg ?_)))))))))
              refine lpure (v := .func (.func 80) #[] #[.pointer (some ⟨b109, 0, none⟩), .pointer (some ⟨b113, 0, none⟩), .pointer (some ⟨b120, 0, none⟩)]) rfl (p_index as_108 rfl) rfl rfl ?_
              refine lpure (v := .func (.func 80) #[] #[.pointer (some ⟨b109, 0, none⟩), .pointer (some ⟨b113, 0, none⟩), .pointer (some ⟨b120, 0, none⟩)]) rfl (p_assign rfl) rfl rfl ?_
              refine lend (nseq (dseq (dreg ?_)))
              refine lpure (v := .func (.func 80) #[] #[.pointer (some ⟨b109, 0, none⟩), .pointer (some ⟨b113, 0, none⟩), .pointer (some ⟨b120, 0, none⟩)]) rfl (p_move rfl) rfl rfl ?_
              refine linl rfl rfl rfl rfl ca_80 rfl Try.func80 rfl rfl rfl rfl rfl ?_
              refine dseq (dreg ?_)
              refine lpure (v := .bool false) rfl (p_assign rfl) rfl rfl ?_
              refine lend (nseq (dseq (dreg ?_)))
              refine lpure (v := .pointer (some ⟨b109, 2, none⟩)) rfl (p_fa fo_29_2 rfl) rfl rfl ?_
              refine lread (v := .slice a107 n107 c107) rfl (q_load wd_27 rfl) (St.ld X187 (j := 3) rfl rfl) rfl ?_
              refine lread (v := .int .i64 p108) rfl (q_load wd_3 rfl) (St.ld X187 (j := 2) rfl rfl) rfl ?_
              refine Sim.mustM fun k190 => ?_
              have k190 := of_decide_eq_true k190
              obtain ⟨a190, n190, c190, hv190, H190⟩ := RSl.slice H107 X187 un_27 ts_75 rfl bnd_none (bnd_int (show (0 : Int) ≤ p108 from by omega)) (by omega) (by omega)
              refine lread rfl (q_slice rfl (evo_ok rfl) (evo_ok rfl) (evo_ok rfl)) hv190 rfl ?_
              refine lpure (v := .func (.func 82) #[] #[.pointer (some ⟨b120, 0, none⟩)]) rfl (p_makeFunc rfl) rfl rfl ?_
              refine linl rfl rfl rfl rfl ca_81 rfl Try.func81 rfl rfl rfl rfl rfl ?_
              refine dseq (dreg ?_)
              refine lpure (v := .bool false) rfl (p_assign rfl) rfl rfl ?_
              refine lend (nseq (dseq (dreg ?_)))
              refine lpure (v := .slice a190 n190 c190) rfl (p_move rfl) rfl rfl ?_
              refine lpure (v := .func (.func 82) #[] #[.pointer (some ⟨b120, 0, none⟩)]) rfl (p_move rfl) rfl rfl ?_
              refine linl rfl rfl rfl rfl ca_108 rfl Try.func108 rfl rfl rfl rfl rfl ?_
              refine dseq (dreg ?_)
              refine lpure (v := .int .i64 0) rfl (p_assign rfl) rfl rfl ?_
              refine lend (nseq (dseq (dseq (dreg ?_))))
              refine lpure (v := .slice a190 n190 c190) rfl (p_move rfl) rfl rfl ?_
              refine lpure (v := .int .i64 ((p105.Links.take (p108).toNat).length : Int)) rfl (p_len rfl rfl rfl un_27 rfl) (RSl.lenC H190) rfl ?_
              refine lpure (v := .int .i64 0) rfl (p_move rfl) rfl rfl ?_
              refine lend (nseq (dblock ?_))
              refine dloopM (τ := Int) (σ := Unit) (fun s246 (_ : Unit) => [(0, .slice a190 n190 c190), (1, .func (.func 82) #[] #[.pointer (some ⟨b120, 0, none⟩)]), (7, .int .i64 ((p105.Links.take (p108).toNat).length : Int)), (8, .int .i64 s246)]) (fun s246 (_ : Unit) hh => St φ h.n hh ([(some b126, .cells [.func (.func 77) #[] #[.pointer (some ⟨b109, 0, none⟩), .pointer (some ⟨b120, 0, none⟩)], .func (.func 78) #[] #[.pointer (some ⟨b109, 0, none⟩), .pointer (some ⟨b120, 0, none⟩)], .func (.func 79) #[] #[.pointer (some ⟨b120, 0, none⟩)], .func (.func 80) #[] #[.pointer (some ⟨b109, 0, none⟩), .pointer (some ⟨b113, 0, none⟩), .pointer (some ⟨b120, 0, none⟩)]] 108 .exact), (some b120, .cells [.int .i64 e117.A, .int .i64 e117.B, .int .i64 e117.Per, .int .i64 e117.Delay] 75 .exact), (some b113, .cells [.int .i64 p108] 3 .exact), (some b109, .cells [.int .i64 p105.Nodes, .slice a106 n106 c106, .slice a107 n107 c107] 29 .exact)])) 0 () (sub_cons rfl (sub_cons rfl (sub_cons rfl (sub_cons rfl sub_nil)))) X187 ?_
              rintro n276 ih275 s246 _ t0 h278 X277
              refine dseq (dreg ?_)
              refine lpure (v := .bool (decide (s246 < ((p105.Links.take (p108).toNat).length : Int)))) rfl (p_lt rfl) rfl rfl ?_
              refine lend (nseq (dseq ?_))
              refine dcond rfl rfl (fun k279 => ?_) (fun k279 => ?_)
              · refine dskip (nseq (dseq (dblock (dseq (dreg ?_)))))
                refine lpure (v := .int .i64 s246) rfl (p_move rfl) rfl rfl ?_
                refine lpure (v := .int .i64 s246) rfl (p_assign rfl) rfl rfl ?_
                refine lend (nseq (dseq (dreg ?_)))
                refine lpure (v := .func (.func 82) #[] #[.pointer (some ⟨b120, 0, none⟩)]) rfl (p_move rfl) rfl rfl ?_
                refine lpure (v := .slice a190 n190 c190) rfl (p_move rfl) rfl rfl ?_
                refine lpure (v := .int .i64 s246) rfl (p_move rfl) rfl rfl ?_
                refine Sim.bindM fun e280 he281 => ?_
                obtain ⟨p282, cs282, hp282, hF282, hR282⟩ := RSl.ia H190 he281 (kd := .i64) (n := 4) rfl
                obtain rfl := eApiLink_el hR282
                refine lpure (v := p282) rfl (p_ia rs_27 rfl) hp282 rfl ?_
                refine lread (v := .agg #[.int .i64 e280.A, .int .i64 e280.B, .int .i64 e280.Per, .int .i64 e280.Delay]) rfl (q_load wd_75 rfl) (FP.ldw X277 hF282 rfl rfl) rfl ?_
                refine linl rfl rfl rfl rfl ca_82 rfl Try.func82 rfl rfl rfl rfl rfl ?_
                refine dseq (dreg ?_)
                refine lbox rfl rfl rfl rfl rfl X277 (fun b283 h285 X286 => ?_)
                refine lpure (v := .bool false) rfl (p_assign rfl) rfl rfl ?_
                refine lend (nseq (dseq (dreg ?_)))
                refine lpure (v := .pointer (some ⟨b283, 0, none⟩)) rfl (p_fa fo_75_0 rfl) rfl rfl ?_
                refine lread (v := .int .i64 e280.A) rfl (q_load wd_3 rfl) (St.ld X286 (j := 0) rfl rfl) rfl ?_
                refine lpure (v := .pointer (some ⟨b120, 0, none⟩)) rfl (p_fa fo_75_0 rfl) rfl rfl ?_
                refine lread (v := .int .i64 e117.A) rfl (q_load wd_3 rfl) (St.ld X286 (j := 2) rfl rfl) rfl ?_
                refine lpure (v := .bool (decide (e280.A = e117.A))) rfl (p_eq rfl) rfl rfl ?_
                refine lpure (v := .bool (decide (e280.A = e117.A))) rfl (p_move rfl) rfl rfl ?_
                refine lsh (τ := Bool) (σ := Unit) (fun s288 (_ : Unit) => [(1, .pointer (some ⟨b120, 0, none⟩)), (2, .pointer (some ⟨b283, 0, none⟩)), (15, .bool s288)]) (fun s288 (_ : Unit) hh => St φ h.n hh ([(some b283, .cells [.int .i64 e280.A, .int .i64 e280.B, .int .i64 e280.Per, .int .i64 e280.Delay] 75 .exact), (some b126, .cells [.func (.func 77) #[] #[.pointer (some ⟨b109, 0, none⟩), .pointer (some ⟨b120, 0, none⟩)], .func (.func 78) #[] #[.pointer (some ⟨b109, 0, none⟩), .pointer (some ⟨b120, 0, none⟩)], .func (.func 79) #[] #[.pointer (some ⟨b120, 0, none⟩)], .func (.func 80) #[] #[.pointer (some ⟨b109, 0, none⟩), .pointer (some ⟨b113, 0, none⟩), .pointer (some ⟨b120, 0, none⟩)]] 108 .exact), (some b120, .cells [.int .i64 e117.A, .int .i64 e117.B, .int .i64 e117.Per, .int .i64 e117.Delay] 75 .exact), (some b113, .cells [.int .i64 p108] 3 .exact), (some b109, .cells [.int .i64 p105.Nodes, .slice a106 n106 c106, .slice a107 n107 c107] 29 .exact)])) 6 ?_ ?_
                · rintro s288 _ t0 h290 X289
                  refine lpure (v := .bool s288) rfl (p_move rfl) rfl rfl ?_
                  refine lsh (τ := Bool) (σ := Unit) (fun s292 (_ : Unit) => [(29, .bool s292)]) (fun s292 (_ : Unit) hh => St φ h.n hh ([(some b283, .cells [.int .i64 e280.A, .int .i64 e280.B, .int .i64 e280.Per, .int .i64 e280.Delay] 75 .exact), (some b126, .cells [.func (.func 77) #[] #[.pointer (some ⟨b109, 0, none⟩), .pointer (some ⟨b120, 0, none⟩)], .func (.func 78) #[] #[.pointer (some ⟨b109, 0, none⟩), .pointer (some ⟨b120, 0, none⟩)], .func (.func 79) #[] #[.pointer (some ⟨b120, 0, none⟩)], .func (.func 80) #[] #[.pointer (some ⟨b109, 0, none⟩), .pointer (some ⟨b113, 0, none⟩), .pointer (some ⟨b120, 0, none⟩)]] 108 .exact), (some b120, .cells [.int .i64 e117.A, .int .i64 e117.B, .int .i64 e117.Per, .int .i64 e117.Delay] 75 .exact), (some b113, .cells [.int .i64 p108] 3 .exact), (some b109, .cells [.int .i64 p105.Nodes, .slice a106 n106 c106, .slice a107 n107 c107] 29 .exact)])) 13 ?_ ?_
                  · rintro s292 _ t0 h294 X293
                    refine lpure (v := .bool s292) rfl (p_assign rfl) rfl rfl ?_
                    refine lend (nseq (dret ?_))
                    refine kin_r (res_1 resT) ?_
                    refine lend (nseq ?_)
                    refine dcond rfl rfl (fun k295 => ?_) (fun k295 => ?_)
                    · refine dseq (dreg ?_)
                      refine lpure (v := .int .i64 s246) rfl (p_move rfl) rfl rfl ?_
                      refine lpure (v := .int .i64 s246) rfl (p_assign rfl) rfl rfl ?_
                      refine lend (nseq (dret (rblock (rseq (rloop (rblock (rseq ?_)))))))
                      refine kin_r (res_1 resT) ?_
                      refine lpure (v := .bool (decide (0 ≤ s246))) rfl (p_ge rfl) rfl rfl ?_
                      refine lpure (v := .bool (decide (0 ≤ s246))) rfl (p_assign rfl) rfl rfl ?_
                      refine lend (nseq (dret ?_))
                      refine kin_r (res_1 resT) ?_
                      refine lpure (v := .bool (!(decide (0 ≤ s246)))) rfl (p_not rfl) rfl rfl ?_
                      refine lpure (v := .bool (!(decide (0 ≤ s246)))) rfl (p_assign rfl) rfl rfl ?_
                      refine lend (nseq (dret ?_))
                      refine kin_r (res_1 resT) ?_
                      refine lpure (v := .bool (!(!(decide (0 ≤ s246))))) rfl (p_not rfl) rfl rfl ?_
                      refine lend (nseq ?_)
                      refine dcond rfl rfl (fun k296 => ?_) (fun k296 => ?_)
                      · refine dseq (dreg ?_)
                        refine lpure (v := .bool false) rfl (p_assign rfl) rfl rfl ?_
                        refine lend (nseq (dret (rblock (rseq (rloop (rblock (rseq ?_)))))))
                        exact kcut_r (res_1 resT) X293 rfl rfl
                      refine dskip (nblock (nseq (dreg ?_)))
                      refine lpure (v := .int .i64 4) rfl (p_add rfl) rfl rfl ?_
                      refine lpure (v := .int .i64 4) rfl (p_move rfl) rfl rfl ?_
                      refine lend ?_
                      refine nunroll 999995 rfl ?_
                      refine dseq (dreg ?_)
                      refine lpure (v := .bool false) rfl (p_lt rfl) rfl rfl ?_
                      refine lend (nseq (dseq (dcondF rfl rfl (dexit (eseq (eloop (xblock (nseq (dseq (dreg ?_))))))))))
                      refine lpure (v := .bool true) rfl (p_assign rfl) rfl rfl ?_
                      refine lend (nseq (dret ?_))
                      exact kcut_r (res_1 resT) X293 rfl rfl
                    refine dskip (nblock (nseq (dreg ?_)))
                    refine lpure (v := .int .i64 (w64 (s246 + 1))) rfl (p_add rfl) rfl rfl ?_
                    refine lpure (v := .int .i64 (w64 (s246 + 1))) rfl (p_move rfl) rfl rfl ?_
                    refine lend ?_
                    exact kbackM ih275 (w64 (s246 + 1)) () (sub_cons rfl (sub_cons rfl (sub_cons rfl (sub_cons rfl sub_nil)))) (St.pick X293 (.skip _ (.keep _ (.keep _ (.keep _ (.keep _ (.nil _)))))))
                  intro j297 J298
                  refine lcase (i := 16) (show _ = Value.bool s288 from rfl) (fun k299 => ?_) (fun k299 => ?_)
                  · refine lskip rfl rfl ?_
                    refine lskip rfl rfl ?_
                    refine lskip rfl rfl ?_
                    refine lskip rfl rfl ?_
                    refine lskip rfl rfl ?_
                    refine lskip rfl rfl ?_
                    refine lskip rfl rfl ?_
                    refine lskip rfl rfl ?_
                    refine lskip rfl rfl ?_
                    refine lskip rfl rfl ?_
                    refine lskip rfl rfl ?_
                    refine lskip rfl rfl ?_
                    refine lpure (v := .bool true) rfl (p_pick rfl) rfl rfl ?_
                    refine Sim.of_eq (congrArg j297 (show (s288 || ((decide (e280.A = e117.B)) && (decide (e280.B = e117.A)))) = true from by rw [k299] <;> rfl)) ?_
                    exact ljmpM J298 true () (sub_cons rfl sub_nil) X289
                  refine lpure (v := .pointer (some ⟨b283, 0, none⟩)) rfl (p_fa fo_75_0 rfl) rfl rfl ?_
                  refine lread (v := .int .i64 e280.A) rfl (q_load wd_3 rfl) (St.ld X289 (j := 0) rfl rfl) rfl ?_
                  refine lpure (v := .pointer (some ⟨b120, 1, none⟩)) rfl (p_fa fo_75_1 rfl) rfl rfl ?_
                  refine lread (v := .int .i64 e117.B) rfl (q_load wd_3 rfl) (St.ld X289 (j := 2) rfl rfl) rfl ?_
                  refine lpure (v := .bool (decide (e280.A = e117.B))) rfl (p_eq rfl) rfl rfl ?_
                  refine lpure (v := .bool (decide (e280.A = e117.B))) rfl (p_move rfl) rfl rfl ?_
                  refine lcase (i := 22) (show _ = Value.bool (decide (e280.A = e117.B)) from rfl) (fun k300 => ?_) (fun k300 => ?_)
                  · refine lpure (v := .pointer (some ⟨b283, 1, none⟩)) rfl (p_fa fo_75_1 rfl) rfl rfl ?_
                    refine lread (v := .int .i64 e280.B) rfl (q_load wd_3 rfl) (St.ld X289 (j := 0) rfl rfl) rfl ?_
                    refine lpure (v := .pointer (some ⟨b120, 0, none⟩)) rfl (p_fa fo_75_0 rfl) rfl rfl ?_
                    refine lread (v := .int .i64 e117.A) rfl (q_load wd_3 rfl) (St.ld X289 (j := 2) rfl rfl) rfl ?_
                    refine lpure (v := .bool (decide (e280.B = e117.A))) rfl (p_eq rfl) rfl rfl ?_
                    refine lpure (v := .bool (decide (e280.B = e117.A))) rfl (p_pick rfl) rfl rfl ?_
                    refine lpure (v := .bool (decide (e280.B = e117.A))) rfl (p_pick rfl) rfl rfl ?_
                    refine Sim.of_eq (congrArg j297 (show (s288 || ((decide (e280.A = e117.B)) && (decide (e280.B = e117.A)))) = (decide (e280.B = e117.A)) from by rw [k299, k300] <;> rfl)) ?_
                    exact ljmpM J298 (decide (e280.B = e117.A)) () (sub_cons rfl sub_nil) X289
                  refine lskip rfl rfl ?_
                  refine lskip rfl rfl ?_
                  refine lskip rfl rfl ?_
                  refine lskip rfl rfl ?_
                  refine lskip rfl rfl ?_
                  refine lpure (v := .bool false) rfl (p_pick rfl) rfl rfl ?_
                  refine lpure (v := .bool false) rfl (p_pick rfl) rfl rfl ?_
                  refine Sim.of_eq (congrArg j297 (show (s288 || ((decide (e280.A = e117.B)) && (decide (e280.B = e117.A)))) = false from by rw [k299, k300] <;> rfl)) ?_
                  exact ljmpM J298 false () (sub_cons rfl sub_nil) X289
                intro j301 J302
                refine lcase (i := 9) (show _ = Value.bool (decide (e280.A = e117.A)) from rfl) (fun k303 => ?_) (fun k303 => ?_)
                · refine lpure (v := .pointer (some ⟨b283, 1, none⟩)) rfl (p_fa fo_75_1 rfl) rfl rfl ?_
                  refine lread (v := .int .i64 e280.B) rfl (q_load wd_3 rfl) (St.ld X286 (j := 0) rfl rfl) rfl ?_
                  refine lpure (v := .pointer (some ⟨b120, 1, none⟩)) rfl (p_fa fo_75_1 rfl) rfl rfl ?_
                  refine lread (v := .int .i64 e117.B) rfl (q_load wd_3 rfl) (St.ld X286 (j := 2) rfl rfl) rfl ?_
                  refine lpure (v := .bool (decide (e280.B = e117.B))) rfl (p_eq rfl) rfl rfl ?_
                  refine lpure (v := .bool (decide (e280.B = e117.B))) rfl (p_pick rfl) rfl rfl ?_
                  refine Sim.of_eq (congrArg j301 (show ((decide (e280.A = e117.A)) && (decide (e280.B = e117.B))) = (decide (e280.B = e117.B)) from by rw [k303] <;> rfl)) ?_
                  exact ljmpM J302 (decide (e280.B = e117.B)) () (sub_cons rfl (sub_cons rfl (sub_cons rfl sub_nil))) X286
                refine lskip rfl rfl ?_
                refine lskip rfl rfl ?_
                refine lskip rfl rfl ?_
                refine lskip rfl rfl ?_
                refine lskip rfl rfl ?_
                refine lpure (v := .bool false) rfl (p_pick rfl) rfl rfl ?_
                refine Sim.of_eq (congrArg j301 (show ((decide (e280.A = e117.A)) && (decide (e280.B = e117.B))) = false from by rw [k303] <;> rfl)) ?_
                exact ljmpM J302 false () (sub_cons rfl (sub_cons rfl (sub_cons rfl sub_nil))) X286
              refine dexit (eseq (eloop (xblock (nseq (dseq (dreg ?_))))))
              refine lpure (v := .int .i64 (-1)) rfl (p_assign rfl) rfl rfl ?_
              refine lend (nseq (dret ?_))
              refine kin_r (res_1 resT) ?_
              refine lpure (v := .bool false) rfl (p_ge rfl) rfl rfl ?_
              refine lpure (v := .bool false) rfl (p_assign rfl) rfl rfl ?_
              refine lend (nseq (dret ?_))
              refine kin_r (res_1 resT) ?_
              refine lpure (v := .bool true) rfl (p_not rfl) rfl rfl ?_
              refine lpure (v := .bool true) rfl (p_assign rfl) rfl rfl ?_
              refine lend (nseq (dret ?_))
              refine kin_r (res_1 resT) ?_
              refine lpure (v := .bool false) rfl (p_not rfl) rfl rfl ?_
              refine lend (nseq (dcondF rfl rfl (dskip (nblock (nseq (dreg ?_))))))
              refine lpure (v := .int .i64 4) rfl (p_add rfl) rfl rfl ?_
              refine lpure (v := .int .i64 4) rfl (p_move rfl) rfl rfl ?_
              refine lend ?_
              refine nunroll 999995 rfl ?_
              refine dseq (dreg ?_)
              refine lpure (v := .bool false) rfl (p_lt rfl) rfl rfl ?_
              refine lend (nseq (dseq (dcondF rfl rfl (dexit (eseq (eloop (xblock (nseq (dseq (dreg ?_))))))))))
              refine lpure (v := .bool true) rfl (p_assign rfl) rfl rfl ?_
              refine lend (nseq (dret ?_))
              exact kcut_r (res_1 resT) X277 rfl rfl
            intro j304 J305
            refine lcase (i := 15) (show _ = Value.bool s182 from rfl) (fun k306 => ?_) (fun k306 => ?_)
            · refine lpure (v := .pointer (some ⟨b120, 3, none⟩)) rfl (p_fa fo_75_3 rfl) rfl rfl ?_
              refine lread (v := .int .i64 e117.Delay) rfl (q_load wd_3 rfl) (St.ld X183 (j := 1) rfl rfl) rfl ?_
              refine lpure (v := .bool (decide (e117.Delay ≤ 10000))) rfl (p_le rfl) rfl rfl ?_
              refine lpure (v := .bool (decide (e117.Delay ≤ 10000))) rfl (p_pick rfl) rfl rfl ?_
              refine Sim.of_eq (congrArg j304 (show (s182 && (decide (e117.Delay ≤ 10000))) = (decide (e117.Delay ≤ 10000)) from by rw [k306] <;> rfl)) ?_
              exact ljmpM J305 (decide (e117.Delay ≤ 10000)) () (sub_cons rfl sub_nil) X183
            refine lskip rfl rfl ?_
            refine lskip rfl rfl ?_
            refine lskip rfl rfl ?_
            refine lpure (v := .bool false) rfl (p_pick rfl) rfl rfl ?_
            refine Sim.of_eq (congrArg j304 (show (s182 && (decide (e117.Delay ≤ 10000))) = false from by rw [k306] <;> rfl)) ?_
            exact ljmpM J305 false () (sub_cons rfl sub_nil) X183
          intro j307 J308
          refine lcase (i := 10) (show _ = Value.bool s178 from rfl) (fun k309 => ?_) (fun k309 => ?_)
          · refine lpure (v := .pointer (some ⟨b120, 3, none⟩)) rfl (p_fa fo_75_3 rfl) rfl rfl ?_
            refine lread (v := .int .i64 e117.Delay) rfl (q_load wd_3 rfl) (St.ld X179 (j := 1) rfl rfl) rfl ?_
            refine lpure (v := .bool (decide (0 ≤ e117.Delay))) rfl (p_ge rfl) rfl rfl ?_
            refine lpure (v := .bool (decide (0 ≤ e117.Delay))) rfl (p_pick rfl) rfl rfl ?_
            refine Sim.of_eq (congrArg j307 (show (s178 && (decide (0 ≤ e117.Delay))) = (decide (0 ≤ e117.Delay)) from by rw [k309] <;> rfl)) ?_
            exact ljmpM J308 (decide (0 ≤ e117.Delay)) () (sub_cons rfl (sub_cons rfl sub_nil)) X179
          refine lskip rfl rfl ?_
          refine lskip rfl rfl ?_
          refine lskip rfl rfl ?_
          refine lpure (v := .bool false) rfl (p_pick rfl) rfl rfl ?_
          refine Sim.of_eq (congrArg j307 (show (s178 && (decide (0 ≤ e117.Delay))) = false from by rw [k309] <;> rfl)) ?_
          exact ljmpM J308 false () (sub_cons rfl (sub_cons rfl sub_nil)) X179
        intro j310 J311
        refine lcase (i := 5) (show _ = Value.bool (decide (1 ≤ e117.Per)) from rfl) (fun k312 => ?_) (fun k312 => ?_)
        · refine lpure (v := .pointer (some ⟨b120, 2, none⟩)) rfl (p_fa fo_75_2 rfl) rfl rfl ?_
          refine lread (v := .int .i64 e117.Per) rfl (q_load wd_3 rfl) (St.ld X174 (j := 1) rfl rfl) rfl ?_
          refine lpure (v := .bool (decide (e117.Per ≤ 1000))) rfl (p_le rfl) rfl rfl ?_
          refine lpure (v := .bool (decide (e117.Per ≤ 1000))) rfl (p_pick rfl) rfl rfl ?_
          refine Sim.of_eq (congrArg j310 (show ((decide (1 ≤ e117.Per)) && (decide (e117.Per ≤ 1000))) = (decide (e117.Per ≤ 1000)) from by rw [k312] <;> rfl)) ?_
          exact ljmpM J311 (decide (e117.Per ≤ 1000)) () (sub_cons rfl (sub_cons rfl sub_nil)) X174
        refine lskip rfl rfl ?_
        refine lskip rfl rfl ?_
        refine lskip rfl rfl ?_
        refine lpure (v := .bool false) rfl (p_pick rfl) rfl rfl ?_
        refine Sim.of_eq (congrArg j310 (show ((decide (1 ≤ e117.Per)) && (decide (e117.Per ≤ 1000))) = false from by rw [k312] <;> rfl)) ?_
        exact ljmpM J311 false () (sub_cons rfl (sub_cons rfl sub_nil)) X174
      intro j313 J314
      refine lif (i := 10) (show _ = Value.bool (!e165) from rfl) (fun k315 => ?_) (fun k315 => ?_)
      · refine lskip rfl rfl ?_
        refine lskip rfl rfl ?_
        refine lskip rfl rfl ?_
        refine lskip rfl rfl ?_
        refine lskip rfl rfl ?_
        refine lskip rfl rfl ?_
        refine lskip rfl rfl ?_
        refine lpure (v := .bool true) rfl (p_pick rfl) rfl rfl ?_
        exact ljmpM J314 true () (sub_cons rfl sub_nil) X162
      refine lpure (v := .pointer (some ⟨b109, 1, none⟩)) rfl (p_fa fo_29_1 rfl) rfl rfl ?_
      refine lread (v := .slice a106 n106 c106) rfl (q_load wd_26 rfl) (St.ld X162 (j := 3) rfl rfl) rfl ?_
      refine lpure (v := .pointer (some ⟨b120, 1, none⟩)) rfl (p_fa fo_75_1 rfl) rfl rfl ?_
      refine lread (v := .int .i64 e117.B) rfl (q_load wd_3 rfl) (St.ld X162 (j := 1) rfl rfl) rfl ?_
      refine Sim.bindM fun e316 he317 => ?_
      obtain ⟨p318, cs318, hp318, hF318, hR318⟩ := RSl.ia H106 he317 (kd := .i64) (n := 1) rfl
      have hR318 : _ = [(.bool e316 : Value)] := hR318
      subst hR318
      refine lpure (v := p318) rfl (p_ia rs_26 rfl) hp318 rfl ?_
      refine lread (v := .bool e316) rfl (q_load wd_4 rfl) (FP.ld X162 hF318) rfl ?_
      refine lpure (v := .bool (!e316)) rfl (p_not rfl) rfl rfl ?_
      refine lpure (v := .bool (!e316)) rfl (p_pick rfl) rfl rfl ?_
      exact ljmpM J314 (!e316) () (sub_cons rfl sub_nil) X162
    intro j319 J320
    refine lcase (i := 13) (show _ = Value.bool s157 from rfl) (fun k321 => ?_) (fun k321 => ?_)
    · refine lpure (v := .pointer (some ⟨b120, 0, none⟩)) rfl (p_fa fo_75_0 rfl) rfl rfl ?_
      refine lread (v := .int .i64 e117.A) rfl (q_load wd_3 rfl) (St.ld X158 (j := 1) rfl rfl) rfl ?_
      refine lpure (v := .pointer (some ⟨b120, 1, none⟩)) rfl (p_fa fo_75_1 rfl) rfl rfl ?_
      refine lread (v := .int .i64 e117.B) rfl (q_load wd_3 rfl) (St.ld X158 (j := 1) rfl rfl) rfl ?_
      refine lpure (v := .bool (decide (e117.A ≠ e117.B))) rfl (p_ne rfl) rfl rfl ?_
      refine lpure (v := .bool (decide (e117.A ≠ e117.B))) rfl (p_pick rfl) rfl rfl ?_
      refine Sim.of_eq (congrArg j319 (show (s157 && (decide (e117.A ≠ e117.B))) = (decide (e117.A ≠ e117.B)) from by rw [k321] <;> rfl)) ?_
      exact ljmpM J320 (decide (e117.A ≠ e117.B)) () (sub_cons rfl sub_nil) X158
    refine lskip rfl rfl ?_
    refine lskip rfl rfl ?_
    refine lskip rfl rfl ?_
    refine lskip rfl rfl ?_
    refine lskip rfl rfl ?_
    refine lpure (v := .bool false) rfl (p_pick rfl) rfl rfl ?_
    refine Sim.of_eq (congrArg j319 (show (s157 && (decide (e117.A ≠ e117.B))) = false from by rw [k321] <;> rfl)) ?_
    exact ljmpM J320 false () (sub_cons rfl sub_nil) X158
  intro j322 J323
  refine lif (i := 7) (show _ = Value.bool e147 from rfl) (fun k324 => ?_) (fun k324 => ?_)
  · refine lread (v := .agg #[.int .i64 p105.Nodes, .slice a106 n106 c106, .slice a107 n107 c107]) rfl (q_load wd_29 rfl) (St.ld X131 (j := 3) rfl rfl) rfl ?_
    refine lpure (v := .pointer (some ⟨b120, 1, none⟩)) rfl (p_fa fo_75_1 rfl) rfl rfl ?_
    refine lread (v := .int .i64 e117.B) rfl (q_load wd_3 rfl) (St.ld X131 (j := 1) rfl rfl) rfl ?_
    refine lcall rfl rfl ca_40 rfl rfl (f40_ok X131 p105 (e117.B) H106 H107) rfl (fun e325 v326 h327 hq328 => ?_)
    cases hq328
    refine lpure (v := .bool e325) rfl (p_pick rfl) rfl rfl ?_
    exact ljmpM J323 e325 () (sub_cons rfl (sub_cons rfl sub_nil)) X131
  refine lskip rfl rfl ?_
  refine lskip rfl rfl ?_
  refine lskip rfl rfl ?_
  refine lskip rfl rfl ?_
  refine lpure (v := .bool false) rfl (p_pick rfl) rfl rfl ?_
  exact ljmpM J323 false () (sub_cons rfl (sub_cons rfl sub_nil)) X131
/-! (isochron/topo.end).from -/
theorem f42_ok {n : Nat} {φ : Fz} {lo : Nat} {h : Heap} {own : OwnL}  (X : St φ lo h (own)) (p395 : TopoEnd) : Sim ((recN Try.prog LL cutF (n + 1)).call 42 #[(.agg #[.int .i64 p395.Link.A, .int .i64 p395.Link.B, .int .i64 p395.Link.Per, .int .i64 p395.Link.Delay, .int .i64 p395.port])] h) (m_topo_end_from p395) (fun (d : Int) p => p = (.int .i64 d, h)) := by
  refine fcut Try.func42 rfl rfl rfl rfl X ?_
  intro h0 X0
  refine dseq (dreg ?_)
  refine lbox rfl rfl rfl rfl rfl X0 (fun b396 h398 X399 => ?_)
  refine lpure (v := .int .i64 0) rfl (p_assign rfl) rfl rfl ?_
  refine lend (nseq (dseq (dseq (dreg ?_))))
  refine lpure (v := .pointer (some ⟨b396, 4, none⟩)) rfl (p_fa fo_77_1 rfl) rfl rfl ?_
  refine lread (v := .int .i64 p395.port) rfl (q_load wd_3 rfl) (St.ld X399 (j := 0) rfl rfl) rfl ?_
  refine lpure (v := .int .i64 (Int.tmod p395.port 2)) rfl (p_rem rfl) rfl rfl ?_
  refine lpure (v := .bool (decide ((Int.tmod p395.port 2) = 0))) rfl (p_eq rfl) rfl rfl ?_
  refine lend (nseq ?_)
  refine dcond rfl rfl (fun k400 => ?_) (fun k400 => ?_)
  · refine dseq (dreg ?_)
    refine lpure (v := .pointer (some ⟨b396, 0, none⟩)) rfl (p_fa fo_77_0 rfl) rfl rfl ?_
    refine lpure (v := .pointer (some ⟨b396, 0, none⟩)) rfl (p_fa fo_75_0 rfl) rfl rfl ?_
    refine lread (v := .int .i64 p395.Link.A) rfl (q_load wd_3 rfl) (St.ld X399 (j := 0) rfl rfl) rfl ?_
    refine lpure (v := .int .i64 p395.Link.A) rfl (p_assign rfl) rfl rfl ?_
    refine lend (nseq (dret (rseq ?_)))
    exact kcut_r (res_1 resT) X399 rfl rfl
  refine dskip (nseq (dseq (dreg ?_)))
  refine lpure (v := .pointer (some ⟨b396, 0, none⟩)) rfl (p_fa fo_77_0 rfl) rfl rfl ?_
  refine lpure (v := .pointer (some ⟨b396, 1, none⟩)) rfl (p_fa fo_75_1 rfl) rfl rfl ?_
  refine lread (v := .int .i64 p395.Link.B) rfl (q_load wd_3 rfl) (St.ld X399 (j := 0) rfl rfl) rfl ?_
  refine lpure (v := .int .i64 p395.Link.B) rfl (p_assign rfl) rfl rfl ?_
  refine lend (nseq (dret ?_))
  exact kcut_r (res_1 resT) X399 rfl rfl
/-! isochron/topo.degree -/
theorem f37_ok {n : Nat} {φ : Fz} {lo : Nat} {h : Heap} {own : OwnL}  {a344 : Option Addr} {n344 c344 : Nat} {a345 : Option Addr} {n345 c345 : Nat} (X : St φ lo h (own)) (p343 : ApiTopo) (p346 : Int) (H344 : RSl eBool φ (.slice a344 n344 c344) p343.Station) (H345 : RSl eApiLink φ (.slice a345 n345 c345) p343.Links) : Sim ((recN Try.prog LL cutF (n + 4)).call 37 #[(.agg #[.int .i64 p343.Nodes, .slice a344 n344 c344, .slice a345 n345 c345]), (.int .i64 p346)] h) (m_topo_degree p343 p346) (fun (d : Int) p => p = (.int .i64 d, h)) := by
  refine fcut Try.func37 rfl rfl rfl rfl X ?_
  intro h0 X0
  refine dseq (dreg ?_)
  refine lbox rfl rfl rfl rfl rfl X0 (fun b347 h349 X350 => ?_)
  refine lbox rfl rfl rfl rfl rfl X350 (fun b351 h353 X354 => ?_)
  refine lpure (v := .int .i64 0) rfl (p_assign rfl) rfl rfl ?_
  refine lend (nseq (dseq (dreg ?_)))
  refine lalloc rfl tz_3 rfl rfl rfl X354 (fun b355 h357 X358 => ?_)
  refine lstore rfl ts_3 rfl rfl (j := 0) rfl rfl rfl rfl rfl rfl X358 (fun h359 X360 => ?_)
  refine lend (nseq (dseq (dseq (dreg ?_))))
  refine lread (v := .agg #[.int .i64 p343.Nodes, .slice a344 n344 c344, .slice a345 n345 c345]) rfl (q_load wd_29 rfl) (St.ld X360 (j := 2) rfl rfl) rfl ?_
  refine linl rfl rfl rfl rfl ca_41 rfl Try.func41 rfl rfl rfl rfl rfl ?_
  refine dseq (dreg ?_)
  refine lbox rfl rfl rfl rfl rfl X360 (fun b361 h363 X364 => ?_)
  refine lpure (v := .nilFunc) rfl (p_assign rfl) rfl rfl ?_
  refine lend (nseq (dseq (dreg ?_)))
  refine lpure (v := .func (.func 84) #[] #[.pointer (some ⟨b361, 0, none⟩)]) rfl (p_makeFunc rfl) rfl rfl ?_
  refine lpure (v := .func (.func 84) #[] #[.pointer (some ⟨b361, 0, none⟩)]) rfl (p_assign rfl) rfl rfl ?_
  refine lend (nseq (dret ?_))
  refine kin_r (res_1 resT) ?_
  refine lend (nseq (dblock ?_))
  refine drange rfl rfl ca_84 Try.func84 rfl rfl X364 (fun _ => rfl) ?_
  intro l365 q366 df367 h369 Q368 X370
  refine dseq (dreg ?_)
  refine lpure (v := .pointer (some ⟨b361, 2, none⟩)) rfl (p_fa fo_29_2 rfl) rfl rfl ?_
  refine lread (v := .slice a345 n345 c345) rfl (q_load wd_27 rfl) (St.ld X370 (j := 2) rfl rfl) rfl ?_
  refine lpure (v := .int .i64 (p343.Links.length : Int)) rfl (p_len rfl rfl rfl un_27 rfl) (RSl.lenC H345) rfl ?_
  refine lpure (v := .int .i64 0) rfl (p_move rfl) rfl rfl ?_
  refine lend (nseq (dblock ?_))
  refine dloopM (τ := Int × Int) (σ := Unit) (fun s509 (_ : Unit) => [(0, .func (.yield l365) #[] #[]), (6, .slice a345 n345 c345), (7, .int .i64 (p343.Links.length : Int)), (8, .int .i64 s509.1)]) (fun s509 (_ : Unit) hh => St φ h.n hh ([(some l365, rdy q366), (none, .dead), (some b361, .cells [.int .i64 p343.Nodes, .slice a344 n344 c344, .slice a345 n345 c345] 29 .exact), (some b355, .cells [.int .i64 s509.2] 3 .exact), (some b351, .cells [.int .i64 p346] 3 .exact), (some b347, .cells [.int .i64 p343.Nodes, .slice a344 n344 c344, .slice a345 n345 c345] 29 .exact)])) (0, 0) () (sub_cons rfl (sub_cons rfl (sub_cons rfl (sub_cons rfl sub_nil)))) (St.pick X370 (.keep _ (.none _ (.skip _ (.keep _ (.keep _ (.keep _ (.keep _ (.nil _))))))))) ?_
  rintro n576 ih575 s509 _ t0 h578 X577
  refine dseq (dreg ?_)
  refine lpure (v := .bool (decide (s509.1 < (p343.Links.length : Int)))) rfl (p_lt rfl) rfl rfl ?_
  refine lend (nseq (dseq ?_))
  refine dcond rfl rfl (fun k579 => ?_) (fun k579 => ?_)
  · refine dskip (nseq (dseq (dblock (dseq (dreg ?_)))))
    refine lpure (v := .int .i64 s509.1) rfl (p_move rfl) rfl rfl ?_
    refine Sim.bindM fun e580 he581 => ?_
    obtain ⟨p582, cs582, hp582, hF582, hR582⟩ := RSl.ia H345 he581 (kd := .i64) (n := 4) rfl
    obtain rfl := eApiLink_el hR582
    refine lpure (v := p582) rfl (p_ia rs_27 rfl) hp582 rfl ?_
    refine lread (v := .agg #[.int .i64 e580.A, .int .i64 e580.B, .int .i64 e580.Per, .int .i64 e580.Delay]) rfl (q_load wd_75 rfl) (FP.ldw X577 hF582 rfl rfl) rfl ?_
    refine lalloc rfl tz_75 rfl rfl rfl X577 (fun b583 h585 X586 => ?_)
    refine lpure (v := .int .i64 s509.1) rfl (p_assign rfl) rfl rfl ?_
    refine lstore rfl ts_75 rfl rfl (j := 0) rfl rfl rfl rfl rfl rfl X586 (fun h587 X588 => ?_)
    refine lend (nseq (dseq (dreg ?_)))
    refine lpure (v := .func (.yield l365) #[] #[]) rfl (p_move rfl) rfl rfl ?_
    refine lread (v := .agg #[.int .i64 e580.A, .int .i64 e580.B, .int .i64 e580.Per, .int .i64 e580.Delay]) rfl (q_load wd_75 rfl) (St.ld X588 (j := 0) rfl rfl) rfl ?_
    refine lpure (v := .int .i64 s509.1) rfl (p_move rfl) rfl rfl ?_
    refine lpure (v := .int .i64 (w64 (2 * s509.1))) rfl (p_mul rfl) rfl rfl ?_
    refine lpure (v := .agg #[.int .i64 e580.A, .int .i64 e580.B, .int .i64 e580.Per, .int .i64 e580.Delay, .int .i64 (w64 (2 * s509.1))]) rfl (p_build rfl) (build_st' tz_77 pl_77 rfl) rfl ?_
    refine lround rfl rfl rfl rfl rfl rfl X588 (j := 1) rfl Q368 rfl rfl rfl rfl rfl (fun t589 => ?_)
    refine dreg ?_
    refine lalloc rfl tz_77 rfl rfl rfl X588 (fun b590 h592 X593 => ?_)
    refine lstore rfl ts_77 rfl rfl (j := 0) rfl rfl rfl rfl rfl rfl X593 (fun h594 X595 => ?_)
    refine lend ?_
    refine basg X595 (j := 2) rfl (fun h596 X597 => ?_)
    refine dblock (dseq ?_)
    refine ddraw 0 0 0 (by kernel_rfl) ?_
    refine sload (v := .agg #[.int .i64 e580.A, .int .i64 e580.B, .int .i64 e580.Per, .int .i64 e580.Delay, .int .i64 (w64 (2 * s509.1))]) rfl rfl (q_load wd_77 rfl) (St.ld X597 (j := 0) rfl rfl) (same_self 20 rfl) rfl ?_
    refine scall (en := fun d => (.int .i64 d)) rfl rfl ca_42 rfl rfl (f42_ok X597 ((TopoEnd.mk e580 (w64 (2 * s509.1))))) rfl (fun e598 => ?_)
    refine sload (v := .int .i64 p346) rfl rfl (q_load wd_3 rfl) (St.ld X597 (j := 6) rfl rfl) (same_self 20 rfl) rfl ?_
    refine spure (v := .bool (decide (e598 = p346))) rfl (p_eq rfl) (lo_t rfl (lo_t rfl rfl)) rfl rfl ?_
    refine send ?_
    refine nseq ?_
    refine djoinM (τ := Int) (σ := Unit) (fun s605 (_ : Unit) => []) (fun s605 (_ : Unit) hh => St φ h.n hh ([(some b590, .cells [.int .i64 e580.A, .int .i64 e580.B, .int .i64 e580.Per, .int .i64 e580.Delay, .int .i64 (w64 (2 * s509.1))] 77 .exact), (some b583, .cells [.int .i64 e580.A, .int .i64 e580.B, .int .i64 e580.Per, .int .i64 e580.Delay] 75 .exact), (some l365, bsy q366), (none, .dead), (some b361, .cells [.int .i64 p343.Nodes, .slice a344 n344 c344, .slice a345 n345 c345] 29 .exact), (some b355, .cells [.int .i64 s605] 3 .exact), (some b351, .cells [.int .i64 p346] 3 .exact), (some b347, .cells [.int .i64 p343.Nodes, .slice a344 n344 c344, .slice a345 n345 c345] 29 .exact)])) ?_ ?_
    · rintro s605 _ t0 h607 X606
      refine nblock ?_
      refine nrnd X606 (j := 2) rfl (fun h610 X611 => ?_)
      refine lpure (v := .bool false) rfl (p_not rfl) rfl rfl ?_
      refine lpure (v := .bool false) rfl (p_move rfl) rfl rfl ?_
      refine lpure (v := .func (.yield l365) #[] #[]) rfl (p_move rfl) rfl rfl ?_
      refine lread (v := .agg #[.int .i64 e580.A, .int .i64 e580.B, .int .i64 e580.Per, .int .i64 e580.Delay]) rfl (q_load wd_75 rfl) (St.ld X611 (j := 1) rfl rfl) rfl ?_
      refine lpure (v := .int .i64 s509.1) rfl (p_move rfl) rfl rfl ?_
      refine lpure (v := .int .i64 (w64 (2 * s509.1))) rfl (p_mul rfl) rfl rfl ?_
      refine lpure (v := .int .i64 (w64 ((w64 (2 * s509.1)) + 1))) rfl (p_add rfl) rfl rfl ?_
      refine lpure (v := .agg #[.int .i64 e580.A, .int .i64 e580.B, .int .i64 e580.Per, .int .i64 e580.Delay, .int .i64 (w64 ((w64 (2 * s509.1)) + 1))]) rfl (p_build rfl) (build_st' tz_77 pl_77 rfl) rfl ?_
      refine lround rfl rfl rfl rfl rfl rfl X611 (j := 2) rfl Q368 rfl rfl rfl rfl rfl (fun t612 => ?_)
      refine dreg ?_
      refine lalloc rfl tz_77 rfl rfl rfl X611 (fun b613 h615 X616 => ?_)
      refine lstore rfl ts_77 rfl rfl (j := 0) rfl rfl rfl rfl rfl rfl X616 (fun h617 X618 => ?_)
      refine lend ?_
      refine basg X618 (j := 3) rfl (fun h619 X620 => ?_)
      refine dblock (dseq ?_)
      refine ddraw 0 0 0 (by kernel_rfl) ?_
      refine sload (v := .agg #[.int .i64 e580.A, .int .i64 e580.B, .int .i64 e580.Per, .int .i64 e580.Delay, .int .i64 (w64 ((w64 (2 * s509.1)) + 1))]) rfl rfl (q_load wd_77 rfl) (St.ld X620 (j := 0) rfl rfl) (same_self 20 rfl) rfl ?_
      refine scall (en := fun d => (.int .i64 d)) rfl rfl ca_42 rfl rfl (f42_ok X620 ((TopoEnd.mk e580 (w64 ((w64 (2 * s509.1)) + 1))))) rfl (fun e621 => ?_)
      refine sload (v := .int .i64 p346) rfl rfl (q_load wd_3 rfl) (St.ld X620 (j := 7) rfl rfl) (same_self 20 rfl) rfl ?_
      refine spure (v := .bool (decide (e621 = p346))) rfl (p_eq rfl) (lo_t rfl (lo_t rfl rfl)) rfl rfl ?_
      refine send ?_
      refine nseq ?_
      refine djoinM (τ := Int) (σ := Unit) (fun s628 (_ : Unit) => []) (fun s628 (_ : Unit) hh => St φ h.n hh ([(some b613, .cells [.int .i64 e580.A, .int .i64 e580.B, .int .i64 e580.Per, .int .i64 e580.Delay, .int .i64 (w64 ((w64 (2 * s509.1)) + 1))] 77 .exact), (some b590, .cells [.int .i64 e580.A, .int .i64 e580.B, .int .i64 e580.Per, .int .i64 e580.Delay, .int .i64 (w64 (2 * s509.1))] 77 .exact), (some b583, .cells [.int .i64 e580.A, .int .i64 e580.B, .int .i64 e580.Per, .int .i64 e580.Delay] 75 .exact), (some l365, bsy q366), (none, .dead), (some b361, .cells [.int .i64 p343.Nodes, .slice a344 n344 c344, .slice a345 n345 c345] 29 .exact), (some b355, .cells [.int .i64 s628] 3 .exact), (some b351, .cells [.int .i64 p346] 3 .exact), (some b347, .cells [.int .i64 p343.Nodes, .slice a344 n344 c344, .slice a345 n345 c345] 29 .exact)])) ?_ ?_
      · rintro s628 _ t0 h630 X629
        refine nblock ?_
        refine nrnd X629 (j := 3) rfl (fun h633 X634 => ?_)
        refine lpure (v := .bool false) rfl (p_not rfl) rfl rfl ?_
        refine lpure (v := .bool false) rfl (p_pick rfl) rfl rfl ?_
        refine lend (nseq (dcondF rfl rfl (dskip (nblock (nseq (dreg ?_))))))
        refine lpure (v := .int .i64 (w64 (s509.1 + 1))) rfl (p_add rfl) rfl rfl ?_
        refine lpure (v := .int .i64 (w64 (s509.1 + 1))) rfl (p_move rfl) rfl rfl ?_
        refine lend ?_
        exact kbackM ih575 ((w64 (s509.1 + 1)), s628) () (sub_cons rfl (sub_cons rfl (sub_cons rfl (sub_cons rfl sub_nil)))) (St.pick X634 (.skip _ (.skip _ (.skip _ (.keep _ (.none _ (.skip _ (.keep _ (.keep _ (.keep _ (.keep _ (.nil _))))))))))))
      intro j631 J632
      refine dcond rfl rfl (fun k625 => ?_) (fun k625 => ?_)
      · refine dreg ?_
        refine lread (v := .int .i64 s605) rfl (q_load wd_3 rfl) (St.ld X620 (j := 6) rfl rfl) rfl ?_
        refine lpure (v := .int .i64 (w64 (s605 + 1))) rfl (p_add rfl) rfl rfl ?_
        refine lstore rfl ts_3 rfl rfl (j := 6) rfl rfl rfl rfl rfl rfl X620 (fun h635 X636 => ?_)
        refine lend ?_
        exact jmpM J632 (w64 (s605 + 1)) () sub_nil (St.pick X636 (.keep _ (.keep _ (.keep _ (.keep _ (.none _ (.skip _ (.keep _ (.keep _ (.keep _ (.keep _ (.nil _))))))))))))
      refine dskip ?_
      exact jmpM J632 s605 () sub_nil (St.pick X620 (.keep _ (.keep _ (.keep _ (.keep _ (.none _ (.skip _ (.keep _ (.keep _ (.keep _ (.keep _ (.nil _))))))))))))
    intro j608 J609
    refine dcond rfl rfl (fun k602 => ?_) (fun k602 => ?_)
    · refine dreg ?_
      refine lread (v := .int .i64 s509.2) rfl (q_load wd_3 rfl) (St.ld X597 (j := 5) rfl rfl) rfl ?_
      refine lpure (v := .int .i64 (w64 (s509.2 + 1))) rfl (p_add rfl) rfl rfl ?_
      refine lstore rfl ts_3 rfl rfl (j := 5) rfl rfl rfl rfl rfl rfl X597 (fun h637 X638 => ?_)
      refine lend ?_
      exact jmpM J609 (w64 (s509.2 + 1)) () sub_nil (St.pick X638 (.keep _ (.keep _ (.keep _ (.none _ (.skip _ (.keep _ (.keep _ (.keep _ (.keep _ (.nil _)))))))))))
    refine dskip ?_
    exact jmpM J609 s509.2 () sub_nil (St.pick X597 (.keep _ (.keep _ (.keep _ (.none _ (.skip _ (.keep _ (.keep _ (.keep _ (.keep _ (.nil _)))))))))))
  refine dexit (eseq (eloop (xblock ?_)))
  refine kin_n res_0 ?_
  refine rend_n X577 (j := 0) rfl (fun h639 X640 => ?_)
  refine nblock (nseq (dseq (dreg ?_)))
  refine lread (v := .int .i64 s509.2) rfl (q_load wd_3 rfl) (St.ld X640 (j := 3) rfl rfl) rfl ?_
  refine lpure (v := .int .i64 s509.2) rfl (p_assign rfl) rfl rfl ?_
  refine lend (nseq (dret ?_))
  exact kcut_r (res_1 resT) X640 rfl rfl
/-! (isochron/topo.end).to -/
theorem f44_ok {n : Nat} {φ : Fz} {lo : Nat} {h : Heap} {own : OwnL}  (X : St φ lo h (own)) (p731 : TopoEnd) : Sim ((recN Try.prog LL cutF (n + 2)).call 44 #[(.agg #[.int .i64 p731.Link.A, .int .i64 p731.Link.B, .int .i64 p731.Link.Per, .int .i64 p731.Link.Delay, .int .i64 p731.port])] h) (m_topo_end_to p731) (fun (d : Int) p => p = (.int .i64 d, h)) := by
  refine fcut Try.func44 rfl rfl rfl rfl X ?_
  intro h0 X0
  refine dseq (dreg ?_)
  refine lbox rfl rfl rfl rfl rfl X0 (fun b732 h734 X735 => ?_)
  refine lpure (v := .int .i64 0) rfl (p_assign rfl) rfl rfl ?_
  refine lend (nseq (dseq ?_))
  refine ddraw 0 0 0 (by kernel_rfl) ?_
  refine spure (v := .pointer (some ⟨b732, 0, none⟩)) rfl (p_fa fo_77_0 rfl) (lo_t (lo_own X735 (j := 0) (o := 0) (s := none) (f := 0) rfl) rfl) rfl rfl ?_
  refine spure (v := .pointer (some ⟨b732, 0, none⟩)) rfl (p_fa fo_75_0 rfl) (lo_t (lo_own X735 (j := 0) (o := 0) (s := none) (f := 0) rfl) rfl) rfl rfl ?_
  refine sload (v := .int .i64 p731.Link.A) rfl rfl (q_load wd_3 rfl) (St.ld X735 (j := 0) rfl rfl) (same_self 20 rfl) rfl ?_
  refine spure (v := .pointer (some ⟨b732, 0, none⟩)) rfl (p_fa fo_77_0 rfl) (lo_t (lo_own X735 (j := 0) (o := 0) (s := none) (f := 0) rfl) rfl) rfl rfl ?_
  refine spure (v := .pointer (some ⟨b732, 1, none⟩)) rfl (p_fa fo_75_1 rfl) (lo_t (lo_own X735 (j := 0) (o := 0) (s := none) (f := 0) rfl) rfl) rfl rfl ?_
  refine sload (v := .int .i64 p731.Link.B) rfl rfl (q_load wd_3 rfl) (St.ld X735 (j := 0) rfl rfl) (same_self 20 rfl) rfl ?_
  refine spure (v := .int .i64 (w64 (p731.Link.A + p731.Link.B))) rfl (p_add rfl) (lo_t rfl (lo_t rfl rfl)) rfl rfl ?_
  refine sload (v := .agg #[.int .i64 p731.Link.A, .int .i64 p731.Link.B, .int .i64 p731.Link.Per, .int .i64 p731.Link.Delay, .int .i64 p731.port]) rfl rfl (q_load wd_77 rfl) (St.ld X735 (j := 0) rfl rfl) (same_self 20 rfl) rfl ?_
  refine scall (en := fun d => (.int .i64 d)) rfl rfl ca_42 rfl rfl (f42_ok X735 p731) rfl (fun e736 => ?_)
  refine spure (v := .int .i64 (w64 ((w64 (p731.Link.A + p731.Link.B)) - e736))) rfl (p_sub rfl) (lo_t rfl (lo_t rfl rfl)) rfl rfl ?_
  refine spure (v := .int .i64 (w64 ((w64 (p731.Link.A + p731.Link.B)) - e736))) rfl (p_assign rfl) (lo_t rfl rfl) rfl rfl ?_
  refine send ?_
  refine nseq (dret ?_)
  exact kcut_r (res_1 resT) X735 rfl rfl
/-! slices.Index[[]int,int] -/
theorem f105_ok {n : Nat} {φ : Fz} {lo : Nat} {h : Heap} {own : OwnL}  {a744 : Option Addr} {n744 c744 : Nat} (X : St φ lo h (own)) (p743 : (List Int)) (p745 : Int) (H744 : RSl (eInt .i64) φ (.slice a744 n744 c744) p743) : Sim ((recN Try.prog LL cutF (n + 1)).call 105 #[(.slice a744 n744 c744), (.int .i64 p745)] h) (m_slices_Index_int_int p743 p745) (fun (d : Int) p => p = (.int .i64 d, h)) := by
  refine fcut Try.func105 rfl rfl rfl rfl X ?_
  intro h0 X0
  refine dseq (dreg ?_)
  refine lpure (v := .int .i64 0) rfl (p_assign rfl) rfl rfl ?_
  refine lend (nseq (dseq (dseq (dreg ?_))))
  refine lpure (v := .slice a744 n744 c744) rfl (p_move rfl) rfl rfl ?_
  refine lpure (v := .int .i64 (p743.length : Int)) rfl (p_len rfl rfl rfl un_33 rfl) (RSl.lenC H744) rfl ?_
  refine lpure (v := .int .i64 0) rfl (p_move rfl) rfl rfl ?_
  refine lend (nseq (dblock ?_))
  refine dloopM (τ := Int) (σ := Unit) (fun s762 (_ : Unit) => [(0, .slice a744 n744 c744), (1, .int .i64 p745), (7, .int .i64 (p743.length : Int)), (8, .int .i64 s762)]) (fun s762 (_ : Unit) hh => St φ h.n hh ([])) 0 () (sub_cons rfl (sub_cons rfl (sub_cons rfl (sub_cons rfl sub_nil)))) X0 ?_
  rintro n772 ih771 s762 _ t0 h774 X773
  refine dseq (dreg ?_)
  refine lpure (v := .bool (decide (s762 < (p743.length : Int)))) rfl (p_lt rfl) rfl rfl ?_
  refine lend (nseq (dseq ?_))
  refine dcond rfl rfl (fun k775 => ?_) (fun k775 => ?_)
  · refine dskip (nseq (dseq (dblock (dseq (dreg ?_)))))
    refine lpure (v := .int .i64 s762) rfl (p_move rfl) rfl rfl ?_
    refine lpure (v := .int .i64 s762) rfl (p_assign rfl) rfl rfl ?_
    refine lend (nseq (dseq (dreg ?_)))
    refine lpure (v := .int .i64 p745) rfl (p_move rfl) rfl rfl ?_
    refine lpure (v := .slice a744 n744 c744) rfl (p_move rfl) rfl rfl ?_
    refine lpure (v := .int .i64 s762) rfl (p_move rfl) rfl rfl ?_
    refine Sim.bindM fun e776 he777 => ?_
    obtain ⟨p778, cs778, hp778, hF778, hR778⟩ := RSl.ia H744 he777 (kd := .i64) (n := 1) rfl
    have hR778 : _ = [(.int .i64 e776 : Value)] := hR778
    subst hR778
    refine lpure (v := p778) rfl (p_ia rs_33 rfl) hp778 rfl ?_
    refine lread (v := .int .i64 e776) rfl (q_load wd_3 rfl) (FP.ld X773 hF778) rfl ?_
    refine lpure (v := .bool (decide (p745 = e776))) rfl (p_eq rfl) rfl rfl ?_
    refine lend (nseq ?_)
    refine dcond rfl rfl (fun k779 => ?_) (fun k779 => ?_)
    · refine dseq (dreg ?_)
      refine lpure (v := .int .i64 s762) rfl (p_move rfl) rfl rfl ?_
      refine lpure (v := .int .i64 s762) rfl (p_assign rfl) rfl rfl ?_
      refine lend (nseq (dret (rblock (rseq (rloop (rblock (rseq ?_)))))))
      exact kcut_r (res_1 resT) X773 rfl rfl
    refine dskip (nblock (nseq (dreg ?_)))
    refine lpure (v := .int .i64 (w64 (s762 + 1))) rfl (p_add rfl) rfl rfl ?_
    refine lpure (v := .int .i64 (w64 (s762 + 1))) rfl (p_move rfl) rfl rfl ?_
    refine lend ?_
    exact kbackM ih771 (w64 (s762 + 1)) () (sub_cons rfl (sub_cons rfl (sub_cons rfl (sub_cons rfl sub_nil)))) X773
  refine dexit (eseq (eloop (xblock (nseq (dseq (dreg ?_))))))
  refine lpure (v := .int .i64 (-1)) rfl (p_assign rfl) rfl rfl ?_
  refine lend (nseq (dret ?_))
  exact kcut_r (res_1 resT) X773 rfl rfl
/-! slices.Contains[[]int,int] -/
theorem f68_ok {n : Nat} {φ : Fz} {lo : Nat} {h : Heap} {own : OwnL}  {a741 : Option Addr} {n741 c741 : Nat} (X : St φ lo h (own)) (p740 : (List Int)) (p742 : Int) (H741 : RSl (eInt .i64) φ (.slice a741 n741 c741) p740) : Sim ((recN Try.prog LL cutF (n + 2)).call 68 #[(.slice a741 n741 c741), (.int .i64 p742)] h) (m_slices_Contains_int_int p740 p742) (fun (d : Bool) p => p = (.bool d, h)) := by
  refine fcut Try.func68 rfl rfl rfl rfl X ?_
  intro h0 X0
  refine dseq (dreg ?_)
  refine lpure (v := .bool false) rfl (p_assign rfl) rfl rfl ?_
  refine lend (nseq (dseq (dreg ?_)))
  refine lpure (v := .slice a741 n741 c741) rfl (p_move rfl) rfl rfl ?_
  refine lpure (v := .int .i64 p742) rfl (p_move rfl) rfl rfl ?_
  refine lcall rfl rfl ca_105 rfl rfl (f105_ok X0 p740 p742 H741) rfl (fun e780 v781 h782 hq783 => ?_)
  cases hq783
  refine lpure (v := .bool (decide (0 ≤ e780))) rfl (p_ge rfl) rfl rfl ?_
  refine lpure (v := .bool (decide (0 ≤ e780))) rfl (p_assign rfl) rfl rfl ?_
  refine lend (nseq (dret ?_))
  exact kcut_r (res_1 resT) X0 rfl rfl
/-! isochron/topo.reach -/
theorem f39_ok {n : Nat} {φ : Fz} {lo : Nat} {h : Heap} {own : OwnL}  {a3338 : Option Addr} {n3338 c3338 : Nat} {a3339 : Option Addr} {n3339 c3339 : Nat} {a3342 : Option Addr} {n3342 c3342 : Nat} (X : St φ lo h (own)) (p3337 : ApiTopo) (p3340 : Int) (p3341 : (List Int)) (H3338 : RSl eBool φ (.slice a3338 n3338 c3338) p3337.Station) (H3339 : RSl eApiLink φ (.slice a3339 n3339 c3339) p3337.Links) (H3342 : RSl (eInt .i64) φ (.slice a3342 n3342 c3342) p3341) : Sim ((recN Try.prog LL cutF (n + 5)).call 39 #[(.agg #[.int .i64 p3337.Nodes, .slice a3338 n3338 c3338, .slice a3339 n3339 c3339]), (.int .i64 p3340), (.slice a3342 n3342 c3342)] h) (m_topo_reach p3337 p3340 p3341) (fun (d : (List Bool)) p => ∃ φ2 : Fz, ∃ a5955 : Option Addr, ∃ n5955 : Nat, ∃ c5955 : Nat, ∃ ob5955 : Option Nat, ∃ blk5955 : Blk, Fz.le φ φ2 ∧ St φ2 lo p.2 ((ob5955, blk5955) :: own) ∧ p.1 = .slice a5955 n5955 c5955 ∧ OSl eBool φ2 4 ob5955 blk5955 (.slice a5955 n5955 c5955) d) := by
  refine fopen Try.func39 rfl rfl rfl rfl ?_
  refine dseq (dreg ?_)
  refine lbox rfl rfl rfl rfl rfl X (fun b3343 h3345 X3346 => ?_)
  refine lbox rfl rfl rfl rfl rfl X3346 (fun b3347 h3349 X3350 => ?_)
  refine lpure (v := .slice none 0 0) rfl (p_assign rfl) rfl rfl ?_
  refine lend (nseq (dscope (dseq (dreg ?_))))
  refine lpure (v := .pointer (some ⟨b3343, 0, none⟩)) rfl (p_fa fo_29_0 rfl) rfl rfl ?_
  refine lread (v := .int .i64 p3337.Nodes) rfl (q_load wd_3 rfl) (St.ld X3350 (j := 1) rfl rfl) rfl ?_
  refine Sim.mustM fun k3351 => ?_
  have k3351 := of_decide_eq_true k3351
  obtain ⟨h3351, b3351, vs3351, hv3351, X3351, O3351⟩ := OSl.mk (E := eBool) (φ := φ) (a0 := false) (k := .i64) (k' := .i64) (l := p3337.Nodes) (c := p3337.Nodes) un_26 tb_4 rfl ts_4 rfl rfl tz_4 rfl rfl rfl (by omega) (by omega) (by omega) X3350
  refine lheap rfl (h_makeSlice rfl) hv3351 rfl ?_
  refine lalloc rfl tz_26 rfl rfl rfl X3351 (fun b3353 h3355 X3356 => ?_)
  refine lstore rfl ts_26 rfl rfl (j := 0) rfl rfl rfl rfl rfl rfl X3356 (fun h3357 X3358 => ?_)
  refine lend (nseq (dseq (dreg ?_)))
  refine lread (v := .slice (some ⟨b3351, 0, none⟩) (p3337.Nodes).toNat (p3337.Nodes).toNat) rfl (q_load wd_26 rfl) (St.ld X3358 (j := 0) rfl rfl) rfl ?_
  refine lpure (v := .int .i64 p3340) rfl (p_move rfl) rfl rfl ?_
  refine Sim.bindM fun e3359 he3360 => ?_
  obtain ⟨off3361, cs3361, hp3361, hc3361, hR3361, hl3361, hm3361, hs3361⟩ := OSl.iaC O3351 he3360 (kd := .i64) (n := 1) rfl
  have hR3361 : _ = [(.bool e3359 : Value)] := hR3361
  subst hR3361
  refine lpure (v := .pointer (some ⟨b3351, off3361, none⟩)) rfl (p_ia rs_26 rfl) hp3361 rfl ?_
  have O3364 := hs3361 [.bool true] (true) rfl
  refine lstore rfl ts_4 rfl rfl (j := 1) rfl hm3361 rfl rfl (ble_iff.2 hl3361) rfl X3358 (fun h3362 X3363 => ?_)
  refine lend (nseq (dseq (dlabel (nseq (dseq (dblock ?_))))))
  refine dloopM (τ := (List Bool)) (σ := Blk) (fun s4658 blk4659 => [(3, .pointer (some ⟨b3343, 0, none⟩)), (5, .pointer (some ⟨b3347, 0, none⟩)), (7, .pointer (some ⟨b3353, 0, none⟩))]) (fun s4658 blk4659 hh => St φ lo hh ((some b3353, .cells [.slice (some ⟨b3351, 0, none⟩) (p3337.Nodes).toNat (p3337.Nodes).toNat] 26 .exact) :: (some b3351, blk4659) :: (some b3347, .cells [.slice a3342 n3342 c3342] 33 .exact) :: (some b3343, .cells [.int .i64 p3337.Nodes, .slice a3338 n3338 c3338, .slice a3339 n3339 c3339] 29 .exact) :: own) ∧ OSl eBool φ 4 (some b3351) blk4659 (.slice (some ⟨b3351, 0, none⟩) (p3337.Nodes).toNat (p3337.Nodes).toNat) s4658) ((List.replicate (p3337.Nodes).toNat false).set (p3340).toNat true) ((.cells (setAt vs3351 off3361 [.bool true]) 4 .exact)) (sub_cons rfl (sub_cons rfl (sub_cons rfl sub_nil))) ⟨X3363, O3364⟩ ?_
  rintro n5308 ih5307 s4658 blk4659 t0 h5310 ⟨X5309, O4659⟩
  refine dblock (dseq (dseq (dreg ?_)))
  refine lread (v := .agg #[.int .i64 p3337.Nodes, .slice a3338 n3338 c3338, .slice a3339 n3339 c3339]) rfl (q_load wd_29 rfl) (St.ld X5309 (j := 3) rfl rfl) rfl ?_
  refine linl rfl rfl rfl rfl ca_41 rfl Try.func41 rfl rfl rfl rfl rfl ?_
  refine dseq (dreg ?_)
  refine lbox rfl rfl rfl rfl rfl X5309 (fun b5311 h5313 X5314 => ?_)
  refine lpure (v := .nilFunc) rfl (p_assign rfl) rfl rfl ?_
  refine lend (nseq (dseq (dreg ?_)))
  refine lpure (v := .func (.func 84) #[] #[.pointer (some ⟨b5311, 0, none⟩)]) rfl (p_makeFunc rfl) rfl rfl ?_
  refine lpure (v := .func (.func 84) #[] #[.pointer (some ⟨b5311, 0, none⟩)]) rfl (p_assign rfl) rfl rfl ?_
  refine lend (nseq (dret ?_))
  refine kin_r (res_1 resT) ?_
  refine lend (nseq (dblock ?_))
  refine drange rfl rfl ca_84 Try.func84 rfl rfl X5314 (fun _ => rfl) ?_
  intro l5315 q5316 df5317 h5319 Q5318 X5320
  refine dseq (dreg ?_)
  refine lpure (v := .pointer (some ⟨b5311, 2, none⟩)) rfl (p_fa fo_29_2 rfl) rfl rfl ?_
  refine lread (v := .slice a3339 n3339 c3339) rfl (q_load wd_27 rfl) (St.ld X5320 (j := 2) rfl rfl) rfl ?_
  refine lpure (v := .int .i64 (p3337.Links.length : Int)) rfl (p_len rfl rfl rfl un_27 rfl) (RSl.lenC H3339) rfl ?_
  refine lpure (v := .int .i64 0) rfl (p_move rfl) rfl rfl ?_
  refine lend (nseq (dblock ?_))
  refine dloopM (τ := Int × (List Bool)) (σ := Blk) (fun s5638 blk5639 => [(0, .func (.yield l5315) #[] #[]), (6, .slice a3339 n3339 c3339), (7, .int .i64 (p3337.Links.length : Int)), (8, .int .i64 s5638.1)]) (fun s5638 blk5639 hh => St φ lo hh ((some l5315, rdy q5316) :: (none, .dead) :: (some b5311, .cells [.int .i64 p3337.Nodes, .slice a3338 n3338 c3338, .slice a3339 n3339 c3339] 29 .exact) :: (some b3353, .cells [.slice (some ⟨b3351, 0, none⟩) (p3337.Nodes).toNat (p3337.Nodes).toNat] 26 .exact) :: (some b3351, blk5639) :: (some b3347, .cells [.slice a3342 n3342 c3342] 33 .exact) :: (some b3343, .cells [.int .i64 p3337.Nodes, .slice a3338 n3338 c3338, .slice a3339 n3339 c3339] 29 .exact) :: own) ∧ OSl eBool φ 4 (some b3351) blk5639 (.slice (some ⟨b3351, 0, none⟩) (p3337.Nodes).toNat (p3337.Nodes).toNat) s5638.2) (0, s4658) blk4659 (sub_cons rfl (sub_cons rfl (sub_cons rfl (sub_cons rfl sub_nil)))) ⟨(St.pick X5320 (.keep _ (.none _ (.skip _ (.keep _ (.keep _ (.keep _ (.keep _ (.keep _ (.refl _)))))))))), O4659⟩ ?_
  rintro n5798 ih5797 s5638 blk5639 t0 h5800 ⟨X5799, O5639⟩
  refine dseq (dreg ?_)
  refine lpure (v := .bool (decide (s5638.1 < (p3337.Links.length : Int)))) rfl (p_lt rfl) rfl rfl ?_
  refine lend (nseq (dseq ?_))
  refine dcond rfl rfl (fun k5801 => ?_) (fun k5801 => ?_)
  · refine dskip (nseq (dseq (dblock (dseq (dreg ?_)))))
    refine lpure (v := .int .i64 s5638.1) rfl (p_move rfl) rfl rfl ?_
    refine Sim.bindM fun e5802 he5803 => ?_
    obtain ⟨p5804, cs5804, hp5804, hF5804, hR5804⟩ := RSl.ia H3339 he5803 (kd := .i64) (n := 4) rfl
    obtain rfl := eApiLink_el hR5804
    refine lpure (v := p5804) rfl (p_ia rs_27 rfl) hp5804 rfl ?_
    refine lread (v := .agg #[.int .i64 e5802.A, .int .i64 e5802.B, .int .i64 e5802.Per, .int .i64 e5802.Delay]) rfl (q_load wd_75 rfl) (FP.ldw X5799 hF5804 rfl rfl) rfl ?_
    refine lalloc rfl tz_75 rfl rfl rfl X5799 (fun b5805 h5807 X5808 => ?_)
    refine lpure (v := .int .i64 s5638.1) rfl (p_assign rfl) rfl rfl ?_
    refine lstore rfl ts_75 rfl rfl (j := 0) rfl rfl rfl rfl rfl rfl X5808 (fun h5809 X5810 => ?_)
    refine lend (nseq (dseq (dreg ?_)))
    refine lpure (v := .func (.yield l5315) #[] #[]) rfl (p_move rfl) rfl rfl ?_
    refine lread (v := .agg #[.int .i64 e5802.A, .int .i64 e5802.B, .int .i64 e5802.Per, .int .i64 e5802.Delay]) rfl (q_load wd_75 rfl) (St.ld X5810 (j := 0) rfl rfl) rfl ?_
    refine lpure (v := .int .i64 s5638.1) rfl (p_move rfl) rfl rfl ?_
    refine lpure (v := .int .i64 (w64 (2 * s5638.1))) rfl (p_mul rfl) rfl rfl ?_
    refine lpure (v := .agg #[.int .i64 e5802.A, .int .i64 e5802.B, .int .i64 e5802.Per, .int .i64 e5802.Delay, .int .i64 (w64 (2 * s5638.1))]) rfl (p_build rfl) (build_st' tz_77 pl_77 rfl) rfl ?_
    refine lround rfl rfl rfl rfl rfl rfl X5810 (j := 1) rfl Q5318 rfl rfl rfl rfl rfl (fun t5811 => ?_)
    refine dreg ?_
    refine lalloc rfl tz_77 rfl rfl rfl X5810 (fun b5812 h5814 X5815 => ?_)
    refine lstore rfl ts_77 rfl rfl (j := 0) rfl rfl rfl rfl rfl rfl X5815 (fun h5816 X5817 => ?_)
    refine lend ?_
    refine basg X5817 (j := 2) rfl (fun h5818 X5819 => ?_)
    refine dblock (dseq ?_)
    refine ddraw 0 0 0 (by kernel_rfl) ?_
    refine sload (v := .slice (some ⟨b3351, 0, none⟩) (p3337.Nodes).toNat (p3337.Nodes).toNat) rfl rfl (q_load wd_26 rfl) (St.ld X5819 (j := 5) rfl rfl) (same_self 20 rfl) rfl ?_
    refine sload (v := .agg #[.int .i64 e5802.A, .int .i64 e5802.B, .int .i64 e5802.Per, .int .i64 e5802.Delay, .int .i64 (w64 (2 * s5638.1))]) rfl rfl (q_load wd_77 rfl) (St.ld X5819 (j := 0) rfl rfl) (same_self 20 rfl) rfl ?_
    refine scall (en := fun d => (.int .i64 d)) rfl rfl ca_42 rfl rfl (f42_ok X5819 ((TopoEnd.mk e5802 (w64 (2 * s5638.1))))) rfl (fun e5820 => ?_)
    refine Sim.bindM fun e5824 he5825 => ?_
    obtain ⟨vs5826, m5826, off5826, cs5826, rfl, hp5826, hc5826, hR5826, hl5826, hm5826, hs5826⟩ := OSl.iaB O5639 he5825 (kd := .i64) (n := 1) rfl
    have hR5826 : _ = [(.bool e5824 : Value)] := hR5826
    subst hR5826
    refine spure (v := .pointer (some ⟨b3351, off5826, none⟩)) rfl (p_ia rs_26 rfl) (lo_t (lo_osl X5819 (j := 6) rfl O5639) (lo_t rfl rfl)) hp5826 rfl ?_
    refine sload (v := .bool e5824) rfl rfl (q_load wd_4 rfl) (St.ld X5819 (j := 6) rfl (rdE1 hc5826 (k := 0) rfl rfl)) (same_self 20 rfl) rfl ?_
    refine spure (v := .bool e5824) rfl (p_move rfl) (lo_t rfl rfl) rfl rfl ?_
    refine sjoinM (τ := Bool) (σ := Unit) (fun s5836 (_ : Unit) => [(5, .pointer (some ⟨b3347, 0, none⟩)), (7, .pointer (some ⟨b3353, 0, none⟩)), (8, .pointer (some ⟨b5812, 0, none⟩)), (30, .bool s5836)]) (fun s5836 (_ : Unit) hh => St φ lo hh ((some b5812, .cells [.int .i64 e5802.A, .int .i64 e5802.B, .int .i64 e5802.Per, .int .i64 e5802.Delay, .int .i64 (w64 (2 * s5638.1))] 77 .exact) :: (some b5805, .cells [.int .i64 e5802.A, .int .i64 e5802.B, .int .i64 e5802.Per, .int .i64 e5802.Delay] 75 .exact) :: (some l5315, bsy q5316) :: (none, .dead) :: (some b5311, .cells [.int .i64 p3337.Nodes, .slice a3338 n3338 c3338, .slice a3339 n3339 c3339] 29 .exact) :: (some b3353, .cells [.slice (some ⟨b3351, 0, none⟩) (p3337.Nodes).toNat (p3337.Nodes).toNat] 26 .exact) :: (some b3351, .cells vs5826 4 m5826) :: (some b3347, .cells [.slice a3342 n3342 c3342] 33 .exact) :: (some b3343, .cells [.int .i64 p3337.Nodes, .slice a3338 n3338 c3338, .slice a3339 n3339 c3339] 29 .exact) :: own)) 7 13 ?_ ?_
    · rintro s5836 _ t0 h5838 X5837
      refine spure (v := .bool s5836) rfl (p_move rfl) (lo_t rfl rfl) rfl rfl ?_
      refine sjoinM (τ := Bool) (σ := Unit) (fun s5845 (_ : Unit) => [(7, .pointer (some ⟨b3353, 0, none⟩)), (8, .pointer (some ⟨b5812, 0, none⟩)), (38, .bool s5845)]) (fun s5845 (_ : Unit) hh => St φ lo hh ((some b5812, .cells [.int .i64 e5802.A, .int .i64 e5802.B, .int .i64 e5802.Per, .int .i64 e5802.Delay, .int .i64 (w64 (2 * s5638.1))] 77 .exact) :: (some b5805, .cells [.int .i64 e5802.A, .int .i64 e5802.B, .int .i64 e5802.Per, .int .i64 e5802.Delay] 75 .exact) :: (some l5315, bsy q5316) :: (none, .dead) :: (some b5311, .cells [.int .i64 p3337.Nodes, .slice a3338 n3338 c3338, .slice a3339 n3339 c3339] 29 .exact) :: (some b3353, .cells [.slice (some ⟨b3351, 0, none⟩) (p3337.Nodes).toNat (p3337.Nodes).toNat] 26 .exact) :: (some b3351, .cells vs5826 4 m5826) :: (some b3347, .cells [.slice a3342 n3342 c3342] 33 .exact) :: (some b3343, .cells [.int .i64 p3337.Nodes, .slice a3338 n3338 c3338, .slice a3339 n3339 c3339] 29 .exact) :: own)) 7 21 ?_ ?_
      · rintro s5845 _ t0 h5847 X5846
        refine send ?_
        refine nseq ?_
        refine dcond rfl rfl (fun k5848 => ?_) (fun k5848 => ?_)
        · refine dseq ?_
          refine ddraw 16 16 0 (by kernel_rfl) ?_
          refine sload (v := .slice (some ⟨b3351, 0, none⟩) (p3337.Nodes).toNat (p3337.Nodes).toNat) rfl rfl (q_load wd_26 rfl) (St.ld X5846 (j := 5) rfl rfl) (same_self 20 rfl) rfl ?_
          refine sload (v := .agg #[.int .i64 e5802.A, .int .i64 e5802.B, .int .i64 e5802.Per, .int .i64 e5802.Delay, .int .i64 (w64 (2 * s5638.1))]) rfl rfl (q_load wd_77 rfl) (St.ld X5846 (j := 0) rfl rfl) (same_self 20 rfl) rfl ?_
          refine scall (en := fun d => (.int .i64 d)) rfl rfl ca_44 rfl rfl (f44_ok X5846 ((TopoEnd.mk e5802 (w64 (2 * s5638.1))))) rfl (fun e5849 => ?_)
          refine Sim.bindM fun e5853 he5854 => ?_
          obtain ⟨off5855, cs5855, hp5855, hc5855, hR5855, hl5855, hm5855, hs5855⟩ := OSl.iaC O5639 he5854 (kd := .i64) (n := 1) rfl
          have hR5855 : _ = [(.bool e5853 : Value)] := hR5855
          subst hR5855
          refine spure (v := .pointer (some ⟨b3351, off5855, none⟩)) rfl (p_ia rs_26 rfl) (lo_t (lo_osl X5846 (j := 6) rfl O5639) (lo_t rfl rfl)) hp5855 rfl ?_
          have O5858 := hs5855 [.bool true] (true) rfl
          refine sstore rfl rfl ts_4 rfl rfl (j := 6) rfl hm5855 rfl rfl (ble_iff.2 hl5855) rfl X5846 (fun h5856 X5857 => ?_)
          refine send ?_
          refine nseq (dexit (eblock rfl ?_))
          refine ernd X5857 (j := 2) rfl (fun h5859 X5860 => ?_)
          refine lpure (v := .bool true) rfl (p_not rfl) rfl rfl ?_
          refine lpure (v := .bool true) rfl (p_move rfl) rfl rfl ?_
          refine lskip rfl rfl ?_
          refine lskip rfl rfl ?_
          refine lskip rfl rfl ?_
          refine lskip rfl rfl ?_
          refine lskip rfl rfl ?_
          refine lskip rfl rfl ?_
          refine lskip rfl rfl ?_
          refine lskip rfl rfl ?_
          refine lpure (v := .bool true) rfl (p_pick rfl) rfl rfl ?_
          refine lend (nseq (dcondT rfl rfl (dret (rblock (rseq (rloop (rblock ?_)))))))
          refine kin_r res_0 ?_
          refine rend_d X5860 (j := 2) rfl (.inr ⟨_, rfl, rfl⟩) (fun h5861 X5862 => ?_)
          refine eblock rfl (eseq (xblock ?_))
          exact kbackM ih5307 (s5638.2.set (e5849).toNat true) ((.cells (setAt vs5826 off5855 [.bool true]) 4 m5826)) (sub_cons rfl (sub_cons rfl (sub_cons rfl sub_nil))) ⟨(St.pick X5862 (.skip _ (.skip _ (.skip _ (.skip _ (.skip _ (.keep _ (.keep _ (.keep _ (.keep _ (.refl _))))))))))), O5858⟩
        refine dskip (nblock ?_)
        refine nrnd X5846 (j := 2) rfl (fun h5863 X5864 => ?_)
        refine lpure (v := .bool false) rfl (p_not rfl) rfl rfl ?_
        refine lpure (v := .bool false) rfl (p_move rfl) rfl rfl ?_
        refine lpure (v := .func (.yield l5315) #[] #[]) rfl (p_move rfl) rfl rfl ?_
        refine lread (v := .agg #[.int .i64 e5802.A, .int .i64 e5802.B, .int .i64 e5802.Per, .int .i64 e5802.Delay]) rfl (q_load wd_75 rfl) (St.ld X5864 (j := 1) rfl rfl) rfl ?_
        refine lpure (v := .int .i64 s5638.1) rfl (p_move rfl) rfl rfl ?_
        refine lpure (v := .int .i64 (w64 (2 * s5638.1))) rfl (p_mul rfl) rfl rfl ?_
        refine lpure (v := .int .i64 (w64 ((w64 (2 * s5638.1)) + 1))) rfl (p_add rfl) rfl rfl ?_
        refine lpure (v := .agg #[.int .i64 e5802.A, .int .i64 e5802.B, .int .i64 e5802.Per, .int .i64 e5802.Delay, .int .i64 (w64 ((w64 (2 * s5638.1)) + 1))]) rfl (p_build rfl) (build_st' tz_77 pl_77 rfl) rfl ?_
        refine lround rfl rfl rfl rfl rfl rfl X5864 (j := 2) rfl Q5318 rfl rfl rfl rfl rfl (fun t5865 => ?_)
        refine dreg ?_
        refine lalloc rfl tz_77 rfl rfl rfl X5864 (fun b5866 h5868 X5869 => ?_)
        refine lstore rfl ts_77 rfl rfl (j := 0) rfl rfl rfl rfl rfl rfl X5869 (fun h5870 X5871 => ?_)
        refine lend ?_
        refine basg X5871 (j := 3) rfl (fun h5872 X5873 => ?_)
        refine dblock (dseq ?_)
        refine ddraw 0 0 0 (by kernel_rfl) ?_
        refine sload (v := .slice (some ⟨b3351, 0, none⟩) (p3337.Nodes).toNat (p3337.Nodes).toNat) rfl rfl (q_load wd_26 rfl) (St.ld X5873 (j := 6) rfl rfl) (same_self 20 rfl) rfl ?_
        refine sload (v := .agg #[.int .i64 e5802.A, .int .i64 e5802.B, .int .i64 e5802.Per, .int .i64 e5802.Delay, .int .i64 (w64 ((w64 (2 * s5638.1)) + 1))]) rfl rfl (q_load wd_77 rfl) (St.ld X5873 (j := 0) rfl rfl) (same_self 20 rfl) rfl ?_
        refine scall (en := fun d => (.int .i64 d)) rfl rfl ca_42 rfl rfl (f42_ok X5873 ((TopoEnd.mk e5802 (w64 ((w64 (2 * s5638.1)) + 1))))) rfl (fun e5874 => ?_)
        refine Sim.bindM fun e5878 he5879 => ?_
        obtain ⟨off5880, cs5880, hp5880, hc5880, hR5880, hl5880, hm5880, hs5880⟩ := OSl.iaC O5639 he5879 (kd := .i64) (n := 1) rfl
        have hR5880 : _ = [(.bool e5878 : Value)] := hR5880
        subst hR5880
        refine spure (v := .pointer (some ⟨b3351, off5880, none⟩)) rfl (p_ia rs_26 rfl) (lo_t (lo_osl X5873 (j := 7) rfl O5639) (lo_t rfl rfl)) hp5880 rfl ?_
        refine sload (v := .bool e5878) rfl rfl (q_load wd_4 rfl) (St.ld X5873 (j := 7) rfl (rdE1 hc5880 (k := 0) rfl rfl)) (same_self 20 rfl) rfl ?_
        refine spure (v := .bool e5878) rfl (p_move rfl) (lo_t rfl rfl) rfl rfl ?_
        refine sjoinM (τ := Bool) (σ := Unit) (fun s5890 (_ : Unit) => [(5, .pointer (some ⟨b3347, 0, none⟩)), (7, .pointer (some ⟨b3353, 0, none⟩)), (8, .pointer (some ⟨b5866, 0, none⟩)), (30, .bool s5890)]) (fun s5890 (_ : Unit) hh => St φ lo hh ((some b5866, .cells [.int .i64 e5802.A, .int .i64 e5802.B, .int .i64 e5802.Per, .int .i64 e5802.Delay, .int .i64 (w64 ((w64 (2 * s5638.1)) + 1))] 77 .exact) :: (some b5812, .cells [.int .i64 e5802.A, .int .i64 e5802.B, .int .i64 e5802.Per, .int .i64 e5802.Delay, .int .i64 (w64 (2 * s5638.1))] 77 .exact) :: (some b5805, .cells [.int .i64 e5802.A, .int .i64 e5802.B, .int .i64 e5802.Per, .int .i64 e5802.Delay] 75 .exact) :: (some l5315, bsy q5316) :: (none, .dead) :: (some b5311, .cells [.int .i64 p3337.Nodes, .slice a3338 n3338 c3338, .slice a3339 n3339 c3339] 29 .exact) :: (some b3353, .cells [.slice (some ⟨b3351, 0, none⟩) (p3337.Nodes).toNat (p3337.Nodes).toNat] 26 .exact) :: (some b3351, .cells vs5826 4 m5826) :: (some b3347, .cells [.slice a3342 n3342 c3342] 33 .exact) :: (some b3343, .cells [.int .i64 p3337.Nodes, .slice a3338 n3338 c3338, .slice a3339 n3339 c3339] 29 .exact) :: own)) 7 13 ?_ ?_
        · rintro s5890 _ t0 h5892 X5891
          refine spure (v := .bool s5890) rfl (p_move rfl) (lo_t rfl rfl) rfl rfl ?_
          refine sjoinM (τ := Bool) (σ := Unit) (fun s5899 (_ : Unit) => [(7, .pointer (some ⟨b3353, 0, none⟩)), (8, .pointer (some ⟨b5866, 0, none⟩)), (38, .bool s5899)]) (fun s5899 (_ : Unit) hh => St φ lo hh ((some b5866, .cells [.int .i64 e5802.A, .int .i64 e5802.B, .int .i64 e5802.Per, .int .i64 e5802.Delay, .int .i64 (w64 ((w64 (2 * s5638.1)) + 1))] 77 .exact) :: (some b5812, .cells [.int .i64 e5802.A, .int .i64 e5802.B, .int .i64 e5802.Per, .int .i64 e5802.Delay, .int .i64 (w64 (2 * s5638.1))] 77 .exact) :: (some b5805, .cells [.int .i64 e5802.A, .int .i64 e5802.B, .int .i64 e5802.Per, .int .i64 e5802.Delay] 75 .exact) :: (some l5315, bsy q5316) :: (none, .dead) :: (some b5311, .cells [.int .i64 p3337.Nodes, .slice a3338 n3338 c3338, .slice a3339 n3339 c3339] 29 .exact) :: (some b3353, .cells [.slice (some ⟨b3351, 0, none⟩) (p3337.Nodes).toNat (p3337.Nodes).toNat] 26 .exact) :: (some b3351, .cells vs5826 4 m5826) :: (some b3347, .cells [.slice a3342 n3342 c3342] 33 .exact) :: (some b3343, .cells [.int .i64 p3337.Nodes, .slice a3338 n3338 c3338, .slice a3339 n3339 c3339] 29 .exact) :: own)) 7 21 ?_ ?_
          · rintro s5899 _ t0 h5901 X5900
            refine send ?_
            refine nseq ?_
            refine dcond rfl rfl (fun k5902 => ?_) (fun k5902 => ?_)
            · refine dseq ?_
              refine ddraw 16 16 0 (by kernel_rfl) ?_
              refine sload (v := .slice (some ⟨b3351, 0, none⟩) (p3337.Nodes).toNat (p3337.Nodes).toNat) rfl rfl (q_load wd_26 rfl) (St.ld X5900 (j := 6) rfl rfl) (same_self 20 rfl) rfl ?_
              refine sload (v := .agg #[.int .i64 e5802.A, .int .i64 e5802.B, .int .i64 e5802.Per, .int .i64 e5802.Delay, .int .i64 (w64 ((w64 (2 * s5638.1)) + 1))]) rfl rfl (q_load wd_77 rfl) (St.ld X5900 (j := 0) rfl rfl) (same_self 20 rfl) rfl ?_
              refine scall (en := fun d => (.int .i64 d)) rfl rfl ca_44 rfl rfl (f44_ok X5900 ((TopoEnd.mk e5802 (w64 ((w64 (2 * s5638.1)) + 1))))) rfl (fun e5903 => ?_)
              refine Sim.bindM fun e5907 he5908 => ?_
              obtain ⟨off5909, cs5909, hp5909, hc5909, hR5909, hl5909, hm5909, hs5909⟩ := OSl.iaC O5639 he5908 (kd := .i64) (n := 1) rfl
              have hR5909 : _ = [(.bool e5907 : Value)] := hR5909
              subst hR5909
              refine spure (v := .pointer (some ⟨b3351, off5909, none⟩)) rfl (p_ia rs_26 rfl) (lo_t (lo_osl X5900 (j := 7) rfl O5639) (lo_t rfl rfl)) hp5909 rfl ?_
              have O5912 := hs5909 [.bool true] (true) rfl
              refine sstore rfl rfl ts_4 rfl rfl (j := 7) rfl hm5909 rfl rfl (ble_iff.2 hl5909) rfl X5900 (fun h5910 X5911 => ?_)
              refine send ?_
              refine nseq (dexit (eblock rfl ?_))
              refine ernd X5911 (j := 3) rfl (fun h5913 X5914 => ?_)
              refine lpure (v := .bool true) rfl (p_not rfl) rfl rfl ?_
              refine lpure (v := .bool true) rfl (p_pick rfl) rfl rfl ?_
              refine lend (nseq (dcondT rfl rfl (dret (rblock (rseq (rloop (rblock ?_)))))))
              refine kin_r res_0 ?_
              refine rend_d X5914 (j := 3) rfl (.inr ⟨_, rfl, rfl⟩) (fun h5915 X5916 => ?_)
              refine eblock rfl (eseq (xblock ?_))
              exact kbackM ih5307 (s5638.2.set (e5903).toNat true) ((.cells (setAt vs5826 off5909 [.bool true]) 4 m5826)) (sub_cons rfl (sub_cons rfl (sub_cons rfl sub_nil))) ⟨(St.pick X5916 (.skip _ (.skip _ (.skip _ (.skip _ (.skip _ (.skip _ (.keep _ (.keep _ (.keep _ (.keep _ (.refl _)))))))))))), O5912⟩
            refine dskip (nblock ?_)
            refine nrnd X5900 (j := 3) rfl (fun h5917 X5918 => ?_)
            refine lpure (v := .bool false) rfl (p_not rfl) rfl rfl ?_
            refine lpure (v := .bool false) rfl (p_pick rfl) rfl rfl ?_
            refine lend (nseq (dcondF rfl rfl (dskip (nblock (nseq (dreg ?_))))))
            refine lpure (v := .int .i64 (w64 (s5638.1 + 1))) rfl (p_add rfl) rfl rfl ?_
            refine lpure (v := .int .i64 (w64 (s5638.1 + 1))) rfl (p_move rfl) rfl rfl ?_
            refine lend ?_
            exact kbackM ih5797 ((w64 (s5638.1 + 1)), s5638.2) (.cells vs5826 4 m5826) (sub_cons rfl (sub_cons rfl (sub_cons rfl (sub_cons rfl sub_nil)))) ⟨(St.pick X5918 (.skip _ (.skip _ (.skip _ (.keep _ (.none _ (.skip _ (.keep _ (.keep _ (.keep _ (.keep _ (.keep _ (.refl _))))))))))))), O5639⟩
          intro j5919 J5920
          refine sif (j := 31) (show _ = Value.bool s5890 from rfl) (fun k5921 => ?_) (fun k5921 => ?_)
          · refine sload (v := .slice a3342 n3342 c3342) rfl rfl (q_load wd_33 rfl) (St.ld X5891 (j := 8) rfl rfl) (same_self 20 rfl) rfl ?_
            refine spure (v := .pointer (some ⟨b5866, 4, none⟩)) rfl (p_fa fo_77_1 rfl) (lo_t (lo_own X5891 (j := 0) (o := 0) (s := none) (f := 0) rfl) rfl) rfl rfl ?_
            refine sload (v := .int .i64 (w64 ((w64 (2 * s5638.1)) + 1))) rfl rfl (q_load wd_3 rfl) (St.ld X5891 (j := 0) rfl rfl) (same_self 20 rfl) rfl ?_
            refine spure (v := .int .i64 (w64 (Int.tdiv (w64 ((w64 (2 * s5638.1)) + 1)) 2))) rfl (p_quo rfl) (lo_t rfl (lo_c rfl)) rfl rfl ?_
            refine scall (en := fun d => (.bool d)) rfl rfl ca_68 rfl rfl (f68_ok X5891 p3341 ((w64 (Int.tdiv (w64 ((w64 (2 * s5638.1)) + 1)) 2))) H3342) rfl (fun e5922 => ?_)
            refine spure (v := .bool (!e5922)) rfl (p_not rfl) (lo_t rfl rfl) rfl rfl ?_
            refine spure (v := .bool (!e5922)) rfl (p_pick rfl) (lo_t rfl (lo_t rfl (lo_c rfl))) rfl rfl ?_
            exact sjmpM J5920 (!e5922) () (sub_cons rfl (sub_cons rfl (sub_cons rfl sub_nil))) (St.pick X5891 (.keep _ (.keep _ (.keep _ (.keep _ (.none _ (.skip _ (.keep _ (.keep _ (.keep _ (.keep _ (.keep _ (.refl _)))))))))))))
          refine sskip rfl rfl ?_
          refine sskip rfl rfl ?_
          refine sskip rfl rfl ?_
          refine sskip rfl rfl ?_
          refine sskip rfl rfl ?_
          refine sskip rfl rfl ?_
          refine spure (v := .bool false) rfl (p_pick rfl) (lo_t rfl (lo_t rfl (lo_c rfl))) rfl rfl ?_
          exact sjmpM J5920 false () (sub_cons rfl (sub_cons rfl (sub_cons rfl sub_nil))) (St.pick X5891 (.keep _ (.keep _ (.keep _ (.keep _ (.none _ (.skip _ (.keep _ (.keep _ (.keep _ (.keep _ (.keep _ (.refl _)))))))))))))
        intro j5926 J5927
        refine sif (j := 23) (show _ = Value.bool e5878 from rfl) (fun k5928 => ?_) (fun k5928 => ?_)
        · refine sload (v := .slice (some ⟨b3351, 0, none⟩) (p3337.Nodes).toNat (p3337.Nodes).toNat) rfl rfl (q_load wd_26 rfl) (St.ld X5873 (j := 6) rfl rfl) (same_self 20 rfl) rfl ?_
          refine sload (v := .agg #[.int .i64 e5802.A, .int .i64 e5802.B, .int .i64 e5802.Per, .int .i64 e5802.Delay, .int .i64 (w64 ((w64 (2 * s5638.1)) + 1))]) rfl rfl (q_load wd_77 rfl) (St.ld X5873 (j := 0) rfl rfl) (same_self 20 rfl) rfl ?_
          refine scall (en := fun d => (.int .i64 d)) rfl rfl ca_44 rfl rfl (f44_ok X5873 ((TopoEnd.mk e5802 (w64 ((w64 (2 * s5638.1)) + 1))))) rfl (fun e5929 => ?_)
          refine Sim.bindM fun e5933 he5934 => ?_
          obtain ⟨off5935, cs5935, hp5935, hc5935, hR5935, hl5935, hm5935, hs5935⟩ := OSl.iaC O5639 he5934 (kd := .i64) (n := 1) rfl
          have hR5935 : _ = [(.bool e5933 : Value)] := hR5935
          subst hR5935
          refine spure (v := .pointer (some ⟨b3351, off5935, none⟩)) rfl (p_ia rs_26 rfl) (lo_t (lo_osl X5873 (j := 7) rfl O5639) (lo_t rfl rfl)) hp5935 rfl ?_
          refine sload (v := .bool e5933) rfl rfl (q_load wd_4 rfl) (St.ld X5873 (j := 7) rfl (rdE1 hc5935 (k := 0) rfl rfl)) (same_self 20 rfl) rfl ?_
          refine spure (v := .bool (!e5933)) rfl (p_not rfl) (lo_t rfl rfl) rfl rfl ?_
          refine spure (v := .bool (!e5933)) rfl (p_pick rfl) (lo_t rfl (lo_t rfl (lo_c rfl))) rfl rfl ?_
          exact sjmpM J5927 (!e5933) () (sub_cons rfl (sub_cons rfl (sub_cons rfl (sub_cons rfl sub_nil)))) (St.pick X5873 (.keep _ (.keep _ (.keep _ (.keep _ (.none _ (.skip _ (.keep _ (.keep _ (.keep _ (.keep _ (.keep _ (.refl _)))))))))))))
        refine sskip rfl rfl ?_
        refine sskip rfl rfl ?_
        refine sskip rfl rfl ?_
        refine sskip rfl rfl ?_
        refine sskip rfl rfl ?_
        refine sskip rfl rfl ?_
        refine spure (v := .bool false) rfl (p_pick rfl) (lo_t rfl (lo_t rfl (lo_c rfl))) rfl rfl ?_
        exact sjmpM J5927 false () (sub_cons rfl (sub_cons rfl (sub_cons rfl (sub_cons rfl sub_nil)))) (St.pick X5873 (.keep _ (.keep _ (.keep _ (.keep _ (.none _ (.skip _ (.keep _ (.keep _ (.keep _ (.keep _ (.keep _ (.refl _)))))))))))))
      intro j5936 J5937
      refine sif (j := 31) (show _ = Value.bool s5836 from rfl) (fun k5938 => ?_) (fun k5938 => ?_)
      · refine sload (v := .slice a3342 n3342 c3342) rfl rfl (q_load wd_33 rfl) (St.ld X5837 (j := 7) rfl rfl) (same_self 20 rfl) rfl ?_
        refine spure (v := .pointer (some ⟨b5812, 4, none⟩)) rfl (p_fa fo_77_1 rfl) (lo_t (lo_own X5837 (j := 0) (o := 0) (s := none) (f := 0) rfl) rfl) rfl rfl ?_
        refine sload (v := .int .i64 (w64 (2 * s5638.1))) rfl rfl (q_load wd_3 rfl) (St.ld X5837 (j := 0) rfl rfl) (same_self 20 rfl) rfl ?_
        refine spure (v := .int .i64 (w64 (Int.tdiv (w64 (2 * s5638.1)) 2))) rfl (p_quo rfl) (lo_t rfl (lo_c rfl)) rfl rfl ?_
        refine scall (en := fun d => (.bool d)) rfl rfl ca_68 rfl rfl (f68_ok X5837 p3341 ((w64 (Int.tdiv (w64 (2 * s5638.1)) 2))) H3342) rfl (fun e5939 => ?_)
        refine spure (v := .bool (!e5939)) rfl (p_not rfl) (lo_t rfl rfl) rfl rfl ?_
        refine spure (v := .bool (!e5939)) rfl (p_pick rfl) (lo_t rfl (lo_t rfl (lo_c rfl))) rfl rfl ?_
        exact sjmpM J5937 (!e5939) () (sub_cons rfl (sub_cons rfl (sub_cons rfl sub_nil))) (St.pick X5837 (.keep _ (.keep _ (.keep _ (.none _ (.skip _ (.keep _ (.keep _ (.keep _ (.keep _ (.keep _ (.refl _))))))))))))
      refine sskip rfl rfl ?_
      refine sskip rfl rfl ?_
      refine sskip rfl rfl ?_
      refine sskip rfl rfl ?_
      refine sskip rfl rfl ?_
      refine sskip rfl rfl ?_
      refine spure (v := .bool false) rfl (p_pick rfl) (lo_t rfl (lo_t rfl (lo_c rfl))) rfl rfl ?_
      exact sjmpM J5937 false () (sub_cons rfl (sub_cons rfl (sub_cons rfl sub_nil))) (St.pick X5837 (.keep _ (.keep _ (.keep _ (.none _ (.skip _ (.keep _ (.keep _ (.keep _ (.keep _ (.keep _ (.refl _))))))))))))
    intro j5943 J5944
    refine sif (j := 23) (show _ = Value.bool e5824 from rfl) (fun k5945 => ?_) (fun k5945 => ?_)
    · refine sload (v := .slice (some ⟨b3351, 0, none⟩) (p3337.Nodes).toNat (p3337.Nodes).toNat) rfl rfl (q_load wd_26 rfl) (St.ld X5819 (j := 5) rfl rfl) (same_self 20 rfl) rfl ?_
      refine sload (v := .agg #[.int .i64 e5802.A, .int .i64 e5802.B, .int .i64 e5802.Per, .int .i64 e5802.Delay, .int .i64 (w64 (2 * s5638.1))]) rfl rfl (q_load wd_77 rfl) (St.ld X5819 (j := 0) rfl rfl) (same_self 20 rfl) rfl ?_
      refine scall (en := fun d => (.int .i64 d)) rfl rfl ca_44 rfl rfl (f44_ok X5819 ((TopoEnd.mk e5802 (w64 (2 * s5638.1))))) rfl (fun e5946 => ?_)
      refine Sim.bindM fun e5950 he5951 => ?_
      obtain ⟨off5952, cs5952, hp5952, hc5952, hR5952, hl5952, hm5952, hs5952⟩ := OSl.iaC O5639 he5951 (kd := .i64) (n := 1) rfl
      have hR5952 : _ = [(.bool e5950 : Value)] := hR5952
      subst hR5952
      refine spure (v := .pointer (some ⟨b3351, off5952, none⟩)) rfl (p_ia rs_26 rfl) (lo_t (lo_osl X5819 (j := 6) rfl O5639) (lo_t rfl rfl)) hp5952 rfl ?_
      refine sload (v := .bool e5950) rfl rfl (q_load wd_4 rfl) (St.ld X5819 (j := 6) rfl (rdE1 hc5952 (k := 0) rfl rfl)) (same_self 20 rfl) rfl ?_
      refine spure (v := .bool (!e5950)) rfl (p_not rfl) (lo_t rfl rfl) rfl rfl ?_
      refine spure (v := .bool (!e5950)) rfl (p_pick rfl) (lo_t rfl (lo_t rfl (lo_c rfl))) rfl rfl ?_
      exact sjmpM J5944 (!e5950) () (sub_cons rfl (sub_cons rfl (sub_cons rfl (sub_cons rfl sub_nil)))) (St.pick X5819 (.keep _ (.keep _ (.keep _ (.none _ (.skip _ (.keep _ (.keep _ (.keep _ (.keep _ (.keep _ (.refl _))))))))))))
    refine sskip rfl rfl ?_
    refine sskip rfl rfl ?_
    refine sskip rfl rfl ?_
    refine sskip rfl rfl ?_
    refine sskip rfl rfl ?_
    refine sskip rfl rfl ?_
    refine spure (v := .bool false) rfl (p_pick rfl) (lo_t rfl (lo_t rfl (lo_c rfl))) rfl rfl ?_
    exact sjmpM J5944 false () (sub_cons rfl (sub_cons rfl (sub_cons rfl (sub_cons rfl sub_nil)))) (St.pick X5819 (.keep _ (.keep _ (.keep _ (.none _ (.skip _ (.keep _ (.keep _ (.keep _ (.keep _ (.keep _ (.refl _))))))))))))
  refine dexit (eseq (eloop (xblock ?_)))
  refine kin_n res_0 ?_
  refine rend_n X5799 (j := 0) rfl (fun h5953 X5954 => ?_)
  refine nblock (nseq (dexit (eblock rfl (eloop (xblock (nseq (dseq (dreg ?_))))))))
  refine lread (v := .slice (some ⟨b3351, 0, none⟩) (p3337.Nodes).toNat (p3337.Nodes).toNat) rfl (q_load wd_26 rfl) (St.ld X5954 (j := 3) rfl rfl) rfl ?_
  refine lpure (v := .slice (some ⟨b3351, 0, none⟩) (p3337.Nodes).toNat (p3337.Nodes).toNat) rfl (p_assign rfl) rfl rfl ?_
  refine lend (nseq (dret (rscope ?_)))
  exact kopen_r (res_1 resT) ⟨φ, ((some ⟨b3351, 0, none⟩)), ((p3337.Nodes).toNat), ((p3337.Nodes).toNat), (some b3351), blk5639, (Fz.le_refl _), St.pick (St.front X5954 (j := 4) rfl) (.keep _ (.skip _ (.skip _ (.skip _ (.skip _ (.skip _ (.skip _ (.refl _)))))))), rfl, O5639⟩
/-! slices.Index[[]bool,bool] -/
theorem f83_ok {n : Nat} {φ : Fz} {lo : Nat} {h : Heap} {own : OwnL}  {a5970 : Option Addr} {n5970 c5970 : Nat} (X : St φ lo h (own)) (p5969 : (List Bool)) (p5971 : Bool) (H5970 : RSl eBool φ (.slice a5970 n5970 c5970) p5969) : Sim ((recN Try.prog LL cutF (n + 1)).call 83 #[(.slice a5970 n5970 c5970), (.bool p5971)] h) (m_slices_Index_bool_bool p5969 p5971) (fun (d : Int) p => p = (.int .i64 d, h)) := by
  refine fcut Try.func83 rfl rfl rfl rfl X ?_
  intro h0 X0
  refine dseq (dreg ?_)
  refine lpure (v := .int .i64 0) rfl (p_assign rfl) rfl rfl ?_
  refine lend (nseq (dseq (dseq (dreg ?_))))
  refine lpure (v := .slice a5970 n5970 c5970) rfl (p_move rfl) rfl rfl ?_
  refine lpure (v := .int .i64 (p5969.length : Int)) rfl (p_len rfl rfl rfl un_26 rfl) (RSl.lenC H5970) rfl ?_
  refine lpure (v := .int .i64 0) rfl (p_move rfl) rfl rfl ?_
  refine lend (nseq (dblock ?_))
  refine dloopM (τ := Int) (σ := Unit) (fun s5988 (_ : Unit) => [(0, .slice a5970 n5970 c5970), (1, .bool p5971), (7, .int .i64 (p5969.length : Int)), (8, .int .i64 s5988)]) (fun s5988 (_ : Unit) hh => St φ h.n hh ([])) 0 () (sub_cons rfl (sub_cons rfl (sub_cons rfl (sub_cons rfl sub_nil)))) X0 ?_
  rintro n5998 ih5997 s5988 _ t0 h6000 X5999
  refine dseq (dreg ?_)
  refine lpure (v := .bool (decide (s5988 < (p5969.length : Int)))) rfl (p_lt rfl) rfl rfl ?_
  refine lend (nseq (dseq ?_))
  refine dcond rfl rfl (fun k6001 => ?_) (fun k6001 => ?_)
  · refine dskip (nseq (dseq (dblock (dseq (dreg ?_)))))
    refine lpure (v := .int .i64 s5988) rfl (p_move rfl) rfl rfl ?_
    refine lpure (v := .int .i64 s5988) rfl (p_assign rfl) rfl rfl ?_
    refine lend (nseq (dseq (dreg ?_)))
    refine lpure (v := .bool p5971) rfl (p_move rfl) rfl rfl ?_
    refine lpure (v := .slice a5970 n5970 c5970) rfl (p_move rfl) rfl rfl ?_
    refine lpure (v := .int .i64 s5988) rfl (p_move rfl) rfl rfl ?_
    refine Sim.bindM fun e6002 he6003 => ?_
    obtain ⟨p6004, cs6004, hp6004, hF6004, hR6004⟩ := RSl.ia H5970 he6003 (kd := .i64) (n := 1) rfl
    have hR6004 : _ = [(.bool e6002 : Value)] := hR6004
    subst hR6004
    refine lpure (v := p6004) rfl (p_ia rs_26 rfl) hp6004 rfl ?_
    refine lread (v := .bool e6002) rfl (q_load wd_4 rfl) (FP.ld X5999 hF6004) rfl ?_
    refine lpure (v := .bool (p5971 == e6002)) rfl (p_bin rfl) (bin_eqB un_4) rfl ?_
    refine lend (nseq ?_)
    refine dcond rfl rfl (fun k6005 => ?_) (fun k6005 => ?_)
    · refine dseq (dreg ?_)
      refine lpure (v := .int .i64 s5988) rfl (p_move rfl) rfl rfl ?_
      refine lpure (v := .int .i64 s5988) rfl (p_assign rfl) rfl rfl ?_
      refine lend (nseq (dret (rblock (rseq (rloop (rblock (rseq ?_)))))))
      exact kcut_r (res_1 resT) X5999 rfl rfl
    refine dskip (nblock (nseq (dreg ?_)))
    refine lpure (v := .int .i64 (w64 (s5988 + 1))) rfl (p_add rfl) rfl rfl ?_
    refine lpure (v := .int .i64 (w64 (s5988 + 1))) rfl (p_move rfl) rfl rfl ?_
    refine lend ?_
    exact kbackM ih5997 (w64 (s5988 + 1)) () (sub_cons rfl (sub_cons rfl (sub_cons rfl (sub_cons rfl sub_nil)))) X5999
  refine dexit (eseq (eloop (xblock (nseq (dseq (dreg ?_))))))
  refine lpure (v := .int .i64 (-1)) rfl (p_assign rfl) rfl rfl ?_
  refine lend (nseq (dret ?_))
  exact kcut_r (res_1 resT) X5999 rfl rfl
/-! slices.Contains[[]bool,bool] -/
theorem f38_ok {n : Nat} {φ : Fz} {lo : Nat} {h : Heap} {own : OwnL}  {a5967 : Option Addr} {n5967 c5967 : Nat} (X : St φ lo h (own)) (p5966 : (List Bool)) (p5968 : Bool) (H5967 : RSl eBool φ (.slice a5967 n5967 c5967) p5966) : Sim ((recN Try.prog LL cutF (n + 2)).call 38 #[(.slice a5967 n5967 c5967), (.bool p5968)] h) (m_slices_Contains_bool_bool p5966 p5968) (fun (d : Bool) p => p = (.bool d, h)) := by
  refine fcut Try.func38 rfl rfl rfl rfl X ?_
  intro h0 X0
  refine dseq (dreg ?_)
  refine lpure (v := .bool false) rfl (p_assign rfl) rfl rfl ?_
  refine lend (nseq (dseq (dreg ?_)))
  refine lpure (v := .slice a5967 n5967 c5967) rfl (p_move rfl) rfl rfl ?_
  refine lpure (v := .bool p5968) rfl (p_move rfl) rfl rfl ?_
  refine lcall rfl rfl ca_83 rfl rfl (f83_ok X0 p5966 p5968 H5967) rfl (fun e6006 v6007 h6008 hq6009 => ?_)
  cases hq6009
  refine lpure (v := .bool (decide (0 ≤ e6006))) rfl (p_ge rfl) rfl rfl ?_
  refine lpure (v := .bool (decide (0 ≤ e6006))) rfl (p_assign rfl) rfl rfl ?_
  refine lend (nseq (dret ?_))
  exact kcut_r (res_1 resT) X0 rfl rfl
/-! isochron/topo.Check -/
theorem f9_ok {n : Nat} {φ : Fz} {lo : Nat} {h : Heap} {own : OwnL}  {a82 : Option Addr} {n82 c82 : Nat} {a83 : Option Addr} {n83 c83 : Nat} (X : St φ lo h (own)) (p81 : ApiTopo) (H82 : RSl eBool φ (.slice a82 n82 c82) p81.Station) (H83 : RSl eApiLink φ (.slice a83 n83 c83) p81.Links) : Sim ((recN Try.prog LL cutF (n + 6)).call 9 #[(.agg #[.int .i64 p81.Nodes, .slice a82 n82 c82, .slice a83 n83 c83])] h) (m_topo_Check p81) (fun (d : Int) p => p = (.int .i64 d, h)) := by
  refine fcut Try.func9 rfl rfl rfl rfl X ?_
  intro h0 X0
  refine dseq (dreg ?_)
  refine lbox rfl rfl rfl rfl rfl X0 (fun b84 h86 X87 => ?_)
  refine lpure (v := .int .i64 0) rfl (p_assign rfl) rfl rfl ?_
  refine lend (nseq (dseq (dseq (dreg ?_))))
  refine lpure (v := .pointer (some ⟨b84, 0, none⟩)) rfl (p_fa fo_29_0 rfl) rfl rfl ?_
  refine lread (v := .int .i64 p81.Nodes) rfl (q_load wd_3 rfl) (St.ld X87 (j := 0) rfl rfl) rfl ?_
  refine lpure (v := .bool (decide (p81.Nodes < 2))) rfl (p_lt rfl) rfl rfl ?_
  refine lpure (v := .bool (decide (p81.Nodes < 2))) rfl (p_move rfl) rfl rfl ?_
  refine lsh (τ := Bool) (σ := Unit) (fun s89 (_ : Unit) => [(1, .pointer (some ⟨b84, 0, none⟩)), (13, .bool s89)]) (fun s89 (_ : Unit) hh => St φ h.n hh ([(some b84, .cells [.int .i64 p81.Nodes, .slice a82 n82 c82, .slice a83 n83 c83] 29 .exact)])) 4 ?_ ?_
  · rintro s89 _ t0 h91 X90
    refine lpure (v := .bool s89) rfl (p_move rfl) rfl rfl ?_
    refine lsh (τ := Bool) (σ := Unit) (fun s93 (_ : Unit) => [(1, .pointer (some ⟨b84, 0, none⟩)), (21, .bool s93)]) (fun s93 (_ : Unit) hh => St φ h.n hh ([(some b84, .cells [.int .i64 p81.Nodes, .slice a82 n82 c82, .slice a83 n83 c83] 29 .exact)])) 7 ?_ ?_
    · rintro s93 _ t0 h95 X94
      refine lpure (v := .bool s93) rfl (p_move rfl) rfl rfl ?_
      refine lsh (τ := Bool) (σ := Unit) (fun s97 (_ : Unit) => [(1, .pointer (some ⟨b84, 0, none⟩)), (27, .bool s97)]) (fun s97 (_ : Unit) hh => St φ h.n hh ([(some b84, .cells [.int .i64 p81.Nodes, .slice a82 n82 c82, .slice a83 n83 c83] 29 .exact)])) 5 ?_ ?_
      · rintro s97 _ t0 h99 X98
        refine lend (nseq ?_)
        refine dcond rfl rfl (fun k100 => ?_) (fun k100 => ?_)
        · refine dseq (dreg ?_)
          refine lpure (v := .int .i64 260) rfl (p_assign rfl) rfl rfl ?_
          refine lend (nseq (dret (rseq ?_)))
          exact kcut_r (res_1 resT) X98 rfl rfl
        refine dskip (nseq (dseq (dseq (dreg ?_))))
        refine lpure (v := .pointer (some ⟨b84, 2, none⟩)) rfl (p_fa fo_29_2 rfl) rfl rfl ?_
        refine lread (v := .slice a83 n83 c83) rfl (q_load wd_27 rfl) (St.ld X98 (j := 0) rfl rfl) rfl ?_
        refine lpure (v := .int .i64 (p81.Links.length : Int)) rfl (p_len rfl rfl rfl un_27 rfl) (RSl.lenC H83) rfl ?_
        refine lpure (v := .int .i64 0) rfl (p_move rfl) rfl rfl ?_
        refine lend (nseq (dblock ?_))
        refine dloopM (τ := Int) (σ := Unit) (fun s6396 (_ : Unit) => [(1, .pointer (some ⟨b84, 0, none⟩)), (30, .int .i64 (p81.Links.length : Int)), (31, .int .i64 s6396)]) (fun s6396 (_ : Unit) hh => St φ h.n hh ([(some b84, .cells [.int .i64 p81.Nodes, .slice a82 n82 c82, .slice a83 n83 c83] 29 .exact)])) 0 () (sub_cons rfl (sub_cons rfl (sub_cons rfl sub_nil))) X98 ?_
        rintro n6617 ih6616 s6396 _ t0 h6619 X6618
        refine dseq (dreg ?_)
        refine lpure (v := .bool (decide (s6396 < (p81.Links.length : Int)))) rfl (p_lt rfl) rfl rfl ?_
        refine lend (nseq (dseq ?_))
        refine dcond rfl rfl (fun k6620 => ?_) (fun k6620 => ?_)
        · refine dskip (nseq (dseq (dblock (dseq (dreg ?_)))))
          refine lpure (v := .int .i64 s6396) rfl (p_move rfl) rfl rfl ?_
          refine lpure (v := .int .i64 s6396) rfl (p_assign rfl) rfl rfl ?_
          refine lend (nseq (dseq (dreg ?_)))
          refine lread (v := .agg #[.int .i64 p81.Nodes, .slice a82 n82 c82, .slice a83 n83 c83]) rfl (q_load wd_29 rfl) (St.ld X6618 (j := 0) rfl rfl) rfl ?_
          refine lpure (v := .int .i64 s6396) rfl (p_move rfl) rfl rfl ?_
          refine lcall rfl rfl ca_36 rfl rfl (f36_ok X6618 p81 s6396 H82 H83) rfl (fun e6621 v6622 h6623 hq6624 => ?_)
          cases hq6624
          refine lpure (v := .bool (!e6621)) rfl (p_not rfl) rfl rfl ?_
          refine lend (nseq ?_)
          refine dcond rfl rfl (fun k6625 => ?_) (fun k6625 => ?_)
          · refine dseq (dreg ?_)
            refine lpure (v := .int .i64 260) rfl (p_assign rfl) rfl rfl ?_
            refine lend (nseq (dret (rblock (rseq (rloop (rblock (rseq ?_)))))))
            exact kcut_r (res_1 resT) X6618 rfl rfl
          refine dskip (nblock (nseq (dreg ?_)))
          refine lpure (v := .int .i64 (w64 (s6396 + 1))) rfl (p_add rfl) rfl rfl ?_
          refine lpure (v := .int .i64 (w64 (s6396 + 1))) rfl (p_move rfl) rfl rfl ?_
          refine lend ?_
          exact kbackM ih6616 (w64 (s6396 + 1)) () (sub_cons rfl (sub_cons rfl (sub_cons rfl sub_nil))) X6618
        refine dexit (eseq (eloop (xblock (nseq (dseq (dseq (dreg ?_)))))))
        refine lpure (v := .pointer (some ⟨b84, 1, none⟩)) rfl (p_fa fo_29_1 rfl) rfl rfl ?_
        refine lread (v := .slice a82 n82 c82) rfl (q_load wd_26 rfl) (St.ld X6618 (j := 0) rfl rfl) rfl ?_
        refine lpure (v := .int .i64 (p81.Station.length : Int)) rfl (p_len rfl rfl rfl un_26 rfl) (RSl.lenC H82) rfl ?_
        refine lpure (v := .int .i64 0) rfl (p_move rfl) rfl rfl ?_
        refine lend (nseq (dblock ?_))
        refine dloopM (τ := Int) (σ := Unit) (fun s6730 (_ : Unit) => [(1, .pointer (some ⟨b84, 0, none⟩)), (40, .slice a82 n82 c82), (41, .int .i64 (p81.Station.length : Int)), (42, .int .i64 s6730)]) (fun s6730 (_ : Unit) hh => St φ h.n hh ([(some b84, .cells [.int .i64 p81.Nodes, .slice a82 n82 c82, .slice a83 n83 c83] 29 .exact)])) 0 () (sub_cons rfl (sub_cons rfl (sub_cons rfl (sub_cons rfl sub_nil)))) X6618 ?_
        rintro n6784 ih6783 s6730 _ t0 h6786 X6785
        refine dseq (dreg ?_)
        refine lpure (v := .bool (decide (s6730 < (p81.Station.length : Int)))) rfl (p_lt rfl) rfl rfl ?_
        refine lend (nseq (dseq ?_))
        refine dcond rfl rfl (fun k6787 => ?_) (fun k6787 => ?_)
        · refine dskip (nseq (dseq (dblock (dseq (dreg ?_)))))
          refine lpure (v := .int .i64 s6730) rfl (p_move rfl) rfl rfl ?_
          refine Sim.bindM fun e6788 he6789 => ?_
          obtain ⟨p6790, cs6790, hp6790, hF6790, hR6790⟩ := RSl.ia H82 he6789 (kd := .i64) (n := 1) rfl
          have hR6790 : _ = [(.bool e6788 : Value)] := hR6790
          subst hR6790
          refine lpure (v := p6790) rfl (p_ia rs_26 rfl) hp6790 rfl ?_
          refine lread (v := .bool e6788) rfl (q_load wd_4 rfl) (FP.ld X6785 hF6790) rfl ?_
          refine lpure (v := .int .i64 s6730) rfl (p_assign rfl) rfl rfl ?_
          refine lpure (v := .bool e6788) rfl (p_assign rfl) rfl rfl ?_
          refine lend (nseq (dseq (dreg ?_)))
          refine lpure (v := .bool e6788) rfl (p_move rfl) rfl rfl ?_
          refine lpure (v := .bool e6788) rfl (p_move rfl) rfl rfl ?_
          refine ljoinM (τ := Bool) (σ := Unit) (fun s6802 (_ : Unit) => [(1, .pointer (some ⟨b84, 0, none⟩)), (40, .slice a82 n82 c82), (41, .int .i64 (p81.Station.length : Int)), (42, .int .i64 s6730), (59, .bool s6802)]) (fun s6802 (_ : Unit) hh => St φ h.n hh ([(some b84, .cells [.int .i64 p81.Nodes, .slice a82 n82 c82, .slice a83 n83 c83] 29 .exact)])) 11 ?_ ?_
          · rintro s6802 _ t0 h6804 X6803
            refine lend (nseq ?_)
            refine dcond rfl rfl (fun k6805 => ?_) (fun k6805 => ?_)
            · refine dseq (dreg ?_)
              refine lpure (v := .int .i64 260) rfl (p_assign rfl) rfl rfl ?_
              refine lend (nseq (dret (rblock (rseq (rloop (rblock (rseq ?_)))))))
              exact kcut_r (res_1 resT) X6803 rfl rfl
            refine dskip (nblock (nseq (dreg ?_)))
            refine lpure (v := .int .i64 (w64 (s6730 + 1))) rfl (p_add rfl) rfl rfl ?_
            refine lpure (v := .int .i64 (w64 (s6730 + 1))) rfl (p_move rfl) rfl rfl ?_
            refine lend ?_
            exact kbackM ih6783 (w64 (s6730 + 1)) () (sub_cons rfl (sub_cons rfl (sub_cons rfl (sub_cons rfl sub_nil)))) X6803
          intro j6806 J6807
          refine lif (i := 48) (show _ = Value.bool e6788 from rfl) (fun k6808 => ?_) (fun k6808 => ?_)
          · refine lread (v := .agg #[.int .i64 p81.Nodes, .slice a82 n82 c82, .slice a83 n83 c83]) rfl (q_load wd_29 rfl) (St.ld X6785 (j := 0) rfl rfl) rfl ?_
            refine lpure (v := .int .i64 s6730) rfl (p_move rfl) rfl rfl ?_
            refine lcall rfl rfl ca_37 rfl rfl (f37_ok X6785 p81 s6730 H82 H83) rfl (fun e6809 v6810 h6811 hq6812 => ?_)
            cases hq6812
            refine lpure (v := .bool (decide (e6809 < 1))) rfl (p_lt rfl) rfl rfl ?_
            refine lpure (v := .bool (decide (e6809 < 1))) rfl (p_move rfl) rfl rfl ?_
            refine lif (i := 53) (show _ = Value.bool (decide (e6809 < 1)) from rfl) (fun k6813 => ?_) (fun k6813 => ?_)
            · refine lskip rfl rfl ?_
              refine lskip rfl rfl ?_
              refine lskip rfl rfl ?_
              refine lskip rfl rfl ?_
              refine lpure (v := .bool true) rfl (p_pick rfl) rfl rfl ?_
              refine lpure (v := .bool true) rfl (p_pick rfl) rfl rfl ?_
              exact ljmpM J6807 true () (sub_cons rfl (sub_cons rfl (sub_cons rfl (sub_cons rfl (sub_cons rfl sub_nil))))) X6785
            refine lread (v := .agg #[.int .i64 p81.Nodes, .slice a82 n82 c82, .slice a83 n83 c83]) rfl (q_load wd_29 rfl) (St.ld X6785 (j := 0) rfl rfl) rfl ?_
            refine lpure (v := .int .i64 s6730) rfl (p_move rfl) rfl rfl ?_
            refine lcall rfl rfl ca_37 rfl rfl (f37_ok X6785 p81 s6730 H82 H83) rfl (fun e6814 v6815 h6816 hq6817 => ?_)
            cases hq6817
            refine lpure (v := .bool (decide (2 < e6814))) rfl (p_gt rfl) rfl rfl ?_
            refine lpure (v := .bool (decide (2 < e6814))) rfl (p_pick rfl) rfl rfl ?_
            refine lpure (v := .bool (decide (2 < e6814))) rfl (p_pick rfl) rfl rfl ?_
            exact ljmpM J6807 (decide (2 < e6814)) () (sub_cons rfl (sub_cons rfl (sub_cons rfl (sub_cons rfl (sub_cons rfl sub_nil))))) X6785
          refine lskip rfl rfl ?_
          refine lskip rfl rfl ?_
          refine lskip rfl rfl ?_
          refine lskip rfl rfl ?_
          refine lskip rfl rfl ?_
          refine lskip rfl rfl ?_
          refine lskip rfl rfl ?_
          refine lskip rfl rfl ?_
          refine lskip rfl rfl ?_
          refine lskip rfl rfl ?_
          refine lpure (v := .bool false) rfl (p_pick rfl) rfl rfl ?_
          exact ljmpM J6807 false () (sub_cons rfl (sub_cons rfl (sub_cons rfl (sub_cons rfl (sub_cons rfl sub_nil))))) X6785
        refine dexit (eseq (eloop (xblock (nseq (dseq (dseq (dreg ?_)))))))
        refine lread (v := .agg #[.int .i64 p81.Nodes, .slice a82 n82 c82, .slice a83 n83 c83]) rfl (q_load wd_29 rfl) (St.ld X6785 (j := 0) rfl rfl) rfl ?_
        refine lcall rfl rfl ca_39 rfl rfl (f39_ok X6785 p81 0 ([]) H82 H83 (.inl ⟨rfl, rfl⟩)) rfl ?_
        rintro e6818 _ h6820 ⟨φ6822, a6825, n6825, c6825, ob6825, blk6825, g6823, X6824, rfl, O6825⟩
        obtain ⟨φ6827, g6828, X6829, H6830⟩ := OSl.freeze X6824 (j := 0) rfl O6825
        refine lcall rfl rfl ca_38 rfl rfl (f38_ok X6829 e6818 false H6830) rfl (fun e6831 v6832 h6833 hq6834 => ?_)
        cases hq6834
        refine lend (nseq ?_)
        refine dcond rfl rfl (fun k6835 => ?_) (fun k6835 => ?_)
        · refine dseq (dreg ?_)
          refine lpure (v := .int .i64 260) rfl (p_assign rfl) rfl rfl ?_
          refine lend (nseq (dret (rseq ?_)))
          exact kcut_r (res_1 resT) X6824 rfl rfl
        refine dskip (nseq (dseq (dreg ?_)))
        refine lpure (v := .int .i64 0) rfl (p_assign rfl) rfl rfl ?_
        refine lend (nseq (dret ?_))
        exact kcut_r (res_1 resT) X6824 rfl rfl
      intro j6836 J6837
      refine lcase (i := 22) (show _ = Value.bool s93 from rfl) (fun k6838 => ?_) (fun k6838 => ?_)
      · refine lskip rfl rfl ?_
        refine lskip rfl rfl ?_
        refine lskip rfl rfl ?_
        refine lskip rfl rfl ?_
        refine lpure (v := .bool true) rfl (p_pick rfl) rfl rfl ?_
        refine Sim.of_eq (congrArg j6836 (show (s93 || (decide (24 < (p81.Links.length : Int)))) = true from by rw [k6838] <;> rfl)) ?_
        exact ljmpM J6837 true () (sub_cons rfl (sub_cons rfl sub_nil)) X94
      refine lpure (v := .pointer (some ⟨b84, 2, none⟩)) rfl (p_fa fo_29_2 rfl) rfl rfl ?_
      refine lread (v := .slice a83 n83 c83) rfl (q_load wd_27 rfl) (St.ld X94 (j := 0) rfl rfl) rfl ?_
      refine lpure (v := .int .i64 (p81.Links.length : Int)) rfl (p_len rfl rfl rfl un_27 rfl) (RSl.lenC H83) rfl ?_
      refine lpure (v := .bool (decide (24 < (p81.Links.length : Int)))) rfl (p_gt rfl) rfl rfl ?_
      refine lpure (v := .bool (decide (24 < (p81.Links.length : Int)))) rfl (p_pick rfl) rfl rfl ?_
      refine Sim.of_eq (congrArg j6836 (show (s93 || (decide (24 < (p81.Links.length : Int)))) = (decide (24 < (p81.Links.length : Int))) from by rw [k6838] <;> rfl)) ?_
      exact ljmpM J6837 (decide (24 < (p81.Links.length : Int))) () (sub_cons rfl (sub_cons rfl sub_nil)) X94
    intro j6839 J6840
    refine lcase (i := 14) (show _ = Value.bool s89 from rfl) (fun k6841 => ?_) (fun k6841 => ?_)
    · refine lskip rfl rfl ?_
      refine lskip rfl rfl ?_
      refine lskip rfl rfl ?_
      refine lskip rfl rfl ?_
      refine lskip rfl rfl ?_
      refine lskip rfl rfl ?_
      refine lpure (v := .bool true) rfl (p_pick rfl) rfl rfl ?_
      refine Sim.of_eq (congrArg j6839 (show (s89 || (decide ((p81.Station.length : Int) ≠ p81.Nodes))) = true from by rw [k6841] <;> rfl)) ?_
      exact ljmpM J6840 true () (sub_cons rfl (sub_cons rfl sub_nil)) X90
    refine lpure (v := .pointer (some ⟨b84, 1, none⟩)) rfl (p_fa fo_29_1 rfl) rfl rfl ?_
    refine lread (v := .slice a82 n82 c82) rfl (q_load wd_26 rfl) (St.ld X90 (j := 0) rfl rfl) rfl ?_
    refine lpure (v := .int .i64 (p81.Station.length : Int)) rfl (p_len rfl rfl rfl un_26 rfl) (RSl.lenC H82) rfl ?_
    refine lpure (v := .pointer (some ⟨b84, 0, none⟩)) rfl (p_fa fo_29_0 rfl) rfl rfl ?_
    refine lread (v := .int .i64 p81.Nodes) rfl (q_load wd_3 rfl) (St.ld X90 (j := 0) rfl rfl) rfl ?_
    refine lpure (v := .bool (decide ((p81.Station.length : Int) ≠ p81.Nodes))) rfl (p_ne rfl) rfl rfl ?_
    refine lpure (v := .bool (decide ((p81.Station.length : Int) ≠ p81.Nodes))) rfl (p_pick rfl) rfl rfl ?_
    refine Sim.of_eq (congrArg j6839 (show (s89 || (decide ((p81.Station.length : Int) ≠ p81.Nodes))) = (decide ((p81.Station.length : Int) ≠ p81.Nodes)) from by rw [k6841] <;> rfl)) ?_
    exact ljmpM J6840 (decide ((p81.Station.length : Int) ≠ p81.Nodes)) () (sub_cons rfl (sub_cons rfl sub_nil)) X90
  intro j6842 J6843
  refine lcase (i := 9) (show _ = Value.bool (decide (p81.Nodes < 2)) from rfl) (fun k6844 => ?_) (fun k6844 => ?_)
  · refine lskip rfl rfl ?_
    refine lskip rfl rfl ?_
    refine lskip rfl rfl ?_
    refine lpure (v := .bool true) rfl (p_pick rfl) rfl rfl ?_
    refine Sim.of_eq (congrArg j6842 (show ((decide (p81.Nodes < 2)) || (decide (12 < p81.Nodes))) = true from by rw [k6844] <;> rfl)) ?_
    exact ljmpM J6843 true () (sub_cons rfl (sub_cons rfl sub_nil)) X87
  refine lpure (v := .pointer (some ⟨b84, 0, none⟩)) rfl (p_fa fo_29_0 rfl) rfl rfl ?_
  refine lread (v := .int .i64 p81.Nodes) rfl (q_load wd_3 rfl) (St.ld X87 (j := 0) rfl rfl) rfl ?_
  refine lpure (v := .bool (decide (12 < p81.Nodes))) rfl (p_gt rfl) rfl rfl ?_
  refine lpure (v := .bool (decide (12 < p81.Nodes))) rfl (p_pick rfl) rfl rfl ?_
  refine Sim.of_eq (congrArg j6842 (show ((decide (p81.Nodes < 2)) || (decide (12 < p81.Nodes))) = (decide (12 < p81.Nodes)) from by rw [k6844] <;> rfl)) ?_
  exact ljmpM J6843 (decide (12 < p81.Nodes)) () (sub_cons rfl (sub_cons rfl sub_nil)) X87
/-! isochron/topo.From -/
theorem f11_ok {n : Nat} {φ : Fz} {lo : Nat} {h : Heap} {own : OwnL}  {a6970 : Option Addr} {n6970 c6970 : Nat} {a6971 : Option Addr} {n6971 c6971 : Nat} (X : St φ lo h (own)) (p6969 : ApiTopo) (p6972 : Int) (H6970 : RSl eBool φ (.slice a6970 n6970 c6970) p6969.Station) (H6971 : RSl eApiLink φ (.slice a6971 n6971 c6971) p6969.Links) : Sim ((recN Try.prog LL cutF (n + 8)).call 11 #[(.agg #[.int .i64 p6969.Nodes, .slice a6970 n6970 c6970, .slice a6971 n6971 c6971]), (.int .i64 p6972)] h) (m_topo_From p6969 p6972) (fun (d : (Int × Int)) p => p = (.tuple #[.int .i64 d.1, .int .i64 d.2], h)) := by
  refine fcut Try.func11 rfl rfl rfl rfl X ?_
  intro h0 X0
  refine dseq (dreg ?_)
  refine lbox rfl rfl rfl rfl rfl X0 (fun b6973 h6975 X6976 => ?_)
  refine lpure (v := .int .i64 0) rfl (p_assign rfl) rfl rfl ?_
  refine lpure (v := .int .i64 0) rfl (p_assign rfl) rfl rfl ?_
  refine lend (nseq (dseq (dreg ?_)))
  refine lread (v := .agg #[.int .i64 p6969.Nodes, .slice a6970 n6970 c6970, .slice a6971 n6971 c6971]) rfl (q_load wd_29 rfl) (St.ld X6976 (j := 0) rfl rfl) rfl ?_
  refine lpure (v := .int .i64 p6972) rfl (p_move rfl) rfl rfl ?_
  refine linl rfl rfl rfl rfl ca_43 rfl Try.func43 rfl rfl rfl rfl rfl ?_
  refine dseq (dreg ?_)
  refine lbox rfl rfl rfl rfl rfl X6976 (fun b6977 h6979 X6980 => ?_)
  refine lpure (v := .int .i64 0) rfl (p_assign rfl) rfl rfl ?_
  refine lpure (v := .int .i64 0) rfl (p_assign rfl) rfl rfl ?_
  refine lend (nseq (dseq (dreg ?_)))
  refine lpure (v := .int .i64 0) rfl (p_assign rfl) rfl rfl ?_
  refine lend (nseq (dseq (dseq (dreg ?_))))
  refine lread (v := .agg #[.int .i64 p6969.Nodes, .slice a6970 n6970 c6970, .slice a6971 n6971 c6971]) rfl (q_load wd_29 rfl) (St.ld X6980 (j := 0) rfl rfl) rfl ?_
  refine lcall rfl rfl ca_9 rfl rfl (f9_ok X6980 p6969 H6970 H6971) rfl (fun e6981 v6982 h6983 hq6984 => ?_)
  cases hq6984
  refine lpure (v := .int .i64 e6981) rfl (p_assign rfl) rfl rfl ?_
  refine lend (nseq (dseq (dreg ?_)))
  refine lpure (v := .int .i64 e6981) rfl (p_move rfl) rfl rfl ?_
  refine lpure (v := .bool (decide (e6981 ≠ 0))) rfl (p_ne rfl) rfl rfl ?_
  refine lend (nseq ?_)
  refine dcond rfl rfl (fun k6985 => ?_) (fun k6985 => ?_)
  · refine dseq (dreg ?_)
    refine lpure (v := .int .i64 0) rfl (p_move rfl) rfl rfl ?_
    refine lpure (v := .int .i64 e6981) rfl (p_move rfl) rfl rfl ?_
    refine lpure (v := .int .i64 0) rfl (p_assign rfl) rfl rfl ?_
    refine lpure (v := .int .i64 e6981) rfl (p_assign rfl) rfl rfl ?_
    refine lend (nseq (dret (rseq ?_)))
    refine kin_r (res_2 resT resT) ?_
    refine lpure (v := .int .i64 0) rfl (p_extract rfl) rfl rfl ?_
    refine lpure (v := .int .i64 e6981) rfl (p_extract rfl) rfl rfl ?_
    refine lpure (v := .int .i64 0) rfl (p_assign rfl) rfl rfl ?_
    refine lpure (v := .int .i64 e6981) rfl (p_assign rfl) rfl rfl ?_
    refine lend (nseq (dret ?_))
    exact kcut_r (res_2 resT resT) X6980 rfl rfl
  refine dskip (nseq (dseq (dseq (dreg ?_))))
  refine lpure (v := .int .i64 p6972) rfl (p_move rfl) rfl rfl ?_
  refine lpure (v := .bool (decide (p6972 < 0))) rfl (p_lt rfl) rfl rfl ?_
  refine lpure (v := .bool (decide (p6972 < 0))) rfl (p_move rfl) rfl rfl ?_
  refine lsh (τ := Bool) (σ := Unit) (fun s6987 (_ : Unit) => [(1, .int .i64 p6972), (2, .func (.func 42) #[] #[]), (3, .pointer (some ⟨b6977, 0, none⟩)), (8, .int .i64 0), (25, .bool s6987)]) (fun s6987 (_ : Unit) hh => St φ h.n hh ([(some b6977, .cells [.int .i64 p6969.Nodes, .slice a6970 n6970 c6970, .slice a6971 n6971 c6971] 29 .exact), (some b6973, .cells [.int .i64 p6969.Nodes, .slice a6970 n6970 c6970, .slice a6971 n6971 c6971] 29 .exact)])) 7 ?_ ?_
  · rintro s6987 _ t0 h6989 X6988
    refine lend (nseq ?_)
    refine dcond rfl rfl (fun k6990 => ?_) (fun k6990 => ?_)
    · refine dseq (dreg ?_)
      refine lpure (v := .int .i64 0) rfl (p_move rfl) rfl rfl ?_
      refine lpure (v := .int .i64 0) rfl (p_assign rfl) rfl rfl ?_
      refine lpure (v := .int .i64 2) rfl (p_assign rfl) rfl rfl ?_
      refine lend (nseq (dret (rseq ?_)))
      refine kin_r (res_2 resT resT) ?_
      refine lpure (v := .int .i64 0) rfl (p_extract rfl) rfl rfl ?_
      refine lpure (v := .int .i64 2) rfl (p_extract rfl) rfl rfl ?_
      refine lpure (v := .int .i64 0) rfl (p_assign rfl) rfl rfl ?_
      refine lpure (v := .int .i64 2) rfl (p_assign rfl) rfl rfl ?_
      refine lend (nseq (dret ?_))
      exact kcut_r (res_2 resT resT) X6988 rfl rfl
    refine dskip (nseq (dseq (dreg ?_)))
    refine lpure (v := .func (.func 42) #[] #[]) rfl (p_move rfl) rfl rfl ?_
    refine lpure (v := .pointer (some ⟨b6977, 2, none⟩)) rfl (p_fa fo_29_2 rfl) rfl rfl ?_
    refine lread (v := .slice a6971 n6971 c6971) rfl (q_load wd_27 rfl) (St.ld X6988 (j := 0) rfl rfl) rfl ?_
    refine lpure (v := .int .i64 p6972) rfl (p_move rfl) rfl rfl ?_
    refine lpure (v := .int .i64 (w64 (Int.tdiv p6972 2))) rfl (p_quo rfl) rfl rfl ?_
    refine Sim.bindM fun e6991 he6992 => ?_
    obtain ⟨p6993, cs6993, hp6993, hF6993, hR6993⟩ := RSl.ia H6971 he6992 (kd := .i64) (n := 4) rfl
    obtain rfl := eApiLink_el hR6993
    refine lpure (v := p6993) rfl (p_ia rs_27 rfl) hp6993 rfl ?_
    refine lread (v := .agg #[.int .i64 e6991.A, .int .i64 e6991.B, .int .i64 e6991.Per, .int .i64 e6991.Delay]) rfl (q_load wd_75 rfl) (FP.ldw X6988 hF6993 rfl rfl) rfl ?_
    refine lpure (v := .int .i64 p6972) rfl (p_move rfl) rfl rfl ?_
    refine lpure (v := .agg #[.int .i64 e6991.A, .int .i64 e6991.B, .int .i64 e6991.Per, .int .i64 e6991.Delay, .int .i64 p6972]) rfl (p_build rfl) (build_st' tz_77 pl_77 rfl) rfl ?_
    refine lcallv rfl rfl rfl rfl ca_42 rfl rfl (f42_ok X6988 ((TopoEnd.mk e6991 p6972))) rfl (fun e6994 v6995 h6996 hq6997 => ?_)
    cases hq6997
    refine lpure (v := .int .i64 e6994) rfl (p_assign rfl) rfl rfl ?_
    refine lpure (v := .int .i64 0) rfl (p_assign rfl) rfl rfl ?_
    refine lend (nseq (dret ?_))
    refine kin_r (res_2 resT resT) ?_
    refine lpure (v := .int .i64 e6994) rfl (p_extract rfl) rfl rfl ?_
    refine lpure (v := .int .i64 0) rfl (p_extract rfl) rfl rfl ?_
    refine lpure (v := .int .i64 e6994) rfl (p_assign rfl) rfl rfl ?_
    refine lpure (v := .int .i64 0) rfl (p_assign rfl) rfl rfl ?_
    refine lend (nseq (dret ?_))
    exact kcut_r (res_2 resT resT) X6988 rfl rfl
  intro j6998 J6999
  refine lcase (i := 18) (show _ = Value.bool (decide (p6972 < 0)) from rfl) (fun k7000 => ?_) (fun k7000 => ?_)
  · refine lskip rfl rfl ?_
    refine lskip rfl rfl ?_
    refine lskip rfl rfl ?_
    refine lskip rfl rfl ?_
    refine lskip rfl rfl ?_
    refine lskip rfl rfl ?_
    refine lpure (v := .bool true) rfl (p_pick rfl) rfl rfl ?_
    refine Sim.of_eq (congrArg j6998 (show ((decide (p6972 < 0)) || (decide ((w64 (2 * (p6969.Links.length : Int))) ≤ p6972))) = true from by rw [k7000] <;> rfl)) ?_
    exact ljmpM J6999 true () (sub_cons rfl (sub_cons rfl (sub_cons rfl (sub_cons rfl (sub_cons rfl sub_nil))))) X6980
  refine lpure (v := .int .i64 p6972) rfl (p_move rfl) rfl rfl ?_
  refine lpure (v := .pointer (some ⟨b6977, 2, none⟩)) rfl (p_fa fo_29_2 rfl) rfl rfl ?_
  refine lread (v := .slice a6971 n6971 c6971) rfl (q_load wd_27 rfl) (St.ld X6980 (j := 0) rfl rfl) rfl ?_
  refine lpure (v := .int .i64 (p6969.Links.length : Int)) rfl (p_len rfl rfl rfl un_27 rfl) (RSl.lenC H6971) rfl ?_
  refine lpure (v := .int .i64 (w64 (2 * (p6969.Links.length : Int)))) rfl (p_mul rfl) rfl rfl ?_
  refine lpure (v := .bool (decide ((w64 (2 * (p6969.Links.length : Int))) ≤ p6972))) rfl (p_ge rfl) rfl rfl ?_
  refine lpure (v := .bool (decide ((w64 (2 * (p6969.Links.length : Int))) ≤ p6972))) rfl (p_pick rfl) rfl rfl ?_
  refine Sim.of_eq (congrArg j6998 (show ((decide (p6972 < 0)) || (decide ((w64 (2 * (p6969.Links.length : Int))) ≤ p6972))) = (decide ((w64 (2 * (p6969.Links.length : Int))) ≤ p6972)) from by rw [k7000] <;> rfl)) ?_
  exact ljmpM J6999 (decide ((w64 (2 * (p6969.Links.length : Int))) ≤ p6972)) () (sub_cons rfl (sub_cons rfl (sub_cons rfl (sub_cons rfl (sub_cons rfl sub_nil))))) X6980
/-! (isochron/route.walk).from -/
theorem f70_ok {n : Nat} {φ : Fz} {lo : Nat} {h : Heap} {own : OwnL}  {a6962 : Option Addr} {n6962 c6962 : Nat} {a6963 : Option Addr} {n6963 c6963 : Nat} (X : St φ lo h (own)) (p6961 : RouteWalk) (p6964 : Int) (H6962 : RSl eBool φ (.slice a6962 n6962 c6962) p6961.Topo.Station) (H6963 : RSl eApiLink φ (.slice a6963 n6963 c6963) p6961.Topo.Links) : Sim ((recN Try.prog LL cutF (n + 9)).call 70 #[(.agg #[.int .i64 p6961.Topo.Nodes, .slice a6962 n6962 c6962, .slice a6963 n6963 c6963]), (.int .i64 p6964)] h) (m_route_walk_from p6961 p6964) (fun (d : Int) p => p = (.int .i64 d, h)) := by
  refine fcut Try.func70 rfl rfl rfl rfl X ?_
  intro h0 X0
  refine dseq (dreg ?_)
  refine lbox rfl rfl rfl rfl rfl X0 (fun b6965 h6967 X6968 => ?_)
  refine lpure (v := .int .i64 0) rfl (p_assign rfl) rfl rfl ?_
  refine lend (nseq (dseq (dreg ?_)))
  refine lpure (v := .pointer (some ⟨b6965, 0, none⟩)) rfl (p_fa fo_87_0 rfl) rfl rfl ?_
  refine lread (v := .agg #[.int .i64 p6961.Topo.Nodes, .slice a6962 n6962 c6962, .slice a6963 n6963 c6963]) rfl (q_load wd_29 rfl) (St.ld X6968 (j := 0) rfl rfl) rfl ?_
  refine lpure (v := .int .i64 p6964) rfl (p_move rfl) rfl rfl ?_
  refine lcall rfl rfl ca_11 rfl rfl (f11_ok X6968 (p6961.Topo) p6964 H6962 H6963) rfl (fun e7001 v7002 h7003 hq7004 => ?_)
  cases hq7004
  refine lpure (v := .tuple #[.int .i64 e7001.1, .int .i64 e7001.2]) rfl (p_move rfl) rfl rfl ?_
  refine lpure (v := .int .i64 e7001.1) rfl (p_extract rfl) rfl rfl ?_
  refine lpure (v := .int .i64 e7001.2) rfl (p_extract rfl) rfl rfl ?_
  refine lpure (v := .int .i64 e7001.1) rfl (p_assign rfl) rfl rfl ?_
  refine lpure (v := .int .i64 e7001.2) rfl (p_assign rfl) rfl rfl ?_
  refine lend (nseq (dseq (dreg ?_)))
  refine lpure (v := .int .i64 e7001.1) rfl (p_move rfl) rfl rfl ?_
  refine lpure (v := .int .i64 e7001.1) rfl (p_assign rfl) rfl rfl ?_
  refine lend (nseq (dret ?_))
  exact kcut_r (res_1 resT) X6968 rfl rfl
/-! isochron/topo.To -/
theorem f12_ok {n : Nat} {φ : Fz} {lo : Nat} {h : Heap} {own : OwnL}  {a7055 : Option Addr} {n7055 c7055 : Nat} {a7056 : Option Addr} {n7056 c7056 : Nat} (X : St φ lo h (own)) (p7054 : ApiTopo) (p7057 : Int) (H7055 : RSl eBool φ (.slice a7055 n7055 c7055) p7054.Station) (H7056 : RSl eApiLink φ (.slice a7056 n7056 c7056) p7054.Links) : Sim ((recN Try.prog LL cutF (n + 8)).call 12 #[(.agg #[.int .i64 p7054.Nodes, .slice a7055 n7055 c7055, .slice a7056 n7056 c7056]), (.int .i64 p7057)] h) (m_topo_To p7054 p7057) (fun (d : (Int × Int)) p => p = (.tuple #[.int .i64 d.1, .int .i64 d.2], h)) := by
  refine fcut Try.func12 rfl rfl rfl rfl X ?_
  intro h0 X0
  refine dseq (dreg ?_)
  refine lbox rfl rfl rfl rfl rfl X0 (fun b7058 h7060 X7061 => ?_)
  refine lpure (v := .int .i64 0) rfl (p_assign rfl) rfl rfl ?_
  refine lpure (v := .int .i64 0) rfl (p_assign rfl) rfl rfl ?_
  refine lend (nseq (dseq (dreg ?_)))
  refine lread (v := .agg #[.int .i64 p7054.Nodes, .slice a7055 n7055 c7055, .slice a7056 n7056 c7056]) rfl (q_load wd_29 rfl) (St.ld X7061 (j := 0) rfl rfl) rfl ?_
  refine lpure (v := .int .i64 p7057) rfl (p_move rfl) rfl rfl ?_
  refine linl rfl rfl rfl rfl ca_43 rfl Try.func43 rfl rfl rfl rfl rfl ?_
  refine dseq (dreg ?_)
  refine lbox rfl rfl rfl rfl rfl X7061 (fun b7062 h7064 X7065 => ?_)
  refine lpure (v := .int .i64 0) rfl (p_assign rfl) rfl rfl ?_
  refine lpure (v := .int .i64 0) rfl (p_assign rfl) rfl rfl ?_
  refine lend (nseq (dseq (dreg ?_)))
  refine lpure (v := .int .i64 0) rfl (p_assign rfl) rfl rfl ?_
  refine lend (nseq (dseq (dseq (dreg ?_))))
  refine lread (v := .agg #[.int .i64 p7054.Nodes, .slice a7055 n7055 c7055, .slice a7056 n7056 c7056]) rfl (q_load wd_29 rfl) (St.ld X7065 (j := 0) rfl rfl) rfl ?_
  refine lcall rfl rfl ca_9 rfl rfl (f9_ok X7065 p7054 H7055 H7056) rfl (fun e7066 v7067 h7068 hq7069 => ?_)
  cases hq7069
  refine lpure (v := .int .i64 e7066) rfl (p_assign rfl) rfl rfl ?_
  refine lend (nseq (dseq (dreg ?_)))
  refine lpure (v := .int .i64 e7066) rfl (p_move rfl) rfl rfl ?_
  refine lpure (v := .bool (decide (e7066 ≠ 0))) rfl (p_ne rfl) rfl rfl ?_
  refine lend (nseq ?_)
  refine dcond rfl rfl (fun k7070 => ?_) (fun k7070 => ?_)
  · refine dseq (dreg ?_)
    refine lpure (v := .int .i64 0) rfl (p_move rfl) rfl rfl ?_
    refine lpure (v := .int .i64 e7066) rfl (p_move rfl) rfl rfl ?_
    refine lpure (v := .int .i64 0) rfl (p_assign rfl) rfl rfl ?_
    refine lpure (v := .int .i64 e7066) rfl (p_assign rfl) rfl rfl ?_
    refine lend (nseq (dret (rseq ?_)))
    refine kin_r (res_2 resT resT) ?_
    refine lpure (v := .int .i64 0) rfl (p_extract rfl) rfl rfl ?_
    refine lpure (v := .int .i64 e7066) rfl (p_extract rfl) rfl rfl ?_
    refine lpure (v := .int .i64 0) rfl (p_assign rfl) rfl rfl ?_
    refine lpure (v := .int .i64 e7066) rfl (p_assign rfl) rfl rfl ?_
    refine lend (nseq (dret ?_))
    exact kcut_r (res_2 resT resT) X7065 rfl rfl
  refine dskip (nseq (dseq (dseq (dreg ?_))))
  refine lpure (v := .int .i64 p7057) rfl (p_move rfl) rfl rfl ?_
  refine lpure (v := .bool (decide (p7057 < 0))) rfl (p_lt rfl) rfl rfl ?_
  refine lpure (v := .bool (decide (p7057 < 0))) rfl (p_move rfl) rfl rfl ?_
  refine lsh (τ := Bool) (σ := Unit) (fun s7072 (_ : Unit) => [(1, .int .i64 p7057), (2, .func (.func 44) #[] #[]), (3, .pointer (some ⟨b7062, 0, none⟩)), (8, .int .i64 0), (25, .bool s7072)]) (fun s7072 (_ : Unit) hh => St φ h.n hh ([(some b7062, .cells [.int .i64 p7054.Nodes, .slice a7055 n7055 c7055, .slice a7056 n7056 c7056] 29 .exact), (some b7058, .cells [.int .i64 p7054.Nodes, .slice a7055 n7055 c7055, .slice a7056 n7056 c7056] 29 .exact)])) 7 ?_ ?_
  · rintro s7072 _ t0 h7074 X7073
    refine lend (nseq ?_)
    refine dcond rfl rfl (fun k7075 => ?_) (fun k7075 => ?_)
    · refine dseq (dreg ?_)
      refine lpure (v := .int .i64 0) rfl (p_move rfl) rfl rfl ?_
      refine lpure (v := .int .i64 0) rfl (p_assign rfl) rfl rfl ?_
      refine lpure (v := .int .i64 2) rfl (p_assign rfl) rfl rfl ?_
      refine lend (nseq (dret (rseq ?_)))
      refine kin_r (res_2 resT resT) ?_
      refine lpure (v := .int .i64 0) rfl (p_extract rfl) rfl rfl ?_
      refine lpure (v := .int .i64 2) rfl (p_extract rfl) rfl rfl ?_
      refine lpure (v := .int .i64 0) rfl (p_assign rfl) rfl rfl ?_
      refine lpure (v := .int .i64 2) rfl (p_assign rfl) rfl rfl ?_
      refine lend (nseq (dret ?_))
      exact kcut_r (res_2 resT resT) X7073 rfl rfl
    refine dskip (nseq (dseq (dreg ?_)))
    refine lpure (v := .func (.func 44) #[] #[]) rfl (p_move rfl) rfl rfl ?_
    refine lpure (v := .pointer (some ⟨b7062, 2, none⟩)) rfl (p_fa fo_29_2 rfl) rfl rfl ?_
    refine lread (v := .slice a7056 n7056 c7056) rfl (q_load wd_27 rfl) (St.ld X7073 (j := 0) rfl rfl) rfl ?_
    refine lpure (v := .int .i64 p7057) rfl (p_move rfl) rfl rfl ?_
    refine lpure (v := .int .i64 (w64 (Int.tdiv p7057 2))) rfl (p_quo rfl) rfl rfl ?_
    refine Sim.bindM fun e7076 he7077 => ?_
    obtain ⟨p7078, cs7078, hp7078, hF7078, hR7078⟩ := RSl.ia H7056 he7077 (kd := .i64) (n := 4) rfl
    obtain rfl := eApiLink_el hR7078
    refine lpure (v := p7078) rfl (p_ia rs_27 rfl) hp7078 rfl ?_
    refine lread (v := .agg #[.int .i64 e7076.A, .int .i64 e7076.B, .int .i64 e7076.Per, .int .i64 e7076.Delay]) rfl (q_load wd_75 rfl) (FP.ldw X7073 hF7078 rfl rfl) rfl ?_
    refine lpure (v := .int .i64 p7057) rfl (p_move rfl) rfl rfl ?_
    refine lpure (v := .agg #[.int .i64 e7076.A, .int .i64 e7076.B, .int .i64 e7076.Per, .int .i64 e7076.Delay, .int .i64 p7057]) rfl (p_build rfl) (build_st' tz_77 pl_77 rfl) rfl ?_
    refine lcallv rfl rfl rfl rfl ca_44 rfl rfl (f44_ok X7073 ((TopoEnd.mk e7076 p7057))) rfl (fun e7079 v7080 h7081 hq7082 => ?_)
    cases hq7082
    refine lpure (v := .int .i64 e7079) rfl (p_assign rfl) rfl rfl ?_
    refine lpure (v := .int .i64 0) rfl (p_assign rfl) rfl rfl ?_
    refine lend (nseq (dret ?_))
    refine kin_r (res_2 resT resT) ?_
    refine lpure (v := .int .i64 e7079) rfl (p_extract rfl) rfl rfl ?_
    refine lpure (v := .int .i64 0) rfl (p_extract rfl) rfl rfl ?_
    refine lpure (v := .int .i64 e7079) rfl (p_assign rfl) rfl rfl ?_
    refine lpure (v := .int .i64 0) rfl (p_assign rfl) rfl rfl ?_
    refine lend (nseq (dret ?_))
    exact kcut_r (res_2 resT resT) X7073 rfl rfl
  intro j7083 J7084
  refine lcase (i := 18) (show _ = Value.bool (decide (p7057 < 0)) from rfl) (fun k7085 => ?_) (fun k7085 => ?_)
  · refine lskip rfl rfl ?_
    refine lskip rfl rfl ?_
    refine lskip rfl rfl ?_
    refine lskip rfl rfl ?_
    refine lskip rfl rfl ?_
    refine lskip rfl rfl ?_
    refine lpure (v := .bool true) rfl (p_pick rfl) rfl rfl ?_
    refine Sim.of_eq (congrArg j7083 (show ((decide (p7057 < 0)) || (decide ((w64 (2 * (p7054.Links.length : Int))) ≤ p7057))) = true from by rw [k7085] <;> rfl)) ?_
    exact ljmpM J7084 true () (sub_cons rfl (sub_cons rfl (sub_cons rfl (sub_cons rfl (sub_cons rfl sub_nil))))) X7065
  refine lpure (v := .int .i64 p7057) rfl (p_move rfl) rfl rfl ?_
  refine lpure (v := .pointer (some ⟨b7062, 2, none⟩)) rfl (p_fa fo_29_2 rfl) rfl rfl ?_
  refine lread (v := .slice a7056 n7056 c7056) rfl (q_load wd_27 rfl) (St.ld X7065 (j := 0) rfl rfl) rfl ?_
  refine lpure (v := .int .i64 (p7054.Links.length : Int)) rfl (p_len rfl rfl rfl un_27 rfl) (RSl.lenC H7056) rfl ?_
  refine lpure (v := .int .i64 (w64 (2 * (p7054.Links.length : Int)))) rfl (p_mul rfl) rfl rfl ?_
  refine lpure (v := .bool (decide ((w64 (2 * (p7054.Links.length : Int))) ≤ p7057))) rfl (p_ge rfl) rfl rfl ?_
  refine lpure (v := .bool (decide ((w64 (2 * (p7054.Links.length : Int))) ≤ p7057))) rfl (p_pick rfl) rfl rfl ?_
  refine Sim.of_eq (congrArg j7083 (show ((decide (p7057 < 0)) || (decide ((w64 (2 * (p7054.Links.length : Int))) ≤ p7057))) = (decide ((w64 (2 * (p7054.Links.length : Int))) ≤ p7057)) from by rw [k7085] <;> rfl)) ?_
  exact ljmpM J7084 (decide ((w64 (2 * (p7054.Links.length : Int))) ≤ p7057)) () (sub_cons rfl (sub_cons rfl (sub_cons rfl (sub_cons rfl (sub_cons rfl sub_nil))))) X7065
/-! (isochron/route.walk).valid -/
theorem f52_ok {n : Nat} {φ : Fz} {lo : Nat} {h : Heap} {own : OwnL}  {a6857 : Option Addr} {n6857 c6857 : Nat} {a6858 : Option Addr} {n6858 c6858 : Nat} {a6860 : Option Addr} {n6860 c6860 : Nat} (X : St φ lo h (own)) (p6856 : RouteWalk) (p6859 : (List Int)) (H6857 : RSl eBool φ (.slice a6857 n6857 c6857) p6856.Topo.Station) (H6858 : RSl eApiLink φ (.slice a6858 n6858 c6858) p6856.Topo.Links) (H6860 : RSl (eInt .i64) φ (.slice a6860 n6860 c6860) p6859) : Sim ((recN Try.prog LL cutF (n + 12)).call 52 #[(.agg #[.int .i64 p6856.Topo.Nodes, .slice a6857 n6857 c6857, .slice a6858 n6858 c6858]), (.slice a6860 n6860 c6860)] h) (m_route_walk_valid p6856 p6859) (fun (d : Bool) p => p = (.bool d, h)) := by
  refine fcut Try.func52 rfl rfl rfl rfl X ?_
  intro h0 X0
  refine dseq (dreg ?_)
  refine lbox rfl rfl rfl rfl rfl X0 (fun b6861 h6863 X6864 => ?_)
  refine lbox rfl rfl rfl rfl rfl X6864 (fun b6865 h6867 X6868 => ?_)
  refine lpure (v := .bool false) rfl (p_assign rfl) rfl rfl ?_
  refine lend (nseq (dscope (dseq (dseq (dreg ?_)))))
  refine lread (v := .slice a6860 n6860 c6860) rfl (q_load wd_42 rfl) (St.ld X6868 (j := 0) rfl rfl) rfl ?_
  refine lpure (v := .int .i64 (p6859.length : Int)) rfl (p_len rfl rfl rfl un_42 rfl) (RSl.lenC H6860) rfl ?_
  refine lpure (v := .bool (decide ((p6859.length : Int) < 1))) rfl (p_lt rfl) rfl rfl ?_
  refine lpure (v := .bool (decide ((p6859.length : Int) < 1))) rfl (p_move rfl) rfl rfl ?_
  refine lsh (τ := Bool) (σ := Unit) (fun s6870 (_ : Unit) => [(2, .pointer (some ⟨b6861, 0, none⟩)), (3, .pointer (some ⟨b6865, 0, none⟩)), (15, .bool s6870)]) (fun s6870 (_ : Unit) hh => St φ h.n hh ([(some b6865, .cells [.slice a6860 n6860 c6860] 42 .exact), (some b6861, .cells [.int .i64 p6856.Topo.Nodes, .slice a6857 n6857 c6857, .slice a6858 n6858 c6858] 87 .exact)])) 4 ?_ ?_
  · rintro s6870 _ t0 h6872 X6871
    refine lpure (v := .bool s6870) rfl (p_move rfl) rfl rfl ?_
    refine ljoinM (τ := Bool) (σ := Unit) (fun s6937 (_ : Unit) => [(2, .pointer (some ⟨b6861, 0, none⟩)), (3, .pointer (some ⟨b6865, 0, none⟩)), (20, .bool s6937)]) (fun s6937 (_ : Unit) hh => St φ h.n hh ([(some b6865, .cells [.slice a6860 n6860 c6860] 42 .exact), (some b6861, .cells [.int .i64 p6856.Topo.Nodes, .slice a6857 n6857 c6857, .slice a6858 n6858 c6858] 87 .exact)])) 4 ?_ ?_
    · rintro s6937 _ t0 h6939 X6938
      refine lend (nseq ?_)
      refine dcond rfl rfl (fun k6940 => ?_) (fun k6940 => ?_)
      · refine dseq (dreg ?_)
        refine lpure (v := .bool false) rfl (p_assign rfl) rfl rfl ?_
        refine lend (nseq (dret (rseq (rscope ?_))))
        exact kcut_r (res_1 resT) X6938 rfl rfl
      refine dskip (nseq (dseq (dreg ?_)))
      refine lalloc rfl tz_33 rfl rfl rfl X6938 (fun b6941 h6943 X6944 => ?_)
      refine lend (nseq (dseq (dlabel (nseq (dseq (dseq (dreg ?_)))))))
      refine lread (v := .agg #[.int .i64 p6856.Topo.Nodes, .slice a6857 n6857 c6857, .slice a6858 n6858 c6858]) rfl (q_load wd_87 rfl) (St.ld X6944 (j := 2) rfl rfl) rfl ?_
      refine lread (v := .slice a6860 n6860 c6860) rfl (q_load wd_42 rfl) (St.ld X6944 (j := 1) rfl rfl) rfl ?_
      refine linl rfl rfl rfl rfl ca_98 rfl Try.func98 rfl rfl rfl rfl rfl ?_
      refine dseq (dreg ?_)
      refine lbox rfl rfl rfl rfl rfl X6944 (fun b6945 h6947 X6948 => ?_)
      refine lbox rfl rfl rfl rfl rfl X6948 (fun b6949 h6951 X6952 => ?_)
      refine lpure (v := .nilFunc) rfl (p_assign rfl) rfl rfl ?_
      refine lend (nseq (dseq (dreg ?_)))
      refine lpure (v := .func (.func 115) #[] #[.pointer (some ⟨b6945, 0, none⟩), .pointer (some ⟨b6949, 0, none⟩)]) rfl (p_makeFunc rfl) rfl rfl ?_
      refine lpure (v := .func (.func 115) #[] #[.pointer (some ⟨b6945, 0, none⟩), .pointer (some ⟨b6949, 0, none⟩)]) rfl (p_assign rfl) rfl rfl ?_
      refine lend (nseq (dret ?_))
      refine kin_r (res_1 resT) ?_
      refine lend (nseq (dblock ?_))
      refine drange rfl rfl ca_115 Try.func115 rfl rfl X6952 (fun _ => rfl) ?_
      intro l6953 q6954 df6955 h6957 Q6956 X6958
      refine dseq (dreg ?_)
      refine lread (v := .agg #[.int .i64 p6856.Topo.Nodes, .slice a6857 n6857 c6857, .slice a6858 n6858 c6858]) rfl (q_load wd_87 rfl) (St.ld X6958 (j := 3) rfl rfl) rfl ?_
      refine lpure (v := .func (.func 69) #[.agg #[.int .i64 p6856.Topo.Nodes, .slice a6857 n6857 c6857, .slice a6858 n6858 c6858]] #[]) rfl (p_makeFunc rfl) rfl rfl ?_
      refine lpure (v := .func (.func 69) #[.agg #[.int .i64 p6856.Topo.Nodes, .slice a6857 n6857 c6857, .slice a6858 n6858 c6858]] #[]) rfl (p_assign rfl) rfl rfl ?_
      refine lend (nseq (dseq (dseq ?_)))
      refine dgo_start (n := 8) rfl (by kernel_rfl) ?_
      refine gpure (v := .func (.yield l6953) #[] #[]) rfl (p_move rfl) (lo_t (and_tt (lo_own X6958 (j := 0) (o := 0) (s := none) (f := 0) rfl) rfl) rfl) rfl rfl ?_
      refine gload (v := .agg #[.int .i64 p6856.Topo.Nodes, .slice a6857 n6857 c6857, .slice a6858 n6858 c6858]) rfl (q_load wd_87 rfl) (St.ld X6958 (j := 3) rfl rfl) rfl ?_
      refine gload (v := .slice a6860 n6860 c6860) rfl (q_load wd_42 rfl) (St.ld X6958 (j := 2) rfl rfl) rfl ?_
      refine Sim.bindM fun e7005 he7006 => ?_
      obtain ⟨p7007, cs7007, hp7007, hF7007, hR7007⟩ := RSl.ia H6860 he7006 (kd := .i64) (n := 1) rfl
      have hR7007 : _ = [(.int .i64 e7005 : Value)] := hR7007
      subst hR7007
      refine gpure (v := p7007) rfl (p_ia rs_42 rfl) (lo_t (lo_sl X6958 H6860) (lo_c rfl)) hp7007 rfl ?_
      refine gload (v := .int .i64 e7005) rfl (q_load wd_3 rfl) (FP.ld X6958 hF7007) rfl ?_
      refine gwait rfl (still_call rfl rfl ca_70 rfl) rfl ?_
      refine dgo_skip ?_
      refine dgo_skip ?_
      refine gcall (m := 7) [false, false, false] (rk_cons (q_load wd_3 rfl) (FP.ld X6958 hF7007) (same_self 20 rfl) (rk_cons (q_load wd_42 rfl) (St.ld X6958 (j := 2) rfl rfl) (same_self 20 rfl) (rk_cons (q_load wd_87 rfl) (St.ld X6958 (j := 3) rfl rfl) (same_self 20 rfl) rk_nil))) rfl rfl rfl rfl rfl ca_70 rfl rfl (f70_ok X6958 p6856 e7005 H6857 H6858) rfl (fun e7008 v7009 h7010 hq7011 => ?_)
      cases hq7011
      refine dgo_skip ?_
      refine dgo_skip ?_
      refine dgo_skip ?_
      refine dgo_skip ?_
      refine dgo_skip ?_
      refine dgo_skip ?_
      refine gwait rfl (still_act rfl).1 rfl ?_
      refine dgo_skip ?_
      refine ground (m := 6) [] rk_nil rfl rfl rfl rfl rfl rfl rfl rfl rfl X6958 (j := 0) rfl Q6956 rfl rfl rfl rfl rfl (fun t7012 => ?_)
      refine dreg ?_
      refine lpure (v := .int .i64 e7008) rfl (p_assign rfl) rfl rfl ?_
      refine lend ?_
      refine basg X6958 (j := 0) rfl (fun h7013 X7014 => ?_)
      refine dblock (dseq (dreg ?_))
      refine lread (v := .slice none 0 0) rfl (q_load wd_33 rfl) (St.ld X7014 (j := 4) rfl rfl) rfl ?_
      refine lpure (v := .int .i64 0) rfl (p_len rfl rfl rfl un_33 rfl) rfl rfl ?_
      refine lpure (v := .int .i64 0) rfl (p_assign rfl) rfl rfl ?_
      refine lend (nseq (dseq (dseq ?_)))
      refine ddraw 0 0 268435456 (by kernel_rfl) ?_
      refine sload (v := .slice none 0 0) rfl rfl (q_load wd_33 rfl) (St.ld X7014 (j := 4) rfl rfl) (same_self 20 rfl) rfl ?_
      refine spure (v := .int .i64 e7008) rfl (p_move rfl) (lo_t rfl rfl) rfl rfl ?_
      refine scall (en := fun d => (.bool d)) rfl rfl ca_68 rfl rfl (f68_ok X7014 ([]) e7008 (.inl ⟨rfl, rfl⟩)) rfl (fun e7015 => ?_)
      refine spure (v := .bool e7015) rfl (p_move rfl) (lo_t rfl rfl) rfl rfl ?_
      refine sjoinM (τ := Bool) (σ := Unit) (fun s7021 (_ : Unit) => [(2, .pointer (some ⟨b6861, 0, none⟩)), (3, .pointer (some ⟨b6865, 0, none⟩)), (5, .pointer (some ⟨b6941, 0, none⟩)), (6, .int .i64 e7008), (7, .int .i64 0), (48, .bool s7021)]) (fun s7021 (_ : Unit) hh => St φ h.n hh ([(some l6953, bsy q6954), (none, .dead), (some b6949, .cells [.slice a6860 n6860 c6860] 42 .exact), (some b6945, .cells [.int .i64 p6856.Topo.Nodes, .slice a6857 n6857 c6857, .slice a6858 n6858 c6858] 87 .exact), (some b6941, .cells [.slice none 0 0] 33 .exact), (some b6865, .cells [.slice a6860 n6860 c6860] 42 .exact), (some b6861, .cells [.int .i64 p6856.Topo.Nodes, .slice a6857 n6857 c6857, .slice a6858 n6858 c6858] 87 .exact)])) 18 22 ?_ ?_
      · rintro s7021 _ t0 h7023 X7022
        refine spure (v := .bool s7021) rfl (p_move rfl) (lo_t rfl rfl) rfl rfl ?_
        refine sjoinM (τ := Bool) (σ := Unit) (fun s7026 (_ : Unit) => [(5, .pointer (some ⟨b6941, 0, none⟩)), (6, .int .i64 e7008), (66, .bool s7026)]) (fun s7026 (_ : Unit) hh => St φ h.n hh ([(some l6953, bsy q6954), (none, .dead), (some b6949, .cells [.slice a6860 n6860 c6860] 42 .exact), (some b6945, .cells [.int .i64 p6856.Topo.Nodes, .slice a6857 n6857 c6857, .slice a6858 n6858 c6858] 87 .exact), (some b6941, .cells [.slice none 0 0] 33 .exact), (some b6865, .cells [.slice a6860 n6860 c6860] 42 .exact), (some b6861, .cells [.int .i64 p6856.Topo.Nodes, .slice a6857 n6857 c6857, .slice a6858 n6858 c6858] 87 .exact)])) 17 40 ?_ ?_
        · rintro s7026 _ t0 h7028 X7027
          refine send ?_
          refine nseq ?_
          refine dcond rfl rfl (fun k7029 => ?_) (fun k7029 => ?_)
          · refine dexit (eseq (eblock rfl ?_))
            refine ernd X7027 (j := 0) rfl (fun h7030 X7031 => ?_)
            refine dgo_skip ?_
            refine dgo_skip ?_
            refine dgo_skip ?_
            refine dgo_skip ?_
            refine dgo_skip ?_
            refine dgo_skip ?_
            refine dgo_skip ?_
            refine gpure (v := .bool true) rfl (p_not rfl) (lo_t rfl rfl) rfl rfl ?_
            refine gend rk_nil ?_
            refine nseq (dcondT rfl rfl (dret (rseq ?_)))
            refine kin_r res_0 ?_
            refine rend_d X7031 (j := 0) rfl (.inr ⟨_, rfl, rfl⟩) (fun h7032 X7033 => ?_)
            refine xblock (nseq (dseq (dreg ?_)))
            refine lread (v := .slice none 0 0) rfl (q_load wd_33 rfl) (St.ld X7033 (j := 4) rfl rfl) rfl ?_
            refine lpure (v := .int .i64 0) rfl (p_len rfl rfl rfl un_33 rfl) rfl rfl ?_
            refine lread (v := .slice a6860 n6860 c6860) rfl (q_load wd_42 rfl) (St.ld X7033 (j := 5) rfl rfl) rfl ?_
            refine lpure (v := .int .i64 (p6859.length : Int)) rfl (p_len rfl rfl rfl un_42 rfl) (RSl.lenC H6860) rfl ?_
            refine lpure (v := .int .i64 (w64 ((p6859.length : Int) + 1))) rfl (p_add rfl) rfl rfl ?_
            refine lpure (v := .bool (decide (0 = (w64 ((p6859.length : Int) + 1))))) rfl (p_eq rfl) rfl rfl ?_
            refine lpure (v := .bool (decide (0 = (w64 ((p6859.length : Int) + 1))))) rfl (p_assign rfl) rfl rfl ?_
            refine lend (nseq (dret (rscope ?_)))
            exact kcut_r (res_1 resT) X7033 rfl rfl
          refine dskip (nseq (dreg ?_))
          refine lread (v := .slice none 0 0) rfl (q_load wd_33 rfl) (St.ld X7027 (j := 4) rfl rfl) rfl ?_
          refine lpure (v := .int .i64 e7008) rfl (p_move rfl) rfl rfl ?_
          obtain ⟨h7034, b7034, hv7034, X7034, O7034⟩ := OSl.lay (E := (eInt .i64)) (φ := φ) (cs := [.int .i64 e7008]) (l := [e7008]) (len := 1) (parts := [(0, .int .i64 e7008)]) un_33 ts_3 rfl rfl rfl tz_3 rfl rfl (show RowD (eInt .i64) φ [.int .i64 e7008] [e7008] from ⟨[.int .i64 e7008], _, rfl, rfl, rfl⟩) rfl rfl X7027
          refine lheap rfl (h_buildSlice rfl) hv7034 rfl ?_
          have X7037 := St.pick X7034 (.none .dead (.refl _))
          obtain ⟨ws7038, hw7038⟩ := OSl.read O7034 X7037 (k := 1) rfl (n := 1) rfl
          refine Sim.mustM fun k7038 => ?_
          obtain ⟨h7038, a7038, c7038, ob7038, blk7038, hv7038, X7038, O7038⟩ := OSl.append (show OSl (eInt .i64) φ 3 none .dead (.slice none 0 0) [] from OSl.nil) X7037 (j := 0) rfl hw7038 k7038 (ts := #[33, 33]) rfl un_33 (argOk_of ax_33_33) ts_3 rfl rfl tb_3 rfl tz_3 rfl
          refine lheap rfl (h_builtin rfl rfl) hv7038 rfl ?_
          refine lstore rfl ts_33 rfl rfl (j := 6) rfl rfl rfl rfl rfl rfl X7038 (fun h7039 X7040 => ?_)
          refine lend (nblock ?_)
          refine nrnd X7040 (j := 2) rfl (fun h7041 X7042 => ?_)
          refine dgo_skip ?_
          refine dgo_skip ?_
          refine dgo_skip ?_
          refine dgo_skip ?_
          refine dgo_skip ?_
          refine dgo_skip ?_
          refine dgo_skip ?_
          refine gpure (v := .bool false) rfl (p_not rfl) (lo_t rfl rfl) rfl rfl ?_
          refine gend rk_nil ?_
          refine nseq (dcondF rfl rfl (dskip (nseq (dseq (dreg ?_)))))
          refine lread (v := .slice a6860 n6860 c6860) rfl (q_load wd_42 rfl) (St.ld X7042 (j := 4) rfl rfl) rfl ?_
          refine lpure (v := .int .i64 (p6859.length : Int)) rfl (p_len rfl rfl rfl un_42 rfl) (RSl.lenC H6860) rfl ?_
          refine lpure (v := .int .i64 0) rfl (p_move rfl) rfl rfl ?_
          refine lend (nseq (dblock ?_))
          refine dloopM (τ := Int × (List Int)) (σ := Option Addr × Nat × Nat × Option Nat × Blk) (fun s7254 (a7255, n7255, c7255, ob7255, blk7255) => [(0, .func (.yield l6953) #[] #[]), (4, .func (.func 69) #[.agg #[.int .i64 p6856.Topo.Nodes, .slice a6857 n6857 c6857, .slice a6858 n6858 c6858]] #[]), (17, .slice a6860 n6860 c6860), (18, .int .i64 (p6859.length : Int)), (19, .int .i64 s7254.1)]) (fun s7254 (a7255, n7255, c7255, ob7255, blk7255) hh => St φ h.n hh ([(ob7255, blk7255), (some b7034, (.cells [.int .i64 e7008] 3 .exact)), (some l6953, rdy q6954), (none, .dead), (some b6949, .cells [.slice a6860 n6860 c6860] 42 .exact), (some b6945, .cells [.int .i64 p6856.Topo.Nodes, .slice a6857 n6857 c6857, .slice a6858 n6858 c6858] 87 .exact), (some b6941, .cells [.slice a7255 n7255 c7255] 33 .exact), (some b6865, .cells [.slice a6860 n6860 c6860] 42 .exact), (some b6861, .cells [.int .i64 p6856.Topo.Nodes, .slice a6857 n6857 c6857, .slice a6858 n6858 c6858] 87 .exact)]) ∧ OSl (eInt .i64) φ 3 ob7255 blk7255 (.slice a7255 n7255 c7255) s7254.2) (0, (([] : List Int) ++ ([e7008]))) (a7038, (([] : List Int).length + ([e7008]).length), c7038, ob7038, blk7038) (sub_cons rfl (sub_cons rfl (sub_cons rfl (sub_cons rfl (sub_cons rfl sub_nil))))) ⟨(St.pick X7042 (.keep _ (.keep _ (.keep _ (.none _ (.skip _ (.keep _ (.keep _ (.keep _ (.keep _ (.keep _ (.nil _)))))))))))), O7038⟩ ?_
          rintro n7346 ih7345 s7254 ⟨a7255, n7255, c7255, ob7255, blk7255⟩ t0 h7348 ⟨X7347, O7255⟩
          refine dseq (dreg ?_)
          refine lpure (v := .bool (decide (s7254.1 < (p6859.length : Int)))) rfl (p_lt rfl) rfl rfl ?_
          refine lend (nseq (dseq ?_))
          refine dcond rfl rfl (fun k7349 => ?_) (fun k7349 => ?_)
          · refine dskip (nseq (dseq (dblock (dseq (dreg ?_)))))
            refine Sim.bindM fun e7350 he7351 => ?_
            obtain ⟨p7352, cs7352, hp7352, hF7352, hR7352⟩ := RSl.ia H6860 he7351 (kd := .i64) (n := 1) rfl
            have hR7352 : _ = [(.int .i64 e7350 : Value)] := hR7352
            subst hR7352
            refine lpure (v := p7352) rfl (p_ia rs_42 rfl) hp7352 rfl ?_
            refine lread (v := .int .i64 e7350) rfl (q_load wd_3 rfl) (FP.ld X7347 hF7352) rfl ?_
            refine lpure (v := .int .i64 e7350) rfl (p_assign rfl) rfl rfl ?_
            refine lend (nseq (dseq (dreg ?_)))
            refine lpure (v := .func (.yield l6953) #[] #[]) rfl (p_move rfl) rfl rfl ?_
            refine lpure (v := .func (.func 69) #[.agg #[.int .i64 p6856.Topo.Nodes, .slice a6857 n6857 c6857, .slice a6858 n6858 c6858]] #[]) rfl (p_move rfl) rfl rfl ?_
            refine lpure (v := .int .i64 e7350) rfl (p_move rfl) rfl rfl ?_
            refine linl rfl rfl rfl rfl ca_69 rfl Try.func69 rfl rfl rfl rfl rfl ?_
            refine dseq (dreg ?_)
            refine lbox rfl rfl rfl rfl rfl X7347 (fun b7353 h7355 X7356 => ?_)
            refine lpure (v := .int .i64 0) rfl (p_assign rfl) rfl rfl ?_
            refine lend (nseq (dseq (dreg ?_)))
            refine lpure (v := .pointer (some ⟨b7353, 0, none⟩)) rfl (p_fa fo_87_0 rfl) rfl rfl ?_
            refine lread (v := .agg #[.int .i64 p6856.Topo.Nodes, .slice a6857 n6857 c6857, .slice a6858 n6858 c6858]) rfl (q_load wd_29 rfl) (St.ld X7356 (j := 0) rfl rfl) rfl ?_
            refine lpure (v := .int .i64 e7350) rfl (p_move rfl) rfl rfl ?_
            refine lcall rfl rfl ca_12 rfl rfl (f12_ok X7356 (p6856.Topo) e7350 H6857 H6858) rfl (fun e7357 v7358 h7359 hq7360 => ?_)
            cases hq7360
            refine lpure (v := .tuple #[.int .i64 e7357.1, .int .i64 e7357.2]) rfl (p_move rfl) rfl rfl ?_
            refine lpure (v := .int .i64 e7357.1) rfl (p_extract rfl) rfl rfl ?_
            refine lpure (v := .int .i64 e7357.2) rfl (p_extract rfl) rfl rfl ?_
            refine lpure (v := .int .i64 e7357.1) rfl (p_assign rfl) rfl rfl ?_
            refine lpure (v := .int .i64 e7357.2) rfl (p_assign rfl) rfl rfl ?_
            refine lend (nseq (dseq (dreg ?_)))
            refine lpure (v := .int .i64 e7357.1) rfl (p_move rfl) rfl rfl ?_
            refine lpure (v := .int .i64 e7357.1) rfl (p_assign rfl) rfl rfl ?_
            refine lend (nseq (dret ?_))
            refine kin_r (res_1 resT) ?_
            refine lround rfl rfl rfl rfl rfl rfl X7356 (j := 3) rfl Q6956 rfl rfl rfl rfl rfl (fun t7361 => ?_)
            refine dreg ?_
            refine lpure (v := .int .i64 e7357.1) rfl (p_assign rfl) rfl rfl ?_
            refine lend ?_
            refine basg X7356 (j := 3) rfl (fun h7362 X7363 => ?_)
            refine dblock (dseq (dreg ?_))
            refine lread (v := .slice a7255 n7255 c7255) rfl (q_load wd_33 rfl) (St.ld X7363 (j := 7) rfl rfl) rfl ?_
            refine lpure (v := .int .i64 (s7254.2.length : Int)) rfl (p_len rfl rfl rfl un_33 rfl) (OSl.len O7255) rfl ?_
            refine lpure (v := .int .i64 (s7254.2.length : Int)) rfl (p_assign rfl) rfl rfl ?_
            refine lend (nseq (dseq (dseq ?_)))
            refine ddraw 0 0 268435456 (by kernel_rfl) ?_
            refine sload (v := .slice a7255 n7255 c7255) rfl rfl (q_load wd_33 rfl) (St.ld X7363 (j := 7) rfl rfl) (same_self 20 rfl) rfl ?_
            refine spure (v := .int .i64 e7357.1) rfl (p_move rfl) (lo_t rfl rfl) rfl rfl ?_
            obtain ⟨φ7364, g7365, X7366, H7367⟩ := OSl.freeze X7363 (j := 1) rfl O7255
            refine scall (en := fun d => (.bool d)) rfl rfl ca_68 rfl rfl (f68_ok X7366 (s7254.2) (e7357.1) H7367) rfl (fun e7368 => ?_)
            refine spure (v := .bool e7368) rfl (p_move rfl) (lo_t rfl rfl) rfl rfl ?_
            refine sjoinM (τ := Bool × (List Int)) (σ := Blk) (fun s7385 blk7386 => [(2, .pointer (some ⟨b6861, 0, none⟩)), (3, .pointer (some ⟨b6865, 0, none⟩)), (5, .pointer (some ⟨b6941, 0, none⟩)), (6, .int .i64 e7357.1), (7, .int .i64 (s7254.2.length : Int)), (48, .bool s7385.1)]) (fun s7385 blk7386 hh => St φ h.n hh ([(some b7353, .cells [.int .i64 p6856.Topo.Nodes, .slice a6857 n6857 c6857, .slice a6858 n6858 c6858] 87 .exact), (ob7255, blk7386), (some b7034, (.cells [.int .i64 e7008] 3 .exact)), (some l6953, bsy q6954), (none, .dead), (some b6949, .cells [.slice a6860 n6860 c6860] 42 .exact), (some b6945, .cells [.int .i64 p6856.Topo.Nodes, .slice a6857 n6857 c6857, .slice a6858 n6858 c6858] 87 .exact), (some b6941, .cells [.slice a7255 n7255 c7255] 33 .exact), (some b6865, .cells [.slice a6860 n6860 c6860] 42 .exact), (some b6861, .cells [.int .i64 p6856.Topo.Nodes, .slice a6857 n6857 c6857, .slice a6858 n6858 c6858] 87 .exact)]) ∧ OSl (eInt .i64) φ 3 ob7255 blk7386 (.slice a7255 n7255 c7255) s7385.2) 18 22 ?_ ?_
            · rintro s7385 blk7386 t0 h7388 ⟨X7387, O7386⟩
              refine spure (v := .bool s7385.1) rfl (p_move rfl) (lo_t rfl rfl) rfl rfl ?_
              refine sjoinM (τ := Bool) (σ := Unit) (fun s7396 (_ : Unit) => [(5, .pointer (some ⟨b6941, 0, none⟩)), (6, .int .i64 e7357.1), (66, .bool s7396)]) (fun s7396 (_ : Unit) hh => St φ h.n hh ([(some b7353, .cells [.int .i64 p6856.Topo.Nodes, .slice a6857 n6857 c6857, .slice a6858 n6858 c6858] 87 .exact), (ob7255, blk7386), (some b7034, (.cells [.int .i64 e7008] 3 .exact)), (some l6953, bsy q6954), (none, .dead), (some b6949, .cells [.slice a6860 n6860 c6860] 42 .exact), (some b6945, .cells [.int .i64 p6856.Topo.Nodes, .slice a6857 n6857 c6857, .slice a6858 n6858 c6858] 87 .exact), (some b6941, .cells [.slice a7255 n7255 c7255] 33 .exact), (some b6865, .cells [.slice a6860 n6860 c6860] 42 .exact), (some b6861, .cells [.int .i64 p6856.Topo.Nodes, .slice a6857 n6857 c6857, .slice a6858 n6858 c6858] 87 .exact)])) 17 40 ?_ ?_
              · rintro s7396 _ t0 h7398 X7397
                refine send ?_
                refine nseq ?_
                refine dcond rfl rfl (fun k7399 => ?_) (fun k7399 => ?_)
                · refine dexit (eseq (eblock rfl ?_))
                  refine ernd X7397 (j := 3) rfl (fun h7400 X7401 => ?_)
                  refine lpure (v := .bool true) rfl (p_not rfl) rfl rfl ?_
                  refine lend (nseq (dcondT rfl rfl (dret (rblock (rseq (rloop (rblock ?_)))))))
                  refine kin_r res_0 ?_
                  refine rend_d X7401 (j := 3) rfl (.inr ⟨_, rfl, rfl⟩) (fun h7402 X7403 => ?_)
                  refine xblock (nseq (dseq (dreg ?_)))
                  refine lread (v := .slice a7255 n7255 c7255) rfl (q_load wd_33 rfl) (St.ld X7403 (j := 7) rfl rfl) rfl ?_
                  refine lpure (v := .int .i64 (s7385.2.length : Int)) rfl (p_len rfl rfl rfl un_33 rfl) (OSl.len O7386) rfl ?_
                  refine lread (v := .slice a6860 n6860 c6860) rfl (q_load wd_42 rfl) (St.ld X7403 (j := 8) rfl rfl) rfl ?_
                  refine lpure (v := .int .i64 (p6859.length : Int)) rfl (p_len rfl rfl rfl un_42 rfl) (RSl.lenC H6860) rfl ?_
                  refine lpure (v := .int .i64 (w64 ((p6859.length : Int) + 1))) rfl (p_add rfl) rfl rfl ?_
                  refine lpure (v := .bool (decide ((s7385.2.length : Int) = (w64 ((p6859.length : Int) + 1))))) rfl (p_eq rfl) rfl rfl ?_
                  refine lpure (v := .bool (decide ((s7385.2.length : Int) = (w64 ((p6859.length : Int) + 1))))) rfl (p_assign rfl) rfl rfl ?_
                  refine lend (nseq (dret (rscope ?_)))
                  exact kcut_r (res_1 resT) X7403 rfl rfl
                refine dskip (nseq (dreg ?_))
                refine lread (v := .slice a7255 n7255 c7255) rfl (q_load wd_33 rfl) (St.ld X7397 (j := 7) rfl rfl) rfl ?_
                refine lpure (v := .int .i64 e7357.1) rfl (p_move rfl) rfl rfl ?_
                obtain ⟨h7404, b7404, hv7404, X7404, O7404⟩ := OSl.lay (E := (eInt .i64)) (φ := φ) (cs := [.int .i64 e7357.1]) (l := [e7357.1]) (len := 1) (parts := [(0, .int .i64 e7357.1)]) un_33 ts_3 rfl rfl rfl tz_3 rfl rfl (show RowD (eInt .i64) φ [.int .i64 e7357.1] [e7357.1] from ⟨[.int .i64 e7357.1], _, rfl, rfl, rfl⟩) rfl rfl X7397
                refine lheap rfl (h_buildSlice rfl) hv7404 rfl ?_
                obtain ⟨ws7406, hw7406⟩ := OSl.read O7404 X7404 (k := 0) rfl (n := 1) rfl
                refine Sim.mustM fun k7406 => ?_
                obtain ⟨h7406, a7406, c7406, ob7406, blk7406, hv7406, X7406, O7406⟩ := OSl.append O7386 X7404 (j := 2) rfl hw7406 k7406 (ts := #[33, 33]) rfl un_33 (argOk_of ax_33_33) ts_3 rfl rfl tb_3 rfl tz_3 rfl
                refine lheap rfl (h_builtin rfl rfl) hv7406 rfl ?_
                refine lstore rfl ts_33 rfl rfl (j := 8) rfl rfl rfl rfl rfl rfl X7406 (fun h7407 X7408 => ?_)
                refine lend (nblock ?_)
                refine nrnd X7408 (j := 4) rfl (fun h7409 X7410 => ?_)
                refine lpure (v := .bool false) rfl (p_not rfl) rfl rfl ?_
                refine lend (nseq (dcondF rfl rfl (dskip (nblock (nseq (dreg ?_))))))
                refine lpure (v := .int .i64 (w64 (s7254.1 + 1))) rfl (p_add rfl) rfl rfl ?_
                refine lpure (v := .int .i64 (w64 (s7254.1 + 1))) rfl (p_move rfl) rfl rfl ?_
                refine lend ?_
                exact kbackM ih7345 ((w64 (s7254.1 + 1)), (s7385.2 ++ ([e7357.1]))) (a7406, (s7385.2.length + ([e7357.1]).length), c7406, ob7406, blk7406) (sub_cons rfl (sub_cons rfl (sub_cons rfl (sub_cons rfl (sub_cons rfl sub_nil))))) ⟨(St.pick X7410 (.skip _ (.skip _ (.keep _ (.keep _ (.keep _ (.none _ (.skip _ (.keep _ (.keep _ (.keep _ (.keep _ (.keep _ (.nil _)))))))))))))), O7406⟩
              intro j7411 J7412
              refine sif (j := 49) (show _ = Value.bool s7385.1 from rfl) (fun k7413 => ?_) (fun k7413 => ?_)
              · refine sskip rfl rfl ?_
                refine sskip rfl rfl ?_
                refine sskip rfl rfl ?_
                refine sskip rfl rfl ?_
                refine sskip rfl rfl ?_
                refine sskip rfl rfl ?_
                refine sskip rfl rfl ?_
                refine sskip rfl rfl ?_
                refine sskip rfl rfl ?_
                refine sskip rfl rfl ?_
                refine sskip rfl rfl ?_
                refine sskip rfl rfl ?_
                refine sskip rfl rfl ?_
                refine sskip rfl rfl ?_
                refine sskip rfl rfl ?_
                refine sskip rfl rfl ?_
                refine spure (v := .bool true) rfl (p_pick rfl) (lo_t rfl (lo_c (lo_t rfl rfl))) rfl rfl ?_
                exact sjmpM J7412 true () (sub_cons rfl (sub_cons rfl (sub_cons rfl sub_nil))) (St.pick X7387 (.keep _ (.keep _ (.keep _ (.keep _ (.none _ (.skip _ (.keep _ (.keep _ (.keep _ (.keep _ (.keep _ (.nil _)))))))))))))
              refine spure (v := .int .i64 (s7254.2.length : Int)) rfl (p_move rfl) (lo_t rfl rfl) rfl rfl ?_
              refine spure (v := .bool (decide (0 < (s7254.2.length : Int)))) rfl (p_gt rfl) (lo_t rfl (lo_c rfl)) rfl rfl ?_
              refine spure (v := .bool (decide (0 < (s7254.2.length : Int)))) rfl (p_move rfl) (lo_t rfl rfl) rfl rfl ?_
              refine sif (j := 52) (show _ = Value.bool (decide (0 < (s7254.2.length : Int))) from rfl) (fun k7414 => ?_) (fun k7414 => ?_)
              · refine spure (v := .int .i64 (s7254.2.length : Int)) rfl (p_move rfl) (lo_t rfl rfl) rfl rfl ?_
                refine sload (v := .slice a6860 n6860 c6860) rfl rfl (q_load wd_42 rfl) (St.ld X7387 (j := 8) rfl rfl) (same_self 20 rfl) rfl ?_
                refine spure (v := .int .i64 (p6859.length : Int)) rfl (p_len rfl rfl rfl un_42 rfl) (lo_t (lo_sl X7387 H6860) rfl) (RSl.lenC H6860) rfl ?_
                refine spure (v := .bool (decide ((s7254.2.length : Int) < (p6859.length : Int)))) rfl (p_lt rfl) (lo_t rfl (lo_t rfl rfl)) rfl rfl ?_
                refine spure (v := .bool (decide ((s7254.2.length : Int) < (p6859.length : Int)))) rfl (p_pick rfl) (lo_t rfl (lo_t rfl (lo_c rfl))) rfl rfl ?_
                refine spure (v := .bool (decide ((s7254.2.length : Int) < (p6859.length : Int)))) rfl (p_move rfl) (lo_t rfl rfl) rfl rfl ?_
                refine sif (j := 58) (show _ = Value.bool (decide ((s7254.2.length : Int) < (p6859.length : Int))) from rfl) (fun k7415 => ?_) (fun k7415 => ?_)
                · refine spure (v := .pointer (some ⟨b6861, 0, none⟩)) rfl (p_fa fo_87_0 rfl) (lo_t (lo_own X7387 (j := 9) (o := 0) (s := none) (f := 0) rfl) rfl) rfl rfl ?_
                  refine spure (v := .pointer (some ⟨b6861, 1, none⟩)) rfl (p_fa fo_29_1 rfl) (lo_t (lo_own X7387 (j := 9) (o := 0) (s := none) (f := 0) rfl) rfl) rfl rfl ?_
                  refine sload (v := .slice a6857 n6857 c6857) rfl rfl (q_load wd_26 rfl) (St.ld X7387 (j := 9) rfl rfl) (same_self 20 rfl) rfl ?_
                  refine spure (v := .int .i64 e7357.1) rfl (p_move rfl) (lo_t rfl rfl) rfl rfl ?_
                  refine Sim.bindM fun e7416 he7417 => ?_
                  obtain ⟨p7418, cs7418, hp7418, hF7418, hR7418⟩ := RSl.ia H6857 he7417 (kd := .i64) (n := 1) rfl
                  have hR7418 : _ = [(.bool e7416 : Value)] := hR7418
                  subst hR7418
                  refine spure (v := p7418) rfl (p_ia rs_26 rfl) (lo_t (lo_sl X7387 H6857) (lo_t rfl rfl)) hp7418 rfl ?_
                  refine sload (v := .bool e7416) rfl rfl (q_load wd_4 rfl) (FP.ld X7387 hF7418) (same_self 20 rfl) rfl ?_
                  refine spure (v := .bool e7416) rfl (p_pick rfl) (lo_t rfl (lo_t rfl (lo_c rfl))) rfl rfl ?_
                  refine spure (v := .bool e7416) rfl (p_pick rfl) (lo_t rfl (lo_c (lo_t rfl rfl))) rfl rfl ?_
                  exact sjmpM J7412 e7416 () (sub_cons rfl (sub_cons rfl (sub_cons rfl sub_nil))) (St.pick X7387 (.keep _ (.keep _ (.keep _ (.keep _ (.none _ (.skip _ (.keep _ (.keep _ (.keep _ (.keep _ (.keep _ (.nil _)))))))))))))
                refine sskip rfl rfl ?_
                refine sskip rfl rfl ?_
                refine sskip rfl rfl ?_
                refine sskip rfl rfl ?_
                refine sskip rfl rfl ?_
                refine sskip rfl rfl ?_
                refine spure (v := .bool false) rfl (p_pick rfl) (lo_t rfl (lo_t rfl (lo_c rfl))) rfl rfl ?_
                refine spure (v := .bool false) rfl (p_pick rfl) (lo_t rfl (lo_c (lo_t rfl rfl))) rfl rfl ?_
                exact sjmpM J7412 false () (sub_cons rfl (sub_cons rfl (sub_cons rfl sub_nil))) (St.pick X7387 (.keep _ (.keep _ (.keep _ (.keep _ (.none _ (.skip _ (.keep _ (.keep _ (.keep _ (.keep _ (.keep _ (.nil _)))))))))))))
              refine sskip rfl rfl ?_
              refine sskip rfl rfl ?_
              refine sskip rfl rfl ?_
              refine sskip rfl rfl ?_
              refine spure (v := .bool false) rfl (p_pick rfl) (lo_t rfl (lo_t rfl (lo_c rfl))) rfl rfl ?_
              refine spure (v := .bool false) rfl (p_move rfl) (lo_t rfl rfl) rfl rfl ?_
              refine sskip rfl rfl ?_
              refine sskip rfl rfl ?_
              refine sskip rfl rfl ?_
              refine sskip rfl rfl ?_
              refine sskip rfl rfl ?_
              refine sskip rfl rfl ?_
              refine spure (v := .bool false) rfl (p_pick rfl) (lo_t rfl (lo_t rfl (lo_c rfl))) rfl rfl ?_
              refine spure (v := .bool false) rfl (p_pick rfl) (lo_t rfl (lo_c (lo_t rfl rfl))) rfl rfl ?_
              exact sjmpM J7412 false () (sub_cons rfl (sub_cons rfl (sub_cons rfl sub_nil))) (St.pick X7387 (.keep _ (.keep _ (.keep _ (.keep _ (.none _ (.skip _ (.keep _ (.keep _ (.keep _ (.keep _ (.keep _ (.nil _)))))))))))))
            intro j7419 J7420
            refine sif (j := 30) (show _ = Value.bool e7368 from rfl) (fun k7421 => ?_) (fun k7421 => ?_)
            · refine sskip rfl rfl ?_
              refine sskip rfl rfl ?_
              refine sskip rfl rfl ?_
              refine sskip rfl rfl ?_
              refine sskip rfl rfl ?_
              refine sskip rfl rfl ?_
              refine sskip rfl rfl ?_
              refine sskip rfl rfl ?_
              refine sskip rfl rfl ?_
              refine sskip rfl rfl ?_
              refine sskip rfl rfl ?_
              refine sskip rfl rfl ?_
              refine sskip rfl rfl ?_
              refine sskip rfl rfl ?_
              refine sskip rfl rfl ?_
              refine sskip rfl rfl ?_
              refine sskip rfl rfl ?_
              refine spure (v := .bool true) rfl (p_pick rfl) (lo_t rfl (lo_c (lo_t rfl rfl))) rfl rfl ?_
              exact sjmpM J7420 (true, s7254.2) blk7255 (sub_cons rfl (sub_cons rfl (sub_cons rfl (sub_cons rfl (sub_cons rfl (sub_cons rfl sub_nil)))))) ⟨(St.pick X7363 (.keep _ (.keep _ (.keep _ (.keep _ (.none _ (.skip _ (.keep _ (.keep _ (.keep _ (.keep _ (.keep _ (.nil _))))))))))))), O7255⟩
            refine spure (v := .int .i64 (s7254.2.length : Int)) rfl (p_move rfl) (lo_t rfl rfl) rfl rfl ?_
            refine spure (v := .bool (decide (0 < (s7254.2.length : Int)))) rfl (p_gt rfl) (lo_t rfl (lo_c rfl)) rfl rfl ?_
            refine spure (v := .bool (decide (0 < (s7254.2.length : Int)))) rfl (p_move rfl) (lo_t rfl rfl) rfl rfl ?_
            refine sif (j := 33) (show _ = Value.bool (decide (0 < (s7254.2.length : Int))) from rfl) (fun k7422 => ?_) (fun k7422 => ?_)
            · refine sload (v := .agg #[.int .i64 p6856.Topo.Nodes, .slice a6857 n6857 c6857, .slice a6858 n6858 c6858]) rfl rfl (q_load wd_87 rfl) (St.ld X7363 (j := 9) rfl rfl) (same_self 20 rfl) rfl ?_
              refine sload (v := .slice a6860 n6860 c6860) rfl rfl (q_load wd_42 rfl) (St.ld X7363 (j := 8) rfl rfl) (same_self 20 rfl) rfl ?_
              refine spure (v := .int .i64 (s7254.2.length : Int)) rfl (p_move rfl) (lo_t rfl rfl) rfl rfl ?_
              refine spure (v := .int .i64 (w64 ((s7254.2.length : Int) - 1))) rfl (p_sub rfl) (lo_t rfl (lo_c rfl)) rfl rfl ?_
              refine Sim.bindM fun e7423 he7424 => ?_
              obtain ⟨p7425, cs7425, hp7425, hF7425, hR7425⟩ := RSl.ia H6860 he7424 (kd := .i64) (n := 1) rfl
              have hR7425 : _ = [(.int .i64 e7423 : Value)] := hR7425
              subst hR7425
              refine spure (v := p7425) rfl (p_ia rs_42 rfl) (lo_t (lo_sl X7363 H6860) (lo_t rfl rfl)) hp7425 rfl ?_
              refine sload (v := .int .i64 e7423) rfl rfl (q_load wd_3 rfl) (FP.ld X7363 hF7425) (same_self 20 rfl) rfl ?_
              refine scall (en := fun d => (.int .i64 d)) rfl rfl ca_70 rfl rfl (f70_ok X7363 p6856 e7423 H6857 H6858) rfl (fun e7426 => ?_)
              refine sload (v := .slice a7255 n7255 c7255) rfl rfl (q_load wd_33 rfl) (St.ld X7363 (j := 7) rfl rfl) (same_self 20 rfl) rfl ?_
              refine spure (v := .int .i64 (s7254.2.length : Int)) rfl (p_move rfl) (lo_t rfl rfl) rfl rfl ?_
              refine spure (v := .int .i64 (w64 ((s7254.2.length : Int) - 1))) rfl (p_sub rfl) (lo_t rfl (lo_c rfl)) rfl rfl ?_
              refine Sim.bindM fun e7430 he7431 => ?_
              obtain ⟨b7432, vs7432, m7432, off7432, cs7432, rfl, rfl, hp7432, hc7432, hR7432, hl7432, hm7432, hs7432⟩ := OSl.ia O7255 he7431 (kd := .i64) (n := 1) rfl
              have hR7432 : _ = [(.int .i64 e7430 : Value)] := hR7432
              subst hR7432
              refine spure (v := .pointer (some ⟨b7432, off7432, none⟩)) rfl (p_ia rs_33 rfl) (lo_t (lo_osl X7363 (j := 1) rfl O7255) (lo_t rfl rfl)) hp7432 rfl ?_
              refine sload (v := .int .i64 e7430) rfl rfl (q_load wd_3 rfl) (St.ld X7363 (j := 1) rfl (rdE1 hc7432 (k := 0) rfl rfl)) (same_self 20 rfl) rfl ?_
              refine spure (v := .bool (decide (e7426 ≠ e7430))) rfl (p_ne rfl) (lo_t rfl (lo_t rfl rfl)) rfl rfl ?_
              refine spure (v := .bool (decide (e7426 ≠ e7430))) rfl (p_pick rfl) (lo_t rfl (lo_t rfl (lo_c rfl))) rfl rfl ?_
              refine spure (v := .bool (decide (e7426 ≠ e7430))) rfl (p_pick rfl) (lo_t rfl (lo_c (lo_t rfl rfl))) rfl rfl ?_
              exact sjmpM J7420 ((decide (e7426 ≠ e7430)), s7254.2) (.cells vs7432 3 m7432) (sub_cons rfl (sub_cons rfl (sub_cons rfl (sub_cons rfl (sub_cons rfl (sub_cons rfl sub_nil)))))) ⟨(St.pick X7363 (.keep _ (.keep _ (.keep _ (.keep _ (.none _ (.skip _ (.keep _ (.keep _ (.keep _ (.keep _ (.keep _ (.nil _))))))))))))), O7255⟩
            refine sskip rfl rfl ?_
            refine sskip rfl rfl ?_
            refine sskip rfl rfl ?_
            refine sskip rfl rfl ?_
            refine sskip rfl rfl ?_
            refine sskip rfl rfl ?_
            refine sskip rfl rfl ?_
            refine sskip rfl rfl ?_
            refine sskip rfl rfl ?_
            refine sskip rfl rfl ?_
            refine sskip rfl rfl ?_
            refine sskip rfl rfl ?_
            refine sskip rfl rfl ?_
            refine spure (v := .bool false) rfl (p_pick rfl) (lo_t rfl (lo_t rfl (lo_c rfl))) rfl rfl ?_
            refine spure (v := .bool false) rfl (p_pick rfl) (lo_t rfl (lo_c (lo_t rfl rfl))) rfl rfl ?_
            exact sjmpM J7420 (false, s7254.2) blk7255 (sub_cons rfl (sub_cons rfl (sub_cons rfl (sub_cons rfl (sub_cons rfl (sub_cons rfl sub_nil)))))) ⟨(St.pick X7363 (.keep _ (.keep _ (.keep _ (.keep _ (.none _ (.skip _ (.keep _ (.keep _ (.keep _ (.keep _ (.keep _ (.nil _))))))))))))), O7255⟩
          refine dexit (eseq (eloop (xblock ?_)))
          refine kin_n res_0 ?_
          refine rend_n X7347 (j := 2) rfl (fun h7433 X7434 => ?_)
          refine nblock (nseq (dseq (dreg ?_)))
          refine lread (v := .slice a7255 n7255 c7255) rfl (q_load wd_33 rfl) (St.ld X7434 (j := 6) rfl rfl) rfl ?_
          refine lpure (v := .int .i64 (s7254.2.length : Int)) rfl (p_len rfl rfl rfl un_33 rfl) (OSl.len O7255) rfl ?_
          refine lread (v := .slice a6860 n6860 c6860) rfl (q_load wd_42 rfl) (St.ld X7434 (j := 7) rfl rfl) rfl ?_
          refine lpure (v := .int .i64 (p6859.length : Int)) rfl (p_len rfl rfl rfl un_42 rfl) (RSl.lenC H6860) rfl ?_
          refine lpure (v := .int .i64 (w64 ((p6859.length : Int) + 1))) rfl (p_add rfl) rfl rfl ?_
          refine lpure (v := .bool (decide ((s7254.2.length : Int) = (w64 ((p6859.length : Int) + 1))))) rfl (p_eq rfl) rfl rfl ?_
          refine lpure (v := .bool (decide ((s7254.2.length : Int) = (w64 ((p6859.length : Int) + 1))))) rfl (p_assign rfl) rfl rfl ?_
          refine lend (nseq (dret (rscope ?_)))
          exact kcut_r (res_1 resT) X7434 rfl rfl
        intro j7435 J7436
        refine sif (j := 49) (show _ = Value.bool s7021 from rfl) (fun k7437 => ?_) (fun k7437 => ?_)
        · refine sskip rfl rfl ?_
          refine sskip rfl rfl ?_
          refine sskip rfl rfl ?_
          refine sskip rfl rfl ?_
          refine sskip rfl rfl ?_
          refine sskip rfl rfl ?_
          refine sskip rfl rfl ?_
          refine sskip rfl rfl ?_
          refine sskip rfl rfl ?_
          refine sskip rfl rfl ?_
          refine sskip rfl rfl ?_
          refine sskip rfl rfl ?_
          refine sskip rfl rfl ?_
          refine sskip rfl rfl ?_
          refine sskip rfl rfl ?_
          refine sskip rfl rfl ?_
          refine spure (v := .bool true) rfl (p_pick rfl) (lo_t rfl (lo_c (lo_t rfl rfl))) rfl rfl ?_
          exact sjmpM J7436 true () (sub_cons rfl (sub_cons rfl (sub_cons rfl sub_nil))) (St.pick X7022 (.keep _ (.none _ (.skip _ (.keep _ (.keep _ (.keep _ (.keep _ (.keep _ (.nil _))))))))))
        refine spure (v := .int .i64 0) rfl (p_move rfl) (lo_t rfl rfl) rfl rfl ?_
        refine spure (v := .bool false) rfl (p_gt rfl) (lo_t rfl (lo_c rfl)) rfl rfl ?_
        refine spure (v := .bool false) rfl (p_move rfl) (lo_t rfl rfl) rfl rfl ?_
        refine sskip rfl rfl ?_
        refine sskip rfl rfl ?_
        refine sskip rfl rfl ?_
        refine sskip rfl rfl ?_
        refine spure (v := .bool false) rfl (p_pick rfl) (lo_t rfl (lo_t rfl (lo_c rfl))) rfl rfl ?_
        refine spure (v := .bool false) rfl (p_move rfl) (lo_t rfl rfl) rfl rfl ?_
        refine sskip rfl rfl ?_
        refine sskip rfl rfl ?_
        refine sskip rfl rfl ?_
        refine sskip rfl rfl ?_
        refine sskip rfl rfl ?_
        refine sskip rfl rfl ?_
        refine spure (v := .bool false) rfl (p_pick rfl) (lo_t rfl (lo_t rfl (lo_c rfl))) rfl rfl ?_
        refine spure (v := .bool false) rfl (p_pick rfl) (lo_t rfl (lo_c (lo_t rfl rfl))) rfl rfl ?_
        exact sjmpM J7436 false () (sub_cons rfl (sub_cons rfl (sub_cons rfl sub_nil))) (St.pick X7022 (.keep _ (.none _ (.skip _ (.keep _ (.keep _ (.keep _ (.keep _ (.keep _ (.nil _))))))))))
      intro j7438 J7439
      refine sif (j := 30) (show _ = Value.bool e7015 from rfl) (fun k7440 => ?_) (fun k7440 => ?_)
      · refine sskip rfl rfl ?_
        refine sskip rfl rfl ?_
        refine sskip rfl rfl ?_
        refine sskip rfl rfl ?_
        refine sskip rfl rfl ?_
        refine sskip rfl rfl ?_
        refine sskip rfl rfl ?_
        refine sskip rfl rfl ?_
        refine sskip rfl rfl ?_
        refine sskip rfl rfl ?_
        refine sskip rfl rfl ?_
        refine sskip rfl rfl ?_
        refine sskip rfl rfl ?_
        refine sskip rfl rfl ?_
        refine sskip rfl rfl ?_
        refine sskip rfl rfl ?_
        refine sskip rfl rfl ?_
        refine spure (v := .bool true) rfl (p_pick rfl) (lo_t rfl (lo_c (lo_t rfl rfl))) rfl rfl ?_
        exact sjmpM J7439 true () (sub_cons rfl (sub_cons rfl (sub_cons rfl (sub_cons rfl (sub_cons rfl (sub_cons rfl sub_nil)))))) (St.pick X7014 (.keep _ (.none _ (.skip _ (.keep _ (.keep _ (.keep _ (.keep _ (.keep _ (.nil _))))))))))
      refine spure (v := .int .i64 0) rfl (p_move rfl) (lo_t rfl rfl) rfl rfl ?_
      refine spure (v := .bool false) rfl (p_gt rfl) (lo_t rfl (lo_c rfl)) rfl rfl ?_
      refine spure (v := .bool false) rfl (p_move rfl) (lo_t rfl rfl) rfl rfl ?_
      refine sskip rfl rfl ?_
      refine sskip rfl rfl ?_
      refine sskip rfl rfl ?_
      refine sskip rfl rfl ?_
      refine sskip rfl rfl ?_
      refine sskip rfl rfl ?_
      refine sskip rfl rfl ?_
      refine sskip rfl rfl ?_
      refine sskip rfl rfl ?_
      refine sskip rfl rfl ?_
      refine sskip rfl rfl ?_
      refine sskip rfl rfl ?_
      refine sskip rfl rfl ?_
      refine spure (v := .bool false) rfl (p_pick rfl) (lo_t rfl (lo_t rfl (lo_c rfl))) rfl rfl ?_
      refine spure (v := .bool false) rfl (p_pick rfl) (lo_t rfl (lo_c (lo_t rfl rfl))) rfl rfl ?_
      exact sjmpM J7439 false () (sub_cons rfl (sub_cons rfl (sub_cons rfl (sub_cons rfl (sub_cons rfl (sub_cons rfl sub_nil)))))) (St.pick X7014 (.keep _ (.none _ (.skip _ (.keep _ (.keep _ (.keep _ (.keep _ (.keep _ (.nil _))))))))))
    intro j7441 J7442
    refine lif (i := 16) (show _ = Value.bool s6870 from rfl) (fun k7443 => ?_) (fun k7443 => ?_)
    · refine lskip rfl rfl ?_
      refine lskip rfl rfl ?_
      refine lskip rfl rfl ?_
      refine lpure (v := .bool true) rfl (p_pick rfl) rfl rfl ?_
      exact ljmpM J7442 true () (sub_cons rfl (sub_cons rfl (sub_cons rfl sub_nil))) X6871
    refine lread (v := .slice a6860 n6860 c6860) rfl (q_load wd_42 rfl) (St.ld X6871 (j := 0) rfl rfl) rfl ?_
    refine lpure (v := .func (.func 97) #[] #[.pointer (some ⟨b6861, 0, none⟩)]) rfl (p_makeFunc rfl) rfl rfl ?_
    refine linl rfl rfl rfl rfl ca_56 rfl Try.func56 rfl rfl rfl rfl rfl ?_
    refine dseq (dreg ?_)
    refine lpure (v := .bool false) rfl (p_assign rfl) rfl rfl ?_
    refine lend (nseq (dseq (dreg ?_)))
    refine lpure (v := .slice a6860 n6860 c6860) rfl (p_move rfl) rfl rfl ?_
    refine lpure (v := .func (.func 97) #[] #[.pointer (some ⟨b6861, 0, none⟩)]) rfl (p_move rfl) rfl rfl ?_
    refine linl rfl rfl rfl rfl ca_101 rfl Try.func101 rfl rfl rfl rfl rfl ?_
    refine dseq (dreg ?_)
    refine lpure (v := .int .i64 0) rfl (p_assign rfl) rfl rfl ?_
    refine lend (nseq (dseq (dseq (dreg ?_))))
    refine lpure (v := .slice a6860 n6860 c6860) rfl (p_move rfl) rfl rfl ?_
    refine lpure (v := .int .i64 (p6859.length : Int)) rfl (p_len rfl rfl rfl un_42 rfl) (RSl.lenC H6860) rfl ?_
    refine lpure (v := .int .i64 0) rfl (p_move rfl) rfl rfl ?_
    refine lend (nseq (dblock ?_))
    refine dloopM (τ := Int) (σ := Unit) (fun s7474 (_ : Unit) => [(0, .slice a6860 n6860 c6860), (1, .func (.func 97) #[] #[.pointer (some ⟨b6861, 0, none⟩)]), (7, .int .i64 (p6859.length : Int)), (8, .int .i64 s7474)]) (fun s7474 (_ : Unit) hh => St φ h.n hh ([(some b6865, .cells [.slice a6860 n6860 c6860] 42 .exact), (some b6861, .cells [.int .i64 p6856.Topo.Nodes, .slice a6857 n6857 c6857, .slice a6858 n6858 c6858] 87 .exact)])) 0 () (sub_cons rfl (sub_cons rfl (sub_cons rfl (sub_cons rfl sub_nil)))) X6871 ?_
    rintro n7491 ih7490 s7474 _ t0 h7493 X7492
    refine dseq (dreg ?_)
    refine lpure (v := .bool (decide (s7474 < (p6859.length : Int)))) rfl (p_lt rfl) rfl rfl ?_
    refine lend (nseq (dseq ?_))
    refine dcond rfl rfl (fun k7494 => ?_) (fun k7494 => ?_)
    · refine dskip (nseq (dseq (dblock (dseq (dreg ?_)))))
      refine lpure (v := .int .i64 s7474) rfl (p_move rfl) rfl rfl ?_
      refine lpure (v := .int .i64 s7474) rfl (p_assign rfl) rfl rfl ?_
      refine lend (nseq (dseq (dreg ?_)))
      refine lpure (v := .func (.func 97) #[] #[.pointer (some ⟨b6861, 0, none⟩)]) rfl (p_move rfl) rfl rfl ?_
      refine lpure (v := .slice a6860 n6860 c6860) rfl (p_move rfl) rfl rfl ?_
      refine lpure (v := .int .i64 s7474) rfl (p_move rfl) rfl rfl ?_
      refine Sim.bindM fun e7495 he7496 => ?_
      obtain ⟨p7497, cs7497, hp7497, hF7497, hR7497⟩ := RSl.ia H6860 he7496 (kd := .i64) (n := 1) rfl
      have hR7497 : _ = [(.int .i64 e7495 : Value)] := hR7497
      subst hR7497
      refine lpure (v := p7497) rfl (p_ia rs_42 rfl) hp7497 rfl ?_
      refine lread (v := .int .i64 e7495) rfl (q_load wd_3 rfl) (FP.ld X7492 hF7497) rfl ?_
      refine linl rfl rfl rfl rfl ca_97 rfl Try.func97 rfl rfl rfl rfl rfl ?_
      refine dseq (dreg ?_)
      refine lpure (v := .bool false) rfl (p_assign rfl) rfl rfl ?_
      refine lend (nseq (dseq (dreg ?_)))
      refine lpure (v := .int .i64 e7495) rfl (p_move rfl) rfl rfl ?_
      refine lpure (v := .bool (decide (e7495 < 0))) rfl (p_lt rfl) rfl rfl ?_
      refine lpure (v := .bool (decide (e7495 < 0))) rfl (p_move rfl) rfl rfl ?_
      refine lsh (τ := Bool) (σ := Unit) (fun s7499 (_ : Unit) => [(14, .bool s7499)]) (fun s7499 (_ : Unit) hh => St φ h.n hh ([(some b6865, .cells [.slice a6860 n6860 c6860] 42 .exact), (some b6861, .cells [.int .i64 p6856.Topo.Nodes, .slice a6857 n6857 c6857, .slice a6858 n6858 c6858] 87 .exact)])) 8 ?_ ?_
      · rintro s7499 _ t0 h7501 X7500
        refine lpure (v := .bool s7499) rfl (p_assign rfl) rfl rfl ?_
        refine lend (nseq (dret ?_))
        refine kin_r (res_1 resT) ?_
        refine lend (nseq ?_)
        refine dcond rfl rfl (fun k7502 => ?_) (fun k7502 => ?_)
        · refine dseq (dreg ?_)
          refine lpure (v := .int .i64 s7474) rfl (p_move rfl) rfl rfl ?_
          refine lpure (v := .int .i64 s7474) rfl (p_assign rfl) rfl rfl ?_
          refine lend (nseq (dret (rblock (rseq (rloop (rblock (rseq ?_)))))))
          refine kin_r (res_1 resT) ?_
          refine lpure (v := .bool (decide (0 ≤ s7474))) rfl (p_ge rfl) rfl rfl ?_
          refine lpure (v := .bool (decide (0 ≤ s7474))) rfl (p_assign rfl) rfl rfl ?_
          refine lend (nseq (dret ?_))
          refine kin_r (res_1 resT) ?_
          refine lpure (v := .bool (decide (0 ≤ s7474))) rfl (p_pick rfl) rfl rfl ?_
          exact ljmpM J7442 (decide (0 ≤ s7474)) () (sub_cons rfl (sub_cons rfl (sub_cons rfl sub_nil))) X7500
        refine dskip (nblock (nseq (dreg ?_)))
        refine lpure (v := .int .i64 (w64 (s7474 + 1))) rfl (p_add rfl) rfl rfl ?_
        refine lpure (v := .int .i64 (w64 (s7474 + 1))) rfl (p_move rfl) rfl rfl ?_
        refine lend ?_
        exact kbackM ih7490 (w64 (s7474 + 1)) () (sub_cons rfl (sub_cons rfl (sub_cons rfl (sub_cons rfl sub_nil)))) X7500
      intro j7503 J7504
      refine lcase (i := 6) (show _ = Value.bool (decide (e7495 < 0)) from rfl) (fun k7505 => ?_) (fun k7505 => ?_)
      · refine lskip rfl rfl ?_
        refine lskip rfl rfl ?_
        refine lskip rfl rfl ?_
        refine lskip rfl rfl ?_
        refine lskip rfl rfl ?_
        refine lskip rfl rfl ?_
        refine lskip rfl rfl ?_
        refine lpure (v := .bool true) rfl (p_pick rfl) rfl rfl ?_
        refine Sim.of_eq (congrArg j7503 (show ((decide (e7495 < 0)) || (decide ((w64 (2 * (p6856.Topo.Links.length : Int))) ≤ e7495))) = true from by rw [k7505] <;> rfl)) ?_
        exact ljmpM J7504 true () (sub_cons rfl sub_nil) X7492
      refine lpure (v := .int .i64 e7495) rfl (p_move rfl) rfl rfl ?_
      refine lpure (v := .pointer (some ⟨b6861, 0, none⟩)) rfl (p_fa fo_87_0 rfl) rfl rfl ?_
      refine lpure (v := .pointer (some ⟨b6861, 2, none⟩)) rfl (p_fa fo_29_2 rfl) rfl rfl ?_
      refine lread (v := .slice a6858 n6858 c6858) rfl (q_load wd_27 rfl) (St.ld X7492 (j := 1) rfl rfl) rfl ?_
      refine lpure (v := .int .i64 (p6856.Topo.Links.length : Int)) rfl (p_len rfl rfl rfl un_27 rfl) (RSl.lenC H6858) rfl ?_
      refine lpure (v := .int .i64 (w64 (2 * (p6856.Topo.Links.length : Int)))) rfl (p_mul rfl) rfl rfl ?_
      refine lpure (v := .bool (decide ((w64 (2 * (p6856.Topo.Links.length : Int))) ≤ e7495))) rfl (p_ge rfl) rfl rfl ?_
      refine lpure (v := .bool (decide ((w64 (2 * (p6856.Topo.Links.length : Int))) ≤ e7495))) rfl (p_pick rfl) rfl rfl ?_
      refine Sim.of_eq (congrArg j7503 (show ((decide (e7495 < 0)) || (decide ((w64 (2 * (p6856.Topo.Links.length : Int))) ≤ e7495))) = (decide ((w64 (2 * (p6856.Topo.Links.length : Int))) ≤ e7495)) from by rw [k7505] <;> rfl)) ?_
      exact ljmpM J7504 (decide ((w64 (2 * (p6856.Topo.Links.length : Int))) ≤ e7495)) () (sub_cons rfl sub_nil) X7492
    refine dexit (eseq (eloop (xblock (nseq (dseq (dreg ?_))))))
    refine lpure (v := .int .i64 (-1)) rfl (p_assign rfl) rfl rfl ?_
    refine lend (nseq (dret ?_))
    refine kin_r (res_1 resT) ?_
    refine lpure (v := .bool false) rfl (p_ge rfl) rfl rfl ?_
    refine lpure (v := .bool false) rfl (p_assign rfl) rfl rfl ?_
    refine lend (nseq (dret ?_))
    refine kin_r (res_1 resT) ?_
    refine lpure (v := .bool false) rfl (p_pick rfl) rfl rfl ?_
    exact ljmpM J7442 false () (sub_cons rfl (sub_cons rfl (sub_cons rfl sub_nil))) X7492
  intro j7506 J7507
  refine lcase (i := 11) (show _ = Value.bool (decide ((p6859.length : Int) < 1)) from rfl) (fun k7508 => ?_) (fun k7508 => ?_)
  · refine lskip rfl rfl ?_
    refine lskip rfl rfl ?_
    refine lskip rfl rfl ?_
    refine lpure (v := .bool true) rfl (p_pick rfl) rfl rfl ?_
    refine Sim.of_eq (congrArg j7506 (show ((decide ((p6859.length : Int) < 1)) || (decide (8 < (p6859.length : Int)))) = true from by rw [k7508] <;> rfl)) ?_
    exact ljmpM J7507 true () (sub_cons rfl (sub_cons rfl (sub_cons rfl sub_nil))) X6868
  refine lread (v := .slice a6860 n6860 c6860) rfl (q_load wd_42 rfl) (St.ld X6868 (j := 0) rfl rfl) rfl ?_
  refine lpure (v := .int .i64 (p6859.length : Int)) rfl (p_len rfl rfl rfl un_42 rfl) (RSl.lenC H6860) rfl ?_
  refine lpure (v := .bool (decide (8 < (p6859.length : Int)))) rfl (p_gt rfl) rfl rfl ?_
  refine lpure (v := .bool (decide (8 < (p6859.length : Int)))) rfl (p_pick rfl) rfl rfl ?_
  refine Sim.of_eq (congrArg j7506 (show ((decide ((p6859.length : Int) < 1)) || (decide (8 < (p6859.length : Int)))) = (decide (8 < (p6859.length : Int))) from by rw [k7508] <;> rfl)) ?_
  exact ljmpM J7507 (decide (8 < (p6859.length : Int))) () (sub_cons rfl (sub_cons rfl (sub_cons rfl sub_nil))) X6868
/-! isochron/route.Check -/
theorem f18_ok {n : Nat} {φ : Fz} {lo : Nat} {h : Heap} {own : OwnL}  {a73 : Option Addr} {n73 c73 : Nat} {a74 : Option Addr} {n74 c74 : Nat} {a76 : Option Addr} {n76 c76 : Nat} (X : St φ lo h (own)) (p72 : ApiTopo) (p75 : (List Int)) (H73 : RSl eBool φ (.slice a73 n73 c73) p72.Station) (H74 : RSl eApiLink φ (.slice a74 n74 c74) p72.Links) (H76 : RSl (eInt .i64) φ (.slice a76 n76 c76) p75) : Sim ((recN Try.prog LL cutF (n + 13)).call 18 #[(.agg #[.int .i64 p72.Nodes, .slice a73 n73 c73, .slice a74 n74 c74]), (.slice a76 n76 c76)] h) (m_route_Check p72 p75) (fun (d : Int) p => p = (.int .i64 d, h)) := by
  refine fcut Try.func18 rfl rfl rfl rfl X ?_
  intro h0 X0
  refine dseq (dreg ?_)
  refine lbox rfl rfl rfl rfl rfl X0 (fun b77 h79 X80 => ?_)
  refine lpure (v := .int .i64 0) rfl (p_assign rfl) rfl rfl ?_
  refine lend (nseq (dseq (dseq (dreg ?_))))
  refine lread (v := .agg #[.int .i64 p72.Nodes, .slice a73 n73 c73, .slice a74 n74 c74]) rfl (q_load wd_29 rfl) (St.ld X80 (j := 0) rfl rfl) rfl ?_
  refine lcall rfl rfl ca_9 rfl rfl (f9_ok X80 p72 H73 H74) rfl (fun e6845 v6846 h6847 hq6848 => ?_)
  cases hq6848
  refine lpure (v := .int .i64 e6845) rfl (p_assign rfl) rfl rfl ?_
  refine lend (nseq (dseq (dreg ?_)))
  refine lpure (v := .int .i64 e6845) rfl (p_move rfl) rfl rfl ?_
  refine lpure (v := .bool (decide (e6845 ≠ 0))) rfl (p_ne rfl) rfl rfl ?_
  refine lend (nseq ?_)
  refine dcond rfl rfl (fun k6849 => ?_) (fun k6849 => ?_)
  · refine dseq (dreg ?_)
    refine lpure (v := .int .i64 e6845) rfl (p_move rfl) rfl rfl ?_
    refine lpure (v := .int .i64 e6845) rfl (p_assign rfl) rfl rfl ?_
    refine lend (nseq (dret (rseq ?_)))
    exact kcut_r (res_1 resT) X80 rfl rfl
  refine dskip (nseq (dseq (dseq (dreg ?_))))
  refine lread (v := .agg #[.int .i64 p72.Nodes, .slice a73 n73 c73, .slice a74 n74 c74]) rfl (q_load wd_29 rfl) (St.ld X80 (j := 0) rfl rfl) rfl ?_
  refine lpure (v := .agg #[.int .i64 p72.Nodes, .slice a73 n73 c73, .slice a74 n74 c74]) rfl (p_build rfl) (build_st' tz_87 pl_87 rfl) rfl ?_
  refine lalloc rfl tz_87 rfl rfl rfl X80 (fun b6850 h6852 X6853 => ?_)
  refine lstore rfl ts_87 rfl rfl (j := 0) rfl rfl rfl rfl rfl rfl X6853 (fun h6854 X6855 => ?_)
  refine lend (nseq (dseq (dreg ?_)))
  refine lread (v := .agg #[.int .i64 p72.Nodes, .slice a73 n73 c73, .slice a74 n74 c74]) rfl (q_load wd_87 rfl) (St.ld X6855 (j := 0) rfl rfl) rfl ?_
  refine lpure (v := .slice a76 n76 c76) rfl (p_move rfl) rfl rfl ?_
  refine lcall rfl rfl ca_52 rfl rfl (f52_ok X6855 ((RouteWalk.mk p72)) p75 H73 H74 H76) rfl (fun e7509 v7510 h7511 hq7512 => ?_)
  cases hq7512
  refine lpure (v := .bool (!e7509)) rfl (p_not rfl) rfl rfl ?_
  refine lend (nseq ?_)
  refine dcond rfl rfl (fun k7513 => ?_) (fun k7513 => ?_)
  · refine dseq (dreg ?_)
    refine lpure (v := .int .i64 310) rfl (p_assign rfl) rfl rfl ?_
    refine lend (nseq (dret (rseq ?_)))
    exact kcut_r (res_1 resT) X6855 rfl rfl
  refine dskip (nseq (dseq (dreg ?_)))
  refine lpure (v := .int .i64 0) rfl (p_assign rfl) rfl rfl ?_
  refine lend (nseq (dret ?_))
  exact kcut_r (res_1 resT) X6855 rfl rfl
/-! (isochron/route.walk).list -/
theorem f66_ok {n : Nat} {φ : Fz} {lo : Nat} {h : Heap} {own : OwnL}  {a7684 : Option Addr} {n7684 c7684 : Nat} {a7685 : Option Addr} {n7685 c7685 : Nat} {a7687 : Option Addr} {n7687 c7687 : Nat} (X : St φ lo h (own)) (p7683 : RouteWalk) (p7686 : (List Int)) (H7684 : RSl eBool φ (.slice a7684 n7684 c7684) p7683.Topo.Station) (H7685 : RSl eApiLink φ (.slice a7685 n7685 c7685) p7683.Topo.Links) (H7687 : RSl (eInt .i64) φ (.slice a7687 n7687 c7687) p7686) : Sim ((recN Try.prog LL cutF (n + 13)).call 66 #[(.agg #[.int .i64 p7683.Topo.Nodes, .slice a7684 n7684 c7684, .slice a7685 n7685 c7685]), (.slice a7687 n7687 c7687)] h) (m_route_walk_list p7683 p7686) (fun (d : (List Int)) p => ∃ φ2 : Fz, ∃ a7843 : Option Addr, ∃ n7843 : Nat, ∃ c7843 : Nat, ∃ ob7843 : Option Nat, ∃ blk7843 : Blk, Fz.le φ φ2 ∧ St φ2 lo p.2 ((ob7843, blk7843) :: own) ∧ p.1 = .slice a7843 n7843 c7843 ∧ OSl (eInt .i64) φ2 3 ob7843 blk7843 (.slice a7843 n7843 c7843) d) := by
  refine fopen Try.func66 rfl rfl rfl rfl ?_
  refine dseq (dreg ?_)
  refine lbox rfl rfl rfl rfl rfl X (fun b7688 h7690 X7691 => ?_)
  refine lpure (v := .slice none 0 0) rfl (p_assign rfl) rfl rfl ?_
  refine lend (nseq (dseq (dreg ?_)))
  refine lread (v := .agg #[.int .i64 p7683.Topo.Nodes, .slice a7684 n7684 c7684, .slice a7685 n7685 c7685]) rfl (q_load wd_87 rfl) (St.ld X7691 (j := 0) rfl rfl) rfl ?_
  refine lpure (v := .slice a7687 n7687 c7687) rfl (p_move rfl) rfl rfl ?_
  refine linl rfl rfl rfl rfl ca_98 rfl Try.func98 rfl rfl rfl rfl rfl ?_
  refine dseq (dreg ?_)
  refine lbox rfl rfl rfl rfl rfl X7691 (fun b7692 h7694 X7695 => ?_)
  refine lbox rfl rfl rfl rfl rfl X7695 (fun b7696 h7698 X7699 => ?_)
  refine lpure (v := .nilFunc) rfl (p_assign rfl) rfl rfl ?_
  refine lend (nseq (dseq (dreg ?_)))
  refine lpure (v := .func (.func 115) #[] #[.pointer (some ⟨b7692, 0, none⟩), .pointer (some ⟨b7696, 0, none⟩)]) rfl (p_makeFunc rfl) rfl rfl ?_
  refine lpure (v := .func (.func 115) #[] #[.pointer (some ⟨b7692, 0, none⟩), .pointer (some ⟨b7696, 0, none⟩)]) rfl (p_assign rfl) rfl rfl ?_
  refine lend (nseq (dret ?_))
  refine kin_r (res_1 resT) ?_
  refine linl rfl rfl rfl rfl ca_104 rfl Try.func104 rfl rfl rfl rfl rfl ?_
  refine dseq (dreg ?_)
  refine lpure (v := .slice none 0 0) rfl (p_assign rfl) rfl rfl ?_
  refine lend (nseq (dseq (dreg ?_)))
  refine lpure (v := .func (.func 115) #[] #[.pointer (some ⟨b7692, 0, none⟩), .pointer (some ⟨b7696, 0, none⟩)]) rfl (p_move rfl) rfl rfl ?_
  refine linl rfl rfl rfl rfl ca_116 rfl Try.func116 rfl rfl rfl rfl rfl ?_
  refine dseq (dreg ?_)
  refine lbox rfl rfl rfl rfl rfl X7699 (fun b7700 h7702 X7703 => ?_)
  refine lpure (v := .slice none 0 0) rfl (p_assign rfl) rfl rfl ?_
  refine lend (nseq (dseq (dseq (dreg ?_))))
  refine lpure (v := .func (.func 115) #[] #[.pointer (some ⟨b7692, 0, none⟩), .pointer (some ⟨b7696, 0, none⟩)]) rfl (p_move rfl) rfl rfl ?_
  refine lend (nseq (dblock ?_))
  refine drange rfl rfl ca_115 Try.func115 rfl rfl X7703 (fun _ => rfl) ?_
  intro l7704 q7705 df7706 h7708 Q7707 X7709
  refine dseq (dreg ?_)
  refine lread (v := .agg #[.int .i64 p7683.Topo.Nodes, .slice a7684 n7684 c7684, .slice a7685 n7685 c7685]) rfl (q_load wd_87 rfl) (St.ld X7709 (j := 4) rfl rfl) rfl ?_
  refine lpure (v := .func (.func 69) #[.agg #[.int .i64 p7683.Topo.Nodes, .slice a7684 n7684 c7684, .slice a7685 n7685 c7685]] #[]) rfl (p_makeFunc rfl) rfl rfl ?_
  refine lpure (v := .func (.func 69) #[.agg #[.int .i64 p7683.Topo.Nodes, .slice a7684 n7684 c7684, .slice a7685 n7685 c7685]] #[]) rfl (p_assign rfl) rfl rfl ?_
  refine lend (nseq (dseq (dseq ?_)))
  refine dgo_start (n := 8) rfl (by kernel_rfl) ?_
  refine gpure (v := .func (.yield l7704) #[] #[]) rfl (p_move rfl) (lo_t (and_tt (lo_own X7709 (j := 0) (o := 0) (s := none) (f := 0) rfl) rfl) rfl) rfl rfl ?_
  refine gload (v := .agg #[.int .i64 p7683.Topo.Nodes, .slice a7684 n7684 c7684, .slice a7685 n7685 c7685]) rfl (q_load wd_87 rfl) (St.ld X7709 (j := 4) rfl rfl) rfl ?_
  refine gload (v := .slice a7687 n7687 c7687) rfl (q_load wd_42 rfl) (St.ld X7709 (j := 3) rfl rfl) rfl ?_
  refine Sim.bindM fun e7712 he7713 => ?_
  obtain ⟨p7714, cs7714, hp7714, hF7714, hR7714⟩ := RSl.ia H7687 he7713 (kd := .i64) (n := 1) rfl
  have hR7714 : _ = [(.int .i64 e7712 : Value)] := hR7714
  subst hR7714
  refine gpure (v := p7714) rfl (p_ia rs_42 rfl) (lo_t (lo_sl X7709 H7687) (lo_c rfl)) hp7714 rfl ?_
  refine gload (v := .int .i64 e7712) rfl (q_load wd_3 rfl) (FP.ld X7709 hF7714) rfl ?_
  refine gwait rfl (still_call rfl rfl ca_70 rfl) rfl ?_
  refine dgo_skip ?_
  refine dgo_skip ?_
  refine gcall (m := 7) [false, false, false] (rk_cons (q_load wd_3 rfl) (FP.ld X7709 hF7714) (same_self 20 rfl) (rk_cons (q_load wd_42 rfl) (St.ld X7709 (j := 3) rfl rfl) (same_self 20 rfl) (rk_cons (q_load wd_87 rfl) (St.ld X7709 (j := 4) rfl rfl) (same_self 20 rfl) rk_nil))) rfl rfl rfl rfl rfl ca_70 rfl rfl (f70_ok X7709 p7683 e7712 H7684 H7685) rfl (fun e7715 v7716 h7717 hq7718 => ?_)
  cases hq7718
  refine dgo_skip ?_
  refine dgo_skip ?_
  refine dgo_skip ?_
  refine dgo_skip ?_
  refine dgo_skip ?_
  refine dgo_skip ?_
  refine gwait rfl (still_act rfl).1 rfl ?_
  refine dgo_skip ?_
  refine ground (m := 6) [] rk_nil rfl rfl rfl rfl rfl rfl rfl rfl rfl X7709 (j := 0) rfl Q7707 rfl rfl rfl rfl rfl (fun t7719 => ?_)
  refine dreg ?_
  refine lpure (v := .int .i64 e7715) rfl (p_assign rfl) rfl rfl ?_
  refine lend ?_
  refine basg X7709 (j := 0) rfl (fun h7720 X7721 => ?_)
  refine dblock (dreg ?_)
  refine lread (v := .slice none 0 0) rfl (q_load wd_33 rfl) (St.ld X7721 (j := 2) rfl rfl) rfl ?_
  refine lpure (v := .int .i64 e7715) rfl (p_move rfl) rfl rfl ?_
  obtain ⟨h7722, b7722, hv7722, X7722, O7722⟩ := OSl.lay (E := (eInt .i64)) (φ := φ) (cs := [.int .i64 e7715]) (l := [e7715]) (len := 1) (parts := [(0, .int .i64 e7715)]) un_33 ts_3 rfl rfl rfl tz_3 rfl rfl (show RowD (eInt .i64) φ [.int .i64 e7715] [e7715] from ⟨[.int .i64 e7715], _, rfl, rfl, rfl⟩) rfl rfl X7721
  refine lheap rfl (h_buildSlice rfl) hv7722 rfl ?_
  have X7725 := St.pick X7722 (.none .dead (.refl _))
  obtain ⟨ws7726, hw7726⟩ := OSl.read O7722 X7725 (k := 1) rfl (n := 1) rfl
  refine Sim.mustM fun k7726 => ?_
  obtain ⟨h7726, a7726, c7726, ob7726, blk7726, hv7726, X7726, O7726⟩ := OSl.append (show OSl (eInt .i64) φ 3 none .dead (.slice none 0 0) [] from OSl.nil) X7725 (j := 0) rfl hw7726 k7726 (ts := #[33, 33]) rfl un_33 (argOk_of ax_33_33) ts_3 rfl rfl tb_3 rfl tz_3 rfl
  refine lheap rfl (h_builtin rfl rfl) hv7726 rfl ?_
  refine lstore rfl ts_33 rfl rfl (j := 4) rfl rfl rfl rfl rfl rfl X7726 (fun h7727 X7728 => ?_)
  refine lend (nblock ?_)
  refine nrnd X7728 (j := 2) rfl (fun h7729 X7730 => ?_)
  refine dgo_skip ?_
  refine dgo_skip ?_
  refine dgo_skip ?_
  refine dgo_skip ?_
  refine dgo_skip ?_
  refine dgo_skip ?_
  refine dgo_skip ?_
  refine gpure (v := .bool false) rfl (p_not rfl) (lo_t rfl rfl) rfl rfl ?_
  refine gend rk_nil ?_
  refine nseq (dcondF rfl rfl (dskip (nseq (dseq (dreg ?_)))))
  refine lread (v := .slice a7687 n7687 c7687) rfl (q_load wd_42 rfl) (St.ld X7730 (j := 5) rfl rfl) rfl ?_
  refine lpure (v := .int .i64 (p7686.length : Int)) rfl (p_len rfl rfl rfl un_42 rfl) (RSl.lenC H7687) rfl ?_
  refine lpure (v := .int .i64 0) rfl (p_move rfl) rfl rfl ?_
  refine lend (nseq (dblock ?_))
  refine dloopM (τ := Int × (List Int)) (σ := Option Addr × Nat × Nat × Option Nat × Blk) (fun s7786 (a7787, n7787, c7787, ob7787, blk7787) => [(0, .func (.yield l7704) #[] #[]), (4, .func (.func 69) #[.agg #[.int .i64 p7683.Topo.Nodes, .slice a7684 n7684 c7684, .slice a7685 n7685 c7685]] #[]), (17, .slice a7687 n7687 c7687), (18, .int .i64 (p7686.length : Int)), (19, .int .i64 s7786.1)]) (fun s7786 (a7787, n7787, c7787, ob7787, blk7787) hh => St φ lo hh ((ob7787, blk7787) :: (some b7722, (.cells [.int .i64 e7715] 3 .exact)) :: (some l7704, rdy q7705) :: (none, .dead) :: (some b7700, .cells [.slice a7787 n7787 c7787] 33 .exact) :: (some b7696, .cells [.slice a7687 n7687 c7687] 42 .exact) :: (some b7692, .cells [.int .i64 p7683.Topo.Nodes, .slice a7684 n7684 c7684, .slice a7685 n7685 c7685] 87 .exact) :: (some b7688, .cells [.int .i64 p7683.Topo.Nodes, .slice a7684 n7684 c7684, .slice a7685 n7685 c7685] 87 .exact) :: own) ∧ OSl (eInt .i64) φ 3 ob7787 blk7787 (.slice a7787 n7787 c7787) s7786.2) (0, (([] : List Int) ++ ([e7715]))) (a7726, (([] : List Int).length + ([e7715]).length), c7726, ob7726, blk7726) (sub_cons rfl (sub_cons rfl (sub_cons rfl (sub_cons rfl (sub_cons rfl sub_nil))))) ⟨(St.pick X7730 (.keep _ (.keep _ (.keep _ (.none _ (.skip _ (.keep _ (.keep _ (.keep _ (.keep _ (.refl _))))))))))), O7726⟩ ?_
  rintro n7816 ih7815 s7786 ⟨a7787, n7787, c7787, ob7787, blk7787⟩ t0 h7818 ⟨X7817, O7787⟩
  refine dseq (dreg ?_)
  refine lpure (v := .bool (decide (s7786.1 < (p7686.length : Int)))) rfl (p_lt rfl) rfl rfl ?_
  refine lend (nseq (dseq ?_))
  refine dcond rfl rfl (fun k7819 => ?_) (fun k7819 => ?_)
  · refine dskip (nseq (dseq (dblock (dseq (dreg ?_)))))
    refine Sim.bindM fun e7820 he7821 => ?_
    obtain ⟨p7822, cs7822, hp7822, hF7822, hR7822⟩ := RSl.ia H7687 he7821 (kd := .i64) (n := 1) rfl
    have hR7822 : _ = [(.int .i64 e7820 : Value)] := hR7822
    subst hR7822
    refine lpure (v := p7822) rfl (p_ia rs_42 rfl) hp7822 rfl ?_
    refine lread (v := .int .i64 e7820) rfl (q_load wd_3 rfl) (FP.ld X7817 hF7822) rfl ?_
    refine lpure (v := .int .i64 e7820) rfl (p_assign rfl) rfl rfl ?_
    refine lend (nseq (dseq (dreg ?_)))
    refine lpure (v := .func (.yield l7704) #[] #[]) rfl (p_move rfl) rfl rfl ?_
    refine lpure (v := .func (.func 69) #[.agg #[.int .i64 p7683.Topo.Nodes, .slice a7684 n7684 c7684, .slice a7685 n7685 c7685]] #[]) rfl (p_move rfl) rfl rfl ?_
    refine lpure (v := .int .i64 e7820) rfl (p_move rfl) rfl rfl ?_
    refine linl rfl rfl rfl rfl ca_69 rfl Try.func69 rfl rfl rfl rfl rfl ?_
    refine dseq (dreg ?_)
    refine lbox rfl rfl rfl rfl rfl X7817 (fun b7823 h7825 X7826 => ?_)
    refine lpure (v := .int .i64 0) rfl (p_assign rfl) rfl rfl ?_
    refine lend (nseq (dseq (dreg ?_)))
    refine lpure (v := .pointer (some ⟨b7823, 0, none⟩)) rfl (p_fa fo_87_0 rfl) rfl rfl ?_
    refine lread (v := .agg #[.int .i64 p7683.Topo.Nodes, .slice a7684 n7684 c7684, .slice a7685 n7685 c7685]) rfl (q_load wd_29 rfl) (St.ld X7826 (j := 0) rfl rfl) rfl ?_
    refine lpure (v := .int .i64 e7820) rfl (p_move rfl) rfl rfl ?_
    refine lcall rfl rfl ca_12 rfl rfl (f12_ok X7826 (p7683.Topo) e7820 H7684 H7685) rfl (fun e7827 v7828 h7829 hq7830 => ?_)
    cases hq7830
    refine lpure (v := .tuple #[.int .i64 e7827.1, .int .i64 e7827.2]) rfl (p_move rfl) rfl rfl ?_
    refine lpure (v := .int .i64 e7827.1) rfl (p_extract rfl) rfl rfl ?_
    refine lpure (v := .int .i64 e7827.2) rfl (p_extract rfl) rfl rfl ?_
    refine lpure (v := .int .i64 e7827.1) rfl (p_assign rfl) rfl rfl ?_
    refine lpure (v := .int .i64 e7827.2) rfl (p_assign rfl) rfl rfl ?_
    refine lend (nseq (dseq (dreg ?_)))
    refine lpure (v := .int .i64 e7827.1) rfl (p_move rfl) rfl rfl ?_
    refine lpure (v := .int .i64 e7827.1) rfl (p_assign rfl) rfl rfl ?_
    refine lend (nseq (dret ?_))
    refine kin_r (res_1 resT) ?_
    refine lround rfl rfl rfl rfl rfl rfl X7826 (j := 3) rfl Q7707 rfl rfl rfl rfl rfl (fun t7831 => ?_)
    refine dreg ?_
    refine lpure (v := .int .i64 e7827.1) rfl (p_assign rfl) rfl rfl ?_
    refine lend ?_
    refine basg X7826 (j := 3) rfl (fun h7832 X7833 => ?_)
    refine dblock (dreg ?_)
    refine lread (v := .slice a7787 n7787 c7787) rfl (q_load wd_33 rfl) (St.ld X7833 (j := 5) rfl rfl) rfl ?_
    refine lpure (v := .int .i64 e7827.1) rfl (p_move rfl) rfl rfl ?_
    obtain ⟨h7834, b7834, hv7834, X7834, O7834⟩ := OSl.lay (E := (eInt .i64)) (φ := φ) (cs := [.int .i64 e7827.1]) (l := [e7827.1]) (len := 1) (parts := [(0, .int .i64 e7827.1)]) un_33 ts_3 rfl rfl rfl tz_3 rfl rfl (show RowD (eInt .i64) φ [.int .i64 e7827.1] [e7827.1] from ⟨[.int .i64 e7827.1], _, rfl, rfl, rfl⟩) rfl rfl X7833
    refine lheap rfl (h_buildSlice rfl) hv7834 rfl ?_
    obtain ⟨ws7836, hw7836⟩ := OSl.read O7834 X7834 (k := 0) rfl (n := 1) rfl
    refine Sim.mustM fun k7836 => ?_
    obtain ⟨h7836, a7836, c7836, ob7836, blk7836, hv7836, X7836, O7836⟩ := OSl.append O7787 X7834 (j := 2) rfl hw7836 k7836 (ts := #[33, 33]) rfl un_33 (argOk_of ax_33_33) ts_3 rfl rfl tb_3 rfl tz_3 rfl
    refine lheap rfl (h_builtin rfl rfl) hv7836 rfl ?_
    refine lstore rfl ts_33 rfl rfl (j := 6) rfl rfl rfl rfl rfl rfl X7836 (fun h7837 X7838 => ?_)
    refine lend (nblock ?_)
    refine nrnd X7838 (j := 4) rfl (fun h7839 X7840 => ?_)
    refine lpure (v := .bool false) rfl (p_not rfl) rfl rfl ?_
    refine lend (nseq (dcondF rfl rfl (dskip (nblock (nseq (dreg ?_))))))
    refine lpure (v := .int .i64 (w64 (s7786.1 + 1))) rfl (p_add rfl) rfl rfl ?_
    refine lpure (v := .int .i64 (w64 (s7786.1 + 1))) rfl (p_move rfl) rfl rfl ?_
    refine lend ?_
    exact kbackM ih7815 ((w64 (s7786.1 + 1)), (s7786.2 ++ ([e7827.1]))) (a7836, (s7786.2.length + ([e7827.1]).length), c7836, ob7836, blk7836) (sub_cons rfl (sub_cons rfl (sub_cons rfl (sub_cons rfl (sub_cons rfl sub_nil))))) ⟨(St.pick X7840 (.skip _ (.skip _ (.keep _ (.keep _ (.keep _ (.none _ (.skip _ (.keep _ (.keep _ (.keep _ (.keep _ (.refl _))))))))))))), O7836⟩
  refine dexit (eseq (eloop (xblock ?_)))
  refine kin_n res_0 ?_
  refine rend_n X7817 (j := 2) rfl (fun h7841 X7842 => ?_)
  refine nblock (nseq (dseq (dreg ?_)))
  refine lread (v := .slice a7787 n7787 c7787) rfl (q_load wd_33 rfl) (St.ld X7842 (j := 4) rfl rfl) rfl ?_
  refine lpure (v := .slice a7787 n7787 c7787) rfl (p_assign rfl) rfl rfl ?_
  refine lend (nseq (dret ?_))
  refine kin_r (res_1 resT) ?_
  refine lpure (v := .slice a7787 n7787 c7787) rfl (p_assign rfl) rfl rfl ?_
  refine lend (nseq (dret ?_))
  refine kin_r (res_1 resT) ?_
  refine lpure (v := .slice a7787 n7787 c7787) rfl (p_assign rfl) rfl rfl ?_
  refine lend (nseq (dret ?_))
  exact kopen_r (res_1 resT) ⟨φ, a7787, n7787, c7787, ob7787, blk7787, (Fz.le_refl _), St.pick X7842 (.keep _ (.skip _ (.skip _ (.skip _ (.skip _ (.skip _ (.skip _ (.skip _ (.refl _))))))))), rfl, O7787⟩
/-! isochron/route.Nodes -/
theorem f24_ok {n : Nat} {φ : Fz} {lo : Nat} {h : Heap} {own : OwnL}  {a7855 : Option Addr} {n7855 c7855 : Nat} {a7856 : Option Addr} {n7856 c7856 : Nat} {a7858 : Option Addr} {n7858 c7858 : Nat} (X : St φ lo h (own)) (p7854 : ApiTopo) (p7857 : (List Int)) (H7855 : RSl eBool φ (.slice a7855 n7855 c7855) p7854.Station) (H7856 : RSl eApiLink φ (.slice a7856 n7856 c7856) p7854.Links) (H7858 : RSl (eInt .i64) φ (.slice a7858 n7858 c7858) p7857) : Sim ((recN Try.prog LL cutF (n + 16)).call 24 #[(.agg #[.int .i64 p7854.Nodes, .slice a7855 n7855 c7855, .slice a7856 n7856 c7856]), (.slice a7858 n7858 c7858)] h) (m_route_Nodes p7854 p7857) (fun (d : ((List Int) × Int)) p => ∃ φ2 : Fz, ∃ a7889 : Option Addr, ∃ n7889 : Nat, ∃ c7889 : Nat, ∃ ob7889 : Option Nat, ∃ blk7889 : Blk, Fz.le φ φ2 ∧ St φ2 lo p.2 ((ob7889, blk7889) :: own) ∧ p.1 = .tuple #[.slice a7889 n7889 c7889, .int .i64 d.2] ∧ OSl (eInt .i64) φ2 3 ob7889 blk7889 (.slice a7889 n7889 c7889) d.1) := by
  refine fopen Try.func24 rfl rfl rfl rfl ?_
  refine dseq (dreg ?_)
  refine lbox rfl rfl rfl rfl rfl X (fun b7859 h7861 X7862 => ?_)
  refine lbox rfl rfl rfl rfl rfl X7862 (fun b7863 h7865 X7866 => ?_)
  refine lpure (v := .slice none 0 0) rfl (p_assign rfl) rfl rfl ?_
  refine lpure (v := .int .i64 0) rfl (p_assign rfl) rfl rfl ?_
  refine lend (nseq (dseq (dreg ?_)))
  refine lread (v := .agg #[.int .i64 p7854.Nodes, .slice a7855 n7855 c7855, .slice a7856 n7856 c7856]) rfl (q_load wd_29 rfl) (St.ld X7866 (j := 1) rfl rfl) rfl ?_
  refine lread (v := .slice a7858 n7858 c7858) rfl (q_load wd_42 rfl) (St.ld X7866 (j := 0) rfl rfl) rfl ?_
  refine lpure (v := .func (.func 65) #[] #[.pointer (some ⟨b7863, 0, none⟩)]) rfl (p_makeFunc rfl) rfl rfl ?_
  refine linl rfl rfl rfl rfl ca_64 rfl Try.func64 rfl rfl rfl rfl rfl ?_
  refine dseq (dreg ?_)
  refine lbox rfl rfl rfl rfl rfl X7866 (fun b7867 h7869 X7870 => ?_)
  refine lpure (v := .slice none 0 0) rfl (p_assign rfl) rfl rfl ?_
  refine lpure (v := .int .i64 0) rfl (p_assign rfl) rfl rfl ?_
  refine lend (nseq (dseq (dseq (dreg ?_))))
  refine lread (v := .agg #[.int .i64 p7854.Nodes, .slice a7855 n7855 c7855, .slice a7856 n7856 c7856]) rfl (q_load wd_29 rfl) (St.ld X7870 (j := 0) rfl rfl) rfl ?_
  refine lpure (v := .slice a7858 n7858 c7858) rfl (p_move rfl) rfl rfl ?_
  refine lcall rfl rfl ca_18 rfl rfl (f18_ok X7870 p7854 p7857 H7855 H7856 H7858) rfl (fun e7871 v7872 h7873 hq7874 => ?_)
  cases hq7874
  refine lpure (v := .int .i64 e7871) rfl (p_assign rfl) rfl rfl ?_
  refine lend (nseq (dseq (dreg ?_)))
  refine lpure (v := .int .i64 e7871) rfl (p_move rfl) rfl rfl ?_
  refine lpure (v := .bool (decide (e7871 ≠ 0))) rfl (p_ne rfl) rfl rfl ?_
  refine lend (nseq ?_)
  refine dcond rfl rfl (fun k7875 => ?_) (fun k7875 => ?_)
  · refine dseq (dreg ?_)
    refine lpure (v := .slice none 0 0) rfl (p_assign rfl) rfl rfl ?_
    refine lend (nseq (dseq (dreg ?_)))
    refine lpure (v := .slice none 0 0) rfl (p_move rfl) rfl rfl ?_
    refine lpure (v := .int .i64 e7871) rfl (p_move rfl) rfl rfl ?_
    refine lpure (v := .slice none 0 0) rfl (p_assign rfl) rfl rfl ?_
    refine lpure (v := .int .i64 e7871) rfl (p_assign rfl) rfl rfl ?_
    refine lend (nseq (dret (rseq ?_)))
    refine kin_r (res_2 resT resT) ?_
    refine lpure (v := .slice none 0 0) rfl (p_extract rfl) rfl rfl ?_
    refine lpure (v := .int .i64 e7871) rfl (p_extract rfl) rfl rfl ?_
    refine lpure (v := .slice none 0 0) rfl (p_assign rfl) rfl rfl ?_
    refine lpure (v := .int .i64 e7871) rfl (p_assign rfl) rfl rfl ?_
    refine lend (nseq (dret ?_))
    exact kopen_r (res_2 resT resT) ⟨φ, none, 0, 0, none, (.dead), (Fz.le_refl _), St.pick X7870 (.none _ (.skip _ (.skip _ (.skip _ (.refl _))))), rfl, OSl.nil⟩
  refine dskip (nseq (dseq (dreg ?_)))
  refine lpure (v := .func (.func 65) #[] #[.pointer (some ⟨b7863, 0, none⟩)]) rfl (p_move rfl) rfl rfl ?_
  refine lread (v := .agg #[.int .i64 p7854.Nodes, .slice a7855 n7855 c7855, .slice a7856 n7856 c7856]) rfl (q_load wd_29 rfl) (St.ld X7870 (j := 0) rfl rfl) rfl ?_
  refine lpure (v := .agg #[.int .i64 p7854.Nodes, .slice a7855 n7855 c7855, .slice a7856 n7856 c7856]) rfl (p_build rfl) (build_st' tz_87 pl_87 rfl) rfl ?_
  refine linl rfl rfl rfl rfl ca_65 rfl Try.func65 rfl rfl rfl rfl rfl ?_
  refine dseq (dreg ?_)
  refine lbox rfl rfl rfl rfl rfl X7870 (fun b7876 h7878 X7879 => ?_)
  refine lpure (v := .slice none 0 0) rfl (p_assign rfl) rfl rfl ?_
  refine lend (nseq (dseq (dreg ?_)))
  refine lread (v := .agg #[.int .i64 p7854.Nodes, .slice a7855 n7855 c7855, .slice a7856 n7856 c7856]) rfl (q_load wd_87 rfl) (St.ld X7879 (j := 0) rfl rfl) rfl ?_
  refine lread (v := .slice a7858 n7858 c7858) rfl (q_load wd_42 rfl) (St.ld X7879 (j := 2) rfl rfl) rfl ?_
  refine lcall rfl rfl ca_66 rfl rfl (f66_ok X7879 ((RouteWalk.mk p7854)) p7857 H7855 H7856 H7858) rfl ?_
  rintro e7880 _ h7882 ⟨φ7884, a7887, n7887, c7887, ob7887, blk7887, g7885, X7886, rfl, O7887⟩
  refine lpure (v := .slice a7887 n7887 c7887) rfl (p_assign rfl) rfl rfl ?_
  refine lend (nseq (dret ?_))
  refine kin_r (res_1 resT) ?_
  refine lpure (v := .slice a7887 n7887 c7887) rfl (p_assign rfl) rfl rfl ?_
  refine lpure (v := .int .i64 0) rfl (p_assign rfl) rfl rfl ?_
  refine lend (nseq (dret ?_))
  refine kin_r (res_2 resT resT) ?_
  refine lpure (v := .slice a7887 n7887 c7887) rfl (p_extract rfl) rfl rfl ?_
  refine lpure (v := .int .i64 0) rfl (p_extract rfl) rfl rfl ?_
  refine lpure (v := .slice a7887 n7887 c7887) rfl (p_assign rfl) rfl rfl ?_
  refine lpure (v := .int .i64 0) rfl (p_assign rfl) rfl rfl ?_
  refine lend (nseq (dret ?_))
  exact kopen_r (res_2 resT resT) ⟨φ7884, a7887, n7887, c7887, ob7887, blk7887, g7885, St.pick X7886 (.keep _ (.skip _ (.skip _ (.skip _ (.skip _ (.refl _)))))), rfl, O7887⟩
/-! isochron/route.Ends -/
theorem f21_ok {n : Nat} {φ : Fz} {lo : Nat} {h : Heap} {own : OwnL}  {a7915 : Option Addr} {n7915 c7915 : Nat} {a7916 : Option Addr} {n7916 c7916 : Nat} {a7918 : Option Addr} {n7918 c7918 : Nat} (X : St φ lo h (own)) (p7914 : ApiTopo) (p7917 : (List Int)) (H7915 : RSl eBool φ (.slice a7915 n7915 c7915) p7914.Station) (H7916 : RSl eApiLink φ (.slice a7916 n7916 c7916) p7914.Links) (H7918 : RSl (eInt .i64) φ (.slice a7918 n7918 c7918) p7917) : Sim ((recN Try.prog LL cutF (n + 17)).call 21 #[(.agg #[.int .i64 p7914.Nodes, .slice a7915 n7915 c7915, .slice a7916 n7916 c7916]), (.slice a7918 n7918 c7918)] h) (m_route_Ends p7914 p7917) (fun (d : (Int × Int × Int)) p => p = (.tuple #[.int .i64 d.1, .int .i64 d.2.1, .int .i64 d.2.2], h)) := by
  refine fcut Try.func21 rfl rfl rfl rfl X ?_
  intro h0 X0
  refine dseq (dreg ?_)
  refine lbox rfl rfl rfl rfl rfl X0 (fun b7919 h7921 X7922 => ?_)
  refine lpure (v := .int .i64 0) rfl (p_assign rfl) rfl rfl ?_
  refine lpure (v := .int .i64 0) rfl (p_assign rfl) rfl rfl ?_
  refine lpure (v := .int .i64 0) rfl (p_assign rfl) rfl rfl ?_
  refine lend (nseq (dseq (dreg ?_)))
  refine lread (v := .agg #[.int .i64 p7914.Nodes, .slice a7915 n7915 c7915, .slice a7916 n7916 c7916]) rfl (q_load wd_29 rfl) (St.ld X7922 (j := 0) rfl rfl) rfl ?_
  refine lpure (v := .slice a7918 n7918 c7918) rfl (p_move rfl) rfl rfl ?_
  refine lcall rfl rfl ca_24 rfl rfl (f24_ok X7922 p7914 p7917 H7915 H7916 H7918) rfl ?_
  rintro e7923 _ h7925 ⟨φ7927, a7930, n7930, c7930, ob7930, blk7930, g7928, X7929, rfl, O7930⟩
  refine lpure (v := .tuple #[.slice a7930 n7930 c7930, .int .i64 e7923.2]) rfl (p_move rfl) rfl rfl ?_
  refine lpure (v := .slice a7930 n7930 c7930) rfl (p_extract rfl) rfl rfl ?_
  refine lpure (v := .int .i64 e7923.2) rfl (p_extract rfl) rfl rfl ?_
  refine lpure (v := .slice a7930 n7930 c7930) rfl (p_assign rfl) rfl rfl ?_
  refine lpure (v := .int .i64 e7923.2) rfl (p_assign rfl) rfl rfl ?_
  refine lend (nseq (dseq (dseq (dreg ?_))))
  refine lpure (v := .int .i64 e7923.2) rfl (p_move rfl) rfl rfl ?_
  refine lpure (v := .bool (decide (e7923.2 ≠ 0))) rfl (p_ne rfl) rfl rfl ?_
  refine lend (nseq ?_)
  refine dcond rfl rfl (fun k7932 => ?_) (fun k7932 => ?_)
  · refine dseq (dreg ?_)
    refine lpure (v := .int .i64 e7923.2) rfl (p_move rfl) rfl rfl ?_
    refine lpure (v := .int .i64 0) rfl (p_assign rfl) rfl rfl ?_
    refine lpure (v := .int .i64 0) rfl (p_assign rfl) rfl rfl ?_
    refine lpure (v := .int .i64 e7923.2) rfl (p_assign rfl) rfl rfl ?_
    refine lend (nseq (dret (rseq ?_)))
    exact kcut_r (res_3 resT resT resT) X7929 rfl rfl
  refine dskip (nseq (dseq ?_))
  refine ddraw 0 0 32 (by kernel_rfl) ?_
  refine spure (v := .slice a7930 n7930 c7930) rfl (p_move rfl) (lo_t (lo_osl X7929 (j := 0) rfl O7930) rfl) rfl rfl ?_
  refine Sim.bindM fun e7933 he7934 => ?_
  obtain ⟨b7935, vs7935, m7935, off7935, cs7935, rfl, rfl, hp7935, hc7935, hR7935, hl7935, hm7935, hs7935⟩ := OSl.ia O7930 he7934 (kd := .i64) (n := 1) rfl
  have hR7935 : _ = [(.int .i64 e7933 : Value)] := hR7935
  subst hR7935
  refine spure (v := .pointer (some ⟨b7935, off7935, none⟩)) rfl (p_ia rs_33 rfl) (lo_t (lo_osl X7929 (j := 0) rfl O7930) (lo_c rfl)) hp7935 rfl ?_
  refine sload (v := .int .i64 e7933) rfl rfl (q_load wd_3 rfl) (St.ld X7929 (j := 0) rfl (rdE1 hc7935 (k := 0) rfl rfl)) (same_self 20 rfl) rfl ?_
  refine spure (v := .slice a7930 n7930 c7930) rfl (p_move rfl) (lo_t (lo_osl X7929 (j := 0) rfl O7930) rfl) rfl rfl ?_
  refine spure (v := .slice a7930 n7930 c7930) rfl (p_move rfl) (lo_t (lo_osl X7929 (j := 0) rfl O7930) rfl) rfl rfl ?_
  refine spure (v := .int .i64 (e7923.1.length : Int)) rfl (p_len rfl rfl rfl un_33 rfl) (lo_t (lo_osl X7929 (j := 0) rfl O7930) rfl) (OSl.len O7930) rfl ?_
  refine spure (v := .int .i64 (w64 ((e7923.1.length : Int) - 1))) rfl (p_sub rfl) (lo_t rfl (lo_c rfl)) rfl rfl ?_
  refine Sim.bindM fun e7936 he7937 => ?_
  obtain ⟨off7938, cs7938, hp7938, hc7938, hR7938, hl7938, hm7938, hs7938⟩ := OSl.iaC O7930 he7937 (kd := .i64) (n := 1) rfl
  have hR7938 : _ = [(.int .i64 e7936 : Value)] := hR7938
  subst hR7938
  refine spure (v := .pointer (some ⟨b7935, off7938, none⟩)) rfl (p_ia rs_33 rfl) (lo_t (lo_osl X7929 (j := 0) rfl O7930) (lo_t rfl rfl)) hp7938 rfl ?_
  refine sload (v := .int .i64 e7936) rfl rfl (q_load wd_3 rfl) (St.ld X7929 (j := 0) rfl (rdE1 hc7938 (k := 0) rfl rfl)) (same_self 20 rfl) rfl ?_
  refine spure (v := .int .i64 e7933) rfl (p_assign rfl) (lo_t rfl rfl) rfl rfl ?_
  refine spure (v := .int .i64 e7936) rfl (p_assign rfl) (lo_t rfl rfl) rfl rfl ?_
  refine spure (v := .int .i64 0) rfl (p_assign rfl) (lo_c rfl) rfl rfl ?_
  refine send ?_
  refine nseq (dret ?_)
  exact kcut_r (res_3 resT resT resT) X7929 rfl rfl
/-! isochron/route.Delay$1 -/
theorem f55_ok {n : Nat} {φ : Fz} {lo : Nat} {h : Heap} {own : OwnL}  (X : St φ lo h (own)) (p7993 : ApiLink) : Sim ((recN Try.prog LL cutF (n + 1)).call 55 #[(.agg #[.int .i64 p7993.A, .int .i64 p7993.B, .int .i64 p7993.Per, .int .i64 p7993.Delay])] h) (m_route_Delay_1 p7993) (fun (d : Int) p => p = (.int .i64 d, h)) := by
  refine fcut Try.func55 rfl rfl rfl rfl X ?_
  intro h0 X0
  refine dseq (dreg ?_)
  refine lbox rfl rfl rfl rfl rfl X0 (fun b7994 h7996 X7997 => ?_)
  refine lpure (v := .int .i64 0) rfl (p_assign rfl) rfl rfl ?_
  refine lend (nseq (dseq (dreg ?_)))
  refine lpure (v := .pointer (some ⟨b7994, 3, none⟩)) rfl (p_fa fo_75_3 rfl) rfl rfl ?_
  refine lread (v := .int .i64 p7993.Delay) rfl (q_load wd_3 rfl) (St.ld X7997 (j := 0) rfl rfl) rfl ?_
  refine lpure (v := .int .i64 p7993.Delay) rfl (p_assign rfl) rfl rfl ?_
  refine lend (nseq (dret ?_))
  exact kcut_r (res_1 resT) X7997 rfl rfl
/-! isochron/route.Delay -/
theorem f20_ok {n : Nat} {φ : Fz} {lo : Nat} {h : Heap} {own : OwnL}  {a7950 : Option Addr} {n7950 c7950 : Nat} {a7951 : Option Addr} {n7951 c7951 : Nat} {a7953 : Option Addr} {n7953 c7953 : Nat} (X : St φ lo h (own)) (p7949 : ApiTopo) (p7952 : (List Int)) (H7950 : RSl eBool φ (.slice a7950 n7950 c7950) p7949.Station) (H7951 : RSl eApiLink φ (.slice a7951 n7951 c7951) p7949.Links) (H7953 : RSl (eInt .i64) φ (.slice a7953 n7953 c7953) p7952) : Sim ((recN Try.prog LL cutF (n + 16)).call 20 #[(.agg #[.int .i64 p7949.Nodes, .slice a7950 n7950 c7950, .slice a7951 n7951 c7951]), (.slice a7953 n7953 c7953)] h) (m_route_Delay p7949 p7952) (fun (d : (Int × Int)) p => p = (.tuple #[.int .i64 d.1, .int .i64 d.2], h)) := by
  refine fcut Try.func20 rfl rfl rfl rfl X ?_
  intro h0 X0
  refine dseq (dreg ?_)
  refine lbox rfl rfl rfl rfl rfl X0 (fun b7954 h7956 X7957 => ?_)
  refine lpure (v := .int .i64 0) rfl (p_assign rfl) rfl rfl ?_
  refine lpure (v := .int .i64 0) rfl (p_assign rfl) rfl rfl ?_
  refine lend (nseq (dseq (dreg ?_)))
  refine lread (v := .agg #[.int .i64 p7949.Nodes, .slice a7950 n7950 c7950, .slice a7951 n7951 c7951]) rfl (q_load wd_29 rfl) (St.ld X7957 (j := 0) rfl rfl) rfl ?_
  refine lpure (v := .slice a7953 n7953 c7953) rfl (p_move rfl) rfl rfl ?_
  refine linl rfl rfl rfl rfl ca_53 rfl Try.func53 rfl rfl rfl rfl rfl ?_
  refine dseq (dreg ?_)
  refine lbox rfl rfl rfl rfl rfl X7957 (fun b7958 h7960 X7961 => ?_)
  refine lbox rfl rfl rfl rfl rfl X7961 (fun b7962 h7964 X7965 => ?_)
  refine lbox rfl rfl rfl rfl rfl X7965 (fun b7966 h7968 X7969 => ?_)
  refine lpure (v := .int .i64 0) rfl (p_assign rfl) rfl rfl ?_
  refine lpure (v := .int .i64 0) rfl (p_assign rfl) rfl rfl ?_
  refine lend (nseq (dseq (dreg ?_)))
  refine lread (v := .agg #[.int .i64 p7949.Nodes, .slice a7950 n7950 c7950, .slice a7951 n7951 c7951]) rfl (q_load wd_29 rfl) (St.ld X7969 (j := 2) rfl rfl) rfl ?_
  refine lread (v := .slice a7953 n7953 c7953) rfl (q_load wd_42 rfl) (St.ld X7969 (j := 1) rfl rfl) rfl ?_
  refine lpure (v := .func (.func 100) #[] #[.pointer (some ⟨b7962, 0, none⟩), .pointer (some ⟨b7966, 0, none⟩)]) rfl (p_makeFunc rfl) rfl rfl ?_
  refine linl rfl rfl rfl rfl ca_99 rfl Try.func99 rfl rfl rfl rfl rfl ?_
  refine dseq (dreg ?_)
  refine lbox rfl rfl rfl rfl rfl X7969 (fun b7970 h7972 X7973 => ?_)
  refine lpure (v := .int .i64 0) rfl (p_assign rfl) rfl rfl ?_
  refine lpure (v := .int .i64 0) rfl (p_assign rfl) rfl rfl ?_
  refine lend (nseq (dseq (dseq (dreg ?_))))
  refine lread (v := .agg #[.int .i64 p7949.Nodes, .slice a7950 n7950 c7950, .slice a7951 n7951 c7951]) rfl (q_load wd_29 rfl) (St.ld X7973 (j := 0) rfl rfl) rfl ?_
  refine lpure (v := .slice a7953 n7953 c7953) rfl (p_move rfl) rfl rfl ?_
  refine lcall rfl rfl ca_18 rfl rfl (f18_ok X7973 p7949 p7952 H7950 H7951 H7953) rfl (fun e7974 v7975 h7976 hq7977 => ?_)
  cases hq7977
  refine lpure (v := .int .i64 e7974) rfl (p_assign rfl) rfl rfl ?_
  refine lend (nseq (dseq (dreg ?_)))
  refine lpure (v := .int .i64 e7974) rfl (p_move rfl) rfl rfl ?_
  refine lpure (v := .bool (decide (e7974 ≠ 0))) rfl (p_ne rfl) rfl rfl ?_
  refine lend (nseq ?_)
  refine dcond rfl rfl (fun k7978 => ?_) (fun k7978 => ?_)
  · refine dseq (dreg ?_)
    refine lpure (v := .int .i64 0) rfl (p_assign rfl) rfl rfl ?_
    refine lend (nseq (dseq (dreg ?_)))
    refine lpure (v := .int .i64 0) rfl (p_move rfl) rfl rfl ?_
    refine lpure (v := .int .i64 e7974) rfl (p_move rfl) rfl rfl ?_
    refine lpure (v := .int .i64 0) rfl (p_assign rfl) rfl rfl ?_
    refine lpure (v := .int .i64 e7974) rfl (p_assign rfl) rfl rfl ?_
    refine lend (nseq (dret (rseq ?_)))
    refine kin_r (res_2 resT resT) ?_
    refine lpure (v := .int .i64 0) rfl (p_extract rfl) rfl rfl ?_
    refine lpure (v := .int .i64 e7974) rfl (p_extract rfl) rfl rfl ?_
    refine lpure (v := .int .i64 0) rfl (p_assign rfl) rfl rfl ?_
    refine lpure (v := .int .i64 e7974) rfl (p_assign rfl) rfl rfl ?_
    refine lend (nseq (dret ?_))
    refine kin_r (res_2 resT resT) ?_
    refine lpure (v := .int .i64 0) rfl (p_extract rfl) rfl rfl ?_
    refine lpure (v := .int .i64 e7974) rfl (p_extract rfl) rfl rfl ?_
    refine lpure (v := .int .i64 0) rfl (p_assign rfl) rfl rfl ?_
    refine lpure (v := .int .i64 e7974) rfl (p_assign rfl) rfl rfl ?_
    refine lend (nseq (dret ?_))
    exact kcut_r (res_2 resT resT) X7973 rfl rfl
  refine dskip (nseq (dseq (dreg ?_)))
  refine lpure (v := .func (.func 100) #[] #[.pointer (some ⟨b7962, 0, none⟩), .pointer (some ⟨b7966, 0, none⟩)]) rfl (p_move rfl) rfl rfl ?_
  refine lread (v := .agg #[.int .i64 p7949.Nodes, .slice a7950 n7950 c7950, .slice a7951 n7951 c7951]) rfl (q_load wd_29 rfl) (St.ld X7973 (j := 0) rfl rfl) rfl ?_
  refine lpure (v := .agg #[.int .i64 p7949.Nodes, .slice a7950 n7950 c7950, .slice a7951 n7951 c7951]) rfl (p_build rfl) (build_st' tz_87 pl_87 rfl) rfl ?_
  refine linl rfl rfl rfl rfl ca_100 rfl Try.func100 rfl rfl rfl rfl rfl ?_
  refine dseq (dreg ?_)
  refine lbox rfl rfl rfl rfl rfl X7973 (fun b7979 h7981 X7982 => ?_)
  refine lpure (v := .int .i64 0) rfl (p_assign rfl) rfl rfl ?_
  refine lend (nseq (dseq (dreg ?_)))
  refine lpure (v := .int .i64 0) rfl (p_assign rfl) rfl rfl ?_
  refine lend (nseq (dseq (dseq (dreg ?_))))
  refine lread (v := .slice a7953 n7953 c7953) rfl (q_load wd_42 rfl) (St.ld X7982 (j := 3) rfl rfl) rfl ?_
  refine lpure (v := .int .i64 (p7952.length : Int)) rfl (p_len rfl rfl rfl un_42 rfl) (RSl.lenC H7953) rfl ?_
  refine lpure (v := .int .i64 0) rfl (p_move rfl) rfl rfl ?_
  refine lend (nseq (dblock ?_))
  refine dloopM (τ := Int × Int) (σ := Unit) (fun s8016 (_ : Unit) => [(2, .pointer (some ⟨b7966, 0, none⟩)), (3, .pointer (some ⟨b7979, 0, none⟩)), (5, .int .i64 s8016.1), (8, .slice a7953 n7953 c7953), (9, .int .i64 (p7952.length : Int)), (10, .int .i64 s8016.2)]) (fun s8016 (_ : Unit) hh => St φ h.n hh ([(some b7979, .cells [.int .i64 p7949.Nodes, .slice a7950 n7950 c7950, .slice a7951 n7951 c7951] 87 .exact), (some b7970, .cells [.int .i64 p7949.Nodes, .slice a7950 n7950 c7950, .slice a7951 n7951 c7951] 29 .exact), (some b7966, .cells [.func (.func 55) #[] #[]] 90 .exact), (some b7962, .cells [.slice a7953 n7953 c7953] 42 .exact), (some b7958, .cells [.int .i64 p7949.Nodes, .slice a7950 n7950 c7950, .slice a7951 n7951 c7951] 29 .exact), (some b7954, .cells [.int .i64 p7949.Nodes, .slice a7950 n7950 c7950, .slice a7951 n7951 c7951] 29 .exact)])) (0, 0) () (sub_cons rfl (sub_cons rfl (sub_cons rfl (sub_cons rfl (sub_cons rfl (sub_cons rfl sub_nil)))))) X7982 ?_
  rintro n8032 ih8031 s8016 _ t0 h8034 X8033
  refine dseq (dreg ?_)
  refine lpure (v := .bool (decide (s8016.2 < (p7952.length : Int)))) rfl (p_lt rfl) rfl rfl ?_
  refine lend (nseq (dseq ?_))
  refine dcond rfl rfl (fun k8035 => ?_) (fun k8035 => ?_)
  · refine dskip (nseq (dseq (dblock (dseq (dreg ?_)))))
    refine Sim.bindM fun e8036 he8037 => ?_
    obtain ⟨p8038, cs8038, hp8038, hF8038, hR8038⟩ := RSl.ia H7953 he8037 (kd := .i64) (n := 1) rfl
    have hR8038 : _ = [(.int .i64 e8036 : Value)] := hR8038
    subst hR8038
    refine lpure (v := p8038) rfl (p_ia rs_42 rfl) hp8038 rfl ?_
    refine lread (v := .int .i64 e8036) rfl (q_load wd_3 rfl) (FP.ld X8033 hF8038) rfl ?_
    refine lpure (v := .int .i64 e8036) rfl (p_assign rfl) rfl rfl ?_
    refine lend (nseq ?_)
    refine dgo_start (n := 12) rfl (by kernel_rfl) ?_
    refine gpure (v := .int .i64 s8016.1) rfl (p_move rfl) (lo_t rfl rfl) rfl rfl ?_
    refine gload (v := .func (.func 55) #[] #[]) rfl (q_load wd_90 rfl) (St.ld X8033 (j := 2) rfl rfl) rfl ?_
    refine gpure (v := .pointer (some ⟨b7979, 0, none⟩)) rfl (p_fa fo_87_0 rfl) (lo_t (lo_own X8033 (j := 0) (o := 0) (s := none) (f := 0) rfl) rfl) rfl rfl ?_
    refine gpure (v := .pointer (some ⟨b7979, 2, none⟩)) rfl (p_fa fo_29_2 rfl) (lo_t (lo_own X8033 (j := 0) (o := 0) (s := none) (f := 0) rfl) rfl) rfl rfl ?_
    refine gload (v := .slice a7951 n7951 c7951) rfl (q_load wd_27 rfl) (St.ld X8033 (j := 0) rfl rfl) rfl ?_
    refine gpure (v := .int .i64 e8036) rfl (p_move rfl) (lo_t rfl rfl) rfl rfl ?_
    refine gpure (v := .int .i64 (w64 (Int.tdiv e8036 2))) rfl (p_quo rfl) (lo_t rfl (lo_c rfl)) rfl rfl ?_
    refine Sim.bindM fun e8039 he8040 => ?_
    obtain ⟨p8041, cs8041, hp8041, hF8041, hR8041⟩ := RSl.ia H7951 he8040 (kd := .i64) (n := 4) rfl
    obtain rfl := eApiLink_el hR8041
    refine gpure (v := p8041) rfl (p_ia rs_27 rfl) (lo_t (lo_sl X8033 H7951) (lo_t rfl rfl)) hp8041 rfl ?_
    refine gload (v := .agg #[.int .i64 e8039.A, .int .i64 e8039.B, .int .i64 e8039.Per, .int .i64 e8039.Delay]) rfl (q_load wd_75 rfl) (FP.ldw X8033 hF8041 rfl rfl) rfl ?_
    refine gwait rfl (still_act rfl).1 rfl ?_
    refine dgo_skip ?_
    refine dgo_skip ?_
    refine gcallv (m := 11) [false, false, false] (rk_cons (q_load wd_75 rfl) (FP.ldw X8033 hF8041 rfl rfl) (same_self 20 rfl) (rk_cons (q_load wd_27 rfl) (St.ld X8033 (j := 0) rfl rfl) (same_self 20 rfl) (rk_cons (q_load wd_90 rfl) (St.ld X8033 (j := 2) rfl rfl) (same_self 20 rfl) rk_nil))) rfl rfl rfl rfl rfl rfl rfl ca_55 rfl rfl (f55_ok X8033 e8039) rfl (fun e8042 v8043 h8044 hq8045 => ?_)
    cases hq8045
    refine dgo_skip ?_
    refine dgo_skip ?_
    refine dgo_skip ?_
    refine dgo_skip ?_
    refine dgo_skip ?_
    refine dgo_skip ?_
    refine dgo_skip ?_
    refine dgo_skip ?_
    refine dgo_skip ?_
    refine dgo_skip ?_
    refine gpure (v := .int .i64 (w64 (s8016.1 + e8042))) rfl (p_add rfl) (lo_t rfl (lo_t rfl rfl)) rfl rfl ?_
    refine gpure (v := .int .i64 (w64 (s8016.1 + e8042))) rfl (p_assign rfl) (lo_t rfl rfl) rfl rfl ?_
    refine gend rk_nil ?_
    refine nblock (nseq (dreg ?_))
    refine lpure (v := .int .i64 (w64 (s8016.2 + 1))) rfl (p_add rfl) rfl rfl ?_
    refine lpure (v := .int .i64 (w64 (s8016.2 + 1))) rfl (p_move rfl) rfl rfl ?_
    refine lend ?_
    exact kbackM ih8031 ((w64 (s8016.1 + e8042)), (w64 (s8016.2 + 1))) () (sub_cons rfl (sub_cons rfl (sub_cons rfl (sub_cons rfl (sub_cons rfl (sub_cons rfl sub_nil)))))) X8033
  refine dexit (eseq (eloop (xblock (nseq (dseq (dreg ?_))))))
  refine lpure (v := .int .i64 s8016.1) rfl (p_move rfl) rfl rfl ?_
  refine lpure (v := .int .i64 s8016.1) rfl (p_assign rfl) rfl rfl ?_
  refine lend (nseq (dret ?_))
  refine kin_r (res_1 resT) ?_
  refine lpure (v := .int .i64 s8016.1) rfl (p_assign rfl) rfl rfl ?_
  refine lpure (v := .int .i64 0) rfl (p_assign rfl) rfl rfl ?_
  refine lend (nseq (dret ?_))
  refine kin_r (res_2 resT resT) ?_
  refine lpure (v := .int .i64 s8016.1) rfl (p_extract rfl) rfl rfl ?_
  refine lpure (v := .int .i64 0) rfl (p_extract rfl) rfl rfl ?_
  refine lpure (v := .int .i64 s8016.1) rfl (p_assign rfl) rfl rfl ?_
  refine lpure (v := .int .i64 0) rfl (p_assign rfl) rfl rfl ?_
  refine lend (nseq (dret ?_))
  refine kin_r (res_2 resT resT) ?_
  refine lpure (v := .int .i64 s8016.1) rfl (p_extract rfl) rfl rfl ?_
  refine lpure (v := .int .i64 0) rfl (p_extract rfl) rfl rfl ?_
  refine lpure (v := .int .i64 s8016.1) rfl (p_assign rfl) rfl rfl ?_
  refine lpure (v := .int .i64 0) rfl (p_assign rfl) rfl rfl ?_
  refine lend (nseq (dret ?_))
  exact kcut_r (res_2 resT resT) X8033 rfl rfl
end Go.AM
