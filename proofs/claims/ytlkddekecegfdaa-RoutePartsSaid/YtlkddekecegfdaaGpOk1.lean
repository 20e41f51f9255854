/- Printed: functions of the given program as functions over plain data, and that the machine does what they say; no claim of its own; no condition. -/
import Derived.Test.YtlkddekecegfdaaGpFacts
set_option maxRecDepth 100000
set_option maxHeartbeats 4000000
set_option linter.unusedVariables false
set_option linter.unusedSimpArgs false
namespace Go.AM
open Go Go.Proofs

/-! isochron/isochronlaw21.line -/
theorem f48_ok {n : Nat} {φ : Fz} {lo : Nat} {h : Heap} {own : OwnL}  (X : St φ lo h (own)) : Sim ((recN Try.prog LL cutF (n + 1)).call 48 #[] h) (m_isochronlaw21_line) (fun (d : ApiTopo) p => ∃ φ2 : Fz, ∃ a34 : Option Addr, ∃ n34 : Nat, ∃ c34 : Nat, ∃ ob34 : Option Nat, ∃ blk34 : Blk, ∃ a36 : Option Addr, ∃ n36 : Nat, ∃ c36 : Nat, ∃ ob36 : Option Nat, ∃ blk36 : Blk, Fz.le φ φ2 ∧ St φ2 lo p.2 ((ob34, blk34) :: (ob36, blk36) :: own) ∧ p.1 = .agg #[.int .i64 d.Nodes, .slice a34 n34 c34, .slice a36 n36 c36] ∧ OSl eBool φ2 4 ob34 blk34 (.slice a34 n34 c34) d.Station ∧ OSl eApiLink φ2 75 ob36 blk36 (.slice a36 n36 c36) d.Links) := by
  refine fopen Try.func48 rfl rfl rfl rfl ?_
  refine dseq (dreg ?_)
  refine lalloc rfl tz_29 rfl rfl rfl X (fun b24 h26 X27 => ?_)
  refine lend (nseq (dseq (dreg ?_)))
  obtain ⟨h28, b28, hv28, X28, O28⟩ := OSl.lay (E := eBool) (φ := φ) (cs := [.bool true, .bool false, .bool false, .bool true]) (l := [true, false, false, true]) (len := 4) (parts := [(0, .bool true), (1, .bool false), (2, .bool false), (3, .bool true)]) un_26 ts_4 rfl rfl rfl tz_4 rfl rfl (show RowD eBool φ [.bool true, .bool false, .bool false, .bool true] [true, false, false, true] from ⟨[.bool true], _, rfl, rfl, ⟨[.bool false], _, rfl, rfl, ⟨[.bool false], _, rfl, rfl, ⟨[.bool true], _, rfl, rfl, rfl⟩⟩⟩⟩) rfl rfl X27
  refine lheap rfl (h_buildSlice rfl) hv28 rfl ?_
  refine lpure (v := .agg #[.int .i64 0, .int .i64 1, .int .i64 8, .int .i64 50]) rfl (p_build rfl) (build_st' tz_75 pl_75 rfl) rfl ?_
  refine lpure (v := .agg #[.int .i64 1, .int .i64 2, .int .i64 8, .int .i64 0]) rfl (p_build rfl) (build_st' tz_75 pl_75 rfl) rfl ?_
  refine lpure (v := .agg #[.int .i64 2, .int .i64 3, .int .i64 80, .int .i64 7]) rfl (p_build rfl) (build_st' tz_75 pl_75 rfl) rfl ?_
  obtain ⟨h30, b30, hv30, X30, O30⟩ := OSl.lay (E := eApiLink) (φ := φ) (cs := [.int .i64 0, .int .i64 1, .int .i64 8, .int .i64 50, .int .i64 1, .int .i64 2, .int .i64 8, .int .i64 0, .int .i64 2, .int .i64 3, .int .i64 80, .int .i64 7]) (l := [(ApiLink.mk 0 1 8 50), (ApiLink.mk 1 2 8 0), (ApiLink.mk 2 3 80 7)]) (len := 3) (parts := [(0, .agg #[.int .i64 0, .int .i64 1, .int .i64 8, .int .i64 50]), (1, .agg #[.int .i64 1, .int .i64 2, .int .i64 8, .int .i64 0]), (2, .agg #[.int .i64 2, .int .i64 3, .int .i64 80, .int .i64 7])]) un_27 ts_75 rfl rfl rfl tz_75 rfl rfl (show RowD eApiLink φ [.int .i64 0, .int .i64 1, .int .i64 8, .int .i64 50, .int .i64 1, .int .i64 2, .int .i64 8, .int .i64 0, .int .i64 2, .int .i64 3, .int .i64 80, .int .i64 7] [(ApiLink.mk 0 1 8 50), (ApiLink.mk 1 2 8 0), (ApiLink.mk 2 3 80 7)] from ⟨[.int .i64 0, .int .i64 1, .int .i64 8, .int .i64 50], _, rfl, ⟨_, _, rfl, rfl, ⟨_, _, rfl, rfl, ⟨_, _, rfl, rfl, ⟨_, _, rfl, rfl, rfl⟩⟩⟩⟩, ⟨[.int .i64 1, .int .i64 2, .int .i64 8, .int .i64 0], _, rfl, ⟨_, _, rfl, rfl, ⟨_, _, rfl, rfl, ⟨_, _, rfl, rfl, ⟨_, _, rfl, rfl, rfl⟩⟩⟩⟩, ⟨[.int .i64 2, .int .i64 3, .int .i64 80, .int .i64 7], _, rfl, ⟨_, _, rfl, rfl, ⟨_, _, rfl, rfl, ⟨_, _, rfl, rfl, ⟨_, _, rfl, rfl, rfl⟩⟩⟩⟩, rfl⟩⟩⟩) rfl rfl X28
  refine lheap rfl (h_buildSlice rfl) hv30 rfl ?_
  refine lpure (v := .agg #[.int .i64 4, .slice (some ⟨b28, 0, none⟩) 4 4, .slice (some ⟨b30, 0, none⟩) 3 3]) rfl (p_build rfl) (build_st' tz_29 pl_29 rfl) rfl ?_
  refine lstore rfl ts_29 rfl rfl (j := 2) rfl rfl rfl rfl rfl rfl X30 (fun h32 X33 => ?_)
  refine lend (nseq (dret ?_))
  exact kopen_r (res_1 (resC wd_29 (St.ld X33 (j := 2) rfl rfl))) ⟨φ, ((some ⟨b28, 0, none⟩)), 4, 4, (some b28), ((.cells [.bool true, .bool false, .bool false, .bool true] 4 .exact)), ((some ⟨b30, 0, none⟩)), 3, 3, (some b30), ((.cells [.int .i64 0, .int .i64 1, .int .i64 8, .int .i64 50, .int .i64 1, .int .i64 2, .int .i64 8, .int .i64 0, .int .i64 2, .int .i64 3, .int .i64 80, .int .i64 7] 75 .exact)), (Fz.le_refl _), St.pick (St.front X33 (j := 1) rfl) (.keep _ (.keep _ (.skip _ (.refl _)))), rfl, O28, O30⟩
/-! isochron/topo.isNode -/
theorem f40_ok {n : Nat} {φ : Fz} {lo : Nat} {h : Heap} {own : OwnL}  {a135 : Option Addr} {n135 c135 : Nat} {a136 : Option Addr} {n136 c136 : Nat} (X : St φ lo h (own)) (p134 : ApiTopo) (p137 : Int) (H135 : RSl eBool φ (.slice a135 n135 c135) p134.Station) (H136 : RSl eApiLink φ (.slice a136 n136 c136) p134.Links) : Sim ((recN Try.prog LL cutF (n + 1)).call 40 #[(.agg #[.int .i64 p134.Nodes, .slice a135 n135 c135, .slice a136 n136 c136]), (.int .i64 p137)] h) (m_topo_isNode p134 p137) (fun (d : Bool) p => p = (.bool d, h)) := by
  refine fcut Try.func40 rfl rfl rfl rfl X ?_
  intro h0 X0
  refine dseq (dreg ?_)
  refine lbox rfl rfl rfl rfl rfl X0 (fun b138 h140 X141 => ?_)
  refine lpure (v := .bool false) rfl (p_assign rfl) rfl rfl ?_
  refine lend (nseq (dseq (dreg ?_)))
  refine lpure (v := .int .i64 p137) rfl (p_move rfl) rfl rfl ?_
  refine lpure (v := .bool (decide (0 ≤ p137))) rfl (p_ge rfl) rfl rfl ?_
  refine lpure (v := .bool (decide (0 ≤ p137))) rfl (p_move rfl) rfl rfl ?_
  refine lsh (τ := Bool) (σ := Unit) (fun s143 (_ : Unit) => [(12, .bool s143)]) (fun s143 (_ : Unit) hh => St φ h.n hh ([(some b138, .cells [.int .i64 p134.Nodes, .slice a135 n135 c135, .slice a136 n136 c136] 29 .exact)])) 5 ?_ ?_
  · rintro s143 _ t0 h145 X144
    refine lpure (v := .bool s143) rfl (p_assign rfl) rfl rfl ?_
    refine lend (nseq (dret ?_))
    exact kcut_r (res_1 resT) X144 rfl rfl
  intro j146 J147
  refine lcase (i := 7) (show _ = Value.bool (decide (0 ≤ p137)) from rfl) (fun k148 => ?_) (fun k148 => ?_)
  · refine lpure (v := .int .i64 p137) rfl (p_move rfl) rfl rfl ?_
    refine lpure (v := .pointer (some ⟨b138, 0, none⟩)) rfl (p_fa fo_29_0 rfl) rfl rfl ?_
    refine lread (v := .int .i64 p134.Nodes) rfl (q_load wd_3 rfl) (St.ld X141 (j := 0) rfl rfl) rfl ?_
    refine lpure (v := .bool (decide (p137 < p134.Nodes))) rfl (p_lt rfl) rfl rfl ?_
    refine lpure (v := .bool (decide (p137 < p134.Nodes))) rfl (p_pick rfl) rfl rfl ?_
    refine Sim.of_eq (congrArg j146 (show ((decide (0 ≤ p137)) && (decide (p137 < p134.Nodes))) = (decide (p137 < p134.Nodes)) from by rw [k148] <;> rfl)) ?_
    exact ljmpM J147 (decide (p137 < p134.Nodes)) () (sub_cons rfl sub_nil) X141
  refine lskip rfl rfl ?_
  refine lskip rfl rfl ?_
  refine lskip rfl rfl ?_
  refine lskip rfl rfl ?_
  refine lpure (v := .bool false) rfl (p_pick rfl) rfl rfl ?_
  refine Sim.of_eq (congrArg j146 (show ((decide (0 ≤ p137)) && (decide (p137 < p134.Nodes))) = false from by rw [k148] <;> rfl)) ?_
  exact ljmpM J147 false () (sub_cons rfl sub_nil) X141
/-! isochron/topo.validLink -/
theorem f36_ok {n : Nat} {φ : Fz} {lo : Nat} {h : Heap} {own : OwnL}  {a108 : Option Addr} {n108 c108 : Nat} {a109 : Option Addr} {n109 c109 : Nat} (X : St φ lo h (own)) (p107 : ApiTopo) (p110 : Int) (H108 : RSl eBool φ (.slice a108 n108 c108) p107.Station) (H109 : RSl eApiLink φ (.slice a109 n109 c109) p107.Links) : Sim ((recN Try.prog LL cutF (n + 5)).call 36 #[(.agg #[.int .i64 p107.Nodes, .slice a108 n108 c108, .slice a109 n109 c109]), (.int .i64 p110)] h) (m_topo_validLink p107 p110) (fun (d : Bool) p => p = (.bool d, h)) := by
  refine fcut Try.func36 rfl rfl rfl rfl X ?_
  intro h0 X0
  refine dseq (dreg ?_)
  refine lbox rfl rfl rfl rfl rfl X0 (fun b111 h113 X114 => ?_)
  refine lbox rfl rfl rfl rfl rfl X114 (fun b115 h117 X118 => ?_)
  refine lpure (v := .bool false) rfl (p_assign rfl) rfl rfl ?_
  refine lend (nseq (dseq (dreg ?_)))
  refine lpure (v := .pointer (some ⟨b111, 2, none⟩)) rfl (p_fa fo_29_2 rfl) rfl rfl ?_
  refine lread (v := .slice a109 n109 c109) rfl (q_load wd_27 rfl) (St.ld X118 (j := 1) rfl rfl) rfl ?_
  refine lread (v := .int .i64 p110) rfl (q_load wd_3 rfl) (St.ld X118 (j := 0) rfl rfl) rfl ?_
  refine Sim.bindM fun e119 he120 => ?_
  obtain ⟨p121, cs121, hp121, hF121, hR121⟩ := RSl.ia H109 he120 (kd := .i64) (n := 4) rfl
  obtain rfl := eApiLink_el hR121
  refine lpure (v := p121) rfl (p_ia rs_27 rfl) hp121 rfl ?_
  refine lread (v := .agg #[.int .i64 e119.A, .int .i64 e119.B, .int .i64 e119.Per, .int .i64 e119.Delay]) rfl (q_load wd_75 rfl) (FP.ldw X118 hF121 rfl rfl) rfl ?_
  refine lalloc rfl tz_75 rfl rfl rfl X118 (fun b122 h124 X125 => ?_)
  refine lstore rfl ts_75 rfl rfl (j := 0) rfl rfl rfl rfl rfl rfl X125 (fun h126 X127 => ?_)
  refine lend (nseq (dseq (dreg ?_)))
  refine lpure (v := .func (.func 77) #[] #[.pointer (some ⟨b111, 0, none⟩), .pointer (some ⟨b122, 0, none⟩)]) rfl (p_makeFunc rfl) rfl rfl ?_
  refine lpure (v := .func (.func 78) #[] #[.pointer (some ⟨b111, 0, none⟩), .pointer (some ⟨b122, 0, none⟩)]) rfl (p_makeFunc rfl) rfl rfl ?_
  refine lpure (v := .func (.func 79) #[] #[.pointer (some ⟨b122, 0, none⟩)]) rfl (p_makeFunc rfl) rfl rfl ?_
  refine lpure (v := .func (.func 80) #[] #[.pointer (some ⟨b111, 0, none⟩), .pointer (some ⟨b115, 0, none⟩), .pointer (some ⟨b122, 0, none⟩)]) rfl (p_makeFunc rfl) rfl rfl ?_
  refine lpure (v := .agg #[.func (.func 77) #[] #[.pointer (some ⟨b111, 0, none⟩), .pointer (some ⟨b122, 0, none⟩)], .func (.func 78) #[] #[.pointer (some ⟨b111, 0, none⟩), .pointer (some ⟨b122, 0, none⟩)], .func (.func 79) #[] #[.pointer (some ⟨b122, 0, none⟩)], .func (.func 80) #[] #[.pointer (some ⟨b111, 0, none⟩), .pointer (some ⟨b115, 0, none⟩), .pointer (some ⟨b122, 0, none⟩)]]) rfl (p_build rfl) (build_ar' tz_108 ae_108 rfl) rfl ?_
  refine lalloc rfl tz_108 rfl rfl rfl X127 (fun b128 h130 X131 => ?_)
  refine lstore rfl ts_108 rfl rfl (j := 0) rfl rfl rfl rfl rfl rfl X131 (fun h132 X133 => ?_)
  refine lend (nseq (dseq (dseq (dreg ?_))))
  refine lread (v := .agg #[.func (.func 77) #[] #[.pointer (some ⟨b111, 0, none⟩), .pointer (some ⟨b122, 0, none⟩)], .func (.func 78) #[] #[.pointer (some ⟨b111, 0, none⟩), .pointer (some ⟨b122, 0, none⟩)], .func (.func 79) #[] #[.pointer (some ⟨b122, 0, none⟩)], .func (.func 80) #[] #[.pointer (some ⟨b111, 0, none⟩), .pointer (some ⟨b115, 0, none⟩), .pointer (some ⟨b122, 0, none⟩)]]) rfl (q_load wd_108 rfl) (St.ld X133 (j := 0) rfl rfl) rfl ?_
  refine lpure (v := .int .i64 0) rfl (p_move rfl) rfl rfl ?_
  refine lend (nseq (dblock ?_))
  refine dunroll 999999 rfl ?_
  refine dseq (dreg ?_)
  refine lpure (v := .bool true) rfl (p_lt rfl) rfl rfl ?_
  refine lend (nseq (dseq (dcondT rfl rfl (dskip (nseq (dseq (dblock (dseq (dreg ?_)))))))))
  refine lpure (v := .func (.func 77) #[] #[.pointer (some ⟨b111, 0, none⟩), .pointer (some ⟨b122, 0, none⟩)]) rfl (p_index as_108 rfl) rfl rfl ?_
  refine lpure (v := .func (.func 77) #[] #[.pointer (some ⟨b111, 0, none⟩), .pointer (some ⟨b122, 0, none⟩)]) rfl (p_assign rfl) rfl rfl ?_
  refine lend (nseq (dseq (dreg ?_)))
  refine lpure (v := .func (.func 77) #[] #[.pointer (some ⟨b111, 0, none⟩), .pointer (some ⟨b122, 0, none⟩)]) rfl (p_move rfl) rfl rfl ?_
  refine linl rfl rfl rfl rfl ca_77 rfl Try.func77 rfl rfl rfl rfl rfl ?_
  refine dseq (dreg ?_)
  refine lpure (v := .bool false) rfl (p_assign rfl) rfl rfl ?_
  refine lend (nseq (dseq (dreg ?_)))
  refine lread (v := .agg #[.int .i64 p107.Nodes, .slice a108 n108 c108, .slice a109 n109 c109]) rfl (q_load wd_29 rfl) (St.ld X133 (j := 3) rfl rfl) rfl ?_
  refine lpure (v := .pointer (some ⟨b122, 0, none⟩)) rfl (p_fa fo_75_0 rfl) rfl rfl ?_
  refine lread (v := .int .i64 e119.A) rfl (q_load wd_3 rfl) (St.ld X133 (j := 1) rfl rfl) rfl ?_
  refine lcall rfl rfl ca_40 rfl rfl (f40_ok X133 p107 (e119.A) H108 H109) rfl (fun e149 v150 h151 hq152 => ?_)
  cases hq152
  refine lpure (v := .bool e149) rfl (p_move rfl) rfl rfl ?_
  refine ljoinM (τ := Bool) (σ := Unit) (fun s159 (_ : Unit) => [(1, .pointer (some ⟨b122, 0, none⟩)), (12, .bool s159)]) (fun s159 (_ : Unit) hh => St φ h.n hh ([(some b128, .cells [.func (.func 77) #[] #[.pointer (some ⟨b111, 0, none⟩), .pointer (some ⟨b122, 0, none⟩)], .func (.func 78) #[] #[.pointer (some ⟨b111, 0, none⟩), .pointer (some ⟨b122, 0, none⟩)], .func (.func 79) #[] #[.pointer (some ⟨b122, 0, none⟩)], .func (.func 80) #[] #[.pointer (some ⟨b111, 0, none⟩), .pointer (some ⟨b115, 0, none⟩), .pointer (some ⟨b122, 0, none⟩)]] 108 .exact), (some b122, .cells [.int .i64 e119.A, .int .i64 e119.B, .int .i64 e119.Per, .int .i64 e119.Delay] 75 .exact), (some b115, .cells [.int .i64 p110] 3 .exact), (some b111, .cells [.int .i64 p107.Nodes, .slice a108 n108 c108, .slice a109 n109 c109] 29 .exact)])) 5 ?_ ?_
  · rintro s159 _ t0 h161 X160
    refine lpure (v := .bool s159) rfl (p_move rfl) rfl rfl ?_
    refine lsh (τ := Bool) (σ := Unit) (fun s163 (_ : Unit) => [(19, .bool s163)]) (fun s163 (_ : Unit) hh => St φ h.n hh ([(some b128, .cells [.func (.func 77) #[] #[.pointer (some ⟨b111, 0, none⟩), .pointer (some ⟨b122, 0, none⟩)], .func (.func 78) #[] #[.pointer (some ⟨b111, 0, none⟩), .pointer (some ⟨b122, 0, none⟩)], .func (.func 79) #[] #[.pointer (some ⟨b122, 0, none⟩)], .func (.func 80) #[] #[.pointer (some ⟨b111, 0, none⟩), .pointer (some ⟨b115, 0, none⟩), .pointer (some ⟨b122, 0, none⟩)]] 108 .exact), (some b122, .cells [.int .i64 e119.A, .int .i64 e119.B, .int .i64 e119.Per, .int .i64 e119.Delay] 75 .exact), (some b115, .cells [.int .i64 p110] 3 .exact), (some b111, .cells [.int .i64 p107.Nodes, .slice a108 n108 c108, .slice a109 n109 c109] 29 .exact)])) 6 ?_ ?_
    · rintro s163 _ t0 h165 X164
      refine lpure (v := .bool s163) rfl (p_assign rfl) rfl rfl ?_
      refine lend (nseq (dret ?_))
      refine kin_r (res_1 resT) ?_
      refine lpure (v := .bool (!s163)) rfl (p_not rfl) rfl rfl ?_
      refine lend (nseq ?_)
      refine dcond rfl rfl (fun k166 => ?_) (fun k166 => ?_)
      · refine dseq (dreg ?_)
        refine lpure (v := .bool false) rfl (p_assign rfl) rfl rfl ?_
        refine lend (nseq (dret (rblock (rseq (rloop (rblock (rseq ?_)))))))
        exact kcut_r (res_1 resT) X164 rfl rfl
      refine dskip (nblock (nseq (dreg ?_)))
      refine lpure (v := .int .i64 1) rfl (p_add rfl) rfl rfl ?_
      refine lpure (v := .int .i64 1) rfl (p_move rfl) rfl rfl ?_
      refine lend ?_
      refine nunroll 999998 rfl ?_
      refine dseq (dreg ?_)
      refine lpure (v := .bool true) rfl (p_lt rfl) rfl rfl ?_
      refine lend (nseq (dseq (dcondT rfl rfl (dskip (nseq (dseq (dblock (dseq (dreg ?_)))))))))
      refine lpure (v := .func (.func 78) #[] #[.pointer (some ⟨b111, 0, none⟩), .pointer (some ⟨b122, 0, none⟩)]) rfl (p_index as_108 rfl) rfl rfl ?_
      refine lpure (v := .func (.func 78) #[] #[.pointer (some ⟨b111, 0, none⟩), .pointer (some ⟨b122, 0, none⟩)]) rfl (p_assign rfl) rfl rfl ?_
      refine lend (nseq (dseq (dreg ?_)))
      refine lpure (v := .func (.func 78) #[] #[.pointer (some ⟨b111, 0, none⟩), .pointer (some ⟨b122, 0, none⟩)]) rfl (p_move rfl) rfl rfl ?_
      refine linl rfl rfl rfl rfl ca_78 rfl Try.func78 rfl rfl rfl rfl rfl ?_
      refine dseq (dreg ?_)
      refine lpure (v := .bool false) rfl (p_assign rfl) rfl rfl ?_
      refine lend (nseq (dseq (dreg ?_)))
      refine lpure (v := .pointer (some ⟨b111, 1, none⟩)) rfl (p_fa fo_29_1 rfl) rfl rfl ?_
      refine lread (v := .slice a108 n108 c108) rfl (q_load wd_26 rfl) (St.ld X164 (j := 3) rfl rfl) rfl ?_
      refine lpure (v := .pointer (some ⟨b122, 0, none⟩)) rfl (p_fa fo_75_0 rfl) rfl rfl ?_
      refine lread (v := .int .i64 e119.A) rfl (q_load wd_3 rfl) (St.ld X164 (j := 1) rfl rfl) rfl ?_
      refine Sim.bindM fun e167 he168 => ?_
      obtain ⟨p169, cs169, hp169, hF169, hR169⟩ := RSl.ia H108 he168 (kd := .i64) (n := 1) rfl
      have hR169 : _ = [(.bool e167 : Value)] := hR169
      subst hR169
      refine lpure (v := p169) rfl (p_ia rs_26 rfl) hp169 rfl ?_
      refine lread (v := .bool e167) rfl (q_load wd_4 rfl) (FP.ld X164 hF169) rfl ?_
      refine lpure (v := .bool (!e167)) rfl (p_not rfl) rfl rfl ?_
      refine lpure (v := .bool (!e167)) rfl (p_move rfl) rfl rfl ?_
      refine ljoinM (τ := Bool) (σ := Unit) (fun s175 (_ : Unit) => [(18, .bool s175)]) (fun s175 (_ : Unit) hh => St φ h.n hh ([(some b128, .cells [.func (.func 77) #[] #[.pointer (some ⟨b111, 0, none⟩), .pointer (some ⟨b122, 0, none⟩)], .func (.func 78) #[] #[.pointer (some ⟨b111, 0, none⟩), .pointer (some ⟨b122, 0, none⟩)], .func (.func 79) #[] #[.pointer (some ⟨b122, 0, none⟩)], .func (.func 80) #[] #[.pointer (some ⟨b111, 0, none⟩), .pointer (some ⟨b115, 0, none⟩), .pointer (some ⟨b122, 0, none⟩)]] 108 .exact), (some b122, .cells [.int .i64 e119.A, .int .i64 e119.B, .int .i64 e119.Per, .int .i64 e119.Delay] 75 .exact), (some b115, .cells [.int .i64 p110] 3 .exact), (some b111, .cells [.int .i64 p107.Nodes, .slice a108 n108 c108, .slice a109 n109 c109] 29 .exact)])) 8 ?_ ?_
      · rintro s175 _ t0 h177 X176
        refine lpure (v := .bool s175) rfl (p_assign rfl) rfl rfl ?_
        refine lend (nseq (dret ?_))
        refine kin_r (res_1 resT) ?_
        refine lpure (v := .bool (!s175)) rfl (p_not rfl) rfl rfl ?_
        refine lend (nseq ?_)
        refine dcond rfl rfl (fun k178 => ?_) (fun k178 => ?_)
        · refine dseq (dreg ?_)
          refine lpure (v := .bool false) rfl (p_assign rfl) rfl rfl ?_
          refine lend (nseq (dret (rblock (rseq (rloop (rblock (rseq ?_)))))))
          exact kcut_r (res_1 resT) X176 rfl rfl
        refine dskip (nblock (nseq (dreg ?_)))
        refine lpure (v := .int .i64 2) rfl (p_add rfl) rfl rfl ?_
        refine lpure (v := .int .i64 2) rfl (p_move rfl) rfl rfl ?_
        refine lend ?_
        refine nunroll 999997 rfl ?_
        refine dseq (dreg ?_)
        refine lpure (v := .bool true) rfl (p_lt rfl) rfl rfl ?_
        refine lend (nseq (dseq (dcondT rfl rfl (dskip (nseq (dseq (dblock (dseq (dreg ?_)))))))))
        refine lpure (v := .func (.func 79) #[] #[.pointer (some ⟨b122, 0, none⟩)]) rfl (p_index as_108 rfl) rfl rfl ?_
        refine lpure (v := .func (.func 79) #[] #[.pointer (some ⟨b122, 0, none⟩)]) rfl (p_assign rfl) rfl rfl ?_
        refine lend (nseq (dseq (dreg ?_)))
        refine lpure (v := .func (.func 79) #[] #[.pointer (some ⟨b122, 0, none⟩)]) rfl (p_move rfl) rfl rfl ?_
        refine linl rfl rfl rfl rfl ca_79 rfl Try.func79 rfl rfl rfl rfl rfl ?_
        refine dseq (dreg ?_)
        refine lpure (v := .bool false) rfl (p_assign rfl) rfl rfl ?_
        refine lend (nseq (dseq (dreg ?_)))
        refine lpure (v := .pointer (some ⟨b122, 2, none⟩)) rfl (p_fa fo_75_2 rfl) rfl rfl ?_
        refine lread (v := .int .i64 e119.Per) rfl (q_load wd_3 rfl) (St.ld X176 (j := 1) rfl rfl) rfl ?_
        refine lpure (v := .bool (decide (1 ≤ e119.Per))) rfl (p_ge rfl) rfl rfl ?_
        refine lpure (v := .bool (decide (1 ≤ e119.Per))) rfl (p_move rfl) rfl rfl ?_
        refine lsh (τ := Bool) (σ := Unit) (fun s180 (_ : Unit) => [(0, .pointer (some ⟨b122, 0, none⟩)), (9, .bool s180)]) (fun s180 (_ : Unit) hh => St φ h.n hh ([(some b128, .cells [.func (.func 77) #[] #[.pointer (some ⟨b111, 0, none⟩), .pointer (some ⟨b122, 0, none⟩)], .func (.func 78) #[] #[.pointer (some ⟨b111, 0, none⟩), .pointer (some ⟨b122, 0, none⟩)], .func (.func 79) #[] #[.pointer (some ⟨b122, 0, none⟩)], .func (.func 80) #[] #[.pointer (some ⟨b111, 0, none⟩), .pointer (some ⟨b115, 0, none⟩), .pointer (some ⟨b122, 0, none⟩)]] 108 .exact), (some b122, .cells [.int .i64 e119.A, .int .i64 e119.B, .int .i64 e119.Per, .int .i64 e119.Delay] 75 .exact), (some b115, .cells [.int .i64 p110] 3 .exact), (some b111, .cells [.int .i64 p107.Nodes, .slice a108 n108 c108, .slice a109 n109 c109] 29 .exact)])) 4 ?_ ?_
        · rintro s180 _ t0 h182 X181
          refine lpure (v := .bool s180) rfl (p_move rfl) rfl rfl ?_
          refine lsh (τ := Bool) (σ := Unit) (fun s184 (_ : Unit) => [(0, .pointer (some ⟨b122, 0, none⟩)), (14, .bool s184)]) (fun s184 (_ : Unit) hh => St φ h.n hh ([(some b128, .cells [.func (.func 77) #[] #[.pointer (some ⟨b111, 0, none⟩), .pointer (some ⟨b122, 0, none⟩)], .func (.func 78) #[] #[.pointer (some ⟨b111, 0, none⟩), .pointer (some ⟨b122, 0, none⟩)], .func (.func 79) #[] #[.pointer (some ⟨b122, 0, none⟩)], .func (.func 80) #[] #[.pointer (some ⟨b111, 0, none⟩), .pointer (some ⟨b115, 0, none⟩), .pointer (some ⟨b122, 0, none⟩)]] 108 .exact), (some b122, .cells [.int .i64 e119.A, .int .i64 e119.B, .int .i64 e119.Per, .int .i64 e119.Delay] 75 .exact), (some b115, .cells [.int .i64 p110] 3 .exact), (some b111, .cells [.int .i64 p107.Nodes, .slice a108 n108 c108, .slice a109 n109 c109] 29 .exact)])) 4 ?_ ?_
          · rintro s184 _ t0 h186 X185
            refine lpure (v := .bool s184) rfl (p_move rfl) rfl rfl ?_
            refine lsh (τ := Bool) (σ := Unit) (fun s188 (_ : Unit) => [(19, .bool s188)]) (fun s188 (_ : Unit) hh => St φ h.n hh ([(some b128, .cells [.func (.func 77) #[] #[.pointer (some ⟨b111, 0, none⟩), .pointer (some ⟨b122, 0, none⟩)], .func (.func 78) #[] #[.pointer (some ⟨b111, 0, none⟩), .pointer (some ⟨b122, 0, none⟩)], .func (.func 79) #[] #[.pointer (some ⟨b122, 0, none⟩)], .func (.func 80) #[] #[.pointer (some ⟨b111, 0, none⟩), .pointer (some ⟨b115, 0, none⟩), .pointer (some ⟨b122, 0, none⟩)]] 108 .exact), (some b122, .cells [.int .i64 e119.A, .int .i64 e119.B, .int .i64 e119.Per, .int .i64 e119.Delay] 75 .exact), (some b115, .cells [.int .i64 p110] 3 .exact), (some b111, .cells [.int .i64 p107.Nodes, .slice a108 n108 c108, .slice a109 n109 c109] 29 .exact)])) 4 ?_ ?_
            · rintro s188 _ t0 h190 X189
              refine lpure (v := .bool s188) rfl (p_assign rfl) rfl rfl ?_
              refine lend (nseq (dret ?_))
              refine kin_r (res_1 resT) ?_
              refine lpure (v := .bool (!s188)) rfl (p_not rfl) rfl rfl ?_
              refine lend (nseq ?_)
              refine dcond rfl rfl (fun k191 => ?_) (fun k191 => ?_)
              · refine dseq (dreg ?_)
                refine lpure (v := .bool false) rfl (p_assign rfl) rfl rfl ?_
                refine lend (nseq (dret (rblock (rseq (rloop (rblock (rseq ?_)))))))
                exact kcut_r (res_1 resT) X189 rfl rfl
              refine dskip (nblock (nseq (dreg ?_)))
              refine lpure (v := .int .i64 3) rfl (p_add rfl) rfl rfl ?_
              refine lpure (v := .int .i64 3) rfl (p_move rfl) rfl rfl ?_
              refine lend ?_
              refine nunroll 999996 rfl ?_
              refine dseq (dreg ?_)
              refine lpure (v := .bool true) rfl (p_lt rfl) rfl rfl ?_
              refine lend (nseq (dseq (dcondT rfl rfl (dskip (nseq (dseq (dblock (dseq (dreg ?_)))))))))
              refine lpure (v := .func (.func 80) #[] #[.pointer (some ⟨b111, 0, none⟩), .pointer (some ⟨b115, 0, none⟩), .pointer (some ⟨b122, 0, none⟩)]) rfl (p_index as_108 rfl) rfl rfl ?_
              refine lpure (v := .func (.func 80) #[] #[.pointer (some ⟨b111, 0, none⟩), .pointer (some ⟨b115, 0, none⟩), .pointer (some ⟨b122, 0, none⟩)]) rfl (p_assign rfl) rfl rfl ?_
              refine lend (nseq (dseq (dreg ?_)))
              refine lpure (v := .func (.func 80) #[] #[.pointer (some ⟨b111, 0, none⟩), .pointer (some ⟨b115, 0, none⟩), .pointer (some ⟨b122, 0, none⟩)]) rfl (p_move rfl) rfl rfl ?_
              refine linl rfl rfl rfl rfl ca_80 rfl Try.func80 rfl rfl rfl rfl rfl ?_
              refine dseq (dreg ?_)
              refine lpure (v := .bool false) rfl (p_assign rfl) rfl rfl ?_
              refine lend (nseq (dseq (dreg ?_)))
              refine lpure (v := .pointer (some ⟨b111, 2, none⟩)) rfl (p_fa fo_29_2 rfl) rfl rfl ?_
              refine lread (v := .slice a109 n109 c109) rfl (q_load wd_27 rfl) (St.ld X189 (j := 3) rfl rfl) rfl ?_
              refine lread (v := .int .i64 p110) rfl (q_load wd_3 rfl) (St.ld X189 (j := 2) rfl rfl) rfl ?_
              refine Sim.mustM fun k192 => ?_
              have k192 := of_decide_eq_true k192
              obtain ⟨a192, n192, c192, hv192, H192⟩ := RSl.slice H109 X189 un_27 ts_75 rfl bnd_none (bnd_int (show (0 : Int) ≤ p110 from by omega)) (by omega) (by omega)
              refine lread rfl (q_slice rfl (evo_ok rfl) (evo_ok rfl) (evo_ok rfl)) hv192 rfl ?_
              refine lpure (v := .func (.func 82) #[] #[.pointer (some ⟨b122, 0, none⟩)]) rfl (p_makeFunc rfl) rfl rfl ?_
              refine linl rfl rfl rfl rfl ca_81 rfl Try.func81 rfl rfl rfl rfl rfl ?_
              refine dseq (dreg ?_)
              refine lpure (v := .bool false) rfl (p_assign rfl) rfl rfl ?_
              refine lend (nseq (dseq (dreg ?_)))
              refine lpure (v := .slice a192 n192 c192) rfl (p_move rfl) rfl rfl ?_
              refine lpure (v := .func (.func 82) #[] #[.pointer (some ⟨b122, 0, none⟩)]) rfl (p_move rfl) rfl rfl ?_
              refine linl rfl rfl rfl rfl ca_108 rfl Try.func108 rfl rfl rfl rfl rfl ?_
              refine dseq (dreg ?_)
              refine lpure (v := .int .i64 0) rfl (p_assign rfl) rfl rfl ?_
              refine lend (nseq (dseq (dseq (dreg ?_))))
              refine lpure (v := .slice a192 n192 c192) rfl (p_move rfl) rfl rfl ?_
              refine lpure (v := .int .i64 ((p107.Links.take (p110).toNat).length : Int)) rfl (p_len rfl rfl rfl un_27 rfl) (RSl.lenC H192) rfl ?_
              refine lpure (v := .int .i64 0) rfl (p_move rfl) rfl rfl ?_
              refine lend (nseq (dblock ?_))
              refine dloopM (τ := Int) (σ := Unit) (fun s248 (_ : Unit) => [(0, .slice a192 n192 c192), (1, .func (.func 82) #[] #[.pointer (some ⟨b122, 0, none⟩)]), (7, .int .i64 ((p107.Links.take (p110).toNat).length : Int)), (8, .int .i64 s248)]) (fun s248 (_ : Unit) hh => St φ h.n hh ([(some b128, .cells [.func (.func 77) #[] #[.pointer (some ⟨b111, 0, none⟩), .pointer (some ⟨b122, 0, none⟩)], .func (.func 78) #[] #[.pointer (some ⟨b111, 0, none⟩), .pointer (some ⟨b122, 0, none⟩)], .func (.func 79) #[] #[.pointer (some ⟨b122, 0, none⟩)], .func (.func 80) #[] #[.pointer (some ⟨b111, 0, none⟩), .pointer (some ⟨b115, 0, none⟩), .pointer (some ⟨b122, 0, none⟩)]] 108 .exact), (some b122, .cells [.int .i64 e119.A, .int .i64 e119.B, .int .i64 e119.Per, .int .i64 e119.Delay] 75 .exact), (some b115, .cells [.int .i64 p110] 3 .exact), (some b111, .cells [.int .i64 p107.Nodes, .slice a108 n108 c108, .slice a109 n109 c109] 29 .exact)])) 0 () (sub_cons rfl (sub_cons rfl (sub_cons rfl (sub_cons rfl sub_nil)))) X189 ?_
              rintro n278 ih277 s248 _ t0 h280 X279
              refine dseq (dreg ?_)
              refine lpure (v := .bool (decide (s248 < ((p107.Links.take (p110).toNat).length : Int)))) rfl (p_lt rfl) rfl rfl ?_
              refine lend (nseq (dseq ?_))
              refine dcond rfl rfl (fun k281 => ?_) (fun k281 => ?_)
              · refine dskip (nseq (dseq (dblock (dseq (dreg ?_)))))
                refine lpure (v := .int .i64 s248) rfl (p_move rfl) rfl rfl ?_
                refine lpure (v := .int .i64 s248) rfl (p_assign rfl) rfl rfl ?_
                refine lend (nseq (dseq (dreg ?_)))
                refine lpure (v := .func (.func 82) #[] #[.pointer (some ⟨b122, 0, none⟩)]) rfl (p_move rfl) rfl rfl ?_
                refine lpure (v := .slice a192 n192 c192) rfl (p_move rfl) rfl rfl ?_
                refine lpure (v := .int .i64 s248) rfl (p_move rfl) rfl rfl ?_
                refine Sim.bindM fun e282 he283 => ?_
                obtain ⟨p284, cs284, hp284, hF284, hR284⟩ := RSl.ia H192 he283 (kd := .i64) (n := 4) rfl
                obtain rfl := eApiLink_el hR284
                refine lpure (v := p284) rfl (p_ia rs_27 rfl) hp284 rfl ?_
                refine lread (v := .agg #[.int .i64 e282.A, .int .i64 e282.B, .int .i64 e282.Per, .int .i64 e282.Delay]) rfl (q_load wd_75 rfl) (FP.ldw X279 hF284 rfl rfl) rfl ?_
                refine linl rfl rfl rfl rfl ca_82 rfl Try.func82 rfl rfl rfl rfl rfl ?_
                refine dseq (dreg ?_)
                refine lbox rfl rfl rfl rfl rfl X279 (fun b285 h287 X288 => ?_)
                refine lpure (v := .bool false) rfl (p_assign rfl) rfl rfl ?_
                refine lend (nseq (dseq (dreg ?_)))
                refine lpure (v := .pointer (some ⟨b285, 0, none⟩)) rfl (p_fa fo_75_0 rfl) rfl rfl ?_
                refine lread (v := .int .i64 e282.A) rfl (q_load wd_3 rfl) (St.ld X288 (j := 0) rfl rfl) rfl ?_
                refine lpure (v := .pointer (some ⟨b122, 0, none⟩)) rfl (p_fa fo_75_0 rfl) rfl rfl ?_
                refine lread (v := .int .i64 e119.A) rfl (q_load wd_3 rfl) (St.ld X288 (j := 2) rfl rfl) rfl ?_
                refine lpure (v := .bool (decide (e282.A = e119.A))) rfl (p_eq rfl) rfl rfl ?_
                refine lpure (v := .bool (decide (e282.A = e119.A))) rfl (p_move rfl) rfl rfl ?_
                refine lsh (τ := Bool) (σ := Unit) (fun s290 (_ : Unit) => [(1, .pointer (some ⟨b122, 0, none⟩)), (2, .pointer (some ⟨b285, 0, none⟩)), (15, .bool s290)]) (fun s290 (_ : Unit) hh => St φ h.n hh ([(some b285, .cells [.int .i64 e282.A, .int .i64 e282.B, .int .i64 e282.Per, .int .i64 e282.Delay] 75 .exact), (some b128, .cells [.func (.func 77) #[] #[.pointer (some ⟨b111, 0, none⟩), .pointer (some ⟨b122, 0, none⟩)], .func (.func 78) #[] #[.pointer (some ⟨b111, 0, none⟩), .pointer (some ⟨b122, 0, none⟩)], .func (.func 79) #[] #[.pointer (some ⟨b122, 0, none⟩)], .func (.func 80) #[] #[.pointer (some ⟨b111, 0, none⟩), .pointer (some ⟨b115, 0, none⟩), .pointer (some ⟨b122, 0, none⟩)]] 108 .exact), (some b122, .cells [.int .i64 e119.A, .int .i64 e119.B, .int .i64 e119.Per, .int .i64 e119.Delay] 75 .exact), (some b115, .cells [.int .i64 p110] 3 .exact), (some b111, .cells [.int .i64 p107.Nodes, .slice a108 n108 c108, .slice a109 n109 c109] 29 .exact)])) 6 ?_ ?_
                · rintro s290 _ t0 h292 X291
                  refine lpure (v := .bool s290) rfl (p_move rfl) rfl rfl ?_
                  refine lsh (τ := Bool) (σ := Unit) (fun s294 (_ : Unit) => [(29, .bool s294)]) (fun s294 (_ : Unit) hh => St φ h.n hh ([(some b285, .cells [.int .i64 e282.A, .int .i64 e282.B, .int .i64 e282.Per, .int .i64 e282.Delay] 75 .exact), (some b128, .cells [.func (.func 77) #[] #[.pointer (some ⟨b111, 0, none⟩), .pointer (some ⟨b122, 0, none⟩)], .func (.func 78) #[] #[.pointer (some ⟨b111, 0, none⟩), .pointer (some ⟨b122, 0, none⟩)], .func (.func 79) #[] #[.pointer (some ⟨b122, 0, none⟩)], .func (.func 80) #[] #[.pointer (some ⟨b111, 0, none⟩), .pointer (some ⟨b115, 0, none⟩), .pointer (some ⟨b122, 0, none⟩)]] 108 .exact), (some b122, .cells [.int .i64 e119.A, .int .i64 e119.B, .int .i64 e119.Per, .int .i64 e119.Delay] 75 .exact), (some b115, .cells [.int .i64 p110] 3 .exact), (some b111, .cells [.int .i64 p107.Nodes, .slice a108 n108 c108, .slice a109 n109 c109] 29 .exact)])) 13 ?_ ?_
                  · rintro s294 _ t0 h296 X295
                    refine lpure (v := .bool s294) rfl (p_assign rfl) rfl rfl ?_
                    refine lend (nseq (dret ?_))
                    refine kin_r (res_1 resT) ?_
                    refine lend (nseq ?_)
                    refine dcond rfl rfl (fun k297 => ?_) (fun k297 => ?_)
                    · refine dseq (dreg ?_)
                      refine lpure (v := .int .i64 s248) rfl (p_move rfl) rfl rfl ?_
                      refine lpure (v := .int .i64 s248) rfl (p_assign rfl) rfl rfl ?_
                      refine lend (nseq (dret (rblock (rseq (rloop (rblock (rseq ?_)))))))
                      refine kin_r (res_1 resT) ?_
                      refine lpure (v := .bool (decide (0 ≤ s248))) rfl (p_ge rfl) rfl rfl ?_
                      refine lpure (v := .bool (decide (0 ≤ s248))) rfl (p_assign rfl) rfl rfl ?_
                      refine lend (nseq (dret ?_))
                      refine kin_r (res_1 resT) ?_
                      refine lpure (v := .bool (!(decide (0 ≤ s248)))) rfl (p_not rfl) rfl rfl ?_
                      refine lpure (v := .bool (!(decide (0 ≤ s248)))) rfl (p_assign rfl) rfl rfl ?_
                      refine lend (nseq (dret ?_))
                      refine kin_r (res_1 resT) ?_
                      refine lpure (v := .bool (!(!(decide (0 ≤ s248))))) rfl (p_not rfl) rfl rfl ?_
                      refine lend (nseq ?_)
                      refine dcond rfl rfl (fun k298 => ?_) (fun k298 => ?_)
                      · refine dseq (dreg ?_)
                        refine lpure (v := .bool false) rfl (p_assign rfl) rfl rfl ?_
                        refine lend (nseq (dret (rblock (rseq (rloop (rblock (rseq ?_)))))))
                        exact kcut_r (res_1 resT) X295 rfl rfl
                      refine dskip (nblock (nseq (dreg ?_)))
                      refine lpure (v := .int .i64 4) rfl (p_add rfl) rfl rfl ?_
                      refine lpure (v := .int .i64 4) rfl (p_move rfl) rfl rfl ?_
                      refine lend ?_
                      refine nunroll 999995 rfl ?_
                      refine dseq (dreg ?_)
                      refine lpure (v := .bool false) rfl (p_lt rfl) rfl rfl ?_
                      refine lend (nseq (dseq (dcondF rfl rfl (dexit (eseq (eloop (xblock (nseq (dseq (dreg ?_))))))))))
                      refine lpure (v := .bool true) rfl (p_assign rfl) rfl rfl ?_
                      refine lend (nseq (dret ?_))
                      exact kcut_r (res_1 resT) X295 rfl rfl
                    refine dskip (nblock (nseq (dreg ?_)))
                    refine lpure (v := .int .i64 (w64 (s248 + 1))) rfl (p_add rfl) rfl rfl ?_
                    refine lpure (v := .int .i64 (w64 (s248 + 1))) rfl (p_move rfl) rfl rfl ?_
                    refine lend ?_
                    exact kbackM ih277 (w64 (s248 + 1)) () (sub_cons rfl (sub_cons rfl (sub_cons rfl (sub_cons rfl sub_nil)))) (St.pick X295 (.skip _ (.keep _ (.keep _ (.keep _ (.keep _ (.nil _)))))))
                  intro j299 J300
                  refine lcase (i := 16) (show _ = Value.bool s290 from rfl) (fun k301 => ?_) (fun k301 => ?_)
                  · refine lskip rfl rfl ?_
                    refine lskip rfl rfl ?_
                    refine lskip rfl rfl ?_
                    refine lskip rfl rfl ?_
                    refine lskip rfl rfl ?_
                    refine lskip rfl rfl ?_
                    refine lskip rfl rfl ?_
                    refine lskip rfl rfl ?_
                    refine lskip rfl rfl ?_
                    refine lskip rfl rfl ?_
                    refine lskip rfl rfl ?_
                    refine lskip rfl rfl ?_
                    refine lpure (v := .bool true) rfl (p_pick rfl) rfl rfl ?_
                    refine Sim.of_eq (congrArg j299 (show (s290 || ((decide (e282.A = e119.B)) && (decide (e282.B = e119.A)))) = true from by rw [k301] <;> rfl)) ?_
                    exact ljmpM J300 true () (sub_cons rfl sub_nil) X291
                  refine lpure (v := .pointer (some ⟨b285, 0, none⟩)) rfl (p_fa fo_75_0 rfl) rfl rfl ?_
                  refine lread (v := .int .i64 e282.A) rfl (q_load wd_3 rfl) (St.ld X291 (j := 0) rfl rfl) rfl ?_
                  refine lpure (v := .pointer (some ⟨b122, 1, none⟩)) rfl (p_fa fo_75_1 rfl) rfl rfl ?_
                  refine lread (v := .int .i64 e119.B) rfl (q_load wd_3 rfl) (St.ld X291 (j := 2) rfl rfl) rfl ?_
                  refine lpure (v := .bool (decide (e282.A = e119.B))) rfl (p_eq rfl) rfl rfl ?_
                  refine lpure (v := .bool (decide (e282.A = e119.B))) rfl (p_move rfl) rfl rfl ?_
                  refine lcase (i := 22) (show _ = Value.bool (decide (e282.A = e119.B)) from rfl) (fun k302 => ?_) (fun k302 => ?_)
                  · refine lpure (v := .pointer (some ⟨b285, 1, none⟩)) rfl (p_fa fo_75_1 rfl) rfl rfl ?_
                    refine lread (v := .int .i64 e282.B) rfl (q_load wd_3 rfl) (St.ld X291 (j := 0) rfl rfl) rfl ?_
                    refine lpure (v := .pointer (some ⟨b122, 0, none⟩)) rfl (p_fa fo_75_0 rfl) rfl rfl ?_
                    refine lread (v := .int .i64 e119.A) rfl (q_load wd_3 rfl) (St.ld X291 (j := 2) rfl rfl) rfl ?_
                    refine lpure (v := .bool (decide (e282.B = e119.A))) rfl (p_eq rfl) rfl rfl ?_
                    refine lpure (v := .bool (decide (e282.B = e119.A))) rfl (p_pick rfl) rfl rfl ?_
                    refine lpure (v := .bool (decide (e282.B = e119.A))) rfl (p_pick rfl) rfl rfl ?_
                    refine Sim.of_eq (congrArg j299 (show (s290 || ((decide (e282.A = e119.B)) && (decide (e282.B = e119.A)))) = (decide (e282.B = e119.A)) from by rw [k301, k302] <;> rfl)) ?_
                    exact ljmpM J300 (decide (e282.B = e119.A)) () (sub_cons rfl sub_nil) X291
                  refine lskip rfl rfl ?_
                  refine lskip rfl rfl ?_
                  refine lskip rfl rfl ?_
                  refine lskip rfl rfl ?_
                  refine lskip rfl rfl ?_
                  refine lpure (v := .bool false) rfl (p_pick rfl) rfl rfl ?_
                  refine lpure (v := .bool false) rfl (p_pick rfl) rfl rfl ?_
                  refine Sim.of_eq (congrArg j299 (show (s290 || ((decide (e282.A = e119.B)) && (decide (e282.B = e119.A)))) = false from by rw [k301, k302] <;> rfl)) ?_
                  exact ljmpM J300 false () (sub_cons rfl sub_nil) X291
                intro j303 J304
                refine lcase (i := 9) (show _ = Value.bool (decide (e282.A = e119.A)) from rfl) (fun k305 => ?_) (fun k305 => ?_)
                · refine lpure (v := .pointer (some ⟨b285, 1, none⟩)) rfl (p_fa fo_75_1 rfl) rfl rfl ?_
                  refine lread (v := .int .i64 e282.B) rfl (q_load wd_3 rfl) (St.ld X288 (j := 0) rfl rfl) rfl ?_
                  refine lpure (v := .pointer (some ⟨b122, 1, none⟩)) rfl (p_fa fo_75_1 rfl) rfl rfl ?_
                  refine lread (v := .int .i64 e119.B) rfl (q_load wd_3 rfl) (St.ld X288 (j := 2) rfl rfl) rfl ?_
                  refine lpure (v := .bool (decide (e282.B = e119.B))) rfl (p_eq rfl) rfl rfl ?_
                  refine lpure (v := .bool (decide (e282.B = e119.B))) rfl (p_pick rfl) rfl rfl ?_
                  refine Sim.of_eq (congrArg j303 (show ((decide (e282.A = e119.A)) && (decide (e282.B = e119.B))) = (decide (e282.B = e119.B)) from by rw [k305] <;> rfl)) ?_
                  exact ljmpM J304 (decide (e282.B = e119.B)) () (sub_cons rfl (sub_cons rfl (sub_cons rfl sub_nil))) X288
                refine lskip rfl rfl ?_
                refine lskip rfl rfl ?_
                refine lskip rfl rfl ?_
                refine lskip rfl rfl ?_
                refine lskip rfl rfl ?_
                refine lpure (v := .bool false) rfl (p_pick rfl) rfl rfl ?_
                refine Sim.of_eq (congrArg j303 (show ((decide (e282.A = e119.A)) && (decide (e282.B = e119.B))) = false from by rw [k305] <;> rfl)) ?_
                exact ljmpM J304 false () (sub_cons rfl (sub_cons rfl (sub_cons rfl sub_nil))) X288
              refine dexit (eseq (eloop (xblock (nseq (dseq (dreg ?_))))))
              refine lpure (v := .int .i64 (-1)) rfl (p_assign rfl) rfl rfl ?_
              refine lend (nseq (dret ?_))
              refine kin_r (res_1 resT) ?_
              refine lpure (v := .bool false) rfl (p_ge rfl) rfl rfl ?_
              refine lpure (v := .bool false) rfl (p_assign rfl) rfl rfl ?_
              refine lend (nseq (dret ?_))
              refine kin_r (res_1 resT) ?_
              refine lpure (v := .bool true) rfl (p_not rfl) rfl rfl ?_
              refine lpure (v := .bool true) rfl (p_assign rfl) rfl rfl ?_
              refine lend (nseq (dret ?_))
              refine kin_r (res_1 resT) ?_
              refine lpure (v := .bool false) rfl (p_not rfl) rfl rfl ?_
              refine lend (nseq (dcondF rfl rfl (dskip (nblock (nseq (dreg ?_))))))
              refine lpure (v := .int .i64 4) rfl (p_add rfl) rfl rfl ?_
              refine lpure (v := .int .i64 4) rfl (p_move rfl) rfl rfl ?_
              refine lend ?_
              refine nunroll 999995 rfl ?_
              refine dseq (dreg ?_)
              refine lpure (v := .bool false) rfl (p_lt rfl) rfl rfl ?_
              refine lend (nseq (dseq (dcondF rfl rfl (dexit (eseq (eloop (xblock (nseq (dseq (dreg ?_))))))))))
              refine lpure (v := .bool true) rfl (p_assign rfl) rfl rfl ?_
              refine lend (nseq (dret ?_))
              exact kcut_r (res_1 resT) X279 rfl rfl
            intro j306 J307
            refine lcase (i := 15) (show _ = Value.bool s184 from rfl) (fun k308 => ?_) (fun k308 => ?_)
            · refine lpure (v := .pointer (some ⟨b122, 3, none⟩)) rfl (p_fa fo_75_3 rfl) rfl rfl ?_
              refine lread (v := .int .i64 e119.Delay) rfl (q_load wd_3 rfl) (St.ld X185 (j := 1) rfl rfl) rfl ?_
              refine lpure (v := .bool (decide (e119.Delay ≤ 10000))) rfl (p_le rfl) rfl rfl ?_
              refine lpure (v := .bool (decide (e119.Delay ≤ 10000))) rfl (p_pick rfl) rfl rfl ?_
              refine Sim.of_eq (congrArg j306 (show (s184 && (decide (e119.Delay ≤ 10000))) = (decide (e119.Delay ≤ 10000)) from by rw [k308] <;> rfl)) ?_
              exact ljmpM J307 (decide (e119.Delay ≤ 10000)) () (sub_cons rfl sub_nil) X185
            refine lskip rfl rfl ?_
            refine lskip rfl rfl ?_
            refine lskip rfl rfl ?_
            refine lpure (v := .bool false) rfl (p_pick rfl) rfl rfl ?_
            refine Sim.of_eq (congrArg j306 (show (s184 && (decide (e119.Delay ≤ 10000))) = false from by rw [k308] <;> rfl)) ?_
            exact ljmpM J307 false () (sub_cons rfl sub_nil) X185
          intro j309 J310
          refine lcase (i := 10) (show _ = Value.bool s180 from rfl) (fun k311 => ?_) (fun k311 => ?_)
          · refine lpure (v := .pointer (some ⟨b122, 3, none⟩)) rfl (p_fa fo_75_3 rfl) rfl rfl ?_
            refine lread (v := .int .i64 e119.Delay) rfl (q_load wd_3 rfl) (St.ld X181 (j := 1) rfl rfl) rfl ?_
            refine lpure (v := .bool (decide (0 ≤ e119.Delay))) rfl (p_ge rfl) rfl rfl ?_
            refine lpure (v := .bool (decide (0 ≤ e119.Delay))) rfl (p_pick rfl) rfl rfl ?_
            refine Sim.of_eq (congrArg j309 (show (s180 && (decide (0 ≤ e119.Delay))) = (decide (0 ≤ e119.Delay)) from by rw [k311] <;> rfl)) ?_
            exact ljmpM J310 (decide (0 ≤ e119.Delay)) () (sub_cons rfl (sub_cons rfl sub_nil)) X181
          refine lskip rfl rfl ?_
          refine lskip rfl rfl ?_
          refine lskip rfl rfl ?_
          refine lpure (v := .bool false) rfl (p_pick rfl) rfl rfl ?_
          refine Sim.of_eq (congrArg j309 (show (s180 && (decide (0 ≤ e119.Delay))) = false from by rw [k311] <;> rfl)) ?_
          exact ljmpM J310 false () (sub_cons rfl (sub_cons rfl sub_nil)) X181
        intro j312 J313
        refine lcase (i := 5) (show _ = Value.bool (decide (1 ≤ e119.Per)) from rfl) (fun k314 => ?_) (fun k314 => ?_)
        · refine lpure (v := .pointer (some ⟨b122, 2, none⟩)) rfl (p_fa fo_75_2 rfl) rfl rfl ?_
          refine lread (v := .int .i64 e119.Per) rfl (q_load wd_3 rfl) (St.ld X176 (j := 1) rfl rfl) rfl ?_
          refine lpure (v := .bool (decide (e119.Per ≤ 1000))) rfl (p_le rfl) rfl rfl ?_
          refine lpure (v := .bool (decide (e119.Per ≤ 1000))) rfl (p_pick rfl) rfl rfl ?_
          refine Sim.of_eq (congrArg j312 (show ((decide (1 ≤ e119.Per)) && (decide (e119.Per ≤ 1000))) = (decide (e119.Per ≤ 1000)) from by rw [k314] <;> rfl)) ?_
          exact ljmpM J313 (decide (e119.Per ≤ 1000)) () (sub_cons rfl (sub_cons rfl sub_nil)) X176
        refine lskip rfl rfl ?_
        refine lskip rfl rfl ?_
        refine lskip rfl rfl ?_
        refine lpure (v := .bool false) rfl (p_pick rfl) rfl rfl ?_
        refine Sim.of_eq (congrArg j312 (show ((decide (1 ≤ e119.Per)) && (decide (e119.Per ≤ 1000))) = false from by rw [k314] <;> rfl)) ?_
        exact ljmpM J313 false () (sub_cons rfl (sub_cons rfl sub_nil)) X176
      intro j315 J316
      refine lif (i := 10) (show _ = Value.bool (!e167) from rfl) (fun k317 => ?_) (fun k317 => ?_)
      · refine lskip rfl rfl ?_
        refine lskip rfl rfl ?_
        refine lskip rfl rfl ?_
        refine lskip rfl rfl ?_
        refine lskip rfl rfl ?_
        refine lskip rfl rfl ?_
        refine lskip rfl rfl ?_
        refine lpure (v := .bool true) rfl (p_pick rfl) rfl rfl ?_
        exact ljmpM J316 true () (sub_cons rfl sub_nil) X164
      refine lpure (v := .pointer (some ⟨b111, 1, none⟩)) rfl (p_fa fo_29_1 rfl) rfl rfl ?_
      refine lread (v := .slice a108 n108 c108) rfl (q_load wd_26 rfl) (St.ld X164 (j := 3) rfl rfl) rfl ?_
      refine lpure (v := .pointer (some ⟨b122, 1, none⟩)) rfl (p_fa fo_75_1 rfl) rfl rfl ?_
      refine lread (v := .int .i64 e119.B) rfl (q_load wd_3 rfl) (St.ld X164 (j := 1) rfl rfl) rfl ?_
      refine Sim.bindM fun e318 he319 => ?_
      obtain ⟨p320, cs320, hp320, hF320, hR320⟩ := RSl.ia H108 he319 (kd := .i64) (n := 1) rfl
      have hR320 : _ = [(.bool e318 : Value)] := hR320
      subst hR320
      refine lpure (v := p320) rfl (p_ia rs_26 rfl) hp320 rfl ?_
      refine lread (v := .bool e318) rfl (q_load wd_4 rfl) (FP.ld X164 hF320) rfl ?_
      refine lpure (v := .bool (!e318)) rfl (p_not rfl) rfl rfl ?_
      refine lpure (v := .bool (!e318)) rfl (p_pick rfl) rfl rfl ?_
      exact ljmpM J316 (!e318) () (sub_cons rfl sub_nil) X164
    intro j321 J322
    refine lcase (i := 13) (show _ = Value.bool s159 from rfl) (fun k323 => ?_) (fun k323 => ?_)
    · refine lpure (v := .pointer (some ⟨b122, 0, none⟩)) rfl (p_fa fo_75_0 rfl) rfl rfl ?_
      refine lread (v := .int .i64 e119.A) rfl (q_load wd_3 rfl) (St.ld X160 (j := 1) rfl rfl) rfl ?_
      refine lpure (v := .pointer (some ⟨b122, 1, none⟩)) rfl (p_fa fo_75_1 rfl) rfl rfl ?_
      refine lread (v := .int .i64 e119.B) rfl (q_load wd_3 rfl) (St.ld X160 (j := 1) rfl rfl) rfl ?_
      refine lpure (v := .bool (decide (e119.A ≠ e119.B))) rfl (p_ne rfl) rfl rfl ?_
      refine lpure (v := .bool (decide (e119.A ≠ e119.B))) rfl (p_pick rfl) rfl rfl ?_
      refine Sim.of_eq (congrArg j321 (show (s159 && (decide (e119.A ≠ e119.B))) = (decide (e119.A ≠ e119.B)) from by rw [k323] <;> rfl)) ?_
      exact ljmpM J322 (decide (e119.A ≠ e119.B)) () (sub_cons rfl sub_nil) X160
    refine lskip rfl rfl ?_
    refine lskip rfl rfl ?_
    refine lskip rfl rfl ?_
    refine lskip rfl rfl ?_
    refine lskip rfl rfl ?_
    refine lpure (v := .bool false) rfl (p_pick rfl) rfl rfl ?_
    refine Sim.of_eq (congrArg j321 (show (s159 && (decide (e119.A ≠ e119.B))) = false from by rw [k323] <;> rfl)) ?_
    exact ljmpM J322 false () (sub_cons rfl sub_nil) X160
  intro j324 J325
  refine lif (i := 7) (show _ = Value.bool e149 from rfl) (fun k326 => ?_) (fun k326 => ?_)
  · refine lread (v := .agg #[.int .i64 p107.Nodes, .slice a108 n108 c108, .slice a109 n109 c109]) rfl (q_load wd_29 rfl) (St.ld X133 (j := 3) rfl rfl) rfl ?_
    refine lpure (v := .pointer (some ⟨b122, 1, none⟩)) rfl (p_fa fo_75_1 rfl) rfl rfl ?_
    refine lread (v := .int .i64 e119.B) rfl (q_load wd_3 rfl) (St.ld X133 (j := 1) rfl rfl) rfl ?_
    refine lcall rfl rfl ca_40 rfl rfl (f40_ok X133 p107 (e119.B) H108 H109) rfl (fun e327 v328 h329 hq330 => ?_)
    cases hq330
    refine lpure (v := .bool e327) rfl (p_pick rfl) rfl rfl ?_
    exact ljmpM J325 e327 () (sub_cons rfl (sub_cons rfl sub_nil)) X133
  refine lskip rfl rfl ?_
  refine lskip rfl rfl ?_
  refine lskip rfl rfl ?_
  refine lskip rfl rfl ?_
  refine lpure (v := .bool false) rfl (p_pick rfl) rfl rfl ?_
  exact ljmpM J325 false () (sub_cons rfl (sub_cons rfl sub_nil)) X133
/-! (isochron/topo.end).from -/
theorem f42_ok {n : Nat} {φ : Fz} {lo : Nat} {h : Heap} {own : OwnL}  (X : St φ lo h (own)) (p397 : TopoEnd) : Sim ((recN Try.prog LL cutF (n + 1)).call 42 #[(.agg #[.int .i64 p397.Link.A, .int .i64 p397.Link.B, .int .i64 p397.Link.Per, .int .i64 p397.Link.Delay, .int .i64 p397.port])] h) (m_topo_end_from p397) (fun (d : Int) p => p = (.int .i64 d, h)) := by
  refine fcut Try.func42 rfl rfl rfl rfl X ?_
  intro h0 X0
  refine dseq (dreg ?_)
  refine lbox rfl rfl rfl rfl rfl X0 (fun b398 h400 X401 => ?_)
  refine lpure (v := .int .i64 0) rfl (p_assign rfl) rfl rfl ?_
  refine lend (nseq (dseq (dseq (dreg ?_))))
  refine lpure (v := .pointer (some ⟨b398, 4, none⟩)) rfl (p_fa fo_77_1 rfl) rfl rfl ?_
  refine lread (v := .int .i64 p397.port) rfl (q_load wd_3 rfl) (St.ld X401 (j := 0) rfl rfl) rfl ?_
  refine lpure (v := .int .i64 (Int.tmod p397.port 2)) rfl (p_rem rfl) rfl rfl ?_
  refine lpure (v := .bool (decide ((Int.tmod p397.port 2) = 0))) rfl (p_eq rfl) rfl rfl ?_
  refine lend (nseq ?_)
  refine dcond rfl rfl (fun k402 => ?_) (fun k402 => ?_)
  · refine dseq (dreg ?_)
    refine lpure (v := .pointer (some ⟨b398, 0, none⟩)) rfl (p_fa fo_77_0 rfl) rfl rfl ?_
    refine lpure (v := .pointer (some ⟨b398, 0, none⟩)) rfl (p_fa fo_75_0 rfl) rfl rfl ?_
    refine lread (v := .int .i64 p397.Link.A) rfl (q_load wd_3 rfl) (St.ld X401 (j := 0) rfl rfl) rfl ?_
    refine lpure (v := .int .i64 p397.Link.A) rfl (p_assign rfl) rfl rfl ?_
    refine lend (nseq (dret (rseq ?_)))
    exact kcut_r (res_1 resT) X401 rfl rfl
  refine dskip (nseq (dseq (dreg ?_)))
  refine lpure (v := .pointer (some ⟨b398, 0, none⟩)) rfl (p_fa fo_77_0 rfl) rfl rfl ?_
  refine lpure (v := .pointer (some ⟨b398, 1, none⟩)) rfl (p_fa fo_75_1 rfl) rfl rfl ?_
  refine lread (v := .int .i64 p397.Link.B) rfl (q_load wd_3 rfl) (St.ld X401 (j := 0) rfl rfl) rfl ?_
  refine lpure (v := .int .i64 p397.Link.B) rfl (p_assign rfl) rfl rfl ?_
  refine lend (nseq (dret ?_))
  exact kcut_r (res_1 resT) X401 rfl rfl
/-! isochron/topo.degree -/
theorem f37_ok {n : Nat} {φ : Fz} {lo : Nat} {h : Heap} {own : OwnL}  {a346 : Option Addr} {n346 c346 : Nat} {a347 : Option Addr} {n347 c347 : Nat} (X : St φ lo h (own)) (p345 : ApiTopo) (p348 : Int) (H346 : RSl eBool φ (.slice a346 n346 c346) p345.Station) (H347 : RSl eApiLink φ (.slice a347 n347 c347) p345.Links) : Sim ((recN Try.prog LL cutF (n + 4)).call 37 #[(.agg #[.int .i64 p345.Nodes, .slice a346 n346 c346, .slice a347 n347 c347]), (.int .i64 p348)] h) (m_topo_degree p345 p348) (fun (d : Int) p => p = (.int .i64 d, h)) := by
  refine fcut Try.func37 rfl rfl rfl rfl X ?_
  intro h0 X0
  refine dseq (dreg ?_)
  refine lbox rfl rfl rfl rfl rfl X0 (fun b349 h351 X352 => ?_)
  refine lbox rfl rfl rfl rfl rfl X352 (fun b353 h355 X356 => ?_)
  refine lpure (v := .int .i64 0) rfl (p_assign rfl) rfl rfl ?_
  refine lend (nseq (dseq (dreg ?_)))
  refine lalloc rfl tz_3 rfl rfl rfl X356 (fun b357 h359 X360 => ?_)
  refine lstore rfl ts_3 rfl rfl (j := 0) rfl rfl rfl rfl rfl rfl X360 (fun h361 X362 => ?_)
  refine lend (nseq (dseq (dseq (dreg ?_))))
  refine lread (v := .agg #[.int .i64 p345.Nodes, .slice a346 n346 c346, .slice a347 n347 c347]) rfl (q_load wd_29 rfl) (St.ld X362 (j := 2) rfl rfl) rfl ?_
  refine linl rfl rfl rfl rfl ca_41 rfl Try.func41 rfl rfl rfl rfl rfl ?_
  refine dseq (dreg ?_)
  refine lbox rfl rfl rfl rfl rfl X362 (fun b363 h365 X366 => ?_)
  refine lpure (v := .nilFunc) rfl (p_assign rfl) rfl rfl ?_
  refine lend (nseq (dseq (dreg ?_)))
  refine lpure (v := .func (.func 84) #[] #[.pointer (some ⟨b363, 0, none⟩)]) rfl (p_makeFunc rfl) rfl rfl ?_
  refine lpure (v := .func (.func 84) #[] #[.pointer (some ⟨b363, 0, none⟩)]) rfl (p_assign rfl) rfl rfl ?_
  refine lend (nseq (dret ?_))
  refine kin_r (res_1 resT) ?_
  refine lend (nseq (dblock ?_))
  refine drange rfl rfl ca_84 Try.func84 rfl rfl X366 (fun _ => rfl) ?_
  intro l367 q368 df369 h371 Q370 X372
  refine dseq (dreg ?_)
  refine lpure (v := .pointer (some ⟨b363, 2, none⟩)) rfl (p_fa fo_29_2 rfl) rfl rfl ?_
  refine lread (v := .slice a347 n347 c347) rfl (q_load wd_27 rfl) (St.ld X372 (j := 2) rfl rfl) rfl ?_
  refine lpure (v := .int .i64 (p345.Links.length : Int)) rfl (p_len rfl rfl rfl un_27 rfl) (RSl.lenC H347) rfl ?_
  refine lpure (v := .int .i64 0) rfl (p_move rfl) rfl rfl ?_
  refine lend (nseq (dblock ?_))
  refine dloopM (τ := Int × Int) (σ := Unit) (fun s511 (_ : Unit) => [(0, .func (.yield l367) #[] #[]), (6, .slice a347 n347 c347), (7, .int .i64 (p345.Links.length : Int)), (8, .int .i64 s511.1)]) (fun s511 (_ : Unit) hh => St φ h.n hh ([(some l367, rdy q368), (none, .dead), (some b363, .cells [.int .i64 p345.Nodes, .slice a346 n346 c346, .slice a347 n347 c347] 29 .exact), (some b357, .cells [.int .i64 s511.2] 3 .exact), (some b353, .cells [.int .i64 p348] 3 .exact), (some b349, .cells [.int .i64 p345.Nodes, .slice a346 n346 c346, .slice a347 n347 c347] 29 .exact)])) (0, 0) () (sub_cons rfl (sub_cons rfl (sub_cons rfl (sub_cons rfl sub_nil)))) (St.pick X372 (.keep _ (.none _ (.skip _ (.keep _ (.keep _ (.keep _ (.keep _ (.nil _))))))))) ?_
  rintro n578 ih577 s511 _ t0 h580 X579
  refine dseq (dreg ?_)
  refine lpure (v := .bool (decide (s511.1 < (p345.Links.length : Int)))) rfl (p_lt rfl) rfl rfl ?_
  refine lend (nseq (dseq ?_))
  refine dcond rfl rfl (fun k581 => ?_) (fun k581 => ?_)
  · refine dskip (nseq (dseq (dblock (dseq (dreg ?_)))))
    refine lpure (v := .int .i64 s511.1) rfl (p_move rfl) rfl rfl ?_
    refine Sim.bindM fun e582 he583 => ?_
    obtain ⟨p584, cs584, hp584, hF584, hR584⟩ := RSl.ia H347 he583 (kd := .i64) (n := 4) rfl
    obtain rfl := eApiLink_el hR584
    refine lpure (v := p584) rfl (p_ia rs_27 rfl) hp584 rfl ?_
    refine lread (v := .agg #[.int .i64 e582.A, .int .i64 e582.B, .int .i64 e582.Per, .int .i64 e582.Delay]) rfl (q_load wd_75 rfl) (FP.ldw X579 hF584 rfl rfl) rfl ?_
    refine lalloc rfl tz_75 rfl rfl rfl X579 (fun b585 h587 X588 => ?_)
    refine lpure (v := .int .i64 s511.1) rfl (p_assign rfl) rfl rfl ?_
    refine lstore rfl ts_75 rfl rfl (j := 0) rfl rfl rfl rfl rfl rfl X588 (fun h589 X590 => ?_)
    refine lend (nseq (dseq (dreg ?_)))
    refine lpure (v := .func (.yield l367) #[] #[]) rfl (p_move rfl) rfl rfl ?_
    refine lread (v := .agg #[.int .i64 e582.A, .int .i64 e582.B, .int .i64 e582.Per, .int .i64 e582.Delay]) rfl (q_load wd_75 rfl) (St.ld X590 (j := 0) rfl rfl) rfl ?_
    refine lpure (v := .int .i64 s511.1) rfl (p_move rfl) rfl rfl ?_
    refine lpure (v := .int .i64 (w64 (2 * s511.1))) rfl (p_mul rfl) rfl rfl ?_
    refine lpure (v := .agg #[.int .i64 e582.A, .int .i64 e582.B, .int .i64 e582.Per, .int .i64 e582.Delay, .int .i64 (w64 (2 * s511.1))]) rfl (p_build rfl) (build_st' tz_77 pl_77 rfl) rfl ?_
    refine lround rfl rfl rfl rfl rfl rfl X590 (j := 1) rfl Q370 rfl rfl rfl rfl rfl (fun t591 => ?_)
    refine dreg ?_
    refine lalloc rfl tz_77 rfl rfl rfl X590 (fun b592 h594 X595 => ?_)
    refine lstore rfl ts_77 rfl rfl (j := 0) rfl rfl rfl rfl rfl rfl X595 (fun h596 X597 => ?_)
    refine lend ?_
    refine basg X597 (j := 2) rfl (fun h598 X599 => ?_)
    refine dblock (dseq ?_)
    refine ddraw 0 0 0 (by kernel_rfl) ?_
    refine sload (v := .agg #[.int .i64 e582.A, .int .i64 e582.B, .int .i64 e582.Per, .int .i64 e582.Delay, .int .i64 (w64 (2 * s511.1))]) rfl rfl (q_load wd_77 rfl) (St.ld X599 (j := 0) rfl rfl) (same_self 20 rfl) rfl ?_
    refine scall (en := fun d => (.int .i64 d)) rfl rfl ca_42 rfl rfl (f42_ok X599 ((TopoEnd.mk e582 (w64 (2 * s511.1))))) rfl (fun e600 => ?_)
    refine sload (v := .int .i64 p348) rfl rfl (q_load wd_3 rfl) (St.ld X599 (j := 6) rfl rfl) (same_self 20 rfl) rfl ?_
    refine spure (v := .bool (decide (e600 = p348))) rfl (p_eq rfl) (lo_t rfl (lo_t rfl rfl)) rfl rfl ?_
    refine send ?_
    refine nseq ?_
    refine djoinM (τ := Int) (σ := Unit) (fun s607 (_ : Unit) => []) (fun s607 (_ : Unit) hh => St φ h.n hh ([(some b592, .cells [.int .i64 e582.A, .int .i64 e582.B, .int .i64 e582.Per, .int .i64 e582.Delay, .int .i64 (w64 (2 * s511.1))] 77 .exact), (some b585, .cells [.int .i64 e582.A, .int .i64 e582.B, .int .i64 e582.Per, .int .i64 e582.Delay] 75 .exact), (some l367, bsy q368), (none, .dead), (some b363, .cells [.int .i64 p345.Nodes, .slice a346 n346 c346, .slice a347 n347 c347] 29 .exact), (some b357, .cells [.int .i64 s607] 3 .exact), (some b353, .cells [.int .i64 p348] 3 .exact), (some b349, .cells [.int .i64 p345.Nodes, .slice a346 n346 c346, .slice a347 n347 c347] 29 .exact)])) ?_ ?_
    · rintro s607 _ t0 h609 X608
      refine nblock ?_
      refine nrnd X608 (j := 2) rfl (fun h612 X613 => ?_)
      refine lpure (v := .bool false) rfl (p_not rfl) rfl rfl ?_
      refine lpure (v := .bool false) rfl (p_move rfl) rfl rfl ?_
      refine lpure (v := .func (.yield l367) #[] #[]) rfl (p_move rfl) rfl rfl ?_
      refine lread (v := .agg #[.int .i64 e582.A, .int .i64 e582.B, .int .i64 e582.Per, .int .i64 e582.Delay]) rfl (q_load wd_75 rfl) (St.ld X613 (j := 1) rfl rfl) rfl ?_
      refine lpure (v := .int .i64 s511.1) rfl (p_move rfl) rfl rfl ?_
      refine lpure (v := .int .i64 (w64 (2 * s511.1))) rfl (p_mul rfl) rfl rfl ?_
      refine lpure (v := .int .i64 (w64 ((w64 (2 * s511.1)) + 1))) rfl (p_add rfl) rfl rfl ?_
      refine lpure (v := .agg #[.int .i64 e582.A, .int .i64 e582.B, .int .i64 e582.Per, .int .i64 e582.Delay, .int .i64 (w64 ((w64 (2 * s511.1)) + 1))]) rfl (p_build rfl) (build_st' tz_77 pl_77 rfl) rfl ?_
      refine lround rfl rfl rfl rfl rfl rfl X613 (j := 2) rfl Q370 rfl rfl rfl rfl rfl (fun t614 => ?_)
      refine dreg ?_
      refine lalloc rfl tz_77 rfl rfl rfl X613 (fun b615 h617 X618 => ?_)
      refine lstore rfl ts_77 rfl rfl (j := 0) rfl rfl rfl rfl rfl rfl X618 (fun h619 X620 => ?_)
      refine lend ?_
      refine basg X620 (j := 3) rfl (fun h621 X622 => ?_)
      refine dblock (dseq ?_)
      refine ddraw 0 0 0 (by kernel_rfl) ?_
      refine sload (v := .agg #[.int .i64 e582.A, .int .i64 e582.B, .int .i64 e582.Per, .int .i64 e582.Delay, .int .i64 (w64 ((w64 (2 * s511.1)) + 1))]) rfl rfl (q_load wd_77 rfl) (St.ld X622 (j := 0) rfl rfl) (same_self 20 rfl) rfl ?_
      refine scall (en := fun d => (.int .i64 d)) rfl rfl ca_42 rfl rfl (f42_ok X622 ((TopoEnd.mk e582 (w64 ((w64 (2 * s511.1)) + 1))))) rfl (fun e623 => ?_)
      refine sload (v := .int .i64 p348) rfl rfl (q_load wd_3 rfl) (St.ld X622 (j := 7) rfl rfl) (same_self 20 rfl) rfl ?_
      refine spure (v := .bool (decide (e623 = p348))) rfl (p_eq rfl) (lo_t rfl (lo_t rfl rfl)) rfl rfl ?_
      refine send ?_
      refine nseq ?_
      refine djoinM (τ := Int) (σ := Unit) (fun s630 (_ : Unit) => []) (fun s630 (_ : Unit) hh => St φ h.n hh ([(some b615, .cells [.int .i64 e582.A, .int .i64 e582.B, .int .i64 e582.Per, .int .i64 e582.Delay, .int .i64 (w64 ((w64 (2 * s511.1)) + 1))] 77 .exact), (some b592, .cells [.int .i64 e582.A, .int .i64 e582.B, .int .i64 e582.Per, .int .i64 e582.Delay, .int .i64 (w64 (2 * s511.1))] 77 .exact), (some b585, .cells [.int .i64 e582.A, .int .i64 e582.B, .int .i64 e582.Per, .int .i64 e582.Delay] 75 .exact), (some l367, bsy q368), (none, .dead), (some b363, .cells [.int .i64 p345.Nodes, .slice a346 n346 c346, .slice a347 n347 c347] 29 .exact), (some b357, .cells [.int .i64 s630] 3 .exact), (some b353, .cells [.int .i64 p348] 3 .exact), (some b349, .cells [.int .i64 p345.Nodes, .slice a346 n346 c346, .slice a347 n347 c347] 29 .exact)])) ?_ ?_
      · rintro s630 _ t0 h632 X631
        refine nblock ?_
        refine nrnd X631 (j := 3) rfl (fun h635 X636 => ?_)
        refine lpure (v := .bool false) rfl (p_not rfl) rfl rfl ?_
        refine lpure (v := .bool false) rfl (p_pick rfl) rfl rfl ?_
        refine lend (nseq (dcondF rfl rfl (dskip (nblock (nseq (dreg ?_))))))
        refine lpure (v := .int .i64 (w64 (s511.1 + 1))) rfl (p_add rfl) rfl rfl ?_
        refine lpure (v := .int .i64 (w64 (s511.1 + 1))) rfl (p_move rfl) rfl rfl ?_
        refine lend ?_
        exact kbackM ih577 ((w64 (s511.1 + 1)), s630) () (sub_cons rfl (sub_cons rfl (sub_cons rfl (sub_cons rfl sub_nil)))) (St.pick X636 (.skip _ (.skip _ (.skip _ (.keep _ (.none _ (.skip _ (.keep _ (.keep _ (.keep _ (.keep _ (.nil _))))))))))))
      intro j633 J634
      refine dcond rfl rfl (fun k627 => ?_) (fun k627 => ?_)
      · refine dreg ?_
        refine lread (v := .int .i64 s607) rfl (q_load wd_3 rfl) (St.ld X622 (j := 6) rfl rfl) rfl ?_
        refine lpure (v := .int .i64 (w64 (s607 + 1))) rfl (p_add rfl) rfl rfl ?_
        refine lstore rfl ts_3 rfl rfl (j := 6) rfl rfl rfl rfl rfl rfl X622 (fun h637 X638 => ?_)
        refine lend ?_
        exact jmpM J634 (w64 (s607 + 1)) () sub_nil (St.pick X638 (.keep _ (.keep _ (.keep _ (.keep _ (.none _ (.skip _ (.keep _ (.keep _ (.keep _ (.keep _ (.nil _))))))))))))
      refine dskip ?_
      exact jmpM J634 s607 () sub_nil (St.pick X622 (.keep _ (.keep _ (.keep _ (.keep _ (.none _ (.skip _ (.keep _ (.keep _ (.keep _ (.keep _ (.nil _))))))))))))
    intro j610 J611
    refine dcond rfl rfl (fun k604 => ?_) (fun k604 => ?_)
    · refine dreg ?_
      refine lread (v := .int .i64 s511.2) rfl (q_load wd_3 rfl) (St.ld X599 (j := 5) rfl rfl) rfl ?_
      refine lpure (v := .int .i64 (w64 (s511.2 + 1))) rfl (p_add rfl) rfl rfl ?_
      refine lstore rfl ts_3 rfl rfl (j := 5) rfl rfl rfl rfl rfl rfl X599 (fun h639 X640 => ?_)
      refine lend ?_
      exact jmpM J611 (w64 (s511.2 + 1)) () sub_nil (St.pick X640 (.keep _ (.keep _ (.keep _ (.none _ (.skip _ (.keep _ (.keep _ (.keep _ (.keep _ (.nil _)))))))))))
    refine dskip ?_
    exact jmpM J611 s511.2 () sub_nil (St.pick X599 (.keep _ (.keep _ (.keep _ (.none _ (.skip _ (.keep _ (.keep _ (.keep _ (.keep _ (.nil _)))))))))))
  refine dexit (eseq (eloop (xblock ?_)))
  refine kin_n res_0 ?_
  refine rend_n X579 (j := 0) rfl (fun h641 X642 => ?_)
  refine nblock (nseq (dseq (dreg ?_)))
  refine lread (v := .int .i64 s511.2) rfl (q_load wd_3 rfl) (St.ld X642 (j := 3) rfl rfl) rfl ?_
  refine lpure (v := .int .i64 s511.2) rfl (p_assign rfl) rfl rfl ?_
  refine lend (nseq (dret ?_))
  exact kcut_r (res_1 resT) X642 rfl rfl
/-! (isochron/topo.end).to -/
theorem f44_ok {n : Nat} {φ : Fz} {lo : Nat} {h : Heap} {own : OwnL}  (X : St φ lo h (own)) (p733 : TopoEnd) : Sim ((recN Try.prog LL cutF (n + 2)).call 44 #[(.agg #[.int .i64 p733.Link.A, .int .i64 p733.Link.B, .int .i64 p733.Link.Per, .int .i64 p733.Link.Delay, .int .i64 p733.port])] h) (m_topo_end_to p733) (fun (d : Int) p => p = (.int .i64 d, h)) := by
  refine fcut Try.func44 rfl rfl rfl rfl X ?_
  intro h0 X0
  refine dseq (dreg ?_)
  refine lbox rfl rfl rfl rfl rfl X0 (fun b734 h736 X737 => ?_)
  refine lpure (v := .int .i64 0) rfl (p_assign rfl) rfl rfl ?_
  refine lend (nseq (dseq ?_))
  refine ddraw 0 0 0 (by kernel_rfl) ?_
  refine spure (v := .pointer (some ⟨b734, 0, none⟩)) rfl (p_fa fo_77_0 rfl) (lo_t (lo_own X737 (j := 0) (o := 0) (s := none) (f := 0) rfl) rfl) rfl rfl ?_
  refine spure (v := .pointer (some ⟨b734, 0, none⟩)) rfl (p_fa fo_75_0 rfl) (lo_t (lo_own X737 (j := 0) (o := 0) (s := none) (f := 0) rfl) rfl) rfl rfl ?_
  refine sload (v := .int .i64 p733.Link.A) rfl rfl (q_load wd_3 rfl) (St.ld X737 (j := 0) rfl rfl) (same_self 20 rfl) rfl ?_
  refine spure (v := .pointer (some ⟨b734, 0, none⟩)) rfl (p_fa fo_77_0 rfl) (lo_t (lo_own X737 (j := 0) (o := 0) (s := none) (f := 0) rfl) rfl) rfl rfl ?_
  refine spure (v := .pointer (some ⟨b734, 1, none⟩)) rfl (p_fa fo_75_1 rfl) (lo_t (lo_own X737 (j := 0) (o := 0) (s := none) (f := 0) rfl) rfl) rfl rfl ?_
  refine sload (v := .int .i64 p733.Link.B) rfl rfl (q_load wd_3 rfl) (St.ld X737 (j := 0) rfl rfl) (same_self 20 rfl) rfl ?_
  refine spure (v := .int .i64 (w64 (p733.Link.A + p733.Link.B))) rfl (p_add rfl) (lo_t rfl (lo_t rfl rfl)) rfl rfl ?_
  refine sload (v := .agg #[.int .i64 p733.Link.A, .int .i64 p733.Link.B, .int .i64 p733.Link.Per, .int .i64 p733.Link.Delay, .int .i64 p733.port]) rfl rfl (q_load wd_77 rfl) (St.ld X737 (j := 0) rfl rfl) (same_self 20 rfl) rfl ?_
  refine scall (en := fun d => (.int .i64 d)) rfl rfl ca_42 rfl rfl (f42_ok X737 p733) rfl (fun e738 => ?_)
  refine spure (v := .int .i64 (w64 ((w64 (p733.Link.A + p733.Link.B)) - e738))) rfl (p_sub rfl) (lo_t rfl (lo_t rfl rfl)) rfl rfl ?_
  refine spure (v := .int .i64 (w64 ((w64 (p733.Link.A + p733.Link.B)) - e738))) rfl (p_assign rfl) (lo_t rfl rfl) rfl rfl ?_
  refine send ?_
  refine nseq (dret ?_)
  exact kcut_r (res_1 resT) X737 rfl rfl
/-! slices.Index[[]int,int] -/
theorem f105_ok {n : Nat} {φ : Fz} {lo : Nat} {h : Heap} {own : OwnL}  {a746 : Option Addr} {n746 c746 : Nat} (X : St φ lo h (own)) (p745 : (List Int)) (p747 : Int) (H746 : RSl (eInt .i64) φ (.slice a746 n746 c746) p745) : Sim ((recN Try.prog LL cutF (n + 1)).call 105 #[(.slice a746 n746 c746), (.int .i64 p747)] h) (m_slices_Index_int_int p745 p747) (fun (d : Int) p => p = (.int .i64 d, h)) := by
  refine fcut Try.func105 rfl rfl rfl rfl X ?_
  intro h0 X0
  refine dseq (dreg ?_)
  refine lpure (v := .int .i64 0) rfl (p_assign rfl) rfl rfl ?_
  refine lend (nseq (dseq (dseq (dreg ?_))))
  refine lpure (v := .slice a746 n746 c746) rfl (p_move rfl) rfl rfl ?_
  refine lpure (v := .int .i64 (p745.length : Int)) rfl (p_len rfl rfl rfl un_33 rfl) (RSl.lenC H746) rfl ?_
  refine lpure (v := .int .i64 0) rfl (p_move rfl) rfl rfl ?_
  refine lend (nseq (dblock ?_))
  refine dloopM (τ := Int) (σ := Unit) (fun s764 (_ : Unit) => [(0, .slice a746 n746 c746), (1, .int .i64 p747), (7, .int .i64 (p745.length : Int)), (8, .int .i64 s764)]) (fun s764 (_ : Unit) hh => St φ h.n hh ([])) 0 () (sub_cons rfl (sub_cons rfl (sub_cons rfl (sub_cons rfl sub_nil)))) X0 ?_
  rintro n774 ih773 s764 _ t0 h776 X775
  refine dseq (dreg ?_)
  refine lpure (v := .bool (decide (s764 < (p745.length : Int)))) rfl (p_lt rfl) rfl rfl ?_
  refine lend (nseq (dseq ?_))
  refine dcond rfl rfl (fun k777 => ?_) (fun k777 => ?_)
  · refine dskip (nseq (dseq (dblock (dseq (dreg ?_)))))
    refine lpure (v := .int .i64 s764) rfl (p_move rfl) rfl rfl ?_
    refine lpure (v := .int .i64 s764) rfl (p_assign rfl) rfl rfl ?_
    refine lend (nseq (dseq (dreg ?_)))
    refine lpure (v := .int .i64 p747) rfl (p_move rfl) rfl rfl ?_
    refine lpure (v := .slice a746 n746 c746) rfl (p_move rfl) rfl rfl ?_
    refine lpure (v := .int .i64 s764) rfl (p_move rfl) rfl rfl ?_
    refine Sim.bindM fun e778 he779 => ?_
    obtain ⟨p780, cs780, hp780, hF780, hR780⟩ := RSl.ia H746 he779 (kd := .i64) (n := 1) rfl
    have hR780 : _ = [(.int .i64 e778 : Value)] := hR780
    subst hR780
    refine lpure (v := p780) rfl (p_ia rs_33 rfl) hp780 rfl ?_
    refine lread (v := .int .i64 e778) rfl (q_load wd_3 rfl) (FP.ld X775 hF780) rfl ?_
    refine lpure (v := .bool (decide (p747 = e778))) rfl (p_eq rfl) rfl rfl ?_
    refine lend (nseq ?_)
    refine dcond rfl rfl (fun k781 => ?_) (fun k781 => ?_)
    · refine dseq (dreg ?_)
      refine lpure (v := .int .i64 s764) rfl (p_move rfl) rfl rfl ?_
      refine lpure (v := .int .i64 s764) rfl (p_assign rfl) rfl rfl ?_
      refine lend (nseq (dret (rblock (rseq (rloop (rblock (rseq ?_)))))))
      exact kcut_r (res_1 resT) X775 rfl rfl
    refine dskip (nblock (nseq (dreg ?_)))
    refine lpure (v := .int .i64 (w64 (s764 + 1))) rfl (p_add rfl) rfl rfl ?_
    refine lpure (v := .int .i64 (w64 (s764 + 1))) rfl (p_move rfl) rfl rfl ?_
    refine lend ?_
    exact kbackM ih773 (w64 (s764 + 1)) () (sub_cons rfl (sub_cons rfl (sub_cons rfl (sub_cons rfl sub_nil)))) X775
  refine dexit (eseq (eloop (xblock (nseq (dseq (dreg ?_))))))
  refine lpure (v := .int .i64 (-1)) rfl (p_assign rfl) rfl rfl ?_
  refine lend (nseq (dret ?_))
  exact kcut_r (res_1 resT) X775 rfl rfl
/-! slices.Contains[[]int,int] -/
theorem f68_ok {n : Nat} {φ : Fz} {lo : Nat} {h : Heap} {own : OwnL}  {a743 : Option Addr} {n743 c743 : Nat} (X : St φ lo h (own)) (p742 : (List Int)) (p744 : Int) (H743 : RSl (eInt .i64) φ (.slice a743 n743 c743) p742) : Sim ((recN Try.prog LL cutF (n + 2)).call 68 #[(.slice a743 n743 c743), (.int .i64 p744)] h) (m_slices_Contains_int_int p742 p744) (fun (d : Bool) p => p = (.bool d, h)) := by
  refine fcut Try.func68 rfl rfl rfl rfl X ?_
  intro h0 X0
  refine dseq (dreg ?_)
  refine lpure (v := .bool false) rfl (p_assign rfl) rfl rfl ?_
  refine lend (nseq (dseq (dreg ?_)))
  refine lpure (v := .slice a743 n743 c743) rfl (p_move rfl) rfl rfl ?_
  refine lpure (v := .int .i64 p744) rfl (p_move rfl) rfl rfl ?_
  refine lcall rfl rfl ca_105 rfl rfl (f105_ok X0 p742 p744 H743) rfl (fun e782 v783 h784 hq785 => ?_)
  cases hq785
  refine lpure (v := .bool (decide (0 ≤ e782))) rfl (p_ge rfl) rfl rfl ?_
  refine lpure (v := .bool (decide (0 ≤ e782))) rfl (p_assign rfl) rfl rfl ?_
  refine lend (nseq (dret ?_))
  exact kcut_r (res_1 resT) X0 rfl rfl
/-! isochron/topo.reach -/
theorem f39_ok {n : Nat} {φ : Fz} {lo : Nat} {h : Heap} {own : OwnL}  {a3340 : Option Addr} {n3340 c3340 : Nat} {a3341 : Option Addr} {n3341 c3341 : Nat} {a3344 : Option Addr} {n3344 c3344 : Nat} (X : St φ lo h (own)) (p3339 : ApiTopo) (p3342 : Int) (p3343 : (List Int)) (H3340 : RSl eBool φ (.slice a3340 n3340 c3340) p3339.Station) (H3341 : RSl eApiLink φ (.slice a3341 n3341 c3341) p3339.Links) (H3344 : RSl (eInt .i64) φ (.slice a3344 n3344 c3344) p3343) : Sim ((recN Try.prog LL cutF (n + 5)).call 39 #[(.agg #[.int .i64 p3339.Nodes, .slice a3340 n3340 c3340, .slice a3341 n3341 c3341]), (.int .i64 p3342), (.slice a3344 n3344 c3344)] h) (m_topo_reach p3339 p3342 p3343) (fun (d : (List Bool)) p => ∃ φ2 : Fz, ∃ a5957 : Option Addr, ∃ n5957 : Nat, ∃ c5957 : Nat, ∃ ob5957 : Option Nat, ∃ blk5957 : Blk, Fz.le φ φ2 ∧ St φ2 lo p.2 ((ob5957, blk5957) :: own) ∧ p.1 = .slice a5957 n5957 c5957 ∧ OSl eBool φ2 4 ob5957 blk5957 (.slice a5957 n5957 c5957) d) := by
  refine fopen Try.func39 rfl rfl rfl rfl ?_
  refine dseq (dreg ?_)
  refine lbox rfl rfl rfl rfl rfl X (fun b3345 h3347 X3348 => ?_)
  refine lbox rfl rfl rfl rfl rfl X3348 (fun b3349 h3351 X3352 => ?_)
  refine lpure (v := .slice none 0 0) rfl (p_assign rfl) rfl rfl ?_
  refine lend (nseq (dscope (dseq (dreg ?_))))
  refine lpure (v := .pointer (some ⟨b3345, 0, none⟩)) rfl (p_fa fo_29_0 rfl) rfl rfl ?_
  refine lread (v := .int .i64 p3339.Nodes) rfl (q_load wd_3 rfl) (St.ld X3352 (j := 1) rfl rfl) rfl ?_
  refine Sim.mustM fun k3353 => ?_
  have k3353 := of_decide_eq_true k3353
  obtain ⟨h3353, b3353, vs3353, hv3353, X3353, O3353⟩ := OSl.mk (E := eBool) (φ := φ) (a0 := false) (k := .i64) (k' := .i64) (l := p3339.Nodes) (c := p3339.Nodes) un_26 tb_4 rfl ts_4 rfl rfl tz_4 rfl rfl rfl (by omega) (by omega) (by omega) X3352
  refine lheap rfl (h_makeSlice rfl) hv3353 rfl ?_
  refine lalloc rfl tz_26 rfl rfl rfl X3353 (fun b3355 h3357 X3358 => ?_)
  refine lstore rfl ts_26 rfl rfl (j := 0) rfl rfl rfl rfl rfl rfl X3358 (fun h3359 X3360 => ?_)
  refine lend (nseq (dseq (dreg ?_)))
  refine lread (v := .slice (some ⟨b3353, 0, none⟩) (p3339.Nodes).toNat (p3339.Nodes).toNat) rfl (q_load wd_26 rfl) (St.ld X3360 (j := 0) rfl rfl) rfl ?_
  refine lpure (v := .int .i64 p3342) rfl (p_move rfl) rfl rfl ?_
  refine Sim.bindM fun e3361 he3362 => ?_
  obtain ⟨off3363, cs3363, hp3363, hc3363, hR3363, hl3363, hm3363, hs3363⟩ := OSl.iaC O3353 he3362 (kd := .i64) (n := 1) rfl
  have hR3363 : _ = [(.bool e3361 : Value)] := hR3363
  subst hR3363
  refine lpure (v := .pointer (some ⟨b3353, off3363, none⟩)) rfl (p_ia rs_26 rfl) hp3363 rfl ?_
  have O3366 := hs3363 [.bool true] (true) rfl
  refine lstore rfl ts_4 rfl rfl (j := 1) rfl hm3363 rfl rfl (ble_iff.2 hl3363) rfl X3360 (fun h3364 X3365 => ?_)
  refine lend (nseq (dseq (dlabel (nseq (dseq (dblock ?_))))))
  refine dloopM (τ := (List Bool)) (σ := Blk) (fun s4660 blk4661 => [(3, .pointer (some ⟨b3345, 0, none⟩)), (5, .pointer (some ⟨b3349, 0, none⟩)), (7, .pointer (some ⟨b3355, 0, none⟩))]) (fun s4660 blk4661 hh => St φ lo hh ((some b3355, .cells [.slice (some ⟨b3353, 0, none⟩) (p3339.Nodes).toNat (p3339.Nodes).toNat] 26 .exact) :: (some b3353, blk4661) :: (some b3349, .cells [.slice a3344 n3344 c3344] 33 .exact) :: (some b3345, .cells [.int .i64 p3339.Nodes, .slice a3340 n3340 c3340, .slice a3341 n3341 c3341] 29 .exact) :: own) ∧ OSl eBool φ 4 (some b3353) blk4661 (.slice (some ⟨b3353, 0, none⟩) (p3339.Nodes).toNat (p3339.Nodes).toNat) s4660) ((List.replicate (p3339.Nodes).toNat false).set (p3342).toNat true) ((.cells (setAt vs3353 off3363 [.bool true]) 4 .exact)) (sub_cons rfl (sub_cons rfl (sub_cons rfl sub_nil))) ⟨X3365, O3366⟩ ?_
  rintro n5310 ih5309 s4660 blk4661 t0 h5312 ⟨X5311, O4661⟩
  refine dblock (dseq (dseq (dreg ?_)))
  refine lread (v := .agg #[.int .i64 p3339.Nodes, .slice a3340 n3340 c3340, .slice a3341 n3341 c3341]) rfl (q_load wd_29 rfl) (St.ld X5311 (j := 3) rfl rfl) rfl ?_
  refine linl rfl rfl rfl rfl ca_41 rfl Try.func41 rfl rfl rfl rfl rfl ?_
  refine dseq (dreg ?_)
  refine lbox rfl rfl rfl rfl rfl X5311 (fun b5313 h5315 X5316 => ?_)
  refine lpure (v := .nilFunc) rfl (p_assign rfl) rfl rfl ?_
  refine lend (nseq (dseq (dreg ?_)))
  refine lpure (v := .func (.func 84) #[] #[.pointer (some ⟨b5313, 0, none⟩)]) rfl (p_makeFunc rfl) rfl rfl ?_
  refine lpure (v := .func (.func 84) #[] #[.pointer (some ⟨b5313, 0, none⟩)]) rfl (p_assign rfl) rfl rfl ?_
  refine lend (nseq (dret ?_))
  refine kin_r (res_1 resT) ?_
  refine lend (nseq (dblock ?_))
  refine drange rfl rfl ca_84 Try.func84 rfl rfl X5316 (fun _ => rfl) ?_
  intro l5317 q5318 df5319 h5321 Q5320 X5322
  refine dseq (dreg ?_)
  refine lpure (v := .pointer (some ⟨b5313, 2, none⟩)) rfl (p_fa fo_29_2 rfl) rfl rfl ?_
  refine lread (v := .slice a3341 n3341 c3341) rfl (q_load wd_27 rfl) (St.ld X5322 (j := 2) rfl rfl) rfl ?_
  refine lpure (v := .int .i64 (p3339.Links.length : Int)) rfl (p_len rfl rfl rfl un_27 rfl) (RSl.lenC H3341) rfl ?_
  refine lpure (v := .int .i64 0) rfl (p_move rfl) rfl rfl ?_
  refine lend (nseq (dblock ?_))
  refine dloopM (τ := Int × (List Bool)) (σ := Blk) (fun s5640 blk5641 => [(0, .func (.yield l5317) #[] #[]), (6, .slice a3341 n3341 c3341), (7, .int .i64 (p3339.Links.length : Int)), (8, .int .i64 s5640.1)]) (fun s5640 blk5641 hh => St φ lo hh ((some l5317, rdy q5318) :: (none, .dead) :: (some b5313, .cells [.int .i64 p3339.Nodes, .slice a3340 n3340 c3340, .slice a3341 n3341 c3341] 29 .exact) :: (some b3355, .cells [.slice (some ⟨b3353, 0, none⟩) (p3339.Nodes).toNat (p3339.Nodes).toNat] 26 .exact) :: (some b3353, blk5641) :: (some b3349, .cells [.slice a3344 n3344 c3344] 33 .exact) :: (some b3345, .cells [.int .i64 p3339.Nodes, .slice a3340 n3340 c3340, .slice a3341 n3341 c3341] 29 .exact) :: own) ∧ OSl eBool φ 4 (some b3353) blk5641 (.slice (some ⟨b3353, 0, none⟩) (p3339.Nodes).toNat (p3339.Nodes).toNat) s5640.2) (0, s4660) blk4661 (sub_cons rfl (sub_cons rfl (sub_cons rfl (sub_cons rfl sub_nil)))) ⟨(St.pick X5322 (.keep _ (.none _ (.skip _ (.keep _ (.keep _ (.keep _ (.keep _ (.keep _ (.refl _)))))))))), O4661⟩ ?_
  rintro n5800 ih5799 s5640 blk5641 t0 h5802 ⟨X5801, O5641⟩
  refine dseq (dreg ?_)
  refine lpure (v := .bool (decide (s5640.1 < (p3339.Links.length : Int)))) rfl (p_lt rfl) rfl rfl ?_
  refine lend (nseq (dseq ?_))
  refine dcond rfl rfl (fun k5803 => ?_) (fun k5803 => ?_)
  · refine dskip (nseq (dseq (dblock (dseq (dreg ?_)))))
    refine lpure (v := .int .i64 s5640.1) rfl (p_move rfl) rfl rfl ?_
    refine Sim.bindM fun e5804 he5805 => ?_
    obtain ⟨p5806, cs5806, hp5806, hF5806, hR5806⟩ := RSl.ia H3341 he5805 (kd := .i64) (n := 4) rfl
    obtain rfl := eApiLink_el hR5806
    refine lpure (v := p5806) rfl (p_ia rs_27 rfl) hp5806 rfl ?_
    refine lread (v := .agg #[.int .i64 e5804.A, .int .i64 e5804.B, .int .i64 e5804.Per, .int .i64 e5804.Delay]) rfl (q_load wd_75 rfl) (FP.ldw X5801 hF5806 rfl rfl) rfl ?_
    refine lalloc rfl tz_75 rfl rfl rfl X5801 (fun b5807 h5809 X5810 => ?_)
    refine lpure (v := .int .i64 s5640.1) rfl (p_assign rfl) rfl rfl ?_
    refine lstore rfl ts_75 rfl rfl (j := 0) rfl rfl rfl rfl rfl rfl X5810 (fun h5811 X5812 => ?_)
    refine lend (nseq (dseq (dreg ?_)))
    refine lpure (v := .func (.yield l5317) #[] #[]) rfl (p_move rfl) rfl rfl ?_
    refine lread (v := .agg #[.int .i64 e5804.A, .int .i64 e5804.B, .int .i64 e5804.Per, .int .i64 e5804.Delay]) rfl (q_load wd_75 rfl) (St.ld X5812 (j := 0) rfl rfl) rfl ?_
    refine lpure (v := .int .i64 s5640.1) rfl (p_move rfl) rfl rfl ?_
    refine lpure (v := .int .i64 (w64 (2 * s5640.1))) rfl (p_mul rfl) rfl rfl ?_
    refine lpure (v := .agg #[.int .i64 e5804.A, .int .i64 e5804.B, .int .i64 e5804.Per, .int .i64 e5804.Delay, .int .i64 (w64 (2 * s5640.1))]) rfl (p_build rfl) (build_st' tz_77 pl_77 rfl) rfl ?_
    refine lround rfl rfl rfl rfl rfl rfl X5812 (j := 1) rfl Q5320 rfl rfl rfl rfl rfl (fun t5813 => ?_)
    refine dreg ?_
    refine lalloc rfl tz_77 rfl rfl rfl X5812 (fun b5814 h5816 X5817 => ?_)
    refine lstore rfl ts_77 rfl rfl (j := 0) rfl rfl rfl rfl rfl rfl X5817 (fun h5818 X5819 => ?_)
    refine lend ?_
    refine basg X5819 (j := 2) rfl (fun h5820 X5821 => ?_)
    refine dblock (dseq ?_)
    refine ddraw 0 0 0 (by kernel_rfl) ?_
    refine sload (v := .slice (some ⟨b3353, 0, none⟩) (p3339.Nodes).toNat (p3339.Nodes).toNat) rfl rfl (q_load wd_26 rfl) (St.ld X5821 (j := 5) rfl rfl) (same_self 20 rfl) rfl ?_
    refine sload (v := .agg #[.int .i64 e5804.A, .int .i64 e5804.B, .int .i64 e5804.Per, .int .i64 e5804.Delay, .int .i64 (w64 (2 * s5640.1))]) rfl rfl (q_load wd_77 rfl) (St.ld X5821 (j := 0) rfl rfl) (same_self 20 rfl) rfl ?_
    refine scall (en := fun d => (.int .i64 d)) rfl rfl ca_42 rfl rfl (f42_ok X5821 ((TopoEnd.mk e5804 (w64 (2 * s5640.1))))) rfl (fun e5822 => ?_)
    refine Sim.bindM fun e5826 he5827 => ?_
    obtain ⟨vs5828, m5828, off5828, cs5828, rfl, hp5828, hc5828, hR5828, hl5828, hm5828, hs5828⟩ := OSl.iaB O5641 he5827 (kd := .i64) (n := 1) rfl
    have hR5828 : _ = [(.bool e5826 : Value)] := hR5828
    subst hR5828
    refine spure (v := .pointer (some ⟨b3353, off5828, none⟩)) rfl (p_ia rs_26 rfl) (lo_t (lo_osl X5821 (j := 6) rfl O5641) (lo_t rfl rfl)) hp5828 rfl ?_
    refine sload (v := .bool e5826) rfl rfl (q_load wd_4 rfl) (St.ld X5821 (j := 6) rfl (rdE1 hc5828 (k := 0) rfl rfl)) (same_self 20 rfl) rfl ?_
    refine spure (v := .bool e5826) rfl (p_move rfl) (lo_t rfl rfl) rfl rfl ?_
    refine sjoinM (τ := Bool) (σ := Unit) (fun s5838 (_ : Unit) => [(5, .pointer (some ⟨b3349, 0, none⟩)), (7, .pointer (some ⟨b3355, 0, none⟩)), (8, .pointer (some ⟨b5814, 0, none⟩)), (30, .bool s5838)]) (fun s5838 (_ : Unit) hh => St φ lo hh ((some b5814, .cells [.int .i64 e5804.A, .int .i64 e5804.B, .int .i64 e5804.Per, .int .i64 e5804.Delay, .int .i64 (w64 (2 * s5640.1))] 77 .exact) :: (some b5807, .cells [.int .i64 e5804.A, .int .i64 e5804.B, .int .i64 e5804.Per, .int .i64 e5804.Delay] 75 .exact) :: (some l5317, bsy q5318) :: (none, .dead) :: (some b5313, .cells [.int .i64 p3339.Nodes, .slice a3340 n3340 c3340, .slice a3341 n3341 c3341] 29 .exact) :: (some b3355, .cells [.slice (some ⟨b3353, 0, none⟩) (p3339.Nodes).toNat (p3339.Nodes).toNat] 26 .exact) :: (some b3353, .cells vs5828 4 m5828) :: (some b3349, .cells [.slice a3344 n3344 c3344] 33 .exact) :: (some b3345, .cells [.int .i64 p3339.Nodes, .slice a3340 n3340 c3340, .slice a3341 n3341 c3341] 29 .exact) :: own)) 7 13 ?_ ?_
    · rintro s5838 _ t0 h5840 X5839
      refine spure (v := .bool s5838) rfl (p_move rfl) (lo_t rfl rfl) rfl rfl ?_
      refine sjoinM (τ := Bool) (σ := Unit) (fun s5847 (_ : Unit) => [(7, .pointer (some ⟨b3355, 0, none⟩)), (8, .pointer (some ⟨b5814, 0, none⟩)), (38, .bool s5847)]) (fun s5847 (_ : Unit) hh => St φ lo hh ((some b5814, .cells [.int .i64 e5804.A, .int .i64 e5804.B, .int .i64 e5804.Per, .int .i64 e5804.Delay, .int .i64 (w64 (2 * s5640.1))] 77 .exact) :: (some b5807, .cells [.int .i64 e5804.A, .int .i64 e5804.B, .int .i64 e5804.Per, .int .i64 e5804.Delay] 75 .exact) :: (some l5317, bsy q5318) :: (none, .dead) :: (some b5313, .cells [.int .i64 p3339.Nodes, .slice a3340 n3340 c3340, .slice a3341 n3341 c3341] 29 .exact) :: (some b3355, .cells [.slice (some ⟨b3353, 0, none⟩) (p3339.Nodes).toNat (p3339.Nodes).toNat] 26 .exact) :: (some b3353, .cells vs5828 4 m5828) :: (some b3349, .cells [.slice a3344 n3344 c3344] 33 .exact) :: (some b3345, .cells [.int .i64 p3339.Nodes, .slice a3340 n3340 c3340, .slice a3341 n3341 c3341] 29 .exact) :: own)) 7 21 ?_ ?_
      · rintro s5847 _ t0 h5849 X5848
        refine send ?_
        refine nseq ?_
        refine dcond rfl rfl (fun k5850 => ?_) (fun k5850 => ?_)
        · refine dseq ?_
          refine ddraw 16 16 0 (by kernel_rfl) ?_
          refine sload (v := .slice (some ⟨b3353, 0, none⟩) (p3339.Nodes).toNat (p3339.Nodes).toNat) rfl rfl (q_load wd_26 rfl) (St.ld X5848 (j := 5) rfl rfl) (same_self 20 rfl) rfl ?_
          refine sload (v := .agg #[.int .i64 e5804.A, .int .i64 e5804.B, .int .i64 e5804.Per, .int .i64 e5804.Delay, .int .i64 (w64 (2 * s5640.1))]) rfl rfl (q_load wd_77 rfl) (St.ld X5848 (j := 0) rfl rfl) (same_self 20 rfl) rfl ?_
          refine scall (en := fun d => (.int .i64 d)) rfl rfl ca_44 rfl rfl (f44_ok X5848 ((TopoEnd.mk e5804 (w64 (2 * s5640.1))))) rfl (fun e5851 => ?_)
          refine Sim.bindM fun e5855 he5856 => ?_
          obtain ⟨off5857, cs5857, hp5857, hc5857, hR5857, hl5857, hm5857, hs5857⟩ := OSl.iaC O5641 he5856 (kd := .i64) (n := 1) rfl
          have hR5857 : _ = [(.bool e5855 : Value)] := hR5857
          subst hR5857
          refine spure (v := .pointer (some ⟨b3353, off5857, none⟩)) rfl (p_ia rs_26 rfl) (lo_t (lo_osl X5848 (j := 6) rfl O5641) (lo_t rfl rfl)) hp5857 rfl ?_
          have O5860 := hs5857 [.bool true] (true) rfl
          refine sstore rfl rfl ts_4 rfl rfl (j := 6) rfl hm5857 rfl rfl (ble_iff.2 hl5857) rfl X5848 (fun h5858 X5859 => ?_)
          refine send ?_
          refine nseq (dexit (eblock rfl ?_))
          refine ernd X5859 (j := 2) rfl (fun h5861 X5862 => ?_)
          refine lpure (v := .bool true) rfl (p_not rfl) rfl rfl ?_
          refine lpure (v := .bool true) rfl (p_move rfl) rfl rfl ?_
          refine lskip rfl rfl ?_
          refine lskip rfl rfl ?_
          refine lskip rfl rfl ?_
          refine lskip rfl rfl ?_
          refine lskip rfl rfl ?_
          refine lskip rfl rfl ?_
          refine lskip rfl rfl ?_
          refine lskip rfl rfl ?_
          refine lpure (v := .bool true) rfl (p_pick rfl) rfl rfl ?_
          refine lend (nseq (dcondT rfl rfl (dret (rblock (rseq (rloop (rblock ?_)))))))
          refine kin_r res_0 ?_
          refine rend_d X5862 (j := 2) rfl (.inr ⟨_, rfl, rfl⟩) (fun h5863 X5864 => ?_)
          refine eblock rfl (eseq (xblock ?_))
          exact kbackM ih5309 (s5640.2.set (e5851).toNat true) ((.cells (setAt vs5828 off5857 [.bool true]) 4 m5828)) (sub_cons rfl (sub_cons rfl (sub_cons rfl sub_nil))) ⟨(St.pick X5864 (.skip _ (.skip _ (.skip _ (.skip _ (.skip _ (.keep _ (.keep _ (.keep _ (.keep _ (.refl _))))))))))), O5860⟩
        refine dskip (nblock ?_)
        refine nrnd X5848 (j := 2) rfl (fun h5865 X5866 => ?_)
        refine lpure (v := .bool false) rfl (p_not rfl) rfl rfl ?_
        refine lpure (v := .bool false) rfl (p_move rfl) rfl rfl ?_
        refine lpure (v := .func (.yield l5317) #[] #[]) rfl (p_move rfl) rfl rfl ?_
        refine lread (v := .agg #[.int .i64 e5804.A, .int .i64 e5804.B, .int .i64 e5804.Per, .int .i64 e5804.Delay]) rfl (q_load wd_75 rfl) (St.ld X5866 (j := 1) rfl rfl) rfl ?_
        refine lpure (v := .int .i64 s5640.1) rfl (p_move rfl) rfl rfl ?_
        refine lpure (v := .int .i64 (w64 (2 * s5640.1))) rfl (p_mul rfl) rfl rfl ?_
        refine lpure (v := .int .i64 (w64 ((w64 (2 * s5640.1)) + 1))) rfl (p_add rfl) rfl rfl ?_
        refine lpure (v := .agg #[.int .i64 e5804.A, .int .i64 e5804.B, .int .i64 e5804.Per, .int .i64 e5804.Delay, .int .i64 (w64 ((w64 (2 * s5640.1)) + 1))]) rfl (p_build rfl) (build_st' tz_77 pl_77 rfl) rfl ?_
        refine lround rfl rfl rfl rfl rfl rfl X5866 (j := 2) rfl Q5320 rfl rfl rfl rfl rfl (fun t5867 => ?_)
        refine dreg ?_
        refine lalloc rfl tz_77 rfl rfl rfl X5866 (fun b5868 h5870 X5871 => ?_)
        refine lstore rfl ts_77 rfl rfl (j := 0) rfl rfl rfl rfl rfl rfl X5871 (fun h5872 X5873 => ?_)
        refine lend ?_
        refine basg X5873 (j := 3) rfl (fun h5874 X5875 => ?_)
        refine dblock (dseq ?_)
        refine ddraw 0 0 0 (by kernel_rfl) ?_
        refine sload (v := .slice (some ⟨b3353, 0, none⟩) (p3339.Nodes).toNat (p3339.Nodes).toNat) rfl rfl (q_load wd_26 rfl) (St.ld X5875 (j := 6) rfl rfl) (same_self 20 rfl) rfl ?_
        refine sload (v := .agg #[.int .i64 e5804.A, .int .i64 e5804.B, .int .i64 e5804.Per, .int .i64 e5804.Delay, .int .i64 (w64 ((w64 (2 * s5640.1)) + 1))]) rfl rfl (q_load wd_77 rfl) (St.ld X5875 (j := 0) rfl rfl) (same_self 20 rfl) rfl ?_
        refine scall (en := fun d => (.int .i64 d)) rfl rfl ca_42 rfl rfl (f42_ok X5875 ((TopoEnd.mk e5804 (w64 ((w64 (2 * s5640.1)) + 1))))) rfl (fun e5876 => ?_)
        refine Sim.bindM fun e5880 he5881 => ?_
        obtain ⟨off5882, cs5882, hp5882, hc5882, hR5882, hl5882, hm5882, hs5882⟩ := OSl.iaC O5641 he5881 (kd := .i64) (n := 1) rfl
        have hR5882 : _ = [(.bool e5880 : Value)] := hR5882
        subst hR5882
        refine spure (v := .pointer (some ⟨b3353, off5882, none⟩)) rfl (p_ia rs_26 rfl) (lo_t (lo_osl X5875 (j := 7) rfl O5641) (lo_t rfl rfl)) hp5882 rfl ?_
        refine sload (v := .bool e5880) rfl rfl (q_load wd_4 rfl) (St.ld X5875 (j := 7) rfl (rdE1 hc5882 (k := 0) rfl rfl)) (same_self 20 rfl) rfl ?_
        refine spure (v := .bool e5880) rfl (p_move rfl) (lo_t rfl rfl) rfl rfl ?_
        refine sjoinM (τ := Bool) (σ := Unit) (fun s5892 (_ : Unit) => [(5, .pointer (some ⟨b3349, 0, none⟩)), (7, .pointer (some ⟨b3355, 0, none⟩)), (8, .pointer (some ⟨b5868, 0, none⟩)), (30, .bool s5892)]) (fun s5892 (_ : Unit) hh => St φ lo hh ((some b5868, .cells [.int .i64 e5804.A, .int .i64 e5804.B, .int .i64 e5804.Per, .int .i64 e5804.Delay, .int .i64 (w64 ((w64 (2 * s5640.1)) + 1))] 77 .exact) :: (some b5814, .cells [.int .i64 e5804.A, .int .i64 e5804.B, .int .i64 e5804.Per, .int .i64 e5804.Delay, .int .i64 (w64 (2 * s5640.1))] 77 .exact) :: (some b5807, .cells [.int .i64 e5804.A, .int .i64 e5804.B, .int .i64 e5804.Per, .int .i64 e5804.Delay] 75 .exact) :: (some l5317, bsy q5318) :: (none, .dead) :: (some b5313, .cells [.int .i64 p3339.Nodes, .slice a3340 n3340 c3340, .slice a3341 n3341 c3341] 29 .exact) :: (some b3355, .cells [.slice (some ⟨b3353, 0, none⟩) (p3339.Nodes).toNat (p3339.Nodes).toNat] 26 .exact) :: (some b3353, .cells vs5828 4 m5828) :: (some b3349, .cells [.slice a3344 n3344 c3344] 33 .exact) :: (some b3345, .cells [.int .i64 p3339.Nodes, .slice a3340 n3340 c3340, .slice a3341 n3341 c3341] 29 .exact) :: own)) 7 13 ?_ ?_
        · rintro s5892 _ t0 h5894 X5893
          refine spure (v := .bool s5892) rfl (p_move rfl) (lo_t rfl rfl) rfl rfl ?_
          refine sjoinM (τ := Bool) (σ := Unit) (fun s5901 (_ : Unit) => [(7, .pointer (some ⟨b3355, 0, none⟩)), (8, .pointer (some ⟨b5868, 0, none⟩)), (38, .bool s5901)]) (fun s5901 (_ : Unit) hh => St φ lo hh ((some b5868, .cells [.int .i64 e5804.A, .int .i64 e5804.B, .int .i64 e5804.Per, .int .i64 e5804.Delay, .int .i64 (w64 ((w64 (2 * s5640.1)) + 1))] 77 .exact) :: (some b5814, .cells [.int .i64 e5804.A, .int .i64 e5804.B, .int .i64 e5804.Per, .int .i64 e5804.Delay, .int .i64 (w64 (2 * s5640.1))] 77 .exact) :: (some b5807, .cells [.int .i64 e5804.A, .int .i64 e5804.B, .int .i64 e5804.Per, .int .i64 e5804.Delay] 75 .exact) :: (some l5317, bsy q5318) :: (none, .dead) :: (some b5313, .cells [.int .i64 p3339.Nodes, .slice a3340 n3340 c3340, .slice a3341 n3341 c3341] 29 .exact) :: (some b3355, .cells [.slice (some ⟨b3353, 0, none⟩) (p3339.Nodes).toNat (p3339.Nodes).toNat] 26 .exact) :: (some b3353, .cells vs5828 4 m5828) :: (some b3349, .cells [.slice a3344 n3344 c3344] 33 .exact) :: (some b3345, .cells [.int .i64 p3339.Nodes, .slice a3340 n3340 c3340, .slice a3341 n3341 c3341] 29 .exact) :: own)) 7 21 ?_ ?_
          · rintro s5901 _ t0 h5903 X5902
            refine send ?_
            refine nseq ?_
            refine dcond rfl rfl (fun k5904 => ?_) (fun k5904 => ?_)
            · refine dseq ?_
              refine ddraw 16 16 0 (by kernel_rfl) ?_
              refine sload (v := .slice (some ⟨b3353, 0, none⟩) (p3339.Nodes).toNat (p3339.Nodes).toNat) rfl rfl (q_load wd_26 rfl) (St.ld X5902 (j := 6) rfl rfl) (same_self 20 rfl) rfl ?_
              refine sload (v := .agg #[.int .i64 e5804.A, .int .i64 e5804.B, .int .i64 e5804.Per, .int .i64 e5804.Delay, .int .i64 (w64 ((w64 (2 * s5640.1)) + 1))]) rfl rfl (q_load wd_77 rfl) (St.ld X5902 (j := 0) rfl rfl) (same_self 20 rfl) rfl ?_
              refine scall (en := fun d => (.int .i64 d)) rfl rfl ca_44 rfl rfl (f44_ok X5902 ((TopoEnd.mk e5804 (w64 ((w64 (2 * s5640.1)) + 1))))) rfl (fun e5905 => ?_)
              refine Sim.bindM fun e5909 he5910 => ?_
              obtain ⟨off5911, cs5911, hp5911, hc5911, hR5911, hl5911, hm5911, hs5911⟩ := OSl.iaC O5641 he5910 (kd := .i64) (n := 1) rfl
              have hR5911 : _ = [(.bool e5909 : Value)] := hR5911
              subst hR5911
              refine spure (v := .pointer (some ⟨b3353, off5911, none⟩)) rfl (p_ia rs_26 rfl) (lo_t (lo_osl X5902 (j := 7) rfl O5641) (lo_t rfl rfl)) hp5911 rfl ?_
              have O5914 := hs5911 [.bool true] (true) rfl
              refine sstore rfl rfl ts_4 rfl rfl (j := 7) rfl hm5911 rfl rfl (ble_iff.2 hl5911) rfl X5902 (fun h5912 X5913 => ?_)
              refine send ?_
              refine nseq (dexit (eblock rfl ?_))
              refine ernd X5913 (j := 3) rfl (fun h5915 X5916 => ?_)
              refine lpure (v := .bool true) rfl (p_not rfl) rfl rfl ?_
              refine lpure (v := .bool true) rfl (p_pick rfl) rfl rfl ?_
              refine lend (nseq (dcondT rfl rfl (dret (rblock (rseq (rloop (rblock ?_)))))))
              refine kin_r res_0 ?_
              refine rend_d X5916 (j := 3) rfl (.inr ⟨_, rfl, rfl⟩) (fun h5917 X5918 => ?_)
              refine eblock rfl (eseq (xblock ?_))
              exact kbackM ih5309 (s5640.2.set (e5905).toNat true) ((.cells (setAt vs5828 off5911 [.bool true]) 4 m5828)) (sub_cons rfl (sub_cons rfl (sub_cons rfl sub_nil))) ⟨(St.pick X5918 (.skip _ (.skip _ (.skip _ (.skip _ (.skip _ (.skip _ (.keep _ (.keep _ (.keep _ (.keep _ (.refl _)))))))))))), O5914⟩
            refine dskip (nblock ?_)
            refine nrnd X5902 (j := 3) rfl (fun h5919 X5920 => ?_)
            refine lpure (v := .bool false) rfl (p_not rfl) rfl rfl ?_
            refine lpure (v := .bool false) rfl (p_pick rfl) rfl rfl ?_
            refine lend (nseq (dcondF rfl rfl (dskip (nblock (nseq (dreg ?_))))))
            refine lpure (v := .int .i64 (w64 (s5640.1 + 1))) rfl (p_add rfl) rfl rfl ?_
            refine lpure (v := .int .i64 (w64 (s5640.1 + 1))) rfl (p_move rfl) rfl rfl ?_
            refine lend ?_
            exact kbackM ih5799 ((w64 (s5640.1 + 1)), s5640.2) (.cells vs5828 4 m5828) (sub_cons rfl (sub_cons rfl (sub_cons rfl (sub_cons rfl sub_nil)))) ⟨(St.pick X5920 (.skip _ (.skip _ (.skip _ (.keep _ (.none _ (.skip _ (.keep _ (.keep _ (.keep _ (.keep _ (.keep _ (.refl _))))))))))))), O5641⟩
          intro j5921 J5922
          refine sif (j := 31) (show _ = Value.bool s5892 from rfl) (fun k5923 => ?_) (fun k5923 => ?_)
          · refine sload (v := .slice a3344 n3344 c3344) rfl rfl (q_load wd_33 rfl) (St.ld X5893 (j := 8) rfl rfl) (same_self 20 rfl) rfl ?_
            refine spure (v := .pointer (some ⟨b5868, 4, none⟩)) rfl (p_fa fo_77_1 rfl) (lo_t (lo_own X5893 (j := 0) (o := 0) (s := none) (f := 0) rfl) rfl) rfl rfl ?_
            refine sload (v := .int .i64 (w64 ((w64 (2 * s5640.1)) + 1))) rfl rfl (q_load wd_3 rfl) (St.ld X5893 (j := 0) rfl rfl) (same_self 20 rfl) rfl ?_
            refine spure (v := .int .i64 (w64 (Int.tdiv (w64 ((w64 (2 * s5640.1)) + 1)) 2))) rfl (p_quo rfl) (lo_t rfl (lo_c rfl)) rfl rfl ?_
            refine scall (en := fun d => (.bool d)) rfl rfl ca_68 rfl rfl (f68_ok X5893 p3343 ((w64 (Int.tdiv (w64 ((w64 (2 * s5640.1)) + 1)) 2))) H3344) rfl (fun e5924 => ?_)
            refine spure (v := .bool (!e5924)) rfl (p_not rfl) (lo_t rfl rfl) rfl rfl ?_
            refine spure (v := .bool (!e5924)) rfl (p_pick rfl) (lo_t rfl (lo_t rfl (lo_c rfl))) rfl rfl ?_
            exact sjmpM J5922 (!e5924) () (sub_cons rfl (sub_cons rfl (sub_cons rfl sub_nil))) (St.pick X5893 (.keep _ (.keep _ (.keep _ (.keep _ (.none _ (.skip _ (.keep _ (.keep _ (.keep _ (.keep _ (.keep _ (.refl _)))))))))))))
          refine sskip rfl rfl ?_
          refine sskip rfl rfl ?_
          refine sskip rfl rfl ?_
          refine sskip rfl rfl ?_
          refine sskip rfl rfl ?_
          refine sskip rfl rfl ?_
          refine spure (v := .bool false) rfl (p_pick rfl) (lo_t rfl (lo_t rfl (lo_c rfl))) rfl rfl ?_
          exact sjmpM J5922 false () (sub_cons rfl (sub_cons rfl (sub_cons rfl sub_nil))) (St.pick X5893 (.keep _ (.keep _ (.keep _ (.keep _ (.none _ (.skip _ (.keep _ (.keep _ (.keep _ (.keep _ (.keep _ (.refl _)))))))))))))
        intro j5928 J5929
        refine sif (j := 23) (show _ = Value.bool e5880 from rfl) (fun k5930 => ?_) (fun k5930 => ?_)
        · refine sload (v := .slice (some ⟨b3353, 0, none⟩) (p3339.Nodes).toNat (p3339.Nodes).toNat) rfl rfl (q_load wd_26 rfl) (St.ld X5875 (j := 6) rfl rfl) (same_self 20 rfl) rfl ?_
          refine sload (v := .agg #[.int .i64 e5804.A, .int .i64 e5804.B, .int .i64 e5804.Per, .int .i64 e5804.Delay, .int .i64 (w64 ((w64 (2 * s5640.1)) + 1))]) rfl rfl (q_load wd_77 rfl) (St.ld X5875 (j := 0) rfl rfl) (same_self 20 rfl) rfl ?_
          refine scall (en := fun d => (.int .i64 d)) rfl rfl ca_44 rfl rfl (f44_ok X5875 ((TopoEnd.mk e5804 (w64 ((w64 (2 * s5640.1)) + 1))))) rfl (fun e5931 => ?_)
          refine Sim.bindM fun e5935 he5936 => ?_
          obtain ⟨off5937, cs5937, hp5937, hc5937, hR5937, hl5937, hm5937, hs5937⟩ := OSl.iaC O5641 he5936 (kd := .i64) (n := 1) rfl
          have hR5937 : _ = [(.bool e5935 : Value)] := hR5937
          subst hR5937
          refine spure (v := .pointer (some ⟨b3353, off5937, none⟩)) rfl (p_ia rs_26 rfl) (lo_t (lo_osl X5875 (j := 7) rfl O5641) (lo_t rfl rfl)) hp5937 rfl ?_
          refine sload (v := .bool e5935) rfl rfl (q_load wd_4 rfl) (St.ld X5875 (j := 7) rfl (rdE1 hc5937 (k := 0) rfl rfl)) (same_self 20 rfl) rfl ?_
          refine spure (v := .bool (!e5935)) rfl (p_not rfl) (lo_t rfl rfl) rfl rfl ?_
          refine spure (v := .bool (!e5935)) rfl (p_pick rfl) (lo_t rfl (lo_t rfl (lo_c rfl))) rfl rfl ?_
          exact sjmpM J5929 (!e5935) () (sub_cons rfl (sub_cons rfl (sub_cons rfl (sub_cons rfl sub_nil)))) (St.pick X5875 (.keep _ (.keep _ (.keep _ (.keep _ (.none _ (.skip _ (.keep _ (.keep _ (.keep _ (.keep _ (.keep _ (.refl _)))))))))))))
        refine sskip rfl rfl ?_
        refine sskip rfl rfl ?_
        refine sskip rfl rfl ?_
        refine sskip rfl rfl ?_
        refine sskip rfl rfl ?_
        refine sskip rfl rfl ?_
        refine spure (v := .bool false) rfl (p_pick rfl) (lo_t rfl (lo_t rfl (lo_c rfl))) rfl rfl ?_
        exact sjmpM J5929 false () (sub_cons rfl (sub_cons rfl (sub_cons rfl (sub_cons rfl sub_nil)))) (St.pick X5875 (.keep _ (.keep _ (.keep _ (.keep _ (.none _ (.skip _ (.keep _ (.keep _ (.keep _ (.keep _ (.keep _ (.refl _)))))))))))))
      intro j5938 J5939
      refine sif (j := 31) (show _ = Value.bool s5838 from rfl) (fun k5940 => ?_) (fun k5940 => ?_)
      · refine sload (v := .slice a3344 n3344 c3344) rfl rfl (q_load wd_33 rfl) (St.ld X5839 (j := 7) rfl rfl) (same_self 20 rfl) rfl ?_
        refine spure (v := .pointer (some ⟨b5814, 4, none⟩)) rfl (p_fa fo_77_1 rfl) (lo_t (lo_own X5839 (j := 0) (o := 0) (s := none) (f := 0) rfl) rfl) rfl rfl ?_
        refine sload (v := .int .i64 (w64 (2 * s5640.1))) rfl rfl (q_load wd_3 rfl) (St.ld X5839 (j := 0) rfl rfl) (same_self 20 rfl) rfl ?_
        refine spure (v := .int .i64 (w64 (Int.tdiv (w64 (2 * s5640.1)) 2))) rfl (p_quo rfl) (lo_t rfl (lo_c rfl)) rfl rfl ?_
        refine scall (en := fun d => (.bool d)) rfl rfl ca_68 rfl rfl (f68_ok X5839 p3343 ((w64 (Int.tdiv (w64 (2 * s5640.1)) 2))) H3344) rfl (fun e5941 => ?_)
        refine spure (v := .bool (!e5941)) rfl (p_not rfl) (lo_t rfl rfl) rfl rfl ?_
        refine spure (v := .bool (!e5941)) rfl (p_pick rfl) (lo_t rfl (lo_t rfl (lo_c rfl))) rfl rfl ?_
        exact sjmpM J5939 (!e5941) () (sub_cons rfl (sub_cons rfl (sub_cons rfl sub_nil))) (St.pick X5839 (.keep _ (.keep _ (.keep _ (.none _ (.skip _ (.keep _ (.keep _ (.keep _ (.keep _ (.keep _ (.refl _))))))))))))
      refine sskip rfl rfl ?_
      refine sskip rfl rfl ?_
      refine sskip rfl rfl ?_
      refine sskip rfl rfl ?_
      refine sskip rfl rfl ?_
      refine sskip rfl rfl ?_
      refine spure (v := .bool false) rfl (p_pick rfl) (lo_t rfl (lo_t rfl (lo_c rfl))) rfl rfl ?_
      exact sjmpM J5939 false () (sub_cons rfl (sub_cons rfl (sub_cons rfl sub_nil))) (St.pick X5839 (.keep _ (.keep _ (.keep _ (.none _ (.skip _ (.keep _ (.keep _ (.keep _ (.keep _ (.keep _ (.refl _))))))))))))
    intro j5945 J5946
    refine sif (j := 23) (show _ = Value.bool e5826 from rfl) (fun k5947 => ?_) (fun k5947 => ?_)
    · refine sload (v := .slice (some ⟨b3353, 0, none⟩) (p3339.Nodes).toNat (p3339.Nodes).toNat) rfl rfl (q_load wd_26 rfl) (St.ld X5821 (j := 5) rfl rfl) (same_self 20 rfl) rfl ?_
      refine sload (v := .agg #[.int .i64 e5804.A, .int .i64 e5804.B, .int .i64 e5804.Per, .int .i64 e5804.Delay, .int .i64 (w64 (2 * s5640.1))]) rfl rfl (q_load wd_77 rfl) (St.ld X5821 (j := 0) rfl rfl) (same_self 20 rfl) rfl ?_
      refine scall (en := fun d => (.int .i64 d)) rfl rfl ca_44 rfl rfl (f44_ok X5821 ((TopoEnd.mk e5804 (w64 (2 * s5640.1))))) rfl (fun e5948 => ?_)
      refine Sim.bindM fun e5952 he5953 => ?_
      obtain ⟨off5954, cs5954, hp5954, hc5954, hR5954, hl5954, hm5954, hs5954⟩ := OSl.iaC O5641 he5953 (kd := .i64) (n := 1) rfl
      have hR5954 : _ = [(.bool e5952 : Value)] := hR5954
      subst hR5954
      refine spure (v := .pointer (some ⟨b3353, off5954, none⟩)) rfl (p_ia rs_26 rfl) (lo_t (lo_osl X5821 (j := 6) rfl O5641) (lo_t rfl rfl)) hp5954 rfl ?_
      refine sload (v := .bool e5952) rfl rfl (q_load wd_4 rfl) (St.ld X5821 (j := 6) rfl (rdE1 hc5954 (k := 0) rfl rfl)) (same_self 20 rfl) rfl ?_
      refine spure (v := .bool (!e5952)) rfl (p_not rfl) (lo_t rfl rfl) rfl rfl ?_
      refine spure (v := .bool (!e5952)) rfl (p_pick rfl) (lo_t rfl (lo_t rfl (lo_c rfl))) rfl rfl ?_
      exact sjmpM J5946 (!e5952) () (sub_cons rfl (sub_cons rfl (sub_cons rfl (sub_cons rfl sub_nil)))) (St.pick X5821 (.keep _ (.keep _ (.keep _ (.none _ (.skip _ (.keep _ (.keep _ (.keep _ (.keep _ (.keep _ (.refl _))))))))))))
    refine sskip rfl rfl ?_
    refine sskip rfl rfl ?_
    refine sskip rfl rfl ?_
    refine sskip rfl rfl ?_
    refine sskip rfl rfl ?_
    refine sskip rfl rfl ?_
    refine spure (v := .bool false) rfl (p_pick rfl) (lo_t rfl (lo_t rfl (lo_c rfl))) rfl rfl ?_
    exact sjmpM J5946 false () (sub_cons rfl (sub_cons rfl (sub_cons rfl (sub_cons rfl sub_nil)))) (St.pick X5821 (.keep _ (.keep _ (.keep _ (.none _ (.skip _ (.keep _ (.keep _ (.keep _ (.keep _ (.keep _ (.refl _))))))))))))
  refine dexit (eseq (eloop (xblock ?_)))
  refine kin_n res_0 ?_
  refine rend_n X5801 (j := 0) rfl (fun h5955 X5956 => ?_)
  refine nblock (nseq (dexit (eblock rfl (eloop (xblock (nseq (dseq (dreg ?_))))))))
  refine lread (v := .slice (some ⟨b3353, 0, none⟩) (p3339.Nodes).toNat (p3339.Nodes).toNat) rfl (q_load wd_26 rfl) (St.ld X5956 (j := 3) rfl rfl) rfl ?_
  refine lpure (v := .slice (some ⟨b3353, 0, none⟩) (p3339.Nodes).toNat (p3339.Nodes).toNat) rfl (p_assign rfl) rfl rfl ?_
  refine lend (nseq (dret (rscope ?_)))
  exact kopen_r (res_1 resT) ⟨φ, ((some ⟨b3353, 0, none⟩)), ((p3339.Nodes).toNat), ((p3339.Nodes).toNat), (some b3353), blk5641, (Fz.le_refl _), St.pick (St.front X5956 (j := 4) rfl) (.keep _ (.skip _ (.skip _ (.skip _ (.skip _ (.skip _ (.skip _ (.refl _)))))))), rfl, O5641⟩
/-! slices.Index[[]bool,bool] -/
theorem f83_ok {n : Nat} {φ : Fz} {lo : Nat} {h : Heap} {own : OwnL}  {a5972 : Option Addr} {n5972 c5972 : Nat} (X : St φ lo h (own)) (p5971 : (List Bool)) (p5973 : Bool) (H5972 : RSl eBool φ (.slice a5972 n5972 c5972) p5971) : Sim ((recN Try.prog LL cutF (n + 1)).call 83 #[(.slice a5972 n5972 c5972), (.bool p5973)] h) (m_slices_Index_bool_bool p5971 p5973) (fun (d : Int) p => p = (.int .i64 d, h)) := by
  refine fcut Try.func83 rfl rfl rfl rfl X ?_
  intro h0 X0
  refine dseq (dreg ?_)
  refine lpure (v := .int .i64 0) rfl (p_assign rfl) rfl rfl ?_
  refine lend (nseq (dseq (dseq (dreg ?_))))
  refine lpure (v := .slice a5972 n5972 c5972) rfl (p_move rfl) rfl rfl ?_
  refine lpure (v := .int .i64 (p5971.length : Int)) rfl (p_len rfl rfl rfl un_26 rfl) (RSl.lenC H5972) rfl ?_
  refine lpure (v := .int .i64 0) rfl (p_move rfl) rfl rfl ?_
  refine lend (nseq (dblock ?_))
  refine dloopM (τ := Int) (σ := Unit) (fun s5990 (_ : Unit) => [(0, .slice a5972 n5972 c5972), (1, .bool p5973), (7, .int .i64 (p5971.length : Int)), (8, .int .i64 s5990)]) (fun s5990 (_ : Unit) hh => St φ h.n hh ([])) 0 () (sub_cons rfl (sub_cons rfl (sub_cons rfl (sub_cons rfl sub_nil)))) X0 ?_
  rintro n6000 ih5999 s5990 _ t0 h6002 X6001
  refine dseq (dreg ?_)
  refine lpure (v := .bool (decide (s5990 < (p5971.length : Int)))) rfl (p_lt rfl) rfl rfl ?_
  refine lend (nseq (dseq ?_))
  refine dcond rfl rfl (fun k6003 => ?_) (fun k6003 => ?_)
  · refine dskip (nseq (dseq (dblock (dseq (dreg ?_)))))
    refine lpure (v := .int .i64 s5990) rfl (p_move rfl) rfl rfl ?_
    refine lpure (v := .int .i64 s5990) rfl (p_assign rfl) rfl rfl ?_
    refine lend (nseq (dseq (dreg ?_)))
    refine lpure (v := .bool p5973) rfl (p_move rfl) rfl rfl ?_
    refine lpure (v := .slice a5972 n5972 c5972) rfl (p_move rfl) rfl rfl ?_
    refine lpure (v := .int .i64 s5990) rfl (p_move rfl) rfl rfl ?_
    refine Sim.bindM fun e6004 he6005 => ?_
    obtain ⟨p6006, cs6006, hp6006, hF6006, hR6006⟩ := RSl.ia H5972 he6005 (kd := .i64) (n := 1) rfl
    have hR6006 : _ = [(.bool e6004 : Value)] := hR6006
    subst hR6006
    refine lpure (v := p6006) rfl (p_ia rs_26 rfl) hp6006 rfl ?_
    refine lread (v := .bool e6004) rfl (q_load wd_4 rfl) (FP.ld X6001 hF6006) rfl ?_
    refine lpure (v := .bool (p5973 == e6004)) rfl (p_bin rfl) (bin_eqB un_4) rfl ?_
    refine lend (nseq ?_)
    refine dcond rfl rfl (fun k6007 => ?_) (fun k6007 => ?_)
    · refine dseq (dreg ?_)
      refine lpure (v := .int .i64 s5990) rfl (p_move rfl) rfl rfl ?_
      refine lpure (v := .int .i64 s5990) rfl (p_assign rfl) rfl rfl ?_
      refine lend (nseq (dret (rblock (rseq (rloop (rblock (rseq ?_)))))))
      exact kcut_r (res_1 resT) X6001 rfl rfl
    refine dskip (nblock (nseq (dreg ?_)))
    refine lpure (v := .int .i64 (w64 (s5990 + 1))) rfl (p_add rfl) rfl rfl ?_
    refine lpure (v := .int .i64 (w64 (s5990 + 1))) rfl (p_move rfl) rfl rfl ?_
    refine lend ?_
    exact kbackM ih5999 (w64 (s5990 + 1)) () (sub_cons rfl (sub_cons rfl (sub_cons rfl (sub_cons rfl sub_nil)))) X6001
  refine dexit (eseq (eloop (xblock (nseq (dseq (dreg ?_))))))
  refine lpure (v := .int .i64 (-1)) rfl (p_assign rfl) rfl rfl ?_
  refine lend (nseq (dret ?_))
  exact kcut_r (res_1 resT) X6001 rfl rfl
/-! slices.Contains[[]bool,bool] -/
theorem f38_ok {n : Nat} {φ : Fz} {lo : Nat} {h : Heap} {own : OwnL}  {a5969 : Option Addr} {n5969 c5969 : Nat} (X : St φ lo h (own)) (p5968 : (List Bool)) (p5970 : Bool) (H5969 : RSl eBool φ (.slice a5969 n5969 c5969) p5968) : Sim ((recN Try.prog LL cutF (n + 2)).call 38 #[(.slice a5969 n5969 c5969), (.bool p5970)] h) (m_slices_Contains_bool_bool p5968 p5970) (fun (d : Bool) p => p = (.bool d, h)) := by
  refine fcut Try.func38 rfl rfl rfl rfl X ?_
  intro h0 X0
  refine dseq (dreg ?_)
  refine lpure (v := .bool false) rfl (p_assign rfl) rfl rfl ?_
  refine lend (nseq (dseq (dreg ?_)))
  refine lpure (v := .slice a5969 n5969 c5969) rfl (p_move rfl) rfl rfl ?_
  refine lpure (v := .bool p5970) rfl (p_move rfl) rfl rfl ?_
  refine lcall rfl rfl ca_83 rfl rfl (f83_ok X0 p5968 p5970 H5969) rfl (fun e6008 v6009 h6010 hq6011 => ?_)
  cases hq6011
  refine lpure (v := .bool (decide (0 ≤ e6008))) rfl (p_ge rfl) rfl rfl ?_
  refine lpure (v := .bool (decide (0 ≤ e6008))) rfl (p_assign rfl) rfl rfl ?_
  refine lend (nseq (dret ?_))
  exact kcut_r (res_1 resT) X0 rfl rfl
/-! isochron/topo.Check -/
theorem f9_ok {n : Nat} {φ : Fz} {lo : Nat} {h : Heap} {own : OwnL}  {a84 : Option Addr} {n84 c84 : Nat} {a85 : Option Addr} {n85 c85 : Nat} (X : St φ lo h (own)) (p83 : ApiTopo) (H84 : RSl eBool φ (.slice a84 n84 c84) p83.Station) (H85 : RSl eApiLink φ (.slice a85 n85 c85) p83.Links) : Sim ((recN Try.prog LL cutF (n + 6)).call 9 #[(.agg #[.int .i64 p83.Nodes, .slice a84 n84 c84, .slice a85 n85 c85])] h) (m_topo_Check p83) (fun (d : Int) p => p = (.int .i64 d, h)) := by
  refine fcut Try.func9 rfl rfl rfl rfl X ?_
  intro h0 X0
  refine dseq (dreg ?_)
  refine lbox rfl rfl rfl rfl rfl X0 (fun b86 h88 X89 => ?_)
  refine lpure (v := .int .i64 0) rfl (p_assign rfl) rfl rfl ?_
  refine lend (nseq (dseq (dseq (dreg ?_))))
  refine lpure (v := .pointer (some ⟨b86, 0, none⟩)) rfl (p_fa fo_29_0 rfl) rfl rfl ?_
  refine lread (v := .int .i64 p83.Nodes) rfl (q_load wd_3 rfl) (St.ld X89 (j := 0) rfl rfl) rfl ?_
  refine lpure (v := .bool (decide (p83.Nodes < 2))) rfl (p_lt rfl) rfl rfl ?_
  refine lpure (v := .bool (decide (p83.Nodes < 2))) rfl (p_move rfl) rfl rfl ?_
  refine lsh (τ := Bool) (σ := Unit) (fun s91 (_ : Unit) => [(1, .pointer (some ⟨b86, 0, none⟩)), (13, .bool s91)]) (fun s91 (_ : Unit) hh => St φ h.n hh ([(some b86, .cells [.int .i64 p83.Nodes, .slice a84 n84 c84, .slice a85 n85 c85] 29 .exact)])) 4 ?_ ?_
  · rintro s91 _ t0 h93 X92
    refine lpure (v := .bool s91) rfl (p_move rfl) rfl rfl ?_
    refine lsh (τ := Bool) (σ := Unit) (fun s95 (_ : Unit) => [(1, .pointer (some ⟨b86, 0, none⟩)), (21, .bool s95)]) (fun s95 (_ : Unit) hh => St φ h.n hh ([(some b86, .cells [.int .i64 p83.Nodes, .slice a84 n84 c84, .slice a85 n85 c85] 29 .exact)])) 7 ?_ ?_
    · rintro s95 _ t0 h97 X96
      refine lpure (v := .bool s95) rfl (p_move rfl) rfl rfl ?_
      refine lsh (τ := Bool) (σ := Unit) (fun s99 (_ : Unit) => [(1, .pointer (some ⟨b86, 0, none⟩)), (27, .bool s99)]) (fun s99 (_ : Unit) hh => St φ h.n hh ([(some b86, .cells [.int .i64 p83.Nodes, .slice a84 n84 c84, .slice a85 n85 c85] 29 .exact)])) 5 ?_ ?_
      · rintro s99 _ t0 h101 X100
        refine lend (nseq ?_)
        refine dcond rfl rfl (fun k102 => ?_) (fun k102 => ?_)
        · refine dseq (dreg ?_)
          refine lpure (v := .int .i64 260) rfl (p_assign rfl) rfl rfl ?_
          refine lend (nseq (dret (rseq ?_)))
          exact kcut_r (res_1 resT) X100 rfl rfl
        refine dskip (nseq (dseq (dseq (dreg ?_))))
        refine lpure (v := .pointer (some ⟨b86, 2, none⟩)) rfl (p_fa fo_29_2 rfl) rfl rfl ?_
        refine lread (v := .slice a85 n85 c85) rfl (q_load wd_27 rfl) (St.ld X100 (j := 0) rfl rfl) rfl ?_
        refine lpure (v := .int .i64 (p83.Links.length : Int)) rfl (p_len rfl rfl rfl un_27 rfl) (RSl.lenC H85) rfl ?_
        refine lpure (v := .int .i64 0) rfl (p_move rfl) rfl rfl ?_
        refine lend (nseq (dblock ?_))
        refine dloopM (τ := Int) (σ := Unit) (fun s6398 (_ : Unit) => [(1, .pointer (some ⟨b86, 0, none⟩)), (30, .int .i64 (p83.Links.length : Int)), (31, .int .i64 s6398)]) (fun s6398 (_ : Unit) hh => St φ h.n hh ([(some b86, .cells [.int .i64 p83.Nodes, .slice a84 n84 c84, .slice a85 n85 c85] 29 .exact)])) 0 () (sub_cons rfl (sub_cons rfl (sub_cons rfl sub_nil))) X100 ?_
        rintro n6619 ih6618 s6398 _ t0 h6621 X6620
        refine dseq (dreg ?_)
        refine lpure (v := .bool (decide (s6398 < (p83.Links.length : Int)))) rfl (p_lt rfl) rfl rfl ?_
        refine lend (nseq (dseq ?_))
        refine dcond rfl rfl (fun k6622 => ?_) (fun k6622 => ?_)
        · refine dskip (nseq (dseq (dblock (dseq (dreg ?_)))))
          refine lpure (v := .int .i64 s6398) rfl (p_move rfl) rfl rfl ?_
          refine lpure (v := .int .i64 s6398) rfl (p_assign rfl) rfl rfl ?_
          refine lend (nseq (dseq (dreg ?_)))
          refine lread (v := .agg #[.int .i64 p83.Nodes, .slice a84 n84 c84, .slice a85 n85 c85]) rfl (q_load wd_29 rfl) (St.ld X6620 (j := 0) rfl rfl) rfl ?_
          refine lpure (v := .int .i64 s6398) rfl (p_move rfl) rfl rfl ?_
          refine lcall rfl rfl ca_36 rfl rfl (f36_ok X6620 p83 s6398 H84 H85) rfl (fun e6623 v6624 h6625 hq6626 => ?_)
          cases hq6626
          refine lpure (v := .bool (!e6623)) rfl (p_not rfl) rfl rfl ?_
          refine lend (nseq ?_)
          refine dcond rfl rfl (fun k6627 => ?_) (fun k6627 => ?_)
          · refine dseq (dreg ?_)
            refine lpure (v := .int .i64 260) rfl (p_assign rfl) rfl rfl ?_
            refine lend (nseq (dret (rblock (rseq (rloop (rblock (rseq ?_)))))))
            exact kcut_r (res_1 resT) X6620 rfl rfl
          refine dskip (nblock (nseq (dreg ?_)))
          refine lpure (v := .int .i64 (w64 (s6398 + 1))) rfl (p_add rfl) rfl rfl ?_
          refine lpure (v := .int .i64 (w64 (s6398 + 1))) rfl (p_move rfl) rfl rfl ?_
          refine lend ?_
          exact kbackM ih6618 (w64 (s6398 + 1)) () (sub_cons rfl (sub_cons rfl (sub_cons rfl sub_nil))) X6620
        refine dexit (eseq (eloop (xblock (nseq (dseq (dseq (dreg ?_)))))))
        refine lpure (v := .pointer (some ⟨b86, 1, none⟩)) rfl (p_fa fo_29_1 rfl) rfl rfl ?_
        refine lread (v := .slice a84 n84 c84) rfl (q_load wd_26 rfl) (St.ld X6620 (j := 0) rfl rfl) rfl ?_
        refine lpure (v := .int .i64 (p83.Station.length : Int)) rfl (p_len rfl rfl rfl un_26 rfl) (RSl.lenC H84) rfl ?_
        refine lpure (v := .int .i64 0) rfl (p_move rfl) rfl rfl ?_
        refine lend (nseq (dblock ?_))
        refine dloopM (τ := Int) (σ := Unit) (fun s6732 (_ : Unit) => [(1, .pointer (some ⟨b86, 0, none⟩)), (40, .slice a84 n84 c84), (41, .int .i64 (p83.Station.length : Int)), (42, .int .i64 s6732)]) (fun s6732 (_ : Unit) hh => St φ h.n hh ([(some b86, .cells [.int .i64 p83.Nodes, .slice a84 n84 c84, .slice a85 n85 c85] 29 .exact)])) 0 () (sub_cons rfl (sub_cons rfl (sub_cons rfl (sub_cons rfl sub_nil)))) X6620 ?_
        rintro n6786 ih6785 s6732 _ t0 h6788 X6787
        refine dseq (dreg ?_)
        refine lpure (v := .bool (decide (s6732 < (p83.Station.length : Int)))) rfl (p_lt rfl) rfl rfl ?_
        refine lend (nseq (dseq ?_))
        refine dcond rfl rfl (fun k6789 => ?_) (fun k6789 => ?_)
        · refine dskip (nseq (dseq (dblock (dseq (dreg ?_)))))
          refine lpure (v := .int .i64 s6732) rfl (p_move rfl) rfl rfl ?_
          refine Sim.bindM fun e6790 he6791 => ?_
          obtain ⟨p6792, cs6792, hp6792, hF6792, hR6792⟩ := RSl.ia H84 he6791 (kd := .i64) (n := 1) rfl
          have hR6792 : _ = [(.bool e6790 : Value)] := hR6792
          subst hR6792
          refine lpure (v := p6792) rfl (p_ia rs_26 rfl) hp6792 rfl ?_
          refine lread (v := .bool e6790) rfl (q_load wd_4 rfl) (FP.ld X6787 hF6792) rfl ?_
          refine lpure (v := .int .i64 s6732) rfl (p_assign rfl) rfl rfl ?_
          refine lpure (v := .bool e6790) rfl (p_assign rfl) rfl rfl ?_
          refine lend (nseq (dseq (dreg ?_)))
          refine lpure (v := .bool e6790) rfl (p_move rfl) rfl rfl ?_
          refine lpure (v := .bool e6790) rfl (p_move rfl) rfl rfl ?_
          refine ljoinM (τ := Bool) (σ := Unit) (fun s6804 (_ : Unit) => [(1, .pointer (some ⟨b86, 0, none⟩)), (40, .slice a84 n84 c84), (41, .int .i64 (p83.Station.length : Int)), (42, .int .i64 s6732), (59, .bool s6804)]) (fun s6804 (_ : Unit) hh => St φ h.n hh ([(some b86, .cells [.int .i64 p83.Nodes, .slice a84 n84 c84, .slice a85 n85 c85] 29 .exact)])) 11 ?_ ?_
          · rintro s6804 _ t0 h6806 X6805
            refine lend (nseq ?_)
            refine dcond rfl rfl (fun k6807 => ?_) (fun k6807 => ?_)
            · refine dseq (dreg ?_)
              refine lpure (v := .int .i64 260) rfl (p_assign rfl) rfl rfl ?_
              refine lend (nseq (dret (rblock (rseq (rloop (rblock (rseq ?_)))))))
              exact kcut_r (res_1 resT) X6805 rfl rfl
            refine dskip (nblock (nseq (dreg ?_)))
            refine lpure (v := .int .i64 (w64 (s6732 + 1))) rfl (p_add rfl) rfl rfl ?_
            refine lpure (v := .int .i64 (w64 (s6732 + 1))) rfl (p_move rfl) rfl rfl ?_
            refine lend ?_
            exact kbackM ih6785 (w64 (s6732 + 1)) () (sub_cons rfl (sub_cons rfl (sub_cons rfl (sub_cons rfl sub_nil)))) X6805
          intro j6808 J6809
          refine lif (i := 48) (show _ = Value.bool e6790 from rfl) (fun k6810 => ?_) (fun k6810 => ?_)
          · refine lread (v := .agg #[.int .i64 p83.Nodes, .slice a84 n84 c84, .slice a85 n85 c85]) rfl (q_load wd_29 rfl) (St.ld X6787 (j := 0) rfl rfl) rfl ?_
            refine lpure (v := .int .i64 s6732) rfl (p_move rfl) rfl rfl ?_
            refine lcall rfl rfl ca_37 rfl rfl (f37_ok X6787 p83 s6732 H84 H85) rfl (fun e6811 v6812 h6813 hq6814 => ?_)
            cases hq6814
            refine lpure (v := .bool (decide (e6811 < 1))) rfl (p_lt rfl) rfl rfl ?_
            refine lpure (v := .bool (decide (e6811 < 1))) rfl (p_move rfl) rfl rfl ?_
            refine lif (i := 53) (show _ = Value.bool (decide (e6811 < 1)) from rfl) (fun k6815 => ?_) (fun k6815 => ?_)
            · refine lskip rfl rfl ?_
              refine lskip rfl rfl ?_
              refine lskip rfl rfl ?_
              refine lskip rfl rfl ?_
              refine lpure (v := .bool true) rfl (p_pick rfl) rfl rfl ?_
              refine lpure (v := .bool true) rfl (p_pick rfl) rfl rfl ?_
              exact ljmpM J6809 true () (sub_cons rfl (sub_cons rfl (sub_cons rfl (sub_cons rfl (sub_cons rfl sub_nil))))) X6787
            refine lread (v := .agg #[.int .i64 p83.Nodes, .slice a84 n84 c84, .slice a85 n85 c85]) rfl (q_load wd_29 rfl) (St.ld X6787 (j := 0) rfl rfl) rfl ?_
            refine lpure (v := .int .i64 s6732) rfl (p_move rfl) rfl rfl ?_
            refine lcall rfl rfl ca_37 rfl rfl (f37_ok X6787 p83 s6732 H84 H85) rfl (fun e6816 v6817 h6818 hq6819 => ?_)
            cases hq6819
            refine lpure (v := .bool (decide (2 < e6816))) rfl (p_gt rfl) rfl rfl ?_
            refine lpure (v := .bool (decide (2 < e6816))) rfl (p_pick rfl) rfl rfl ?_
            refine lpure (v := .bool (decide (2 < e6816))) rfl (p_pick rfl) rfl rfl ?_
            exact ljmpM J6809 (decide (2 < e6816)) () (sub_cons rfl (sub_cons rfl (sub_cons rfl (sub_cons rfl (sub_cons rfl sub_nil))))) X6787
          refine lskip rfl rfl ?_
          refine lskip rfl rfl ?_
          refine lskip rfl rfl ?_
          refine lskip rfl rfl ?_
          refine lskip rfl rfl ?_
          refine lskip rfl rfl ?_
          refine lskip rfl rfl ?_
          refine lskip rfl rfl ?_
          refine lskip rfl rfl ?_
          refine lskip rfl rfl ?_
          refine lpure (v := .bool false) rfl (p_pick rfl) rfl rfl ?_
          exact ljmpM J6809 false () (sub_cons rfl (sub_cons rfl (sub_cons rfl (sub_cons rfl (sub_cons rfl sub_nil))))) X6787
        refine dexit (eseq (eloop (xblock (nseq (dseq (dseq (dreg ?_)))))))
        refine lread (v := .agg #[.int .i64 p83.Nodes, .slice a84 n84 c84, .slice a85 n85 c85]) rfl (q_load wd_29 rfl) (St.ld X6787 (j := 0) rfl rfl) rfl ?_
        refine lcall rfl rfl ca_39 rfl rfl (f39_ok X6787 p83 0 ([]) H84 H85 (.inl ⟨rfl, rfl⟩)) rfl ?_
        rintro e6820 _ h6822 ⟨φ6824, a6827, n6827, c6827, ob6827, blk6827, g6825, X6826, rfl, O6827⟩
        obtain ⟨φ6829, g6830, X6831, H6832⟩ := OSl.freeze X6826 (j := 0) rfl O6827
        refine lcall rfl rfl ca_38 rfl rfl (f38_ok X6831 e6820 false H6832) rfl (fun e6833 v6834 h6835 hq6836 => ?_)
        cases hq6836
        refine lend (nseq ?_)
        refine dcond rfl rfl (fun k6837 => ?_) (fun k6837 => ?_)
        · refine dseq (dreg ?_)
          refine lpure (v := .int .i64 260) rfl (p_assign rfl) rfl rfl ?_
          refine lend (nseq (dret (rseq ?_)))
          exact kcut_r (res_1 resT) X6826 rfl rfl
        refine dskip (nseq (dseq (dreg ?_)))
        refine lpure (v := .int .i64 0) rfl (p_assign rfl) rfl rfl ?_
        refine lend (nseq (dret ?_))
        exact kcut_r (res_1 resT) X6826 rfl rfl
      intro j6838 J6839
      refine lcase (i := 22) (show _ = Value.bool s95 from rfl) (fun k6840 => ?_) (fun k6840 => ?_)
      · refine lskip rfl rfl ?_
        refine lskip rfl rfl ?_
        refine lskip rfl rfl ?_
        refine lskip rfl rfl ?_
        refine lpure (v := .bool true) rfl (p_pick rfl) rfl rfl ?_
        refine Sim.of_eq (congrArg j6838 (show (s95 || (decide (24 < (p83.Links.length : Int)))) = true from by rw [k6840] <;> rfl)) ?_
        exact ljmpM J6839 true () (sub_cons rfl (sub_cons rfl sub_nil)) X96
      refine lpure (v := .pointer (some ⟨b86, 2, none⟩)) rfl (p_fa fo_29_2 rfl) rfl rfl ?_
      refine lread (v := .slice a85 n85 c85) rfl (q_load wd_27 rfl) (St.ld X96 (j := 0) rfl rfl) rfl ?_
      refine lpure (v := .int .i64 (p83.Links.length : Int)) rfl (p_len rfl rfl rfl un_27 rfl) (RSl.lenC H85) rfl ?_
      refine lpure (v := .bool (decide (24 < (p83.Links.length : Int)))) rfl (p_gt rfl) rfl rfl ?_
      refine lpure (v := .bool (decide (24 < (p83.Links.length : Int)))) rfl (p_pick rfl) rfl rfl ?_
      refine Sim.of_eq (congrArg j6838 (show (s95 || (decide (24 < (p83.Links.length : Int)))) = (decide (24 < (p83.Links.length : Int))) from by rw [k6840] <;> rfl)) ?_
      exact ljmpM J6839 (decide (24 < (p83.Links.length : Int))) () (sub_cons rfl (sub_cons rfl sub_nil)) X96
    intro j6841 J6842
    refine lcase (i := 14) (show _ = Value.bool s91 from rfl) (fun k6843 => ?_) (fun k6843 => ?_)
    · refine lskip rfl rfl ?_
      refine lskip rfl rfl ?_
      refine lskip rfl rfl ?_
      refine lskip rfl rfl ?_
      refine lskip rfl rfl ?_
      refine lskip rfl rfl ?_
      refine lpure (v := .bool true) rfl (p_pick rfl) rfl rfl ?_
      refine Sim.of_eq (congrArg j6841 (show (s91 || (decide ((p83.Station.length : Int) ≠ p83.Nodes))) = true from by rw [k6843] <;> rfl)) ?_
      exact ljmpM J6842 true () (sub_cons rfl (sub_cons rfl sub_nil)) X92
    refine lpure (v := .pointer (some ⟨b86, 1, none⟩)) rfl (p_fa fo_29_1 rfl) rfl rfl ?_
    refine lread (v := .slice a84 n84 c84) rfl (q_load wd_26 rfl) (St.ld X92 (j := 0) rfl rfl) rfl ?_
    refine lpure (v := .int .i64 (p83.Station.length : Int)) rfl (p_len rfl rfl rfl un_26 rfl) (RSl.lenC H84) rfl ?_
    refine lpure (v := .pointer (some ⟨b86, 0, none⟩)) rfl (p_fa fo_29_0 rfl) rfl rfl ?_
    refine lread (v := .int .i64 p83.Nodes) rfl (q_load wd_3 rfl) (St.ld X92 (j := 0) rfl rfl) rfl ?_
    refine lpure (v := .bool (decide ((p83.Station.length : Int) ≠ p83.Nodes))) rfl (p_ne rfl) rfl rfl ?_
    refine lpure (v := .bool (decide ((p83.Station.length : Int) ≠ p83.Nodes))) rfl (p_pick rfl) rfl rfl ?_
    refine Sim.of_eq (congrArg j6841 (show (s91 || (decide ((p83.Station.length : Int) ≠ p83.Nodes))) = (decide ((p83.Station.length : Int) ≠ p83.Nodes)) from by rw [k6843] <;> rfl)) ?_
    exact ljmpM J6842 (decide ((p83.Station.length : Int) ≠ p83.Nodes)) () (sub_cons rfl (sub_cons rfl sub_nil)) X92
  intro j6844 J6845
  refine lcase (i := 9) (show _ = Value.bool (decide (p83.Nodes < 2)) from rfl) (fun k6846 => ?_) (fun k6846 => ?_)
  · refine lskip rfl rfl ?_
    refine lskip rfl rfl ?_
    refine lskip rfl rfl ?_
    refine lpure (v := .bool true) rfl (p_pick rfl) rfl rfl ?_
    refine Sim.of_eq (congrArg j6844 (show ((decide (p83.Nodes < 2)) || (decide (12 < p83.Nodes))) = true from by rw [k6846] <;> rfl)) ?_
    exact ljmpM J6845 true () (sub_cons rfl (sub_cons rfl sub_nil)) X89
  refine lpure (v := .pointer (some ⟨b86, 0, none⟩)) rfl (p_fa fo_29_0 rfl) rfl rfl ?_
  refine lread (v := .int .i64 p83.Nodes) rfl (q_load wd_3 rfl) (St.ld X89 (j := 0) rfl rfl) rfl ?_
  refine lpure (v := .bool (decide (12 < p83.Nodes))) rfl (p_gt rfl) rfl rfl ?_
  refine lpure (v := .bool (decide (12 < p83.Nodes))) rfl (p_pick rfl) rfl rfl ?_
  refine Sim.of_eq (congrArg j6844 (show ((decide (p83.Nodes < 2)) || (decide (12 < p83.Nodes))) = (decide (12 < p83.Nodes)) from by rw [k6846] <;> rfl)) ?_
  exact ljmpM J6845 (decide (12 < p83.Nodes)) () (sub_cons rfl (sub_cons rfl sub_nil)) X89
/-! isochron/topo.From -/
theorem f11_ok {n : Nat} {φ : Fz} {lo : Nat} {h : Heap} {own : OwnL}  {a6972 : Option Addr} {n6972 c6972 : Nat} {a6973 : Option Addr} {n6973 c6973 : Nat} (X : St φ lo h (own)) (p6971 : ApiTopo) (p6974 : Int) (H6972 : RSl eBool φ (.slice a6972 n6972 c6972) p6971.Station) (H6973 : RSl eApiLink φ (.slice a6973 n6973 c6973) p6971.Links) : Sim ((recN Try.prog LL cutF (n + 8)).call 11 #[(.agg #[.int .i64 p6971.Nodes, .slice a6972 n6972 c6972, .slice a6973 n6973 c6973]), (.int .i64 p6974)] h) (m_topo_From p6971 p6974) (fun (d : (Int × Int)) p => p = (.tuple #[.int .i64 d.1, .int .i64 d.2], h)) := by
  refine fcut Try.func11 rfl rfl rfl rfl X ?_
  intro h0 X0
  refine dseq (dreg ?_)
  refine lbox rfl rfl rfl rfl rfl X0 (fun b6975 h6977 X6978 => ?_)
  refine lpure (v := .int .i64 0) rfl (p_assign rfl) rfl rfl ?_
  refine lpure (v := .int .i64 0) rfl (p_assign rfl) rfl rfl ?_
  refine lend (nseq (dseq (dreg ?_)))
  refine lread (v := .agg #[.int .i64 p6971.Nodes, .slice a6972 n6972 c6972, .slice a6973 n6973 c6973]) rfl (q_load wd_29 rfl) (St.ld X6978 (j := 0) rfl rfl) rfl ?_
  refine lpure (v := .int .i64 p6974) rfl (p_move rfl) rfl rfl ?_
  refine linl rfl rfl rfl rfl ca_43 rfl Try.func43 rfl rfl rfl rfl rfl ?_
  refine dseq (dreg ?_)
  refine lbox rfl rfl rfl rfl rfl X6978 (fun b6979 h6981 X6982 => ?_)
  refine lpure (v := .int .i64 0) rfl (p_assign rfl) rfl rfl ?_
  refine lpure (v := .int .i64 0) rfl (p_assign rfl) rfl rfl ?_
  refine lend (nseq (dseq (dreg ?_)))
  refine lpure (v := .int .i64 0) rfl (p_assign rfl) rfl rfl ?_
  refine lend (nseq (dseq (dseq (dreg ?_))))
  refine lread (v := .agg #[.int .i64 p6971.Nodes, .slice a6972 n6972 c6972, .slice a6973 n6973 c6973]) rfl (q_load wd_29 rfl) (St.ld X6982 (j := 0) rfl rfl) rfl ?_
  refine lcall rfl rfl ca_9 rfl rfl (f9_ok X6982 p6971 H6972 H6973) rfl (fun e6983 v6984 h6985 hq6986 => ?_)
  cases hq6986
  refine lpure (v := .int .i64 e6983) rfl (p_assign rfl) rfl rfl ?_
  refine lend (nseq (dseq (dreg ?_)))
  refine lpure (v := .int .i64 e6983) rfl (p_move rfl) rfl rfl ?_
  refine lpure (v := .bool (decide (e6983 ≠ 0))) rfl (p_ne rfl) rfl rfl ?_
  refine lend (nseq ?_)
  refine dcond rfl rfl (fun k6987 => ?_) (fun k6987 => ?_)
  · refine dseq (dreg ?_)
    refine lpure (v := .int .i64 0) rfl (p_move rfl) rfl rfl ?_
    refine lpure (v := .int .i64 e6983) rfl (p_move rfl) rfl rfl ?_
    refine lpure (v := .int .i64 0) rfl (p_assign rfl) rfl rfl ?_
    refine lpure (v := .int .i64 e6983) rfl (p_assign rfl) rfl rfl ?_
    refine lend (nseq (dret (rseq ?_)))
    refine kin_r (res_2 resT resT) ?_
    refine lpure (v := .int .i64 0) rfl (p_extract rfl) rfl rfl ?_
    refine lpure (v := .int .i64 e6983) rfl (p_extract rfl) rfl rfl ?_
    refine lpure (v := .int .i64 0) rfl (p_assign rfl) rfl rfl ?_
    refine lpure (v := .int .i64 e6983) rfl (p_assign rfl) rfl rfl ?_
    refine lend (nseq (dret ?_))
    exact kcut_r (res_2 resT resT) X6982 rfl rfl
  refine dskip (nseq (dseq (dseq (dreg ?_))))
  refine lpure (v := .int .i64 p6974) rfl (p_move rfl) rfl rfl ?_
  refine lpure (v := .bool (decide (p6974 < 0))) rfl (p_lt rfl) rfl rfl ?_
  refine lpure (v := .bool (decide (p6974 < 0))) rfl (p_move rfl) rfl rfl ?_
  refine lsh (τ := Bool) (σ := Unit) (fun s6989 (_ : Unit) => [(1, .int .i64 p6974), (2, .func (.func 42) #[] #[]), (3, .pointer (some ⟨b6979, 0, none⟩)), (8, .int .i64 0), (25, .bool s6989)]) (fun s6989 (_ : Unit) hh => St φ h.n hh ([(some b6979, .cells [.int .i64 p6971.Nodes, .slice a6972 n6972 c6972, .slice a6973 n6973 c6973] 29 .exact), (some b6975, .cells [.int .i64 p6971.Nodes, .slice a6972 n6972 c6972, .slice a6973 n6973 c6973] 29 .exact)])) 7 ?_ ?_
  · rintro s6989 _ t0 h6991 X6990
    refine lend (nseq ?_)
    refine dcond rfl rfl (fun k6992 => ?_) (fun k6992 => ?_)
    · refine dseq (dreg ?_)
      refine lpure (v := .int .i64 0) rfl (p_move rfl) rfl rfl ?_
      refine lpure (v := .int .i64 0) rfl (p_assign rfl) rfl rfl ?_
      refine lpure (v := .int .i64 2) rfl (p_assign rfl) rfl rfl ?_
      refine lend (nseq (dret (rseq ?_)))
      refine kin_r (res_2 resT resT) ?_
      refine lpure (v := .int .i64 0) rfl (p_extract rfl) rfl rfl ?_
      refine lpure (v := .int .i64 2) rfl (p_extract rfl) rfl rfl ?_
      refine lpure (v := .int .i64 0) rfl (p_assign rfl) rfl rfl ?_
      refine lpure (v := .int .i64 2) rfl (p_assign rfl) rfl rfl ?_
      refine lend (nseq (dret ?_))
      exact kcut_r (res_2 resT resT) X6990 rfl rfl
    refine dskip (nseq (dseq (dreg ?_)))
    refine lpure (v := .func (.func 42) #[] #[]) rfl (p_move rfl) rfl rfl ?_
    refine lpure (v := .pointer (some ⟨b6979, 2, none⟩)) rfl (p_fa fo_29_2 rfl) rfl rfl ?_
    refine lread (v := .slice a6973 n6973 c6973) rfl (q_load wd_27 rfl) (St.ld X6990 (j := 0) rfl rfl) rfl ?_
    refine lpure (v := .int .i64 p6974) rfl (p_move rfl) rfl rfl ?_
    refine lpure (v := .int .i64 (w64 (Int.tdiv p6974 2))) rfl (p_quo rfl) rfl rfl ?_
    refine Sim.bindM fun e6993 he6994 => ?_
    obtain ⟨p6995, cs6995, hp6995, hF6995, hR6995⟩ := RSl.ia H6973 he6994 (kd := .i64) (n := 4) rfl
    obtain rfl := eApiLink_el hR6995
    refine lpure (v := p6995) rfl (p_ia rs_27 rfl) hp6995 rfl ?_
    refine lread (v := .agg #[.int .i64 e6993.A, .int .i64 e6993.B, .int .i64 e6993.Per, .int .i64 e6993.Delay]) rfl (q_load wd_75 rfl) (FP.ldw X6990 hF6995 rfl rfl) rfl ?_
    refine lpure (v := .int .i64 p6974) rfl (p_move rfl) rfl rfl ?_
    refine lpure (v := .agg #[.int .i64 e6993.A, .int .i64 e6993.B, .int .i64 e6993.Per, .int .i64 e6993.Delay, .int .i64 p6974]) rfl (p_build rfl) (build_st' tz_77 pl_77 rfl) rfl ?_
    refine lcallv rfl rfl rfl rfl ca_42 rfl rfl (f42_ok X6990 ((TopoEnd.mk e6993 p6974))) rfl (fun e6996 v6997 h6998 hq6999 => ?_)
    cases hq6999
    refine lpure (v := .int .i64 e6996) rfl (p_assign rfl) rfl rfl ?_
    refine lpure (v := .int .i64 0) rfl (p_assign rfl) rfl rfl ?_
    refine lend (nseq (dret ?_))
    refine kin_r (res_2 resT resT) ?_
    refine lpure (v := .int .i64 e6996) rfl (p_extract rfl) rfl rfl ?_
    refine lpure (v := .int .i64 0) rfl (p_extract rfl) rfl rfl ?_
    refine lpure (v := .int .i64 e6996) rfl (p_assign rfl) rfl rfl ?_
    refine lpure (v := .int .i64 0) rfl (p_assign rfl) rfl rfl ?_
    refine lend (nseq (dret ?_))
    exact kcut_r (res_2 resT resT) X6990 rfl rfl
  intro j7000 J7001
  refine lcase (i := 18) (show _ = Value.bool (decide (p6974 < 0)) from rfl) (fun k7002 => ?_) (fun k7002 => ?_)
  · refine lskip rfl rfl ?_
    refine lskip rfl rfl ?_
    refine lskip rfl rfl ?_
    refine lskip rfl rfl ?_
    refine lskip rfl rfl ?_
    refine lskip rfl rfl ?_
    refine lpure (v := .bool true) rfl (p_pick rfl) rfl rfl ?_
    refine Sim.of_eq (congrArg j7000 (show ((decide (p6974 < 0)) || (decide ((w64 (2 * (p6971.Links.length : Int))) ≤ p6974))) = true from by rw [k7002] <;> rfl)) ?_
    exact ljmpM J7001 true () (sub_cons rfl (sub_cons rfl (sub_cons rfl (sub_cons rfl (sub_cons rfl sub_nil))))) X6982
  refine lpure (v := .int .i64 p6974) rfl (p_move rfl) rfl rfl ?_
  refine lpure (v := .pointer (some ⟨b6979, 2, none⟩)) rfl (p_fa fo_29_2 rfl) rfl rfl ?_
  refine lread (v := .slice a6973 n6973 c6973) rfl (q_load wd_27 rfl) (St.ld X6982 (j := 0) rfl rfl) rfl ?_
  refine lpure (v := .int .i64 (p6971.Links.length : Int)) rfl (p_len rfl rfl rfl un_27 rfl) (RSl.lenC H6973) rfl ?_
  refine lpure (v := .int .i64 (w64 (2 * (p6971.Links.length : Int)))) rfl (p_mul rfl) rfl rfl ?_
  refine lpure (v := .bool (decide ((w64 (2 * (p6971.Links.length : Int))) ≤ p6974))) rfl (p_ge rfl) rfl rfl ?_
  refine lpure (v := .bool (decide ((w64 (2 * (p6971.Links.length : Int))) ≤ p6974))) rfl (p_pick rfl) rfl rfl ?_
  refine Sim.of_eq (congrArg j7000 (show ((decide (p6974 < 0)) || (decide ((w64 (2 * (p6971.Links.length : Int))) ≤ p6974))) = (decide ((w64 (2 * (p6971.Links.length : Int))) ≤ p6974)) from by rw [k7002] <;> rfl)) ?_
  exact ljmpM J7001 (decide ((w64 (2 * (p6971.Links.length : Int))) ≤ p6974)) () (sub_cons rfl (sub_cons rfl (sub_cons rfl (sub_cons rfl (sub_cons rfl sub_nil))))) X6982
/-! (isochron/route.walk).from -/
theorem f70_ok {n : Nat} {φ : Fz} {lo : Nat} {h : Heap} {own : OwnL}  {a6964 : Option Addr} {n6964 c6964 : Nat} {a6965 : Option Addr} {n6965 c6965 : Nat} (X : St φ lo h (own)) (p6963 : RouteWalk) (p6966 : Int) (H6964 : RSl eBool φ (.slice a6964 n6964 c6964) p6963.Topo.Station) (H6965 : RSl eApiLink φ (.slice a6965 n6965 c6965) p6963.Topo.Links) : Sim ((recN Try.prog LL cutF (n + 9)).call 70 #[(.agg #[.int .i64 p6963.Topo.Nodes, .slice a6964 n6964 c6964, .slice a6965 n6965 c6965]), (.int .i64 p6966)] h) (m_route_walk_from p6963 p6966) (fun (d : Int) p => p = (.int .i64 d, h)) := by
  refine fcut Try.func70 rfl rfl rfl rfl X ?_
  intro h0 X0
  refine dseq (dreg ?_)
  refine lbox rfl rfl rfl rfl rfl X0 (fun b6967 h6969 X6970 => ?_)
  refine lpure (v := .int .i64 0) rfl (p_assign rfl) rfl rfl ?_
  refine lend (nseq (dseq (dreg ?_)))
  refine lpure (v := .pointer (some ⟨b6967, 0, none⟩)) rfl (p_fa fo_87_0 rfl) rfl rfl ?_
  refine lread (v := .agg #[.int .i64 p6963.Topo.Nodes, .slice a6964 n6964 c6964, .slice a6965 n6965 c6965]) rfl (q_load wd_29 rfl) (St.ld X6970 (j := 0) rfl rfl) rfl ?_
  refine lpure (v := .int .i64 p6966) rfl (p_move rfl) rfl rfl ?_
  refine lcall rfl rfl ca_11 rfl rfl (f11_ok X6970 (p6963.Topo) p6966 H6964 H6965) rfl (fun e7003 v7004 h7005 hq7006 => ?_)
  cases hq7006
  refine lpure (v := .tuple #[.int .i64 e7003.1, .int .i64 e7003.2]) rfl (p_move rfl) rfl rfl ?_
  refine lpure (v := .int .i64 e7003.1) rfl (p_extract rfl) rfl rfl ?_
  refine lpure (v := .int .i64 e7003.2) rfl (p_extract rfl) rfl rfl ?_
  refine lpure (v := .int .i64 e7003.1) rfl (p_assign rfl) rfl rfl ?_
  refine lpure (v := .int .i64 e7003.2) rfl (p_assign rfl) rfl rfl ?_
  refine lend (nseq (dseq (dreg ?_)))
  refine lpure (v := .int .i64 e7003.1) rfl (p_move rfl) rfl rfl ?_
  refine lpure (v := .int .i64 e7003.1) rfl (p_assign rfl) rfl rfl ?_
  refine lend (nseq (dret ?_))
  exact kcut_r (res_1 resT) X6970 rfl rfl
/-! isochron/topo.To -/
theorem f12_ok {n : Nat} {φ : Fz} {lo : Nat} {h : Heap} {own : OwnL}  {a7057 : Option Addr} {n7057 c7057 : Nat} {a7058 : Option Addr} {n7058 c7058 : Nat} (X : St φ lo h (own)) (p7056 : ApiTopo) (p7059 : Int) (H7057 : RSl eBool φ (.slice a7057 n7057 c7057) p7056.Station) (H7058 : RSl eApiLink φ (.slice a7058 n7058 c7058) p7056.Links) : Sim ((recN Try.prog LL cutF (n + 8)).call 12 #[(.agg #[.int .i64 p7056.Nodes, .slice a7057 n7057 c7057, .slice a7058 n7058 c7058]), (.int .i64 p7059)] h) (m_topo_To p7056 p7059) (fun (d : (Int × Int)) p => p = (.tuple #[.int .i64 d.1, .int .i64 d.2], h)) := by
  refine fcut Try.func12 rfl rfl rfl rfl X ?_
  intro h0 X0
  refine dseq (dreg ?_)
  refine lbox rfl rfl rfl rfl rfl X0 (fun b7060 h7062 X7063 => ?_)
  refine lpure (v := .int .i64 0) rfl (p_assign rfl) rfl rfl ?_
  refine lpure (v := .int .i64 0) rfl (p_assign rfl) rfl rfl ?_
  refine lend (nseq (dseq (dreg ?_)))
  refine lread (v := .agg #[.int .i64 p7056.Nodes, .slice a7057 n7057 c7057, .slice a7058 n7058 c7058]) rfl (q_load wd_29 rfl) (St.ld X7063 (j := 0) rfl rfl) rfl ?_
  refine lpure (v := .int .i64 p7059) rfl (p_move rfl) rfl rfl ?_
  refine linl rfl rfl rfl rfl ca_43 rfl Try.func43 rfl rfl rfl rfl rfl ?_
  refine dseq (dreg ?_)
  refine lbox rfl rfl rfl rfl rfl X7063 (fun b7064 h7066 X7067 => ?_)
  refine lpure (v := .int .i64 0) rfl (p_assign rfl) rfl rfl ?_
  refine lpure (v := .int .i64 0) rfl (p_assign rfl) rfl rfl ?_
  refine lend (nseq (dseq (dreg ?_)))
  refine lpure (v := .int .i64 0) rfl (p_assign rfl) rfl rfl ?_
  refine lend (nseq (dseq (dseq (dreg ?_))))
  refine lread (v := .agg #[.int .i64 p7056.Nodes, .slice a7057 n7057 c7057, .slice a7058 n7058 c7058]) rfl (q_load wd_29 rfl) (St.ld X7067 (j := 0) rfl rfl) rfl ?_
  refine lcall rfl rfl ca_9 rfl rfl (f9_ok X7067 p7056 H7057 H7058) rfl (fun e7068 v7069 h7070 hq7071 => ?_)
  cases hq7071
  refine lpure (v := .int .i64 e7068) rfl (p_assign rfl) rfl rfl ?_
  refine lend (nseq (dseq (dreg ?_)))
  refine lpure (v := .int .i64 e7068) rfl (p_move rfl) rfl rfl ?_
  refine lpure (v := .bool (decide (e7068 ≠ 0))) rfl (p_ne rfl) rfl rfl ?_
  refine lend (nseq ?_)
  refine dcond rfl rfl (fun k7072 => ?_) (fun k7072 => ?_)
  · refine dseq (dreg ?_)
    refine lpure (v := .int .i64 0) rfl (p_move rfl) rfl rfl ?_
    refine lpure (v := .int .i64 e7068) rfl (p_move rfl) rfl rfl ?_
    refine lpure (v := .int .i64 0) rfl (p_assign rfl) rfl rfl ?_
    refine lpure (v := .int .i64 e7068) rfl (p_assign rfl) rfl rfl ?_
    refine lend (nseq (dret (rseq ?_)))
    refine kin_r (res_2 resT resT) ?_
    refine lpure (v := .int .i64 0) rfl (p_extract rfl) rfl rfl ?_
    refine lpure (v := .int .i64 e7068) rfl (p_extract rfl) rfl rfl ?_
    refine lpure (v := .int .i64 0) rfl (p_assign rfl) rfl rfl ?_
    refine lpure (v := .int .i64 e7068) rfl (p_assign rfl) rfl rfl ?_
    refine lend (nseq (dret ?_))
    exact kcut_r (res_2 resT resT) X7067 rfl rfl
  refine dskip (nseq (dseq (dseq (dreg ?_))))
  refine lpure (v := .int .i64 p7059) rfl (p_move rfl) rfl rfl ?_
  refine lpure (v := .bool (decide (p7059 < 0))) rfl (p_lt rfl) rfl rfl ?_
  refine lpure (v := .bool (decide (p7059 < 0))) rfl (p_move rfl) rfl rfl ?_
  refine lsh (τ := Bool) (σ := Unit) (fun s7074 (_ : Unit) => [(1, .int .i64 p7059), (2, .func (.func 44) #[] #[]), (3, .pointer (some ⟨b7064, 0, none⟩)), (8, .int .i64 0), (25, .bool s7074)]) (fun s7074 (_ : Unit) hh => St φ h.n hh ([(some b7064, .cells [.int .i64 p7056.Nodes, .slice a7057 n7057 c7057, .slice a7058 n7058 c7058] 29 .exact), (some b7060, .cells [.int .i64 p7056.Nodes, .slice a7057 n7057 c7057, .slice a7058 n7058 c7058] 29 .exact)])) 7 ?_ ?_
  · rintro s7074 _ t0 h7076 X7075
    refine lend (nseq ?_)
    refine dcond rfl rfl (fun k7077 => ?_) (fun k7077 => ?_)
    · refine dseq (dreg ?_)
      refine lpure (v := .int .i64 0) rfl (p_move rfl) rfl rfl ?_
      refine lpure (v := .int .i64 0) rfl (p_assign rfl) rfl rfl ?_
      refine lpure (v := .int .i64 2) rfl (p_assign rfl) rfl rfl ?_
      refine lend (nseq (dret (rseq ?_)))
      refine kin_r (res_2 resT resT) ?_
      refine lpure (v := .int .i64 0) rfl (p_extract rfl) rfl rfl ?_
      refine lpure (v := .int .i64 2) rfl (p_extract rfl) rfl rfl ?_
      refine lpure (v := .int .i64 0) rfl (p_assign rfl) rfl rfl ?_
      refine lpure (v := .int .i64 2) rfl (p_assign rfl) rfl rfl ?_
      refine lend (nseq (dret ?_))
      exact kcut_r (res_2 resT resT) X7075 rfl rfl
    refine dskip (nseq (dseq (dreg ?_)))
    refine lpure (v := .func (.func 44) #[] #[]) rfl (p_move rfl) rfl rfl ?_
    refine lpure (v := .pointer (some ⟨b7064, 2, none⟩)) rfl (p_fa fo_29_2 rfl) rfl rfl ?_
    refine lread (v := .slice a7058 n7058 c7058) rfl (q_load wd_27 rfl) (St.ld X7075 (j := 0) rfl rfl) rfl ?_
    refine lpure (v := .int .i64 p7059) rfl (p_move rfl) rfl rfl ?_
    refine lpure (v := .int .i64 (w64 (Int.tdiv p7059 2))) rfl (p_quo rfl) rfl rfl ?_
    refine Sim.bindM fun e7078 he7079 => ?_
    obtain ⟨p7080, cs7080, hp7080, hF7080, hR7080⟩ := RSl.ia H7058 he7079 (kd := .i64) (n := 4) rfl
    obtain rfl := eApiLink_el hR7080
    refine lpure (v := p7080) rfl (p_ia rs_27 rfl) hp7080 rfl ?_
    refine lread (v := .agg #[.int .i64 e7078.A, .int .i64 e7078.B, .int .i64 e7078.Per, .int .i64 e7078.Delay]) rfl (q_load wd_75 rfl) (FP.ldw X7075 hF7080 rfl rfl) rfl ?_
    refine lpure (v := .int .i64 p7059) rfl (p_move rfl) rfl rfl ?_
    refine lpure (v := .agg #[.int .i64 e7078.A, .int .i64 e7078.B, .int .i64 e7078.Per, .int .i64 e7078.Delay, .int .i64 p7059]) rfl (p_build rfl) (build_st' tz_77 pl_77 rfl) rfl ?_
    refine lcallv rfl rfl rfl rfl ca_44 rfl rfl (f44_ok X7075 ((TopoEnd.mk e7078 p7059))) rfl (fun e7081 v7082 h7083 hq7084 => ?_)
    cases hq7084
    refine lpure (v := .int .i64 e7081) rfl (p_assign rfl) rfl rfl ?_
    refine lpure (v := .int .i64 0) rfl (p_assign rfl) rfl rfl ?_
    refine lend (nseq (dret ?_))
    refine kin_r (res_2 resT resT) ?_
    refine lpure (v := .int .i64 e7081) rfl (p_extract rfl) rfl rfl ?_
    refine lpure (v := .int .i64 0) rfl (p_extract rfl) rfl rfl ?_
    refine lpure (v := .int .i64 e7081) rfl (p_assign rfl) rfl rfl ?_
    refine lpure (v := .int .i64 0) rfl (p_assign rfl) rfl rfl ?_
    refine lend (nseq (dret ?_))
    exact kcut_r (res_2 resT resT) X7075 rfl rfl
  intro j7085 J7086
  refine lcase (i := 18) (show _ = Value.bool (decide (p7059 < 0)) from rfl) (fun k7087 => ?_) (fun k7087 => ?_)
  · refine lskip rfl rfl ?_
    refine lskip rfl rfl ?_
    refine lskip rfl rfl ?_
    refine lskip rfl rfl ?_
    refine lskip rfl rfl ?_
    refine lskip rfl rfl ?_
    refine lpure (v := .bool true) rfl (p_pick rfl) rfl rfl ?_
    refine Sim.of_eq (congrArg j7085 (show ((decide (p7059 < 0)) || (decide ((w64 (2 * (p7056.Links.length : Int))) ≤ p7059))) = true from by rw [k7087] <;> rfl)) ?_
    exact ljmpM J7086 true () (sub_cons rfl (sub_cons rfl (sub_cons rfl (sub_cons rfl (sub_cons rfl sub_nil))))) X7067
  refine lpure (v := .int .i64 p7059) rfl (p_move rfl) rfl rfl ?_
  refine lpure (v := .pointer (some ⟨b7064, 2, none⟩)) rfl (p_fa fo_29_2 rfl) rfl rfl ?_
  refine lread (v := .slice a7058 n7058 c7058) rfl (q_load wd_27 rfl) (St.ld X7067 (j := 0) rfl rfl) rfl ?_
  refine lpure (v := .int .i64 (p7056.Links.length : Int)) rfl (p_len rfl rfl rfl un_27 rfl) (RSl.lenC H7058) rfl ?_
  refine lpure (v := .int .i64 (w64 (2 * (p7056.Links.length : Int)))) rfl (p_mul rfl) rfl rfl ?_
  refine lpure (v := .bool (decide ((w64 (2 * (p7056.Links.length : Int))) ≤ p7059))) rfl (p_ge rfl) rfl rfl ?_
  refine lpure (v := .bool (decide ((w64 (2 * (p7056.Links.length : Int))) ≤ p7059))) rfl (p_pick rfl) rfl rfl ?_
  refine Sim.of_eq (congrArg j7085 (show ((decide (p7059 < 0)) || (decide ((w64 (2 * (p7056.Links.length : Int))) ≤ p7059))) = (decide ((w64 (2 * (p7056.Links.length : Int))) ≤ p7059)) from by rw [k7087] <;> rfl)) ?_
  exact ljmpM J7086 (decide ((w64 (2 * (p7056.Links.length : Int))) ≤ p7059)) () (sub_cons rfl (sub_cons rfl (sub_cons rfl (sub_cons rfl (sub_cons rfl sub_nil))))) X7067
/-! (isochron/route.walk).valid -/
theorem f52_ok {n : Nat} {φ : Fz} {lo : Nat} {h : Heap} {own : OwnL}  {a6859 : Option Addr} {n6859 c6859 : Nat} {a6860 : Option Addr} {n6860 c6860 : Nat} {a6862 : Option Addr} {n6862 c6862 : Nat} (X : St φ lo h (own)) (p6858 : RouteWalk) (p6861 : (List Int)) (H6859 : RSl eBool φ (.slice a6859 n6859 c6859) p6858.Topo.Station) (H6860 : RSl eApiLink φ (.slice a6860 n6860 c6860) p6858.Topo.Links) (H6862 : RSl (eInt .i64) φ (.slice a6862 n6862 c6862) p6861) : Sim ((recN Try.prog LL cutF (n + 12)).call 52 #[(.agg #[.int .i64 p6858.Topo.Nodes, .slice a6859 n6859 c6859, .slice a6860 n6860 c6860]), (.slice a6862 n6862 c6862)] h) (m_route_walk_valid p6858 p6861) (fun (d : Bool) p => p = (.bool d, h)) := by
  refine fcut Try.func52 rfl rfl rfl rfl X ?_
  intro h0 X0
  refine dseq (dreg ?_)
  refine lbox rfl rfl rfl rfl rfl X0 (fun b6863 h6865 X6866 => ?_)
  refine lbox rfl rfl rfl rfl rfl X6866 (fun b6867 h6869 X6870 => ?_)
  refine lpure (v := .bool false) rfl (p_assign rfl) rfl rfl ?_
  refine lend (nseq (dscope (dseq (dseq (dreg ?_)))))
  refine lread (v := .slice a6862 n6862 c6862) rfl (q_load wd_42 rfl) (St.ld X6870 (j := 0) rfl rfl) rfl ?_
  refine lpure (v := .int .i64 (p6861.length : Int)) rfl (p_len rfl rfl rfl un_42 rfl) (RSl.lenC H6862) rfl ?_
  refine lpure (v := .bool (decide ((p6861.length : Int) < 1))) rfl (p_lt rfl) rfl rfl ?_
  refine lpure (v := .bool (decide ((p6861.length : Int) < 1))) rfl (p_move rfl) rfl rfl ?_
  refine lsh (τ := Bool) (σ := Unit) (fun s6872 (_ : Unit) => [(2, .pointer (some ⟨b6863, 0, none⟩)), (3, .pointer (some ⟨b6867, 0, none⟩)), (15, .bool s6872)]) (fun s6872 (_ : Unit) hh => St φ h.n hh ([(some b6867, .cells [.slice a6862 n6862 c6862] 42 .exact), (some b6863, .cells [.int .i64 p6858.Topo.Nodes, .slice a6859 n6859 c6859, .slice a6860 n6860 c6860] 87 .exact)])) 4 ?_ ?_
  · rintro s6872 _ t0 h6874 X6873
    refine lpure (v := .bool s6872) rfl (p_move rfl) rfl rfl ?_
    refine ljoinM (τ := Bool) (σ := Unit) (fun s6939 (_ : Unit) => [(2, .pointer (some ⟨b6863, 0, none⟩)), (3, .pointer (some ⟨b6867, 0, none⟩)), (20, .bool s6939)]) (fun s6939 (_ : Unit) hh => St φ h.n hh ([(some b6867, .cells [.slice a6862 n6862 c6862] 42 .exact), (some b6863, .cells [.int .i64 p6858.Topo.Nodes, .slice a6859 n6859 c6859, .slice a6860 n6860 c6860] 87 .exact)])) 4 ?_ ?_
    · rintro s6939 _ t0 h6941 X6940
      refine lend (nseq ?_)
      refine dcond rfl rfl (fun k6942 => ?_) (fun k6942 => ?_)
      · refine dseq (dreg ?_)
        refine lpure (v := .bool false) rfl (p_assign rfl) rfl rfl ?_
        refine lend (nseq (dret (rseq (rscope ?_))))
        exact kcut_r (res_1 resT) X6940 rfl rfl
      refine dskip (nseq (dseq (dreg ?_)))
      refine lalloc rfl tz_33 rfl rfl rfl X6940 (fun b6943 h6945 X6946 => ?_)
      refine lend (nseq (dseq (dlabel (nseq (dseq (dseq (dreg ?_)))))))
      refine lread (v := .agg #[.int .i64 p6858.Topo.Nodes, .slice a6859 n6859 c6859, .slice a6860 n6860 c6860]) rfl (q_load wd_87 rfl) (St.ld X6946 (j := 2) rfl rfl) rfl ?_
      refine lread (v := .slice a6862 n6862 c6862) rfl (q_load wd_42 rfl) (St.ld X6946 (j := 1) rfl rfl) rfl ?_
      refine linl rfl rfl rfl rfl ca_98 rfl Try.func98 rfl rfl rfl rfl rfl ?_
      refine dseq (dreg ?_)
      refine lbox rfl rfl rfl rfl rfl X6946 (fun b6947 h6949 X6950 => ?_)
      refine lbox rfl rfl rfl rfl rfl X6950 (fun b6951 h6953 X6954 => ?_)
      refine lpure (v := .nilFunc) rfl (p_assign rfl) rfl rfl ?_
      refine lend (nseq (dseq (dreg ?_)))
      refine lpure (v := .func (.func 115) #[] #[.pointer (some ⟨b6947, 0, none⟩), .pointer (some ⟨b6951, 0, none⟩)]) rfl (p_makeFunc rfl) rfl rfl ?_
      refine lpure (v := .func (.func 115) #[] #[.pointer (some ⟨b6947, 0, none⟩), .pointer (some ⟨b6951, 0, none⟩)]) rfl (p_assign rfl) rfl rfl ?_
      refine lend (nseq (dret ?_))
      refine kin_r (res_1 resT) ?_
      refine lend (nseq (dblock ?_))
      refine drange rfl rfl ca_115 Try.func115 rfl rfl X6954 (fun _ => rfl) ?_
      intro l6955 q6956 df6957 h6959 Q6958 X6960
      refine dseq (dreg ?_)
      refine lread (v := .agg #[.int .i64 p6858.Topo.Nodes, .slice a6859 n6859 c6859, .slice a6860 n6860 c6860]) rfl (q_load wd_87 rfl) (St.ld X6960 (j := 3) rfl rfl) rfl ?_
      refine lpure (v := .func (.func 69) #[.agg #[.int .i64 p6858.Topo.Nodes, .slice a6859 n6859 c6859, .slice a6860 n6860 c6860]] #[]) rfl (p_makeFunc rfl) rfl rfl ?_
      refine lpure (v := .func (.func 69) #[.agg #[.int .i64 p6858.Topo.Nodes, .slice a6859 n6859 c6859, .slice a6860 n6860 c6860]] #[]) rfl (p_assign rfl) rfl rfl ?_
      refine lend (nseq (dseq (dseq ?_)))
      refine dgo_start (n := 8) rfl (by kernel_rfl) ?_
      refine gpure (v := .func (.yield l6955) #[] #[]) rfl (p_move rfl) (lo_t (and_tt (lo_own X6960 (j := 0) (o := 0) (s := none) (f := 0) rfl) rfl) rfl) rfl rfl ?_
      refine gload (v := .agg #[.int .i64 p6858.Topo.Nodes, .slice a6859 n6859 c6859, .slice a6860 n6860 c6860]) rfl (q_load wd_87 rfl) (St.ld X6960 (j := 3) rfl rfl) rfl ?_
      refine gload (v := .slice a6862 n6862 c6862) rfl (q_load wd_42 rfl) (St.ld X6960 (j := 2) rfl rfl) rfl ?_
      refine Sim.bindM fun e7007 he7008 => ?_
      obtain ⟨p7009, cs7009, hp7009, hF7009, hR7009⟩ := RSl.ia H6862 he7008 (kd := .i64) (n := 1) rfl
      have hR7009 : _ = [(.int .i64 e7007 : Value)] := hR7009
      subst hR7009
      refine gpure (v := p7009) rfl (p_ia rs_42 rfl) (lo_t (lo_sl X6960 H6862) (lo_c rfl)) hp7009 rfl ?_
      refine gload (v := .int .i64 e7007) rfl (q_load wd_3 rfl) (FP.ld X6960 hF7009) rfl ?_
      refine gwait rfl (still_call rfl rfl ca_70 rfl) rfl ?_
      refine dgo_skip ?_
      refine dgo_skip ?_
      refine gcall (m := 7) [false, false, false] (rk_cons (q_load wd_3 rfl) (FP.ld X6960 hF7009) (same_self 20 rfl) (rk_cons (q_load wd_42 rfl) (St.ld X6960 (j := 2) rfl rfl) (same_self 20 rfl) (rk_cons (q_load wd_87 rfl) (St.ld X6960 (j := 3) rfl rfl) (same_self 20 rfl) rk_nil))) rfl rfl rfl rfl rfl ca_70 rfl rfl (f70_ok X6960 p6858 e7007 H6859 H6860) rfl (fun e7010 v7011 h7012 hq7013 => ?_)
      cases hq7013
      refine dgo_skip ?_
      refine dgo_skip ?_
      refine dgo_skip ?_
      refine dgo_skip ?_
      refine dgo_skip ?_
      refine dgo_skip ?_
      refine gwait rfl (still_act rfl).1 rfl ?_
      refine dgo_skip ?_
      refine ground (m := 6) [] rk_nil rfl rfl rfl rfl rfl rfl rfl rfl rfl X6960 (j := 0) rfl Q6958 rfl rfl rfl rfl rfl (fun t7014 => ?_)
      refine dreg ?_
      refine lpure (v := .int .i64 e7010) rfl (p_assign rfl) rfl rfl ?_
      refine lend ?_
      refine basg X6960 (j := 0) rfl (fun h7015 X7016 => ?_)
      refine dblock (dseq (dreg ?_))
      refine lread (v := .slice none 0 0) rfl (q_load wd_33 rfl) (St.ld X7016 (j := 4) rfl rfl) rfl ?_
      refine lpure (v := .int .i64 0) rfl (p_len rfl rfl rfl un_33 rfl) rfl rfl ?_
      refine lpure (v := .int .i64 0) rfl (p_assign rfl) rfl rfl ?_
      refine lend (nseq (dseq (dseq ?_)))
      refine ddraw 0 0 268435456 (by kernel_rfl) ?_
      refine sload (v := .slice none 0 0) rfl rfl (q_load wd_33 rfl) (St.ld X7016 (j := 4) rfl rfl) (same_self 20 rfl) rfl ?_
      refine spure (v := .int .i64 e7010) rfl (p_move rfl) (lo_t rfl rfl) rfl rfl ?_
      refine scall (en := fun d => (.bool d)) rfl rfl ca_68 rfl rfl (f68_ok X7016 ([]) e7010 (.inl ⟨rfl, rfl⟩)) rfl (fun e7017 => ?_)
      refine spure (v := .bool e7017) rfl (p_move rfl) (lo_t rfl rfl) rfl rfl ?_
      refine sjoinM (τ := Bool) (σ := Unit) (fun s7023 (_ : Unit) => [(2, .pointer (some ⟨b6863, 0, none⟩)), (3, .pointer (some ⟨b6867, 0, none⟩)), (5, .pointer (some ⟨b6943, 0, none⟩)), (6, .int .i64 e7010), (7, .int .i64 0), (48, .bool s7023)]) (fun s7023 (_ : Unit) hh => St φ h.n hh ([(some l6955, bsy q6956), (none, .dead), (some b6951, .cells [.slice a6862 n6862 c6862] 42 .exact), (some b6947, .cells [.int .i64 p6858.Topo.Nodes, .slice a6859 n6859 c6859, .slice a6860 n6860 c6860] 87 .exact), (some b6943, .cells [.slice none 0 0] 33 .exact), (some b6867, .cells [.slice a6862 n6862 c6862] 42 .exact), (some b6863, .cells [.int .i64 p6858.Topo.Nodes, .slice a6859 n6859 c6859, .slice a6860 n6860 c6860] 87 .exact)])) 18 22 ?_ ?_
      · rintro s7023 _ t0 h7025 X7024
        refine spure (v := .bool s7023) rfl (p_move rfl) (lo_t rfl rfl) rfl rfl ?_
        refine sjoinM (τ := Bool) (σ := Unit) (fun s7028 (_ : Unit) => [(5, .pointer (some ⟨b6943, 0, none⟩)), (6, .int .i64 e7010), (66, .bool s7028)]) (fun s7028 (_ : Unit) hh => St φ h.n hh ([(some l6955, bsy q6956), (none, .dead), (some b6951, .cells [.slice a6862 n6862 c6862] 42 .exact), (some b6947, .cells [.int .i64 p6858.Topo.Nodes, .slice a6859 n6859 c6859, .slice a6860 n6860 c6860] 87 .exact), (some b6943, .cells [.slice none 0 0] 33 .exact), (some b6867, .cells [.slice a6862 n6862 c6862] 42 .exact), (some b6863, .cells [.int .i64 p6858.Topo.Nodes, .slice a6859 n6859 c6859, .slice a6860 n6860 c6860] 87 .exact)])) 17 40 ?_ ?_
        · rintro s7028 _ t0 h7030 X7029
          refine send ?_
          refine nseq ?_
          refine dcond rfl rfl (fun k7031 => ?_) (fun k7031 => ?_)
          · refine dexit (eseq (eblock rfl ?_))
            refine ernd X7029 (j := 0) rfl (fun h7032 X7033 => ?_)
            refine dgo_skip ?_
            refine dgo_skip ?_
            refine dgo_skip ?_
            refine dgo_skip ?_
            refine dgo_skip ?_
            refine dgo_skip ?_
            refine dgo_skip ?_
            refine gpure (v := .bool true) rfl (p_not rfl) (lo_t rfl rfl) rfl rfl ?_
            refine gend rk_nil ?_
            refine nseq (dcondT rfl rfl (dret (rseq ?_)))
            refine kin_r res_0 ?_
            refine rend_d X7033 (j := 0) rfl (.inr ⟨_, rfl, rfl⟩) (fun h7034 X7035 => ?_)
            refine xblock (nseq (dseq (dreg ?_)))
            refine lread (v := .slice none 0 0) rfl (q_load wd_33 rfl) (St.ld X7035 (j := 4) rfl rfl) rfl ?_
            refine lpure (v := .int .i64 0) rfl (p_len rfl rfl rfl un_33 rfl) rfl rfl ?_
            refine lread (v := .slice a6862 n6862 c6862) rfl (q_load wd_42 rfl) (St.ld X7035 (j := 5) rfl rfl) rfl ?_
            refine lpure (v := .int .i64 (p6861.length : Int)) rfl (p_len rfl rfl rfl un_42 rfl) (RSl.lenC H6862) rfl ?_
            refine lpure (v := .int .i64 (w64 ((p6861.length : Int) + 1))) rfl (p_add rfl) rfl rfl ?_
            refine lpure (v := .bool (decide (0 = (w64 ((p6861.length : Int) + 1))))) rfl (p_eq rfl) rfl rfl ?_
            refine lpure (v := .bool (decide (0 = (w64 ((p6861.length : Int) + 1))))) rfl (p_assign rfl) rfl rfl ?_
            refine lend (nseq (dret (rscope ?_)))
            exact kcut_r (res_1 resT) X7035 rfl rfl
          refine dskip (nseq (dreg ?_))
          refine lread (v := .slice none 0 0) rfl (q_load wd_33 rfl) (St.ld X7029 (j := 4) rfl rfl) rfl ?_
          refine lpure (v := .int .i64 e7010) rfl (p_move rfl) rfl rfl ?_
          obtain ⟨h7036, b7036, hv7036, X7036, O7036⟩ := OSl.lay (E := (eInt .i64)) (φ := φ) (cs := [.int .i64 e7010]) (l := [e7010]) (len := 1) (parts := [(0, .int .i64 e7010)]) un_33 ts_3 rfl rfl rfl tz_3 rfl rfl (show RowD (eInt .i64) φ [.int .i64 e7010] [e7010] from ⟨[.int .i64 e7010], _, rfl, rfl, rfl⟩) rfl rfl X7029
          refine lheap rfl (h_buildSlice rfl) hv7036 rfl ?_
          have X7039 := St.pick X7036 (.none .dead (.refl _))
          obtain ⟨ws7040, hw7040⟩ := OSl.read O7036 X7039 (k := 1) rfl (n := 1) rfl
          refine Sim.mustM fun k7040 => ?_
          obtain ⟨h7040, a7040, c7040, ob7040, blk7040, hv7040, X7040, O7040⟩ := OSl.append (show OSl (eInt .i64) φ 3 none .dead (.slice none 0 0) [] from OSl.nil) X7039 (j := 0) rfl hw7040 k7040 (ts := #[33, 33]) rfl un_33 (argOk_of ax_33_33) ts_3 rfl rfl tb_3 rfl tz_3 rfl
          refine lheap rfl (h_builtin rfl rfl) hv7040 rfl ?_
          refine lstore rfl ts_33 rfl rfl (j := 6) rfl rfl rfl rfl rfl rfl X7040 (fun h7041 X7042 => ?_)
          refine lend (nblock ?_)
          refine nrnd X7042 (j := 2) rfl (fun h7043 X7044 => ?_)
          refine dgo_skip ?_
          refine dgo_skip ?_
          refine dgo_skip ?_
          refine dgo_skip ?_
          refine dgo_skip ?_
          refine dgo_skip ?_
          refine dgo_skip ?_
          refine gpure (v := .bool false) rfl (p_not rfl) (lo_t rfl rfl) rfl rfl ?_
          refine gend rk_nil ?_
          refine nseq (dcondF rfl rfl (dskip (nseq (dseq (dreg ?_)))))
          refine lread (v := .slice a6862 n6862 c6862) rfl (q_load wd_42 rfl) (St.ld X7044 (j := 4) rfl rfl) rfl ?_
          refine lpure (v := .int .i64 (p6861.length : Int)) rfl (p_len rfl rfl rfl un_42 rfl) (RSl.lenC H6862) rfl ?_
          refine lpure (v := .int .i64 0) rfl (p_move rfl) rfl rfl ?_
          refine lend (nseq (dblock ?_))
          refine dloopM (τ := Int × (List Int)) (σ := Option Addr × Nat × Nat × Option Nat × Blk) (fun s7256 (a7257, n7257, c7257, ob7257, blk7257) => [(0, .func (.yield l6955) #[] #[]), (4, .func (.func 69) #[.agg #[.int .i64 p6858.Topo.Nodes, .slice a6859 n6859 c6859, .slice a6860 n6860 c6860]] #[]), (17, .slice a6862 n6862 c6862), (18, .int .i64 (p6861.length : Int)), (19, .int .i64 s7256.1)]) (fun s7256 (a7257, n7257, c7257, ob7257, blk7257) hh => St φ h.n hh ([(ob7257, blk7257), (some b7036, (.cells [.int .i64 e7010] 3 .exact)), (some l6955, rdy q6956), (none, .dead), (some b6951, .cells [.slice a6862 n6862 c6862] 42 .exact), (some b6947, .cells [.int .i64 p6858.Topo.Nodes, .slice a6859 n6859 c6859, .slice a6860 n6860 c6860] 87 .exact), (some b6943, .cells [.slice a7257 n7257 c7257] 33 .exact), (some b6867, .cells [.slice a6862 n6862 c6862] 42 .exact), (some b6863, .cells [.int .i64 p6858.Topo.Nodes, .slice a6859 n6859 c6859, .slice a6860 n6860 c6860] 87 .exact)]) ∧ OSl (eInt .i64) φ 3 ob7257 blk7257 (.slice a7257 n7257 c7257) s7256.2) (0, (([] : List Int) ++ ([e7010]))) (a7040, (([] : List Int).length + ([e7010]).length), c7040, ob7040, blk7040) (sub_cons rfl (sub_cons rfl (sub_cons rfl (sub_cons rfl (sub_cons rfl sub_nil))))) ⟨(St.pick X7044 (.keep _ (.keep _ (.keep _ (.none _ (.skip _ (.keep _ (.keep _ (.keep _ (.keep _ (.keep _ (.nil _)))))))))))), O7040⟩ ?_
          rintro n7348 ih7347 s7256 ⟨a7257, n7257, c7257, ob7257, blk7257⟩ t0 h7350 ⟨X7349, O7257⟩
          refine dseq (dreg ?_)
          refine lpure (v := .bool (decide (s7256.1 < (p6861.length : Int)))) rfl (p_lt rfl) rfl rfl ?_
          refine lend (nseq (dseq ?_))
          refine dcond rfl rfl (fun k7351 => ?_) (fun k7351 => ?_)
          · refine dskip (nseq (dseq (dblock (dseq (dreg ?_)))))
            refine Sim.bindM fun e7352 he7353 => ?_
            obtain ⟨p7354, cs7354, hp7354, hF7354, hR7354⟩ := RSl.ia H6862 he7353 (kd := .i64) (n := 1) rfl
            have hR7354 : _ = [(.int .i64 e7352 : Value)] := hR7354
            subst hR7354
            refine lpure (v := p7354) rfl (p_ia rs_42 rfl) hp7354 rfl ?_
            refine lread (v := .int .i64 e7352) rfl (q_load wd_3 rfl) (FP.ld X7349 hF7354) rfl ?_
            refine lpure (v := .int .i64 e7352) rfl (p_assign rfl) rfl rfl ?_
            refine lend (nseq (dseq (dreg ?_)))
            refine lpure (v := .func (.yield l6955) #[] #[]) rfl (p_move rfl) rfl rfl ?_
            refine lpure (v := .func (.func 69) #[.agg #[.int .i64 p6858.Topo.Nodes, .slice a6859 n6859 c6859, .slice a6860 n6860 c6860]] #[]) rfl (p_move rfl) rfl rfl ?_
            refine lpure (v := .int .i64 e7352) rfl (p_move rfl) rfl rfl ?_
            refine linl rfl rfl rfl rfl ca_69 rfl Try.func69 rfl rfl rfl rfl rfl ?_
            refine dseq (dreg ?_)
            refine lbox rfl rfl rfl rfl rfl X7349 (fun b7355 h7357 X7358 => ?_)
            refine lpure (v := .int .i64 0) rfl (p_assign rfl) rfl rfl ?_
            refine lend (nseq (dseq (dreg ?_)))
            refine lpure (v := .pointer (some ⟨b7355, 0, none⟩)) rfl (p_fa fo_87_0 rfl) rfl rfl ?_
            refine lread (v := .agg #[.int .i64 p6858.Topo.Nodes, .slice a6859 n6859 c6859, .slice a6860 n6860 c6860]) rfl (q_load wd_29 rfl) (St.ld X7358 (j := 0) rfl rfl) rfl ?_
            refine lpure (v := .int .i64 e7352) rfl (p_move rfl) rfl rfl ?_
            refine lcall rfl rfl ca_12 rfl rfl (f12_ok X7358 (p6858.Topo) e7352 H6859 H6860) rfl (fun e7359 v7360 h7361 hq7362 => ?_)
            cases hq7362
            refine lpure (v := .tuple #[.int .i64 e7359.1, .int .i64 e7359.2]) rfl (p_move rfl) rfl rfl ?_
            refine lpure (v := .int .i64 e7359.1) rfl (p_extract rfl) rfl rfl ?_
            refine lpure (v := .int .i64 e7359.2) rfl (p_extract rfl) rfl rfl ?_
            refine lpure (v := .int .i64 e7359.1) rfl (p_assign rfl) rfl rfl ?_
            refine lpure (v := .int .i64 e7359.2) rfl (p_assign rfl) rfl rfl ?_
            refine lend (nseq (dseq (dreg ?_)))
            refine lpure (v := .int .i64 e7359.1) rfl (p_move rfl) rfl rfl ?_
            refine lpure (v := .int .i64 e7359.1) rfl (p_assign rfl) rfl rfl ?_
            refine lend (nseq (dret ?_))
            refine kin_r (res_1 resT) ?_
            refine lround rfl rfl rfl rfl rfl rfl X7358 (j := 3) rfl Q6958 rfl rfl rfl rfl rfl (fun t7363 => ?_)
            refine dreg ?_
            refine lpure (v := .int .i64 e7359.1) rfl (p_assign rfl) rfl rfl ?_
            refine lend ?_
            refine basg X7358 (j := 3) rfl (fun h7364 X7365 => ?_)
            refine dblock (dseq (dreg ?_))
            refine lread (v := .slice a7257 n7257 c7257) rfl (q_load wd_33 rfl) (St.ld X7365 (j := 7) rfl rfl) rfl ?_
            refine lpure (v := .int .i64 (s7256.2.length : Int)) rfl (p_len rfl rfl rfl un_33 rfl) (OSl.len O7257) rfl ?_
            refine lpure (v := .int .i64 (s7256.2.length : Int)) rfl (p_assign rfl) rfl rfl ?_
            refine lend (nseq (dseq (dseq ?_)))
            refine ddraw 0 0 268435456 (by kernel_rfl) ?_
            refine sload (v := .slice a7257 n7257 c7257) rfl rfl (q_load wd_33 rfl) (St.ld X7365 (j := 7) rfl rfl) (same_self 20 rfl) rfl ?_
            refine spure (v := .int .i64 e7359.1) rfl (p_move rfl) (lo_t rfl rfl) rfl rfl ?_
            obtain ⟨φ7366, g7367, X7368, H7369⟩ := OSl.freeze X7365 (j := 1) rfl O7257
            refine scall (en := fun d => (.bool d)) rfl rfl ca_68 rfl rfl (f68_ok X7368 (s7256.2) (e7359.1) H7369) rfl (fun e7370 => ?_)
            refine spure (v := .bool e7370) rfl (p_move rfl) (lo_t rfl rfl) rfl rfl ?_
            refine sjoinM (τ := Bool × (List Int)) (σ := Blk) (fun s7387 blk7388 => [(2, .pointer (some ⟨b6863, 0, none⟩)), (3, .pointer (some ⟨b6867, 0, none⟩)), (5, .pointer (some ⟨b6943, 0, none⟩)), (6, .int .i64 e7359.1), (7, .int .i64 (s7256.2.length : Int)), (48, .bool s7387.1)]) (fun s7387 blk7388 hh => St φ h.n hh ([(some b7355, .cells [.int .i64 p6858.Topo.Nodes, .slice a6859 n6859 c6859, .slice a6860 n6860 c6860] 87 .exact), (ob7257, blk7388), (some b7036, (.cells [.int .i64 e7010] 3 .exact)), (some l6955, bsy q6956), (none, .dead), (some b6951, .cells [.slice a6862 n6862 c6862] 42 .exact), (some b6947, .cells [.int .i64 p6858.Topo.Nodes, .slice a6859 n6859 c6859, .slice a6860 n6860 c6860] 87 .exact), (some b6943, .cells [.slice a7257 n7257 c7257] 33 .exact), (some b6867, .cells [.slice a6862 n6862 c6862] 42 .exact), (some b6863, .cells [.int .i64 p6858.Topo.Nodes, .slice a6859 n6859 c6859, .slice a6860 n6860 c6860] 87 .exact)]) ∧ OSl (eInt .i64) φ 3 ob7257 blk7388 (.slice a7257 n7257 c7257) s7387.2) 18 22 ?_ ?_
            · rintro s7387 blk7388 t0 h7390 ⟨X7389, O7388⟩
              refine spure (v := .bool s7387.1) rfl (p_move rfl) (lo_t rfl rfl) rfl rfl ?_
              refine sjoinM (τ := Bool) (σ := Unit) (fun s7398 (_ : Unit) => [(5, .pointer (some ⟨b6943, 0, none⟩)), (6, .int .i64 e7359.1), (66, .bool s7398)]) (fun s7398 (_ : Unit) hh => St φ h.n hh ([(some b7355, .cells [.int .i64 p6858.Topo.Nodes, .slice a6859 n6859 c6859, .slice a6860 n6860 c6860] 87 .exact), (ob7257, blk7388), (some b7036, (.cells [.int .i64 e7010] 3 .exact)), (some l6955, bsy q6956), (none, .dead), (some b6951, .cells [.slice a6862 n6862 c6862] 42 .exact), (some b6947, .cells [.int .i64 p6858.Topo.Nodes, .slice a6859 n6859 c6859, .slice a6860 n6860 c6860] 87 .exact), (some b6943, .cells [.slice a7257 n7257 c7257] 33 .exact), (some b6867, .cells [.slice a6862 n6862 c6862] 42 .exact), (some b6863, .cells [.int .i64 p6858.Topo.Nodes, .slice a6859 n6859 c6859, .slice a6860 n6860 c6860] 87 .exact)])) 17 40 ?_ ?_
              · rintro s7398 _ t0 h7400 X7399
                refine send ?_
                refine nseq ?_
                refine dcond rfl rfl (fun k7401 => ?_) (fun k7401 => ?_)
                · refine dexit (eseq (eblock rfl ?_))
                  refine ernd X7399 (j := 3) rfl (fun h7402 X7403 => ?_)
                  refine lpure (v := .bool true) rfl (p_not rfl) rfl rfl ?_
                  refine lend (nseq (dcondT rfl rfl (dret (rblock (rseq (rloop (rblock ?_)))))))
                  refine kin_r res_0 ?_
                  refine rend_d X7403 (j := 3) rfl (.inr ⟨_, rfl, rfl⟩) (fun h7404 X7405 => ?_)
                  refine xblock (nseq (dseq (dreg ?_)))
                  refine lread (v := .slice a7257 n7257 c7257) rfl (q_load wd_33 rfl) (St.ld X7405 (j := 7) rfl rfl) rfl ?_
                  refine lpure (v := .int .i64 (s7387.2.length : Int)) rfl (p_len rfl rfl rfl un_33 rfl) (OSl.len O7388) rfl ?_
                  refine lread (v := .slice a6862 n6862 c6862) rfl (q_load wd_42 rfl) (St.ld X7405 (j := 8) rfl rfl) rfl ?_
                  refine lpure (v := .int .i64 (p6861.length : Int)) rfl (p_len rfl rfl rfl un_42 rfl) (RSl.lenC H6862) rfl ?_
                  refine lpure (v := .int .i64 (w64 ((p6861.length : Int) + 1))) rfl (p_add rfl) rfl rfl ?_
                  refine lpure (v := .bool (decide ((s7387.2.length : Int) = (w64 ((p6861.length : Int) + 1))))) rfl (p_eq rfl) rfl rfl ?_
                  refine lpure (v := .bool (decide ((s7387.2.length : Int) = (w64 ((p6861.length : Int) + 1))))) rfl (p_assign rfl) rfl rfl ?_
                  refine lend (nseq (dret (rscope ?_)))
                  exact kcut_r (res_1 resT) X7405 rfl rfl
                refine dskip (nseq (dreg ?_))
                refine lread (v := .slice a7257 n7257 c7257) rfl (q_load wd_33 rfl) (St.ld X7399 (j := 7) rfl rfl) rfl ?_
                refine lpure (v := .int .i64 e7359.1) rfl (p_move rfl) rfl rfl ?_
                obtain ⟨h7406, b7406, hv7406, X7406, O7406⟩ := OSl.lay (E := (eInt .i64)) (φ := φ) (cs := [.int .i64 e7359.1]) (l := [e7359.1]) (len := 1) (parts := [(0, .int .i64 e7359.1)]) un_33 ts_3 rfl rfl rfl tz_3 rfl rfl (show RowD (eInt .i64) φ [.int .i64 e7359.1] [e7359.1] from ⟨[.int .i64 e7359.1], _, rfl, rfl, rfl⟩) rfl rfl X7399
                refine lheap rfl (h_buildSlice rfl) hv7406 rfl ?_
                obtain ⟨ws7408, hw7408⟩ := OSl.read O7406 X7406 (k := 0) rfl (n := 1) rfl
                refine Sim.mustM fun k7408 => ?_
                obtain ⟨h7408, a7408, c7408, ob7408, blk7408, hv7408, X7408, O7408⟩ := OSl.append O7388 X7406 (j := 2) rfl hw7408 k7408 (ts := #[33, 33]) rfl un_33 (argOk_of ax_33_33) ts_3 rfl rfl tb_3 rfl tz_3 rfl
                refine lheap rfl (h_builtin rfl rfl) hv7408 rfl ?_
                refine lstore rfl ts_33 rfl rfl (j := 8) rfl rfl rfl rfl rfl rfl X7408 (fun h7409 X7410 => ?_)
                refine lend (nblock ?_)
                refine nrnd X7410 (j := 4) rfl (fun h7411 X7412 => ?_)
                refine lpure (v := .bool false) rfl (p_not rfl) rfl rfl ?_
                refine lend (nseq (dcondF rfl rfl (dskip (nblock (nseq (dreg ?_))))))
                refine lpure (v := .int .i64 (w64 (s7256.1 + 1))) rfl (p_add rfl) rfl rfl ?_
                refine lpure (v := .int .i64 (w64 (s7256.1 + 1))) rfl (p_move rfl) rfl rfl ?_
                refine lend ?_
                exact kbackM ih7347 ((w64 (s7256.1 + 1)), (s7387.2 ++ ([e7359.1]))) (a7408, (s7387.2.length + ([e7359.1]).length), c7408, ob7408, blk7408) (sub_cons rfl (sub_cons rfl (sub_cons rfl (sub_cons rfl (sub_cons rfl sub_nil))))) ⟨(St.pick X7412 (.skip _ (.skip _ (.keep _ (.keep _ (.keep _ (.none _ (.skip _ (.keep _ (.keep _ (.keep _ (.keep _ (.keep _ (.nil _)))))))))))))), O7408⟩
              intro j7413 J7414
              refine sif (j := 49) (show _ = Value.bool s7387.1 from rfl) (fun k7415 => ?_) (fun k7415 => ?_)
              · refine sskip rfl rfl ?_
                refine sskip rfl rfl ?_
                refine sskip rfl rfl ?_
                refine sskip rfl rfl ?_
                refine sskip rfl rfl ?_
                refine sskip rfl rfl ?_
                refine sskip rfl rfl ?_
                refine sskip rfl rfl ?_
                refine sskip rfl rfl ?_
                refine sskip rfl rfl ?_
                refine sskip rfl rfl ?_
                refine sskip rfl rfl ?_
                refine sskip rfl rfl ?_
                refine sskip rfl rfl ?_
                refine sskip rfl rfl ?_
                refine sskip rfl rfl ?_
                refine spure (v := .bool true) rfl (p_pick rfl) (lo_t rfl (lo_c (lo_t rfl rfl))) rfl rfl ?_
                exact sjmpM J7414 true () (sub_cons rfl (sub_cons rfl (sub_cons rfl sub_nil))) (St.pick X7389 (.keep _ (.keep _ (.keep _ (.keep _ (.none _ (.skip _ (.keep _ (.keep _ (.keep _ (.keep _ (.keep _ (.nil _)))))))))))))
              refine spure (v := .int .i64 (s7256.2.length : Int)) rfl (p_move rfl) (lo_t rfl rfl) rfl rfl ?_
              refine spure (v := .bool (decide (0 < (s7256.2.length : Int)))) rfl (p_gt rfl) (lo_t rfl (lo_c rfl)) rfl rfl ?_
              refine spure (v := .bool (decide (0 < (s7256.2.length : Int)))) rfl (p_move rfl) (lo_t rfl rfl) rfl rfl ?_
              refine sif (j := 52) (show _ = Value.bool (decide (0 < (s7256.2.length : Int))) from rfl) (fun k7416 => ?_) (fun k7416 => ?_)
              · refine spure (v := .int .i64 (s7256.2.length : Int)) rfl (p_move rfl) (lo_t rfl rfl) rfl rfl ?_
                refine sload (v := .slice a6862 n6862 c6862) rfl rfl (q_load wd_42 rfl) (St.ld X7389 (j := 8) rfl rfl) (same_self 20 rfl) rfl ?_
                refine spure (v := .int .i64 (p6861.length : Int)) rfl (p_len rfl rfl rfl un_42 rfl) (lo_t (lo_sl X7389 H6862) rfl) (RSl.lenC H6862) rfl ?_
                refine spure (v := .bool (decide ((s7256.2.length : Int) < (p6861.length : Int)))) rfl (p_lt rfl) (lo_t rfl (lo_t rfl rfl)) rfl rfl ?_
                refine spure (v := .bool (decide ((s7256.2.length : Int) < (p6861.length : Int)))) rfl (p_pick rfl) (lo_t rfl (lo_t rfl (lo_c rfl))) rfl rfl ?_
                refine spure (v := .bool (decide ((s7256.2.length : Int) < (p6861.length : Int)))) rfl (p_move rfl) (lo_t rfl rfl) rfl rfl ?_
                refine sif (j := 58) (show _ = Value.bool (decide ((s7256.2.length : Int) < (p6861.length : Int))) from rfl) (fun k7417 => ?_) (fun k7417 => ?_)
                · refine spure (v := .pointer (some ⟨b6863, 0, none⟩)) rfl (p_fa fo_87_0 rfl) (lo_t (lo_own X7389 (j := 9) (o := 0) (s := none) (f := 0) rfl) rfl) rfl rfl ?_
                  refine spure (v := .pointer (some ⟨b6863, 1, none⟩)) rfl (p_fa fo_29_1 rfl) (lo_t (lo_own X7389 (j := 9) (o := 0) (s := none) (f := 0) rfl) rfl) rfl rfl ?_
                  refine sload (v := .slice a6859 n6859 c6859) rfl rfl (q_load wd_26 rfl) (St.ld X7389 (j := 9) rfl rfl) (same_self 20 rfl) rfl ?_
                  refine spure (v := .int .i64 e7359.1) rfl (p_move rfl) (lo_t rfl rfl) rfl rfl ?_
                  refine Sim.bindM fun e7418 he7419 => ?_
                  obtain ⟨p7420, cs7420, hp7420, hF7420, hR7420⟩ := RSl.ia H6859 he7419 (kd := .i64) (n := 1) rfl
                  have hR7420 : _ = [(.bool e7418 : Value)] := hR7420
                  subst hR7420
                  refine spure (v := p7420) rfl (p_ia rs_26 rfl) (lo_t (lo_sl X7389 H6859) (lo_t rfl rfl)) hp7420 rfl ?_
                  refine sload (v := .bool e7418) rfl rfl (q_load wd_4 rfl) (FP.ld X7389 hF7420) (same_self 20 rfl) rfl ?_
                  refine spure (v := .bool e7418) rfl (p_pick rfl) (lo_t rfl (lo_t rfl (lo_c rfl))) rfl rfl ?_
                  refine spure (v := .bool e7418) rfl (p_pick rfl) (lo_t rfl (lo_c (lo_t rfl rfl))) rfl rfl ?_
                  exact sjmpM J7414 e7418 () (sub_cons rfl (sub_cons rfl (sub_cons rfl sub_nil))) (St.pick X7389 (.keep _ (.keep _ (.keep _ (.keep _ (.none _ (.skip _ (.keep _ (.keep _ (.keep _ (.keep _ (.keep _ (.nil _)))))))))))))
                refine sskip rfl rfl ?_
                refine sskip rfl rfl ?_
                refine sskip rfl rfl ?_
                refine sskip rfl rfl ?_
                refine sskip rfl rfl ?_
                refine sskip rfl rfl ?_
                refine spure (v := .bool false) rfl (p_pick rfl) (lo_t rfl (lo_t rfl (lo_c rfl))) rfl rfl ?_
                refine spure (v := .bool false) rfl (p_pick rfl) (lo_t rfl (lo_c (lo_t rfl rfl))) rfl rfl ?_
                exact sjmpM J7414 false () (sub_cons rfl (sub_cons rfl (sub_cons rfl sub_nil))) (St.pick X7389 (.keep _ (.keep _ (.keep _ (.keep _ (.none _ (.skip _ (.keep _ (.keep _ (.keep _ (.keep _ (.keep _ (.nil _)))))))))))))
              refine sskip rfl rfl ?_
              refine sskip rfl rfl ?_
              refine sskip rfl rfl ?_
              refine sskip rfl rfl ?_
              refine spure (v := .bool false) rfl (p_pick rfl) (lo_t rfl (lo_t rfl (lo_c rfl))) rfl rfl ?_
              refine spure (v := .bool false) rfl (p_move rfl) (lo_t rfl rfl) rfl rfl ?_
              refine sskip rfl rfl ?_
              refine sskip rfl rfl ?_
              refine sskip rfl rfl ?_
              refine sskip rfl rfl ?_
              refine sskip rfl rfl ?_
              refine sskip rfl rfl ?_
              refine spure (v := .bool false) rfl (p_pick rfl) (lo_t rfl (lo_t rfl (lo_c rfl))) rfl rfl ?_
              refine spure (v := .bool false) rfl (p_pick rfl) (lo_t rfl (lo_c (lo_t rfl rfl))) rfl rfl ?_
              exact sjmpM J7414 false () (sub_cons rfl (sub_cons rfl (sub_cons rfl sub_nil))) (St.pick X7389 (.keep _ (.keep _ (.keep _ (.keep _ (.none _ (.skip _ (.keep _ (.keep _ (.keep _ (.keep _ (.keep _ (.nil _)))))))))))))
            intro j7421 J7422
            refine sif (j := 30) (show _ = Value.bool e7370 from rfl) (fun k7423 => ?_) (fun k7423 => ?_)
            · refine sskip rfl rfl ?_
              refine sskip rfl rfl ?_
              refine sskip rfl rfl ?_
              refine sskip rfl rfl ?_
              refine sskip rfl rfl ?_
              refine sskip rfl rfl ?_
              refine sskip rfl rfl ?_
              refine sskip rfl rfl ?_
              refine sskip rfl rfl ?_
              refine sskip rfl rfl ?_
              refine sskip rfl rfl ?_
              refine sskip rfl rfl ?_
              refine sskip rfl rfl ?_
              refine sskip rfl rfl ?_
              refine sskip rfl rfl ?_
              refine sskip rfl rfl ?_
              refine sskip rfl rfl ?_
              refine spure (v := .bool true) rfl (p_pick rfl) (lo_t rfl (lo_c (lo_t rfl rfl))) rfl rfl ?_
              exact sjmpM J7422 (true, s7256.2) blk7257 (sub_cons rfl (sub_cons rfl (sub_cons rfl (sub_cons rfl (sub_cons rfl (sub_cons rfl sub_nil)))))) ⟨(St.pick X7365 (.keep _ (.keep _ (.keep _ (.keep _ (.none _ (.skip _ (.keep _ (.keep _ (.keep _ (.keep _ (.keep _ (.nil _))))))))))))), O7257⟩
            refine spure (v := .int .i64 (s7256.2.length : Int)) rfl (p_move rfl) (lo_t rfl rfl) rfl rfl ?_
            refine spure (v := .bool (decide (0 < (s7256.2.length : Int)))) rfl (p_gt rfl) (lo_t rfl (lo_c rfl)) rfl rfl ?_
            refine spure (v := .bool (decide (0 < (s7256.2.length : Int)))) rfl (p_move rfl) (lo_t rfl rfl) rfl rfl ?_
            refine sif (j := 33) (show _ = Value.bool (decide (0 < (s7256.2.length : Int))) from rfl) (fun k7424 => ?_) (fun k7424 => ?_)
            · refine sload (v := .agg #[.int .i64 p6858.Topo.Nodes, .slice a6859 n6859 c6859, .slice a6860 n6860 c6860]) rfl rfl (q_load wd_87 rfl) (St.ld X7365 (j := 9) rfl rfl) (same_self 20 rfl) rfl ?_
              refine sload (v := .slice a6862 n6862 c6862) rfl rfl (q_load wd_42 rfl) (St.ld X7365 (j := 8) rfl rfl) (same_self 20 rfl) rfl ?_
              refine spure (v := .int .i64 (s7256.2.length : Int)) rfl (p_move rfl) (lo_t rfl rfl) rfl rfl ?_
              refine spure (v := .int .i64 (w64 ((s7256.2.length : Int) - 1))) rfl (p_sub rfl) (lo_t rfl (lo_c rfl)) rfl rfl ?_
              refine Sim.bindM fun e7425 he7426 => ?_
              obtain ⟨p7427, cs7427, hp7427, hF7427, hR7427⟩ := RSl.ia H6862 he7426 (kd := .i64) (n := 1) rfl
              have hR7427 : _ = [(.int .i64 e7425 : Value)] := hR7427
              subst hR7427
              refine spure (v := p7427) rfl (p_ia rs_42 rfl) (lo_t (lo_sl X7365 H6862) (lo_t rfl rfl)) hp7427 rfl ?_
              refine sload (v := .int .i64 e7425) rfl rfl (q_load wd_3 rfl) (FP.ld X7365 hF7427) (same_self 20 rfl) rfl ?_
              refine scall (en := fun d => (.int .i64 d)) rfl rfl ca_70 rfl rfl (f70_ok X7365 p6858 e7425 H6859 H6860) rfl (fun e7428 => ?_)
              refine sload (v := .slice a7257 n7257 c7257) rfl rfl (q_load wd_33 rfl) (St.ld X7365 (j := 7) rfl rfl) (same_self 20 rfl) rfl ?_
              refine spure (v := .int .i64 (s7256.2.length : Int)) rfl (p_move rfl) (lo_t rfl rfl) rfl rfl ?_
              refine spure (v := .int .i64 (w64 ((s7256.2.length : Int) - 1))) rfl (p_sub rfl) (lo_t rfl (lo_c rfl)) rfl rfl ?_
              refine Sim.bindM fun e7432 he7433 => ?_
              obtain ⟨b7434, vs7434, m7434, off7434, cs7434, rfl, rfl, hp7434, hc7434, hR7434, hl7434, hm7434, hs7434⟩ := OSl.ia O7257 he7433 (kd := .i64) (n := 1) rfl
              have hR7434 : _ = [(.int .i64 e7432 : Value)] := hR7434
              subst hR7434
              refine spure (v := .pointer (some ⟨b7434, off7434, none⟩)) rfl (p_ia rs_33 rfl) (lo_t (lo_osl X7365 (j := 1) rfl O7257) (lo_t rfl rfl)) hp7434 rfl ?_
              refine sload (v := .int .i64 e7432) rfl rfl (q_load wd_3 rfl) (St.ld X7365 (j := 1) rfl (rdE1 hc7434 (k := 0) rfl rfl)) (same_self 20 rfl) rfl ?_
              refine spure (v := .bool (decide (e7428 ≠ e7432))) rfl (p_ne rfl) (lo_t rfl (lo_t rfl rfl)) rfl rfl ?_
              refine spure (v := .bool (decide (e7428 ≠ e7432))) rfl (p_pick rfl) (lo_t rfl (lo_t rfl (lo_c rfl))) rfl rfl ?_
              refine spure (v := .bool (decide (e7428 ≠ e7432))) rfl (p_pick rfl) (lo_t rfl (lo_c (lo_t rfl rfl))) rfl rfl ?_
              exact sjmpM J7422 ((decide (e7428 ≠ e7432)), s7256.2) (.cells vs7434 3 m7434) (sub_cons rfl (sub_cons rfl (sub_cons rfl (sub_cons rfl (sub_cons rfl (sub_cons rfl sub_nil)))))) ⟨(St.pick X7365 (.keep _ (.keep _ (.keep _ (.keep _ (.none _ (.skip _ (.keep _ (.keep _ (.keep _ (.keep _ (.keep _ (.nil _))))))))))))), O7257⟩
            refine sskip rfl rfl ?_
            refine sskip rfl rfl ?_
            refine sskip rfl rfl ?_
            refine sskip rfl rfl ?_
            refine sskip rfl rfl ?_
            refine sskip rfl rfl ?_
            refine sskip rfl rfl ?_
            refine sskip rfl rfl ?_
            refine sskip rfl rfl ?_
            refine sskip rfl rfl ?_
            refine sskip rfl rfl ?_
            refine sskip rfl rfl ?_
            refine sskip rfl rfl ?_
            refine spure (v := .bool false) rfl (p_pick rfl) (lo_t rfl (lo_t rfl (lo_c rfl))) rfl rfl ?_
            refine spure (v := .bool false) rfl (p_pick rfl) (lo_t rfl (lo_c (lo_t rfl rfl))) rfl rfl ?_
            exact sjmpM J7422 (false, s7256.2) blk7257 (sub_cons rfl (sub_cons rfl (sub_cons rfl (sub_cons rfl (sub_cons rfl (sub_cons rfl sub_nil)))))) ⟨(St.pick X7365 (.keep _ (.keep _ (.keep _ (.keep _ (.none _ (.skip _ (.keep _ (.keep _ (.keep _ (.keep _ (.keep _ (.nil _))))))))))))), O7257⟩
          refine dexit (eseq (eloop (xblock ?_)))
          refine kin_n res_0 ?_
          refine rend_n X7349 (j := 2) rfl (fun h7435 X7436 => ?_)
          refine nblock (nseq (dseq (dreg ?_)))
          refine lread (v := .slice a7257 n7257 c7257) rfl (q_load wd_33 rfl) (St.ld X7436 (j := 6) rfl rfl) rfl ?_
          refine lpure (v := .int .i64 (s7256.2.length : Int)) rfl (p_len rfl rfl rfl un_33 rfl) (OSl.len O7257) rfl ?_
          refine lread (v := .slice a6862 n6862 c6862) rfl (q_load wd_42 rfl) (St.ld X7436 (j := 7) rfl rfl) rfl ?_
          refine lpure (v := .int .i64 (p6861.length : Int)) rfl (p_len rfl rfl rfl un_42 rfl) (RSl.lenC H6862) rfl ?_
          refine lpure (v := .int .i64 (w64 ((p6861.length : Int) + 1))) rfl (p_add rfl) rfl rfl ?_
          refine lpure (v := .bool (decide ((s7256.2.length : Int) = (w64 ((p6861.length : Int) + 1))))) rfl (p_eq rfl) rfl rfl ?_
          refine lpure (v := .bool (decide ((s7256.2.length : Int) = (w64 ((p6861.length : Int) + 1))))) rfl (p_assign rfl) rfl rfl ?_
          refine lend (nseq (dret (rscope ?_)))
          exact kcut_r (res_1 resT) X7436 rfl rfl
        intro j7437 J7438
        refine sif (j := 49) (show _ = Value.bool s7023 from rfl) (fun k7439 => ?_) (fun k7439 => ?_)
        · refine sskip rfl rfl ?_
          refine sskip rfl rfl ?_
          refine sskip rfl rfl ?_
          refine sskip rfl rfl ?_
          refine sskip rfl rfl ?_
          refine sskip rfl rfl ?_
          refine sskip rfl rfl ?_
          refine sskip rfl rfl ?_
          refine sskip rfl rfl ?_
          refine sskip rfl rfl ?_
          refine sskip rfl rfl ?_
          refine sskip rfl rfl ?_
          refine sskip rfl rfl ?_
          refine sskip rfl rfl ?_
          refine sskip rfl rfl ?_
          refine sskip rfl rfl ?_
          refine spure (v := .bool true) rfl (p_pick rfl) (lo_t rfl (lo_c (lo_t rfl rfl))) rfl rfl ?_
          exact sjmpM J7438 true () (sub_cons rfl (sub_cons rfl (sub_cons rfl sub_nil))) (St.pick X7024 (.keep _ (.none _ (.skip _ (.keep _ (.keep _ (.keep _ (.keep _ (.keep _ (.nil _))))))))))
        refine spure (v := .int .i64 0) rfl (p_move rfl) (lo_t rfl rfl) rfl rfl ?_
        refine spure (v := .bool false) rfl (p_gt rfl) (lo_t rfl (lo_c rfl)) rfl rfl ?_
        refine spure (v := .bool false) rfl (p_move rfl) (lo_t rfl rfl) rfl rfl ?_
        refine sskip rfl rfl ?_
        refine sskip rfl rfl ?_
        refine sskip rfl rfl ?_
        refine sskip rfl rfl ?_
        refine spure (v := .bool false) rfl (p_pick rfl) (lo_t rfl (lo_t rfl (lo_c rfl))) rfl rfl ?_
        refine spure (v := .bool false) rfl (p_move rfl) (lo_t rfl rfl) rfl rfl ?_
        refine sskip rfl rfl ?_
        refine sskip rfl rfl ?_
        refine sskip rfl rfl ?_
        refine sskip rfl rfl ?_
        refine sskip rfl rfl ?_
        refine sskip rfl rfl ?_
        refine spure (v := .bool false) rfl (p_pick rfl) (lo_t rfl (lo_t rfl (lo_c rfl))) rfl rfl ?_
        refine spure (v := .bool false) rfl (p_pick rfl) (lo_t rfl (lo_c (lo_t rfl rfl))) rfl rfl ?_
        exact sjmpM J7438 false () (sub_cons rfl (sub_cons rfl (sub_cons rfl sub_nil))) (St.pick X7024 (.keep _ (.none _ (.skip _ (.keep _ (.keep _ (.keep _ (.keep _ (.keep _ (.nil _))))))))))
      intro j7440 J7441
      refine sif (j := 30) (show _ = Value.bool e7017 from rfl) (fun k7442 => ?_) (fun k7442 => ?_)
      · refine sskip rfl rfl ?_
        refine sskip rfl rfl ?_
        refine sskip rfl rfl ?_
        refine sskip rfl rfl ?_
        refine sskip rfl rfl ?_
        refine sskip rfl rfl ?_
        refine sskip rfl rfl ?_
        refine sskip rfl rfl ?_
        refine sskip rfl rfl ?_
        refine sskip rfl rfl ?_
        refine sskip rfl rfl ?_
        refine sskip rfl rfl ?_
        refine sskip rfl rfl ?_
        refine sskip rfl rfl ?_
        refine sskip rfl rfl ?_
        refine sskip rfl rfl ?_
        refine sskip rfl rfl ?_
        refine spure (v := .bool true) rfl (p_pick rfl) (lo_t rfl (lo_c (lo_t rfl rfl))) rfl rfl ?_
        exact sjmpM J7441 true () (sub_cons rfl (sub_cons rfl (sub_cons rfl (sub_cons rfl (sub_cons rfl (sub_cons rfl sub_nil)))))) (St.pick X7016 (.keep _ (.none _ (.skip _ (.keep _ (.keep _ (.keep _ (.keep _ (.keep _ (.nil _))))))))))
      refine spure (v := .int .i64 0) rfl (p_move rfl) (lo_t rfl rfl) rfl rfl ?_
      refine spure (v := .bool false) rfl (p_gt rfl) (lo_t rfl (lo_c rfl)) rfl rfl ?_
      refine spure (v := .bool false) rfl (p_move rfl) (lo_t rfl rfl) rfl rfl ?_
      refine sskip rfl rfl ?_
      refine sskip rfl rfl ?_
      refine sskip rfl rfl ?_
      refine sskip rfl rfl ?_
      refine sskip rfl rfl ?_
      refine sskip rfl rfl ?_
      refine sskip rfl rfl ?_
      refine sskip rfl rfl ?_
      refine sskip rfl rfl ?_
      refine sskip rfl rfl ?_
      refine sskip rfl rfl ?_
      refine sskip rfl rfl ?_
      refine sskip rfl rfl ?_
      refine spure (v := .bool false) rfl (p_pick rfl) (lo_t rfl (lo_t rfl (lo_c rfl))) rfl rfl ?_
      refine spure (v := .bool false) rfl (p_pick rfl) (lo_t rfl (lo_c (lo_t rfl rfl))) rfl rfl ?_
      exact sjmpM J7441 false () (sub_cons rfl (sub_cons rfl (sub_cons rfl (sub_cons rfl (sub_cons rfl (sub_cons rfl sub_nil)))))) (St.pick X7016 (.keep _ (.none _ (.skip _ (.keep _ (.keep _ (.keep _ (.keep _ (.keep _ (.nil _))))))))))
    intro j7443 J7444
    refine lif (i := 16) (show _ = Value.bool s6872 from rfl) (fun k7445 => ?_) (fun k7445 => ?_)
    · refine lskip rfl rfl ?_
      refine lskip rfl rfl ?_
      refine lskip rfl rfl ?_
      refine lpure (v := .bool true) rfl (p_pick rfl) rfl rfl ?_
      exact ljmpM J7444 true () (sub_cons rfl (sub_cons rfl (sub_cons rfl sub_nil))) X6873
    refine lread (v := .slice a6862 n6862 c6862) rfl (q_load wd_42 rfl) (St.ld X6873 (j := 0) rfl rfl) rfl ?_
    refine lpure (v := .func (.func 97) #[] #[.pointer (some ⟨b6863, 0, none⟩)]) rfl (p_makeFunc rfl) rfl rfl ?_
    refine linl rfl rfl rfl rfl ca_56 rfl Try.func56 rfl rfl rfl rfl rfl ?_
    refine dseq (dreg ?_)
    refine lpure (v := .bool false) rfl (p_assign rfl) rfl rfl ?_
    refine lend (nseq (dseq (dreg ?_)))
    refine lpure (v := .slice a6862 n6862 c6862) rfl (p_move rfl) rfl rfl ?_
    refine lpure (v := .func (.func 97) #[] #[.pointer (some ⟨b6863, 0, none⟩)]) rfl (p_move rfl) rfl rfl ?_
    refine linl rfl rfl rfl rfl ca_101 rfl Try.func101 rfl rfl rfl rfl rfl ?_
    refine dseq (dreg ?_)
    refine lpure (v := .int .i64 0) rfl (p_assign rfl) rfl rfl ?_
    refine lend (nseq (dseq (dseq (dreg ?_))))
    refine lpure (v := .slice a6862 n6862 c6862) rfl (p_move rfl) rfl rfl ?_
    refine lpure (v := .int .i64 (p6861.length : Int)) rfl (p_len rfl rfl rfl un_42 rfl) (RSl.lenC H6862) rfl ?_
    refine lpure (v := .int .i64 0) rfl (p_move rfl) rfl rfl ?_
    refine lend (nseq (dblock ?_))
    refine dloopM (τ := Int) (σ := Unit) (fun s7476 (_ : Unit) => [(0, .slice a6862 n6862 c6862), (1, .func (.func 97) #[] #[.pointer (some ⟨b6863, 0, none⟩)]), (7, .int .i64 (p6861.length : Int)), (8, .int .i64 s7476)]) (fun s7476 (_ : Unit) hh => St φ h.n hh ([(some b6867, .cells [.slice a6862 n6862 c6862] 42 .exact), (some b6863, .cells [.int .i64 p6858.Topo.Nodes, .slice a6859 n6859 c6859, .slice a6860 n6860 c6860] 87 .exact)])) 0 () (sub_cons rfl (sub_cons rfl (sub_cons rfl (sub_cons rfl sub_nil)))) X6873 ?_
    rintro n7493 ih7492 s7476 _ t0 h7495 X7494
    refine dseq (dreg ?_)
    refine lpure (v := .bool (decide (s7476 < (p6861.length : Int)))) rfl (p_lt rfl) rfl rfl ?_
    refine lend (nseq (dseq ?_))
    refine dcond rfl rfl (fun k7496 => ?_) (fun k7496 => ?_)
    · refine dskip (nseq (dseq (dblock (dseq (dreg ?_)))))
      refine lpure (v := .int .i64 s7476) rfl (p_move rfl) rfl rfl ?_
      refine lpure (v := .int .i64 s7476) rfl (p_assign rfl) rfl rfl ?_
      refine lend (nseq (dseq (dreg ?_)))
      refine lpure (v := .func (.func 97) #[] #[.pointer (some ⟨b6863, 0, none⟩)]) rfl (p_move rfl) rfl rfl ?_
      refine lpure (v := .slice a6862 n6862 c6862) rfl (p_move rfl) rfl rfl ?_
      refine lpure (v := .int .i64 s7476) rfl (p_move rfl) rfl rfl ?_
      refine Sim.bindM fun e7497 he7498 => ?_
      obtain ⟨p7499, cs7499, hp7499, hF7499, hR7499⟩ := RSl.ia H6862 he7498 (kd := .i64) (n := 1) rfl
      have hR7499 : _ = [(.int .i64 e7497 : Value)] := hR7499
      subst hR7499
      refine lpure (v := p7499) rfl (p_ia rs_42 rfl) hp7499 rfl ?_
      refine lread (v := .int .i64 e7497) rfl (q_load wd_3 rfl) (FP.ld X7494 hF7499) rfl ?_
      refine linl rfl rfl rfl rfl ca_97 rfl Try.func97 rfl rfl rfl rfl rfl ?_
      refine dseq (dreg ?_)
      refine lpure (v := .bool false) rfl (p_assign rfl) rfl rfl ?_
      refine lend (nseq (dseq (dreg ?_)))
      refine lpure (v := .int .i64 e7497) rfl (p_move rfl) rfl rfl ?_
      refine lpure (v := .bool (decide (e7497 < 0))) rfl (p_lt rfl) rfl rfl ?_
      refine lpure (v := .bool (decide (e7497 < 0))) rfl (p_move rfl) rfl rfl ?_
      refine lsh (τ := Bool) (σ := Unit) (fun s7501 (_ : Unit) => [(14, .bool s7501)]) (fun s7501 (_ : Unit) hh => St φ h.n hh ([(some b6867, .cells [.slice a6862 n6862 c6862] 42 .exact), (some b6863, .cells [.int .i64 p6858.Topo.Nodes, .slice a6859 n6859 c6859, .slice a6860 n6860 c6860] 87 .exact)])) 8 ?_ ?_
      · rintro s7501 _ t0 h7503 X7502
        refine lpure (v := .bool s7501) rfl (p_assign rfl) rfl rfl ?_
        refine lend (nseq (dret ?_))
        refine kin_r (res_1 resT) ?_
        refine lend (nseq ?_)
        refine dcond rfl rfl (fun k7504 => ?_) (fun k7504 => ?_)
        · refine dseq (dreg ?_)
          refine lpure (v := .int .i64 s7476) rfl (p_move rfl) rfl rfl ?_
          refine lpure (v := .int .i64 s7476) rfl (p_assign rfl) rfl rfl ?_
          refine lend (nseq (dret (rblock (rseq (rloop (rblock (rseq ?_)))))))
          refine kin_r (res_1 resT) ?_
          refine lpure (v := .bool (decide (0 ≤ s7476))) rfl (p_ge rfl) rfl rfl ?_
          refine lpure (v := .bool (decide (0 ≤ s7476))) rfl (p_assign rfl) rfl rfl ?_
          refine lend (nseq (dret ?_))
          refine kin_r (res_1 resT) ?_
          refine lpure (v := .bool (decide (0 ≤ s7476))) rfl (p_pick rfl) rfl rfl ?_
          exact ljmpM J7444 (decide (0 ≤ s7476)) () (sub_cons rfl (sub_cons rfl (sub_cons rfl sub_nil))) X7502
        refine dskip (nblock (nseq (dreg ?_)))
        refine lpure (v := .int .i64 (w64 (s7476 + 1))) rfl (p_add rfl) rfl rfl ?_
        refine lpure (v := .int .i64 (w64 (s7476 + 1))) rfl (p_move rfl) rfl rfl ?_
        refine lend ?_
        exact kbackM ih7492 (w64 (s7476 + 1)) () (sub_cons rfl (sub_cons rfl (sub_cons rfl (sub_cons rfl sub_nil)))) X7502
      intro j7505 J7506
      refine lcase (i := 6) (show _ = Value.bool (decide (e7497 < 0)) from rfl) (fun k7507 => ?_) (fun k7507 => ?_)
      · refine lskip rfl rfl ?_
        refine lskip rfl rfl ?_
        refine lskip rfl rfl ?_
        refine lskip rfl rfl ?_
        refine lskip rfl rfl ?_
        refine lskip rfl rfl ?_
        refine lskip rfl rfl ?_
        refine lpure (v := .bool true) rfl (p_pick rfl) rfl rfl ?_
        refine Sim.of_eq (congrArg j7505 (show ((decide (e7497 < 0)) || (decide ((w64 (2 * (p6858.Topo.Links.length : Int))) ≤ e7497))) = true from by rw [k7507] <;> rfl)) ?_
        exact ljmpM J7506 true () (sub_cons rfl sub_nil) X7494
      refine lpure (v := .int .i64 e7497) rfl (p_move rfl) rfl rfl ?_
      refine lpure (v := .pointer (some ⟨b6863, 0, none⟩)) rfl (p_fa fo_87_0 rfl) rfl rfl ?_
      refine lpure (v := .pointer (some ⟨b6863, 2, none⟩)) rfl (p_fa fo_29_2 rfl) rfl rfl ?_
      refine lread (v := .slice a6860 n6860 c6860) rfl (q_load wd_27 rfl) (St.ld X7494 (j := 1) rfl rfl) rfl ?_
      refine lpure (v := .int .i64 (p6858.Topo.Links.length : Int)) rfl (p_len rfl rfl rfl un_27 rfl) (RSl.lenC H6860) rfl ?_
      refine lpure (v := .int .i64 (w64 (2 * (p6858.Topo.Links.length : Int)))) rfl (p_mul rfl) rfl rfl ?_
      refine lpure (v := .bool (decide ((w64 (2 * (p6858.Topo.Links.length : Int))) ≤ e7497))) rfl (p_ge rfl) rfl rfl ?_
      refine lpure (v := .bool (decide ((w64 (2 * (p6858.Topo.Links.length : Int))) ≤ e7497))) rfl (p_pick rfl) rfl rfl ?_
      refine Sim.of_eq (congrArg j7505 (show ((decide (e7497 < 0)) || (decide ((w64 (2 * (p6858.Topo.Links.length : Int))) ≤ e7497))) = (decide ((w64 (2 * (p6858.Topo.Links.length : Int))) ≤ e7497)) from by rw [k7507] <;> rfl)) ?_
      exact ljmpM J7506 (decide ((w64 (2 * (p6858.Topo.Links.length : Int))) ≤ e7497)) () (sub_cons rfl sub_nil) X7494
    refine dexit (eseq (eloop (xblock (nseq (dseq (dreg ?_))))))
    refine lpure (v := .int .i64 (-1)) rfl (p_assign rfl) rfl rfl ?_
    refine lend (nseq (dret ?_))
    refine kin_r (res_1 resT) ?_
    refine lpure (v := .bool false) rfl (p_ge rfl) rfl rfl ?_
    refine lpure (v := .bool false) rfl (p_assign rfl) rfl rfl ?_
    refine lend (nseq (dret ?_))
    refine kin_r (res_1 resT) ?_
    refine lpure (v := .bool false) rfl (p_pick rfl) rfl rfl ?_
    exact ljmpM J7444 false () (sub_cons rfl (sub_cons rfl (sub_cons rfl sub_nil))) X7494
  intro j7508 J7509
  refine lcase (i := 11) (show _ = Value.bool (decide ((p6861.length : Int) < 1)) from rfl) (fun k7510 => ?_) (fun k7510 => ?_)
  · refine lskip rfl rfl ?_
    refine lskip rfl rfl ?_
    refine lskip rfl rfl ?_
    refine lpure (v := .bool true) rfl (p_pick rfl) rfl rfl ?_
    refine Sim.of_eq (congrArg j7508 (show ((decide ((p6861.length : Int) < 1)) || (decide (8 < (p6861.length : Int)))) = true from by rw [k7510] <;> rfl)) ?_
    exact ljmpM J7509 true () (sub_cons rfl (sub_cons rfl (sub_cons rfl sub_nil))) X6870
  refine lread (v := .slice a6862 n6862 c6862) rfl (q_load wd_42 rfl) (St.ld X6870 (j := 0) rfl rfl) rfl ?_
  refine lpure (v := .int .i64 (p6861.length : Int)) rfl (p_len rfl rfl rfl un_42 rfl) (RSl.lenC H6862) rfl ?_
  refine lpure (v := .bool (decide (8 < (p6861.length : Int)))) rfl (p_gt rfl) rfl rfl ?_
  refine lpure (v := .bool (decide (8 < (p6861.length : Int)))) rfl (p_pick rfl) rfl rfl ?_
  refine Sim.of_eq (congrArg j7508 (show ((decide ((p6861.length : Int) < 1)) || (decide (8 < (p6861.length : Int)))) = (decide (8 < (p6861.length : Int))) from by rw [k7510] <;> rfl)) ?_
  exact ljmpM J7509 (decide (8 < (p6861.length : Int))) () (sub_cons rfl (sub_cons rfl (sub_cons rfl sub_nil))) X6870
/-! isochron/route.Check -/
theorem f18_ok {n : Nat} {φ : Fz} {lo : Nat} {h : Heap} {own : OwnL}  {a75 : Option Addr} {n75 c75 : Nat} {a76 : Option Addr} {n76 c76 : Nat} {a78 : Option Addr} {n78 c78 : Nat} (X : St φ lo h (own)) (p74 : ApiTopo) (p77 : (List Int)) (H75 : RSl eBool φ (.slice a75 n75 c75) p74.Station) (H76 : RSl eApiLink φ (.slice a76 n76 c76) p74.Links) (H78 : RSl (eInt .i64) φ (.slice a78 n78 c78) p77) : Sim ((recN Try.prog LL cutF (n + 13)).call 18 #[(.agg #[.int .i64 p74.Nodes, .slice a75 n75 c75, .slice a76 n76 c76]), (.slice a78 n78 c78)] h) (m_route_Check p74 p77) (fun (d : Int) p => p = (.int .i64 d, h)) := by
  refine fcut Try.func18 rfl rfl rfl rfl X ?_
  intro h0 X0
  refine dseq (dreg ?_)
  refine lbox rfl rfl rfl rfl rfl X0 (fun b79 h81 X82 => ?_)
  refine lpure (v := .int .i64 0) rfl (p_assign rfl) rfl rfl ?_
  refine lend (nseq (dseq (dseq (dreg ?_))))
  refine lread (v := .agg #[.int .i64 p74.Nodes, .slice a75 n75 c75, .slice a76 n76 c76]) rfl (q_load wd_29 rfl) (St.ld X82 (j := 0) rfl rfl) rfl ?_
  refine lcall rfl rfl ca_9 rfl rfl (f9_ok X82 p74 H75 H76) rfl (fun e6847 v6848 h6849 hq6850 => ?_)
  cases hq6850
  refine lpure (v := .int .i64 e6847) rfl (p_assign rfl) rfl rfl ?_
  refine lend (nseq (dseq (dreg ?_)))
  refine lpure (v := .int .i64 e6847) rfl (p_move rfl) rfl rfl ?_
  refine lpure (v := .bool (decide (e6847 ≠ 0))) rfl (p_ne rfl) rfl rfl ?_
  refine lend (nseq ?_)
  refine dcond rfl rfl (fun k6851 => ?_) (fun k6851 => ?_)
  · refine dseq (dreg ?_)
    refine lpure (v := .int .i64 e6847) rfl (p_move rfl) rfl rfl ?_
    refine lpure (v := .int .i64 e6847) rfl (p_assign rfl) rfl rfl ?_
    refine lend (nseq (dret (rseq ?_)))
    exact kcut_r (res_1 resT) X82 rfl rfl
  refine dskip (nseq (dseq (dseq (dreg ?_))))
  refine lread (v := .agg #[.int .i64 p74.Nodes, .slice a75 n75 c75, .slice a76 n76 c76]) rfl (q_load wd_29 rfl) (St.ld X82 (j := 0) rfl rfl) rfl ?_
  refine lpure (v := .agg #[.int .i64 p74.Nodes, .slice a75 n75 c75, .slice a76 n76 c76]) rfl (p_build rfl) (build_st' tz_87 pl_87 rfl) rfl ?_
  refine lalloc rfl tz_87 rfl rfl rfl X82 (fun b6852 h6854 X6855 => ?_)
  refine lstore rfl ts_87 rfl rfl (j := 0) rfl rfl rfl rfl rfl rfl X6855 (fun h6856 X6857 => ?_)
  refine lend (nseq (dseq (dreg ?_)))
  refine lread (v := .agg #[.int .i64 p74.Nodes, .slice a75 n75 c75, .slice a76 n76 c76]) rfl (q_load wd_87 rfl) (St.ld X6857 (j := 0) rfl rfl) rfl ?_
  refine lpure (v := .slice a78 n78 c78) rfl (p_move rfl) rfl rfl ?_
  refine lcall rfl rfl ca_52 rfl rfl (f52_ok X6857 ((RouteWalk.mk p74)) p77 H75 H76 H78) rfl (fun e7511 v7512 h7513 hq7514 => ?_)
  cases hq7514
  refine lpure (v := .bool (!e7511)) rfl (p_not rfl) rfl rfl ?_
  refine lend (nseq ?_)
  refine dcond rfl rfl (fun k7515 => ?_) (fun k7515 => ?_)
  · refine dseq (dreg ?_)
    refine lpure (v := .int .i64 310) rfl (p_assign rfl) rfl rfl ?_
    refine lend (nseq (dret (rseq ?_)))
    exact kcut_r (res_1 resT) X6857 rfl rfl
  refine dskip (nseq (dseq (dreg ?_)))
  refine lpure (v := .int .i64 0) rfl (p_assign rfl) rfl rfl ?_
  refine lend (nseq (dret ?_))
  exact kcut_r (res_1 resT) X6857 rfl rfl
/-! (isochron/route.walk).list -/
theorem f66_ok {n : Nat} {φ : Fz} {lo : Nat} {h : Heap} {own : OwnL}  {a7686 : Option Addr} {n7686 c7686 : Nat} {a7687 : Option Addr} {n7687 c7687 : Nat} {a7689 : Option Addr} {n7689 c7689 : Nat} (X : St φ lo h (own)) (p7685 : RouteWalk) (p7688 : (List Int)) (H7686 : RSl eBool φ (.slice a7686 n7686 c7686) p7685.Topo.Station) (H7687 : RSl eApiLink φ (.slice a7687 n7687 c7687) p7685.Topo.Links) (H7689 : RSl (eInt .i64) φ (.slice a7689 n7689 c7689) p7688) : Sim ((recN Try.prog LL cutF (n + 13)).call 66 #[(.agg #[.int .i64 p7685.Topo.Nodes, .slice a7686 n7686 c7686, .slice a7687 n7687 c7687]), (.slice a7689 n7689 c7689)] h) (m_route_walk_list p7685 p7688) (fun (d : (List Int)) p => ∃ φ2 : Fz, ∃ a7845 : Option Addr, ∃ n7845 : Nat, ∃ c7845 : Nat, ∃ ob7845 : Option Nat, ∃ blk7845 : Blk, Fz.le φ φ2 ∧ St φ2 lo p.2 ((ob7845, blk7845) :: own) ∧ p.1 = .slice a7845 n7845 c7845 ∧ OSl (eInt .i64) φ2 3 ob7845 blk7845 (.slice a7845 n7845 c7845) d) := by
  refine fopen Try.func66 rfl rfl rfl rfl ?_
  refine dseq (dreg ?_)
  refine lbox rfl rfl rfl rfl rfl X (fun b7690 h7692 X7693 => ?_)
  refine lpure (v := .slice none 0 0) rfl (p_assign rfl) rfl rfl ?_
  refine lend (nseq (dseq (dreg ?_)))
  refine lread (v := .agg #[.int .i64 p7685.Topo.Nodes, .slice a7686 n7686 c7686, .slice a7687 n7687 c7687]) rfl (q_load wd_87 rfl) (St.ld X7693 (j := 0) rfl rfl) rfl ?_
  refine lpure (v := .slice a7689 n7689 c7689) rfl (p_move rfl) rfl rfl ?_
  refine linl rfl rfl rfl rfl ca_98 rfl Try.func98 rfl rfl rfl rfl rfl ?_
  refine dseq (dreg ?_)
  refine lbox rfl rfl rfl rfl rfl X7693 (fun b7694 h7696 X7697 => ?_)
  refine lbox rfl rfl rfl rfl rfl X7697 (fun b7698 h7700 X7701 => ?_)
  refine lpure (v := .nilFunc) rfl (p_assign rfl) rfl rfl ?_
  refine lend (nseq (dseq (dreg ?_)))
  refine lpure (v := .func (.func 115) #[] #[.pointer (some ⟨b7694, 0, none⟩), .pointer (some ⟨b7698, 0, none⟩)]) rfl (p_makeFunc rfl) rfl rfl ?_
  refine lpure (v := .func (.func 115) #[] #[.pointer (some ⟨b7694, 0, none⟩), .pointer (some ⟨b7698, 0, none⟩)]) rfl (p_assign rfl) rfl rfl ?_
  refine lend (nseq (dret ?_))
  refine kin_r (res_1 resT) ?_
  refine linl rfl rfl rfl rfl ca_104 rfl Try.func104 rfl rfl rfl rfl rfl ?_
  refine dseq (dreg ?_)
  refine lpure (v := .slice none 0 0) rfl (p_assign rfl) rfl rfl ?_
  refine lend (nseq (dseq (dreg ?_)))
  refine lpure (v := .func (.func 115) #[] #[.pointer (some ⟨b7694, 0, none⟩), .pointer (some ⟨b7698, 0, none⟩)]) rfl (p_move rfl) rfl rfl ?_
  refine linl rfl rfl rfl rfl ca_116 rfl Try.func116 rfl rfl rfl rfl rfl ?_
  refine dseq (dreg ?_)
  refine lbox rfl rfl rfl rfl rfl X7701 (fun b7702 h7704 X7705 => ?_)
  refine lpure (v := .slice none 0 0) rfl (p_assign rfl) rfl rfl ?_
  refine lend (nseq (dseq (dseq (dreg ?_))))
  refine lpure (v := .func (.func 115) #[] #[.pointer (some ⟨b7694, 0, none⟩), .pointer (some ⟨b7698, 0, none⟩)]) rfl (p_move rfl) rfl rfl ?_
  refine lend (nseq (dblock ?_))
  refine drange rfl rfl ca_115 Try.func115 rfl rfl X7705 (fun _ => rfl) ?_
  intro l7706 q7707 df7708 h7710 Q7709 X7711
  refine dseq (dreg ?_)
  refine lread (v := .agg #[.int .i64 p7685.Topo.Nodes, .slice a7686 n7686 c7686, .slice a7687 n7687 c7687]) rfl (q_load wd_87 rfl) (St.ld X7711 (j := 4) rfl rfl) rfl ?_
  refine lpure (v := .func (.func 69) #[.agg #[.int .i64 p7685.Topo.Nodes, .slice a7686 n7686 c7686, .slice a7687 n7687 c7687]] #[]) rfl (p_makeFunc rfl) rfl rfl ?_
  refine lpure (v := .func (.func 69) #[.agg #[.int .i64 p7685.Topo.Nodes, .slice a7686 n7686 c7686, .slice a7687 n7687 c7687]] #[]) rfl (p_assign rfl) rfl rfl ?_
  refine lend (nseq (dseq (dseq ?_)))
  refine dgo_start (n := 8) rfl (by kernel_rfl) ?_
  refine gpure (v := .func (.yield l7706) #[] #[]) rfl (p_move rfl) (lo_t (and_tt (lo_own X7711 (j := 0) (o := 0) (s := none) (f := 0) rfl) rfl) rfl) rfl rfl ?_
  refine gload (v := .agg #[.int .i64 p7685.Topo.Nodes, .slice a7686 n7686 c7686, .slice a7687 n7687 c7687]) rfl (q_load wd_87 rfl) (St.ld X7711 (j := 4) rfl rfl) rfl ?_
  refine gload (v := .slice a7689 n7689 c7689) rfl (q_load wd_42 rfl) (St.ld X7711 (j := 3) rfl rfl) rfl ?_
  refine Sim.bindM fun e7714 he7715 => ?_
  obtain ⟨p7716, cs7716, hp7716, hF7716, hR7716⟩ := RSl.ia H7689 he7715 (kd := .i64) (n := 1) rfl
  have hR7716 : _ = [(.int .i64 e7714 : Value)] := hR7716
  subst hR7716
  refine gpure (v := p7716) rfl (p_ia rs_42 rfl) (lo_t (lo_sl X7711 H7689) (lo_c rfl)) hp7716 rfl ?_
  refine gload (v := .int .i64 e7714) rfl (q_load wd_3 rfl) (FP.ld X7711 hF7716) rfl ?_
  refine gwait rfl (still_call rfl rfl ca_70 rfl) rfl ?_
  refine dgo_skip ?_
  refine dgo_skip ?_
  refine gcall (m := 7) [false, false, false] (rk_cons (q_load wd_3 rfl) (FP.ld X7711 hF7716) (same_self 20 rfl) (rk_cons (q_load wd_42 rfl) (St.ld X7711 (j := 3) rfl rfl) (same_self 20 rfl) (rk_cons (q_load wd_87 rfl) (St.ld X7711 (j := 4) rfl rfl) (same_self 20 rfl) rk_nil))) rfl rfl rfl rfl rfl ca_70 rfl rfl (f70_ok X7711 p7685 e7714 H7686 H7687) rfl (fun e7717 v7718 h7719 hq7720 => ?_)
  cases hq7720
  refine dgo_skip ?_
  refine dgo_skip ?_
  refine dgo_skip ?_
  refine dgo_skip ?_
  refine dgo_skip ?_
  refine dgo_skip ?_
  refine gwait rfl (still_act rfl).1 rfl ?_
  refine dgo_skip ?_
  refine ground (m := 6) [] rk_nil rfl rfl rfl rfl rfl rfl rfl rfl rfl X7711 (j := 0) rfl Q7709 rfl rfl rfl rfl rfl (fun t7721 => ?_)
  refine dreg ?_
  refine lpure (v := .int .i64 e7717) rfl (p_assign rfl) rfl rfl ?_
  refine lend ?_
  refine basg X7711 (j := 0) rfl (fun h7722 X7723 => ?_)
  refine dblock (dreg ?_)
  refine lread (v := .slice none 0 0) rfl (q_load wd_33 rfl) (St.ld X7723 (j := 2) rfl rfl) rfl ?_
  refine lpure (v := .int .i64 e7717) rfl (p_move rfl) rfl rfl ?_
  obtain ⟨h7724, b7724, hv7724, X7724, O7724⟩ := OSl.lay (E := (eInt .i64)) (φ := φ) (cs := [.int .i64 e7717]) (l := [e7717]) (len := 1) (parts := [(0, .int .i64 e7717)]) un_33 ts_3 rfl rfl rfl tz_3 rfl rfl (show RowD (eInt .i64) φ [.int .i64 e7717] [e7717] from ⟨[.int .i64 e7717], _, rfl, rfl, rfl⟩) rfl rfl X7723
  refine lheap rfl (h_buildSlice rfl) hv7724 rfl ?_
  have X7727 := St.pick X7724 (.none .dead (.refl _))
  obtain ⟨ws7728, hw7728⟩ := OSl.read O7724 X7727 (k := 1) rfl (n := 1) rfl
  refine Sim.mustM fun k7728 => ?_
  obtain ⟨h7728, a7728, c7728, ob7728, blk7728, hv7728, X7728, O7728⟩ := OSl.append (show OSl (eInt .i64) φ 3 none .dead (.slice none 0 0) [] from OSl.nil) X7727 (j := 0) rfl hw7728 k7728 (ts := #[33, 33]) rfl un_33 (argOk_of ax_33_33) ts_3 rfl rfl tb_3 rfl tz_3 rfl
  refine lheap rfl (h_builtin rfl rfl) hv7728 rfl ?_
  refine lstore rfl ts_33 rfl rfl (j := 4) rfl rfl rfl rfl rfl rfl X7728 (fun h7729 X7730 => ?_)
  refine lend (nblock ?_)
  refine nrnd X7730 (j := 2) rfl (fun h7731 X7732 => ?_)
  refine dgo_skip ?_
  refine dgo_skip ?_
  refine dgo_skip ?_
  refine dgo_skip ?_
  refine dgo_skip ?_
  refine dgo_skip ?_
  refine dgo_skip ?_
  refine gpure (v := .bool false) rfl (p_not rfl) (lo_t rfl rfl) rfl rfl ?_
  refine gend rk_nil ?_
  refine nseq (dcondF rfl rfl (dskip (nseq (dseq (dreg ?_)))))
  refine lread (v := .slice a7689 n7689 c7689) rfl (q_load wd_42 rfl) (St.ld X7732 (j := 5) rfl rfl) rfl ?_
  refine lpure (v := .int .i64 (p7688.length : Int)) rfl (p_len rfl rfl rfl un_42 rfl) (RSl.lenC H7689) rfl ?_
  refine lpure (v := .int .i64 0) rfl (p_move rfl) rfl rfl ?_
  refine lend (nseq (dblock ?_))
  refine dloopM (τ := Int × (List Int)) (σ := Option Addr × Nat × Nat × Option Nat × Blk) (fun s7788 (a7789, n7789, c7789, ob7789, blk7789) => [(0, .func (.yield l7706) #[] #[]), (4, .func (.func 69) #[.agg #[.int .i64 p7685.Topo.Nodes, .slice a7686 n7686 c7686, .slice a7687 n7687 c7687]] #[]), (17, .slice a7689 n7689 c7689), (18, .int .i64 (p7688.length : Int)), (19, .int .i64 s7788.1)]) (fun s7788 (a7789, n7789, c7789, ob7789, blk7789) hh => St φ lo hh ((ob7789, blk7789) :: (some b7724, (.cells [.int .i64 e7717] 3 .exact)) :: (some l7706, rdy q7707) :: (none, .dead) :: (some b7702, .cells [.slice a7789 n7789 c7789] 33 .exact) :: (some b7698, .cells [.slice a7689 n7689 c7689] 42 .exact) :: (some b7694, .cells [.int .i64 p7685.Topo.Nodes, .slice a7686 n7686 c7686, .slice a7687 n7687 c7687] 87 .exact) :: (some b7690, .cells [.int .i64 p7685.Topo.Nodes, .slice a7686 n7686 c7686, .slice a7687 n7687 c7687] 87 .exact) :: own) ∧ OSl (eInt .i64) φ 3 ob7789 blk7789 (.slice a7789 n7789 c7789) s7788.2) (0, (([] : List Int) ++ ([e7717]))) (a7728, (([] : List Int).length + ([e7717]).length), c7728, ob7728, blk7728) (sub_cons rfl (sub_cons rfl (sub_cons rfl (sub_cons rfl (sub_cons rfl sub_nil))))) ⟨(St.pick X7732 (.keep _ (.keep _ (.keep _ (.none _ (.skip _ (.keep _ (.keep _ (.keep _ (.keep _ (.refl _))))))))))), O7728⟩ ?_
  rintro n7818 ih7817 s7788 ⟨a7789, n7789, c7789, ob7789, blk7789⟩ t0 h7820 ⟨X7819, O7789⟩
  refine dseq (dreg ?_)
  refine lpure (v := .bool (decide (s7788.1 < (p7688.length : Int)))) rfl (p_lt rfl) rfl rfl ?_
  refine lend (nseq (dseq ?_))
  refine dcond rfl rfl (fun k7821 => ?_) (fun k7821 => ?_)
  · refine dskip (nseq (dseq (dblock (dseq (dreg ?_)))))
    refine Sim.bindM fun e7822 he7823 => ?_
    obtain ⟨p7824, cs7824, hp7824, hF7824, hR7824⟩ := RSl.ia H7689 he7823 (kd := .i64) (n := 1) rfl
    have hR7824 : _ = [(.int .i64 e7822 : Value)] := hR7824
    subst hR7824
    refine lpure (v := p7824) rfl (p_ia rs_42 rfl) hp7824 rfl ?_
    refine lread (v := .int .i64 e7822) rfl (q_load wd_3 rfl) (FP.ld X7819 hF7824) rfl ?_
    refine lpure (v := .int .i64 e7822) rfl (p_assign rfl) rfl rfl ?_
    refine lend (nseq (dseq (dreg ?_)))
    refine lpure (v := .func (.yield l7706) #[] #[]) rfl (p_move rfl) rfl rfl ?_
    refine lpure (v := .func (.func 69) #[.agg #[.int .i64 p7685.Topo.Nodes, .slice a7686 n7686 c7686, .slice a7687 n7687 c7687]] #[]) rfl (p_move rfl) rfl rfl ?_
    refine lpure (v := .int .i64 e7822) rfl (p_move rfl) rfl rfl ?_
    refine linl rfl rfl rfl rfl ca_69 rfl Try.func69 rfl rfl rfl rfl rfl ?_
    refine dseq (dreg ?_)
    refine lbox rfl rfl rfl rfl rfl X7819 (fun b7825 h7827 X7828 => ?_)
    refine lpure (v := .int .i64 0) rfl (p_assign rfl) rfl rfl ?_
    refine lend (nseq (dseq (dreg ?_)))
    refine lpure (v := .pointer (some ⟨b7825, 0, none⟩)) rfl (p_fa fo_87_0 rfl) rfl rfl ?_
    refine lread (v := .agg #[.int .i64 p7685.Topo.Nodes, .slice a7686 n7686 c7686, .slice a7687 n7687 c7687]) rfl (q_load wd_29 rfl) (St.ld X7828 (j := 0) rfl rfl) rfl ?_
    refine lpure (v := .int .i64 e7822) rfl (p_move rfl) rfl rfl ?_
    refine lcall rfl rfl ca_12 rfl rfl (f12_ok X7828 (p7685.Topo) e7822 H7686 H7687) rfl (fun e7829 v7830 h7831 hq7832 => ?_)
    cases hq7832
    refine lpure (v := .tuple #[.int .i64 e7829.1, .int .i64 e7829.2]) rfl (p_move rfl) rfl rfl ?_
    refine lpure (v := .int .i64 e7829.1) rfl (p_extract rfl) rfl rfl ?_
    refine lpure (v := .int .i64 e7829.2) rfl (p_extract rfl) rfl rfl ?_
    refine lpure (v := .int .i64 e7829.1) rfl (p_assign rfl) rfl rfl ?_
    refine lpure (v := .int .i64 e7829.2) rfl (p_assign rfl) rfl rfl ?_
    refine lend (nseq (dseq (dreg ?_)))
    refine lpure (v := .int .i64 e7829.1) rfl (p_move rfl) rfl rfl ?_
    refine lpure (v := .int .i64 e7829.1) rfl (p_assign rfl) rfl rfl ?_
    refine lend (nseq (dret ?_))
    refine kin_r (res_1 resT) ?_
    refine lround rfl rfl rfl rfl rfl rfl X7828 (j := 3) rfl Q7709 rfl rfl rfl rfl rfl (fun t7833 => ?_)
    refine dreg ?_
    refine lpure (v := .int .i64 e7829.1) rfl (p_assign rfl) rfl rfl ?_
    refine lend ?_
    refine basg X7828 (j := 3) rfl (fun h7834 X7835 => ?_)
    refine dblock (dreg ?_)
    refine lread (v := .slice a7789 n7789 c7789) rfl (q_load wd_33 rfl) (St.ld X7835 (j := 5) rfl rfl) rfl ?_
    refine lpure (v := .int .i64 e7829.1) rfl (p_move rfl) rfl rfl ?_
    obtain ⟨h7836, b7836, hv7836, X7836, O7836⟩ := OSl.lay (E := (eInt .i64)) (φ := φ) (cs := [.int .i64 e7829.1]) (l := [e7829.1]) (len := 1) (parts := [(0, .int .i64 e7829.1)]) un_33 ts_3 rfl rfl rfl tz_3 rfl rfl (show RowD (eInt .i64) φ [.int .i64 e7829.1] [e7829.1] from ⟨[.int .i64 e7829.1], _, rfl, rfl, rfl⟩) rfl rfl X7835
    refine lheap rfl (h_buildSlice rfl) hv7836 rfl ?_
    obtain ⟨ws7838, hw7838⟩ := OSl.read O7836 X7836 (k := 0) rfl (n := 1) rfl
    refine Sim.mustM fun k7838 => ?_
    obtain ⟨h7838, a7838, c7838, ob7838, blk7838, hv7838, X7838, O7838⟩ := OSl.append O7789 X7836 (j := 2) rfl hw7838 k7838 (ts := #[33, 33]) rfl un_33 (argOk_of ax_33_33) ts_3 rfl rfl tb_3 rfl tz_3 rfl
    refine lheap rfl (h_builtin rfl rfl) hv7838 rfl ?_
    refine lstore rfl ts_33 rfl rfl (j := 6) rfl rfl rfl rfl rfl rfl X7838 (fun h7839 X7840 => ?_)
    refine lend (nblock ?_)
    refine nrnd X7840 (j := 4) rfl (fun h7841 X7842 => ?_)
    refine lpure (v := .bool false) rfl (p_not rfl) rfl rfl ?_
    refine lend (nseq (dcondF rfl rfl (dskip (nblock (nseq (dreg ?_))))))
    refine lpure (v := .int .i64 (w64 (s7788.1 + 1))) rfl (p_add rfl) rfl rfl ?_
    refine lpure (v := .int .i64 (w64 (s7788.1 + 1))) rfl (p_move rfl) rfl rfl ?_
    refine lend ?_
    exact kbackM ih7817 ((w64 (s7788.1 + 1)), (s7788.2 ++ ([e7829.1]))) (a7838, (s7788.2.length + ([e7829.1]).length), c7838, ob7838, blk7838) (sub_cons rfl (sub_cons rfl (sub_cons rfl (sub_cons rfl (sub_cons rfl sub_nil))))) ⟨(St.pick X7842 (.skip _ (.skip _ (.keep _ (.keep _ (.keep _ (.none _ (.skip _ (.keep _ (.keep _ (.keep _ (.keep _ (.refl _))))))))))))), O7838⟩
  refine dexit (eseq (eloop (xblock ?_)))
  refine kin_n res_0 ?_
  refine rend_n X7819 (j := 2) rfl (fun h7843 X7844 => ?_)
  refine nblock (nseq (dseq (dreg ?_)))
  refine lread (v := .slice a7789 n7789 c7789) rfl (q_load wd_33 rfl) (St.ld X7844 (j := 4) rfl rfl) rfl ?_
  refine lpure (v := .slice a7789 n7789 c7789) rfl (p_assign rfl) rfl rfl ?_
  refine lend (nseq (dret ?_))
  refine kin_r (res_1 resT) ?_
  refine lpure (v := .slice a7789 n7789 c7789) rfl (p_assign rfl) rfl rfl ?_
  refine lend (nseq (dret ?_))
  refine kin_r (res_1 resT) ?_
  refine lpure (v := .slice a7789 n7789 c7789) rfl (p_assign rfl) rfl rfl ?_
  refine lend (nseq (dret ?_))
  exact kopen_r (res_1 resT) ⟨φ, a7789, n7789, c7789, ob7789, blk7789, (Fz.le_refl _), St.pick X7844 (.keep _ (.skip _ (.skip _ (.skip _ (.skip _ (.skip _ (.skip _ (.skip _ (.refl _))))))))), rfl, O7789⟩
/-! isochron/route.Nodes -/
theorem f24_ok {n : Nat} {φ : Fz} {lo : Nat} {h : Heap} {own : OwnL}  {a7857 : Option Addr} {n7857 c7857 : Nat} {a7858 : Option Addr} {n7858 c7858 : Nat} {a7860 : Option Addr} {n7860 c7860 : Nat} (X : St φ lo h (own)) (p7856 : ApiTopo) (p7859 : (List Int)) (H7857 : RSl eBool φ (.slice a7857 n7857 c7857) p7856.Station) (H7858 : RSl eApiLink φ (.slice a7858 n7858 c7858) p7856.Links) (H7860 : RSl (eInt .i64) φ (.slice a7860 n7860 c7860) p7859) : Sim ((recN Try.prog LL cutF (n + 16)).call 24 #[(.agg #[.int .i64 p7856.Nodes, .slice a7857 n7857 c7857, .slice a7858 n7858 c7858]), (.slice a7860 n7860 c7860)] h) (m_route_Nodes p7856 p7859) (fun (d : ((List Int) × Int)) p => ∃ φ2 : Fz, ∃ a7891 : Option Addr, ∃ n7891 : Nat, ∃ c7891 : Nat, ∃ ob7891 : Option Nat, ∃ blk7891 : Blk, Fz.le φ φ2 ∧ St φ2 lo p.2 ((ob7891, blk7891) :: own) ∧ p.1 = .tuple #[.slice a7891 n7891 c7891, .int .i64 d.2] ∧ OSl (eInt .i64) φ2 3 ob7891 blk7891 (.slice a7891 n7891 c7891) d.1) := by
  refine fopen Try.func24 rfl rfl rfl rfl ?_
  refine dseq (dreg ?_)
  refine lbox rfl rfl rfl rfl rfl X (fun b7861 h7863 X7864 => ?_)
  refine lbox rfl rfl rfl rfl rfl X7864 (fun b7865 h7867 X7868 => ?_)
  refine lpure (v := .slice none 0 0) rfl (p_assign rfl) rfl rfl ?_
  refine lpure (v := .int .i64 0) rfl (p_assign rfl) rfl rfl ?_
  refine lend (nseq (dseq (dreg ?_)))
  refine lread (v := .agg #[.int .i64 p7856.Nodes, .slice a7857 n7857 c7857, .slice a7858 n7858 c7858]) rfl (q_load wd_29 rfl) (St.ld X7868 (j := 1) rfl rfl) rfl ?_
  refine lread (v := .slice a7860 n7860 c7860) rfl (q_load wd_42 rfl) (St.ld X7868 (j := 0) rfl rfl) rfl ?_
  refine lpure (v := .func (.func 65) #[] #[.pointer (some ⟨b7865, 0, none⟩)]) rfl (p_makeFunc rfl) rfl rfl ?_
  refine linl rfl rfl rfl rfl ca_64 rfl Try.func64 rfl rfl rfl rfl rfl ?_
  refine dseq (dreg ?_)
  refine lbox rfl rfl rfl rfl rfl X7868 (fun b7869 h7871 X7872 => ?_)
  refine lpure (v := .slice none 0 0) rfl (p_assign rfl) rfl rfl ?_
  refine lpure (v := .int .i64 0) rfl (p_assign rfl) rfl rfl ?_
  refine lend (nseq (dseq (dseq (dreg ?_))))
  refine lread (v := .agg #[.int .i64 p7856.Nodes, .slice a7857 n7857 c7857, .slice a7858 n7858 c7858]) rfl (q_load wd_29 rfl) (St.ld X7872 (j := 0) rfl rfl) rfl ?_
  refine lpure (v := .slice a7860 n7860 c7860) rfl (p_move rfl) rfl rfl ?_
  refine lcall rfl rfl ca_18 rfl rfl (f18_ok X7872 p7856 p7859 H7857 H7858 H7860) rfl (fun e7873 v7874 h7875 hq7876 => ?_)
  cases hq7876
  refine lpure (v := .int .i64 e7873) rfl (p_assign rfl) rfl rfl ?_
  refine lend (nseq (dseq (dreg ?_)))
  refine lpure (v := .int .i64 e7873) rfl (p_move rfl) rfl rfl ?_
  refine lpure (v := .bool (decide (e7873 ≠ 0))) rfl (p_ne rfl) rfl rfl ?_
  refine lend (nseq ?_)
  refine dcond rfl rfl (fun k7877 => ?_) (fun k7877 => ?_)
  · refine dseq (dreg ?_)
    refine lpure (v := .slice none 0 0) rfl (p_assign rfl) rfl rfl ?_
    refine lend (nseq (dseq (dreg ?_)))
    refine lpure (v := .slice none 0 0) rfl (p_move rfl) rfl rfl ?_
    refine lpure (v := .int .i64 e7873) rfl (p_move rfl) rfl rfl ?_
    refine lpure (v := .slice none 0 0) rfl (p_assign rfl) rfl rfl ?_
    refine lpure (v := .int .i64 e7873) rfl (p_assign rfl) rfl rfl ?_
    refine lend (nseq (dret (rseq ?_)))
    refine kin_r (res_2 resT resT) ?_
    refine lpure (v := .slice none 0 0) rfl (p_extract rfl) rfl rfl ?_
    refine lpure (v := .int .i64 e7873) rfl (p_extract rfl) rfl rfl ?_
    refine lpure (v := .slice none 0 0) rfl (p_assign rfl) rfl rfl ?_
    refine lpure (v := .int .i64 e7873) rfl (p_assign rfl) rfl rfl ?_
    refine lend (nseq (dret ?_))
    exact kopen_r (res_2 resT resT) ⟨φ, none, 0, 0, none, (.dead), (Fz.le_refl _), St.pick X7872 (.none _ (.skip _ (.skip _ (.skip _ (.refl _))))), rfl, OSl.nil⟩
  refine dskip (nseq (dseq (dreg ?_)))
  refine lpure (v := .func (.func 65) #[] #[.pointer (some ⟨b7865, 0, none⟩)]) rfl (p_move rfl) rfl rfl ?_
  refine lread (v := .agg #[.int .i64 p7856.Nodes, .slice a7857 n7857 c7857, .slice a7858 n7858 c7858]) rfl (q_load wd_29 rfl) (St.ld X7872 (j := 0) rfl rfl) rfl ?_
  refine lpure (v := .agg #[.int .i64 p7856.Nodes, .slice a7857 n7857 c7857, .slice a7858 n7858 c7858]) rfl (p_build rfl) (build_st' tz_87 pl_87 rfl) rfl ?_
  refine linl rfl rfl rfl rfl ca_65 rfl Try.func65 rfl rfl rfl rfl rfl ?_
  refine dseq (dreg ?_)
  refine lbox rfl rfl rfl rfl rfl X7872 (fun b7878 h7880 X7881 => ?_)
  refine lpure (v := .slice none 0 0) rfl (p_assign rfl) rfl rfl ?_
  refine lend (nseq (dseq (dreg ?_)))
  refine lread (v := .agg #[.int .i64 p7856.Nodes, .slice a7857 n7857 c7857, .slice a7858 n7858 c7858]) rfl (q_load wd_87 rfl) (St.ld X7881 (j := 0) rfl rfl) rfl ?_
  refine lread (v := .slice a7860 n7860 c7860) rfl (q_load wd_42 rfl) (St.ld X7881 (j := 2) rfl rfl) rfl ?_
  refine lcall rfl rfl ca_66 rfl rfl (f66_ok X7881 ((RouteWalk.mk p7856)) p7859 H7857 H7858 H7860) rfl ?_
  rintro e7882 _ h7884 ⟨φ7886, a7889, n7889, c7889, ob7889, blk7889, g7887, X7888, rfl, O7889⟩
  refine lpure (v := .slice a7889 n7889 c7889) rfl (p_assign rfl) rfl rfl ?_
  refine lend (nseq (dret ?_))
  refine kin_r (res_1 resT) ?_
  refine lpure (v := .slice a7889 n7889 c7889) rfl (p_assign rfl) rfl rfl ?_
  refine lpure (v := .int .i64 0) rfl (p_assign rfl) rfl rfl ?_
  refine lend (nseq (dret ?_))
  refine kin_r (res_2 resT resT) ?_
  refine lpure (v := .slice a7889 n7889 c7889) rfl (p_extract rfl) rfl rfl ?_
  refine lpure (v := .int .i64 0) rfl (p_extract rfl) rfl rfl ?_
  refine lpure (v := .slice a7889 n7889 c7889) rfl (p_assign rfl) rfl rfl ?_
  refine lpure (v := .int .i64 0) rfl (p_assign rfl) rfl rfl ?_
  refine lend (nseq (dret ?_))
  exact kopen_r (res_2 resT resT) ⟨φ7886, a7889, n7889, c7889, ob7889, blk7889, g7887, St.pick X7888 (.keep _ (.skip _ (.skip _ (.skip _ (.skip _ (.refl _)))))), rfl, O7889⟩
/-! isochron/route.Ends -/
theorem f21_ok {n : Nat} {φ : Fz} {lo : Nat} {h : Heap} {own : OwnL}  {a7917 : Option Addr} {n7917 c7917 : Nat} {a7918 : Option Addr} {n7918 c7918 : Nat} {a7920 : Option Addr} {n7920 c7920 : Nat} (X : St φ lo h (own)) (p7916 : ApiTopo) (p7919 : (List Int)) (H7917 : RSl eBool φ (.slice a7917 n7917 c7917) p7916.Station) (H7918 : RSl eApiLink φ (.slice a7918 n7918 c7918) p7916.Links) (H7920 : RSl (eInt .i64) φ (.slice a7920 n7920 c7920) p7919) : Sim ((recN Try.prog LL cutF (n + 17)).call 21 #[(.agg #[.int .i64 p7916.Nodes, .slice a7917 n7917 c7917, .slice a7918 n7918 c7918]), (.slice a7920 n7920 c7920)] h) (m_route_Ends p7916 p7919) (fun (d : (Int × Int × Int)) p => p = (.tuple #[.int .i64 d.1, .int .i64 d.2.1, .int .i64 d.2.2], h)) := by
  refine fcut Try.func21 rfl rfl rfl rfl X ?_
  intro h0 X0
  refine dseq (dreg ?_)
  refine lbox rfl rfl rfl rfl rfl X0 (fun b7921 h7923 X7924 => ?_)
  refine lpure (v := .int .i64 0) rfl (p_assign rfl) rfl rfl ?_
  refine lpure (v := .int .i64 0) rfl (p_assign rfl) rfl rfl ?_
  refine lpure (v := .int .i64 0) rfl (p_assign rfl) rfl rfl ?_
  refine lend (nseq (dseq (dreg ?_)))
  refine lread (v := .agg #[.int .i64 p7916.Nodes, .slice a7917 n7917 c7917, .slice a7918 n7918 c7918]) rfl (q_load wd_29 rfl) (St.ld X7924 (j := 0) rfl rfl) rfl ?_
  refine lpure (v := .slice a7920 n7920 c7920) rfl (p_move rfl) rfl rfl ?_
  refine lcall rfl rfl ca_24 rfl rfl (f24_ok X7924 p7916 p7919 H7917 H7918 H7920) rfl ?_
  rintro e7925 _ h7927 ⟨φ7929, a7932, n7932, c7932, ob7932, blk7932, g7930, X7931, rfl, O7932⟩
  refine lpure (v := .tuple #[.slice a7932 n7932 c7932, .int .i64 e7925.2]) rfl (p_move rfl) rfl rfl ?_
  refine lpure (v := .slice a7932 n7932 c7932) rfl (p_extract rfl) rfl rfl ?_
  refine lpure (v := .int .i64 e7925.2) rfl (p_extract rfl) rfl rfl ?_
  refine lpure (v := .slice a7932 n7932 c7932) rfl (p_assign rfl) rfl rfl ?_
  refine lpure (v := .int .i64 e7925.2) rfl (p_assign rfl) rfl rfl ?_
  refine lend (nseq (dseq (dseq (dreg ?_))))
  refine lpure (v := .int .i64 e7925.2) rfl (p_move rfl) rfl rfl ?_
  refine lpure (v := .bool (decide (e7925.2 ≠ 0))) rfl (p_ne rfl) rfl rfl ?_
  refine lend (nseq ?_)
  refine dcond rfl rfl (fun k7934 => ?_) (fun k7934 => ?_)
  · refine dseq (dreg ?_)
    refine lpure (v := .int .i64 e7925.2) rfl (p_move rfl) rfl rfl ?_
    refine lpure (v := .int .i64 0) rfl (p_assign rfl) rfl rfl ?_
    refine lpure (v := .int .i64 0) rfl (p_assign rfl) rfl rfl ?_
    refine lpure (v := .int .i64 e7925.2) rfl (p_assign rfl) rfl rfl ?_
    refine lend (nseq (dret (rseq ?_)))
    exact kcut_r (res_3 resT resT resT) X7931 rfl rfl
  refine dskip (nseq (dseq ?_))
  refine ddraw 0 0 32 (by kernel_rfl) ?_
  refine spure (v := .slice a7932 n7932 c7932) rfl (p_move rfl) (lo_t (lo_osl X7931 (j := 0) rfl O7932) rfl) rfl rfl ?_
  refine Sim.bindM fun e7935 he7936 => ?_
  obtain ⟨b7937, vs7937, m7937, off7937, cs7937, rfl, rfl, hp7937, hc7937, hR7937, hl7937, hm7937, hs7937⟩ := OSl.ia O7932 he7936 (kd := .i64) (n := 1) rfl
  have hR7937 : _ = [(.int .i64 e7935 : Value)] := hR7937
  subst hR7937
  refine spure (v := .pointer (some ⟨b7937, off7937, none⟩)) rfl (p_ia rs_33 rfl) (lo_t (lo_osl X7931 (j := 0) rfl O7932) (lo_c rfl)) hp7937 rfl ?_
  refine sload (v := .int .i64 e7935) rfl rfl (q_load wd_3 rfl) (St.ld X7931 (j := 0) rfl (rdE1 hc7937 (k := 0) rfl rfl)) (same_self 20 rfl) rfl ?_
  refine spure (v := .slice a7932 n7932 c7932) rfl (p_move rfl) (lo_t (lo_osl X7931 (j := 0) rfl O7932) rfl) rfl rfl ?_
  refine spure (v := .slice a7932 n7932 c7932) rfl (p_move rfl) (lo_t (lo_osl X7931 (j := 0) rfl O7932) rfl) rfl rfl ?_
  refine spure (v := .int .i64 (e7925.1.length : Int)) rfl (p_len rfl rfl rfl un_33 rfl) (lo_t (lo_osl X7931 (j := 0) rfl O7932) rfl) (OSl.len O7932) rfl ?_
  refine spure (v := .int .i64 (w64 ((e7925.1.length : Int) - 1))) rfl (p_sub rfl) (lo_t rfl (lo_c rfl)) rfl rfl ?_
  refine Sim.bindM fun e7938 he7939 => ?_
  obtain ⟨off7940, cs7940, hp7940, hc7940, hR7940, hl7940, hm7940, hs7940⟩ := OSl.iaC O7932 he7939 (kd := .i64) (n := 1) rfl
  have hR7940 : _ = [(.int .i64 e7938 : Value)] := hR7940
  subst hR7940
  refine spure (v := .pointer (some ⟨b7937, off7940, none⟩)) rfl (p_ia rs_33 rfl) (lo_t (lo_osl X7931 (j := 0) rfl O7932) (lo_t rfl rfl)) hp7940 rfl ?_
  refine sload (v := .int .i64 e7938) rfl rfl (q_load wd_3 rfl) (St.ld X7931 (j := 0) rfl (rdE1 hc7940 (k := 0) rfl rfl)) (same_self 20 rfl) rfl ?_
  refine spure (v := .int .i64 e7935) rfl (p_assign rfl) (lo_t rfl rfl) rfl rfl ?_
  refine spure (v := .int .i64 e7938) rfl (p_assign rfl) (lo_t rfl rfl) rfl rfl ?_
  refine spure (v := .int .i64 0) rfl (p_assign rfl) (lo_c rfl) rfl rfl ?_
  refine send ?_
  refine nseq (dret ?_)
  exact kcut_r (res_3 resT resT resT) X7931 rfl rfl
/-! isochron/route.Delay$1 -/
theorem f55_ok {n : Nat} {φ : Fz} {lo : Nat} {h : Heap} {own : OwnL}  (X : St φ lo h (own)) (p7995 : ApiLink) : Sim ((recN Try.prog LL cutF (n + 1)).call 55 #[(.agg #[.int .i64 p7995.A, .int .i64 p7995.B, .int .i64 p7995.Per, .int .i64 p7995.Delay])] h) (m_route_Delay_1 p7995) (fun (d : Int) p => p = (.int .i64 d, h)) := by
  refine fcut Try.func55 rfl rfl rfl rfl X ?_
  intro h0 X0
  refine dseq (dreg ?_)
  refine lbox rfl rfl rfl rfl rfl X0 (fun b7996 h7998 X7999 => ?_)
  refine lpure (v := .int .i64 0) rfl (p_assign rfl) rfl rfl ?_
  refine lend (nseq (dseq (dreg ?_)))
  refine lpure (v := .pointer (some ⟨b7996, 3, none⟩)) rfl (p_fa fo_75_3 rfl) rfl rfl ?_
  refine lread (v := .int .i64 p7995.Delay) rfl (q_load wd_3 rfl) (St.ld X7999 (j := 0) rfl rfl) rfl ?_
  refine lpure (v := .int .i64 p7995.Delay) rfl (p_assign rfl) rfl rfl ?_
  refine lend (nseq (dret ?_))
  exact kcut_r (res_1 resT) X7999 rfl rfl
/-! isochron/route.Delay -/
theorem f20_ok {n : Nat} {φ : Fz} {lo : Nat} {h : Heap} {own : OwnL}  {a7952 : Option Addr} {n7952 c7952 : Nat} {a7953 : Option Addr} {n7953 c7953 : Nat} {a7955 : Option Addr} {n7955 c7955 : Nat} (X : St φ lo h (own)) (p7951 : ApiTopo) (p7954 : (List Int)) (H7952 : RSl eBool φ (.slice a7952 n7952 c7952) p7951.Station) (H7953 : RSl eApiLink φ (.slice a7953 n7953 c7953) p7951.Links) (H7955 : RSl (eInt .i64) φ (.slice a7955 n7955 c7955) p7954) : Sim ((recN Try.prog LL cutF (n + 16)).call 20 #[(.agg #[.int .i64 p7951.Nodes, .slice a7952 n7952 c7952, .slice a7953 n7953 c7953]), (.slice a7955 n7955 c7955)] h) (m_route_Delay p7951 p7954) (fun (d : (Int × Int)) p => p = (.tuple #[.int .i64 d.1, .int .i64 d.2], h)) := by
  refine fcut Try.func20 rfl rfl rfl rfl X ?_
  intro h0 X0
  refine dseq (dreg ?_)
  refine lbox rfl rfl rfl rfl rfl X0 (fun b7956 h7958 X7959 => ?_)
  refine lpure (v := .int .i64 0) rfl (p_assign rfl) rfl rfl ?_
  refine lpure (v := .int .i64 0) rfl (p_assign rfl) rfl rfl ?_
  refine lend (nseq (dseq (dreg ?_)))
  refine lread (v := .agg #[.int .i64 p7951.Nodes, .slice a7952 n7952 c7952, .slice a7953 n7953 c7953]) rfl (q_load wd_29 rfl) (St.ld X7959 (j := 0) rfl rfl) rfl ?_
  refine lpure (v := .slice a7955 n7955 c7955) rfl (p_move rfl) rfl rfl ?_
  refine linl rfl rfl rfl rfl ca_53 rfl Try.func53 rfl rfl rfl rfl rfl ?_
  refine dseq (dreg ?_)
  refine lbox rfl rfl rfl rfl rfl X7959 (fun b7960 h7962 X7963 => ?_)
  refine lbox rfl rfl rfl rfl rfl X7963 (fun b7964 h7966 X7967 => ?_)
  refine lbox rfl rfl rfl rfl rfl X7967 (fun b7968 h7970 X7971 => ?_)
  refine lpure (v := .int .i64 0) rfl (p_assign rfl) rfl rfl ?_
  refine lpure (v := .int .i64 0) rfl (p_assign rfl) rfl rfl ?_
  refine lend (nseq (dseq (dreg ?_)))
  refine lread (v := .agg #[.int .i64 p7951.Nodes, .slice a7952 n7952 c7952, .slice a7953 n7953 c7953]) rfl (q_load wd_29 rfl) (St.ld X7971 (j := 2) rfl rfl) rfl ?_
  refine lread (v := .slice a7955 n7955 c7955) rfl (q_load wd_42 rfl) (St.ld X7971 (j := 1) rfl rfl) rfl ?_
  refine lpure (v := .func (.func 100) #[] #[.pointer (some ⟨b7964, 0, none⟩), .pointer (some ⟨b7968, 0, none⟩)]) rfl (p_makeFunc rfl) rfl rfl ?_
  refine linl rfl rfl rfl rfl ca_99 rfl Try.func99 rfl rfl rfl rfl rfl ?_
  refine dseq (dreg ?_)
  refine lbox rfl rfl rfl rfl rfl X7971 (fun b7972 h7974 X7975 => ?_)
  refine lpure (v := .int .i64 0) rfl (p_assign rfl) rfl rfl ?_
  refine lpure (v := .int .i64 0) rfl (p_assign rfl) rfl rfl ?_
  refine lend (nseq (dseq (dseq (dreg ?_))))
  refine lread (v := .agg #[.int .i64 p7951.Nodes, .slice a7952 n7952 c7952, .slice a7953 n7953 c7953]) rfl (q_load wd_29 rfl) (St.ld X7975 (j := 0) rfl rfl) rfl ?_
  refine lpure (v := .slice a7955 n7955 c7955) rfl (p_move rfl) rfl rfl ?_
  refine lcall rfl rfl ca_18 rfl rfl (f18_ok X7975 p7951 p7954 H7952 H7953 H7955) rfl (fun e7976 v7977 h7978 hq7979 => ?_)
  cases hq7979
  refine lpure (v := .int .i64 e7976) rfl (p_assign rfl) rfl rfl ?_
  refine lend (nseq (dseq (dreg ?_)))
  refine lpure (v := .int .i64 e7976) rfl (p_move rfl) rfl rfl ?_
  refine lpure (v := .bool (decide (e7976 ≠ 0))) rfl (p_ne rfl) rfl rfl ?_
  refine lend (nseq ?_)
  refine dcond rfl rfl (fun k7980 => ?_) (fun k7980 => ?_)
  · refine dseq (dreg ?_)
    refine lpure (v := .int .i64 0) rfl (p_assign rfl) rfl rfl ?_
    refine lend (nseq (dseq (dreg ?_)))
    refine lpure (v := .int .i64 0) rfl (p_move rfl) rfl rfl ?_
    refine lpure (v := .int .i64 e7976) rfl (p_move rfl) rfl rfl ?_
    refine lpure (v := .int .i64 0) rfl (p_assign rfl) rfl rfl ?_
    refine lpure (v := .int .i64 e7976) rfl (p_assign rfl) rfl rfl ?_
    refine lend (nseq (dret (rseq ?_)))
    refine kin_r (res_2 resT resT) ?_
    refine lpure (v := .int .i64 0) rfl (p_extract rfl) rfl rfl ?_
    refine lpure (v := .int .i64 e7976) rfl (p_extract rfl) rfl rfl ?_
    refine lpure (v := .int .i64 0) rfl (p_assign rfl) rfl rfl ?_
    refine lpure (v := .int .i64 e7976) rfl (p_assign rfl) rfl rfl ?_
    refine lend (nseq (dret ?_))
    refine kin_r (res_2 resT resT) ?_
    refine lpure (v := .int .i64 0) rfl (p_extract rfl) rfl rfl ?_
    refine lpure (v := .int .i64 e7976) rfl (p_extract rfl) rfl rfl ?_
    refine lpure (v := .int .i64 0) rfl (p_assign rfl) rfl rfl ?_
    refine lpure (v := .int .i64 e7976) rfl (p_assign rfl) rfl rfl ?_
    refine lend (nseq (dret ?_))
    exact kcut_r (res_2 resT resT) X7975 rfl rfl
  refine dskip (nseq (dseq (dreg ?_)))
  refine lpure (v := .func (.func 100) #[] #[.pointer (some ⟨b7964, 0, none⟩), .pointer (some ⟨b7968, 0, none⟩)]) rfl (p_move rfl) rfl rfl ?_
  refine lread (v := .agg #[.int .i64 p7951.Nodes, .slice a7952 n7952 c7952, .slice a7953 n7953 c7953]) rfl (q_load wd_29 rfl) (St.ld X7975 (j := 0) rfl rfl) rfl ?_
  refine lpure (v := .agg #[.int .i64 p7951.Nodes, .slice a7952 n7952 c7952, .slice a7953 n7953 c7953]) rfl (p_build rfl) (build_st' tz_87 pl_87 rfl) rfl ?_
  refine linl rfl rfl rfl rfl ca_100 rfl Try.func100 rfl rfl rfl rfl rfl ?_
  refine dseq (dreg ?_)
  refine lbox rfl rfl rfl rfl rfl X7975 (fun b7981 h7983 X7984 => ?_)
  refine lpure (v := .int .i64 0) rfl (p_assign rfl) rfl rfl ?_
  refine lend (nseq (dseq (dreg ?_)))
  refine lpure (v := .int .i64 0) rfl (p_assign rfl) rfl rfl ?_
  refine lend (nseq (dseq (dseq (dreg ?_))))
  refine lread (v := .slice a7955 n7955 c7955) rfl (q_load wd_42 rfl) (St.ld X7984 (j := 3) rfl rfl) rfl ?_
  refine lpure (v := .int .i64 (p7954.length : Int)) rfl (p_len rfl rfl rfl un_42 rfl) (RSl.lenC H7955) rfl ?_
  refine lpure (v := .int .i64 0) rfl (p_move rfl) rfl rfl ?_
  refine lend (nseq (dblock ?_))
  refine dloopM (τ := Int × Int) (σ := Unit) (fun s8018 (_ : Unit) => [(2, .pointer (some ⟨b7968, 0, none⟩)), (3, .pointer (some ⟨b7981, 0, none⟩)), (5, .int .i64 s8018.1), (8, .slice a7955 n7955 c7955), (9, .int .i64 (p7954.length : Int)), (10, .int .i64 s8018.2)]) (fun s8018 (_ : Unit) hh => St φ h.n hh ([(some b7981, .cells [.int .i64 p7951.Nodes, .slice a7952 n7952 c7952, .slice a7953 n7953 c7953] 87 .exact), (some b7972, .cells [.int .i64 p7951.Nodes, .slice a7952 n7952 c7952, .slice a7953 n7953 c7953] 29 .exact), (some b7968, .cells [.func (.func 55) #[] #[]] 90 .exact), (some b7964, .cells [.slice a7955 n7955 c7955] 42 .exact), (some b7960, .cells [.int .i64 p7951.Nodes, .slice a7952 n7952 c7952, .slice a7953 n7953 c7953] 29 .exact), (some b7956, .cells [.int .i64 p7951.Nodes, .slice a7952 n7952 c7952, .slice a7953 n7953 c7953] 29 .exact)])) (0, 0) () (sub_cons rfl (sub_cons rfl (sub_cons rfl (sub_cons rfl (sub_cons rfl (sub_cons rfl sub_nil)))))) X7984 ?_
  rintro n8034 ih8033 s8018 _ t0 h8036 X8035
  refine dseq (dreg ?_)
  refine lpure (v := .bool (decide (s8018.2 < (p7954.length : Int)))) rfl (p_lt rfl) rfl rfl ?_
  refine lend (nseq (dseq ?_))
  refine dcond rfl rfl (fun k8037 => ?_) (fun k8037 => ?_)
  · refine dskip (nseq (dseq (dblock (dseq (dreg ?_)))))
    refine Sim.bindM fun e8038 he8039 => ?_
    obtain ⟨p8040, cs8040, hp8040, hF8040, hR8040⟩ := RSl.ia H7955 he8039 (kd := .i64) (n := 1) rfl
    have hR8040 : _ = [(.int .i64 e8038 : Value)] := hR8040
    subst hR8040
    refine lpure (v := p8040) rfl (p_ia rs_42 rfl) hp8040 rfl ?_
    refine lread (v := .int .i64 e8038) rfl (q_load wd_3 rfl) (FP.ld X8035 hF8040) rfl ?_
    refine lpure (v := .int .i64 e8038) rfl (p_assign rfl) rfl rfl ?_
    refine lend (nseq ?_)
    refine dgo_start (n := 12) rfl (by kernel_rfl) ?_
    refine gpure (v := .int .i64 s8018.1) rfl (p_move rfl) (lo_t rfl rfl) rfl rfl ?_
    refine gload (v := .func (.func 55) #[] #[]) rfl (q_load wd_90 rfl) (St.ld X8035 (j := 2) rfl rfl) rfl ?_
    refine gpure (v := .pointer (some ⟨b7981, 0, none⟩)) rfl (p_fa fo_87_0 rfl) (lo_t (lo_own X8035 (j := 0) (o := 0) (s := none) (f := 0) rfl) rfl) rfl rfl ?_
    refine gpure (v := .pointer (some ⟨b7981, 2, none⟩)) rfl (p_fa fo_29_2 rfl) (lo_t (lo_own X8035 (j := 0) (o := 0) (s := none) (f := 0) rfl) rfl) rfl rfl ?_
    refine gload (v := .slice a7953 n7953 c7953) rfl (q_load wd_27 rfl) (St.ld X8035 (j := 0) rfl rfl) rfl ?_
    refine gpure (v := .int .i64 e8038) rfl (p_move rfl) (lo_t rfl rfl) rfl rfl ?_
    refine gpure (v := .int .i64 (w64 (Int.tdiv e8038 2))) rfl (p_quo rfl) (lo_t rfl (lo_c rfl)) rfl rfl ?_
    refine Sim.bindM fun e8041 he8042 => ?_
    obtain ⟨p8043, cs8043, hp8043, hF8043, hR8043⟩ := RSl.ia H7953 he8042 (kd := .i64) (n := 4) rfl
    obtain rfl := eApiLink_el hR8043
    refine gpure (v := p8043) rfl (p_ia rs_27 rfl) (lo_t (lo_sl X8035 H7953) (lo_t rfl rfl)) hp8043 rfl ?_
    refine gload (v := .agg #[.int .i64 e8041.A, .int .i64 e8041.B, .int .i64 e8041.Per, .int .i64 e8041.Delay]) rfl (q_load wd_75 rfl) (FP.ldw X8035 hF8043 rfl rfl) rfl ?_
    refine gwait rfl (still_act rfl).1 rfl ?_
    refine dgo_skip ?_
    refine dgo_skip ?_
    refine gcallv (m := 11) [false, false, false] (rk_cons (q_load wd_75 rfl) (FP.ldw X8035 hF8043 rfl rfl) (same_self 20 rfl) (rk_cons (q_load wd_27 rfl) (St.ld X8035 (j := 0) rfl rfl) (same_self 20 rfl) (rk_cons (q_load wd_90 rfl) (St.ld X8035 (j := 2) rfl rfl) (same_self 20 rfl) rk_nil))) rfl rfl rfl rfl rfl rfl rfl ca_55 rfl rfl (f55_ok X8035 e8041) rfl (fun e8044 v8045 h8046 hq8047 => ?_)
    cases hq8047
    refine dgo_skip ?_
    refine dgo_skip ?_
    refine dgo_skip ?_
    refine dgo_skip ?_
    refine dgo_skip ?_
    refine dgo_skip ?_
    refine dgo_skip ?_
    refine dgo_skip ?_
    refine dgo_skip ?_
    refine dgo_skip ?_
    refine gpure (v := .int .i64 (w64 (s8018.1 + e8044))) rfl (p_add rfl) (lo_t rfl (lo_t rfl rfl)) rfl rfl ?_
    refine gpure (v := .int .i64 (w64 (s8018.1 + e8044))) rfl (p_assign rfl) (lo_t rfl rfl) rfl rfl ?_
    refine gend rk_nil ?_
    refine nblock (nseq (dreg ?_))
    refine lpure (v := .int .i64 (w64 (s8018.2 + 1))) rfl (p_add rfl) rfl rfl ?_
    refine lpure (v := .int .i64 (w64 (s8018.2 + 1))) rfl (p_move rfl) rfl rfl ?_
    refine lend ?_
    exact kbackM ih8033 ((w64 (s8018.1 + e8044)), (w64 (s8018.2 + 1))) () (sub_cons rfl (sub_cons rfl (sub_cons rfl (sub_cons rfl (sub_cons rfl (sub_cons rfl sub_nil)))))) X8035
  refine dexit (eseq (eloop (xblock (nseq (dseq (dreg ?_))))))
  refine lpure (v := .int .i64 s8018.1) rfl (p_move rfl) rfl rfl ?_
  refine lpure (v := .int .i64 s8018.1) rfl (p_assign rfl) rfl rfl ?_
  refine lend (nseq (dret ?_))
  refine kin_r (res_1 resT) ?_
  refine lpure (v := .int .i64 s8018.1) rfl (p_assign rfl) rfl rfl ?_
  refine lpure (v := .int .i64 0) rfl (p_assign rfl) rfl rfl ?_
  refine lend (nseq (dret ?_))
  refine kin_r (res_2 resT resT) ?_
  refine lpure (v := .int .i64 s8018.1) rfl (p_extract rfl) rfl rfl ?_
  refine lpure (v := .int .i64 0) rfl (p_extract rfl) rfl rfl ?_
  refine lpure (v := .int .i64 s8018.1) rfl (p_assign rfl) rfl rfl ?_
  refine lpure (v := .int .i64 0) rfl (p_assign rfl) rfl rfl ?_
  refine lend (nseq (dret ?_))
  refine kin_r (res_2 resT resT) ?_
  refine lpure (v := .int .i64 s8018.1) rfl (p_extract rfl) rfl rfl ?_
  refine lpure (v := .int .i64 0) rfl (p_extract rfl) rfl rfl ?_
  refine lpure (v := .int .i64 s8018.1) rfl (p_assign rfl) rfl rfl ?_
  refine lpure (v := .int .i64 0) rfl (p_assign rfl) rfl rfl ?_
  refine lend (nseq (dret ?_))
  exact kcut_r (res_2 resT resT) X8035 rfl rfl
end Go.AM
