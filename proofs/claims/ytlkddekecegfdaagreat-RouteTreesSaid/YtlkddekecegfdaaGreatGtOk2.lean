/- Printed: functions of the given program as functions over plain data, and that the machine does what they say; no claim of its own; no condition. -/
import Derived.Test.YtlkddekecegfdaaGreatGtOk1
set_option maxRecDepth 100000
set_option maxHeartbeats 4000000
set_option linter.unusedVariables false
set_option linter.unusedSimpArgs false
namespace Go.AM
open Go Go.Proofs

/-! isochron/route.Time -/
theorem f12_ok {n : Nat} {φ : Fz} {lo : Nat} {h : Heap} {own : OwnL}  {a8055 : Option Addr} {n8055 c8055 : Nat} {a8056 : Option Addr} {n8056 c8056 : Nat} {a8058 : Option Addr} {n8058 c8058 : Nat} (X : St φ lo h (own)) (p8054 : ApiTopo) (p8057 : (List Int)) (p8059 : Int) (H8055 : RSl eBool φ (.slice a8055 n8055 c8055) p8054.Station) (H8056 : RSl eApiLink φ (.slice a8056 n8056 c8056) p8054.Links) (H8058 : RSl (eInt .i64) φ (.slice a8058 n8058 c8058) p8057) : Sim ((recN Tryz.prog LL cutF (n + 16)).call 12 #[(.agg #[.int .i64 p8054.Nodes, .slice a8055 n8055 c8055, .slice a8056 n8056 c8056]), (.slice a8058 n8058 c8058), (.int .i64 p8059)] h) (m_route_Time p8054 p8057 p8059) (fun (d : (Int × Int)) p => p = (.tuple #[.int .i64 d.1, .int .i64 d.2], h)) := by
  refine fcut Tryz.func12 rfl rfl rfl rfl X ?_
  intro h0 X0
  refine dseq (dreg ?_)
  refine lbox rfl rfl rfl rfl rfl X0 (fun b8060 h8062 X8063 => ?_)
  refine lbox rfl rfl rfl rfl rfl X8063 (fun b8064 h8066 X8067 => ?_)
  refine lpure (v := .int .i64 0) rfl (p_assign rfl) rfl rfl ?_
  refine lpure (v := .int .i64 0) rfl (p_assign rfl) rfl rfl ?_
  refine lend (nseq (dseq (dseq (dreg ?_))))
  refine lread (v := .agg #[.int .i64 p8054.Nodes, .slice a8055 n8055 c8055, .slice a8056 n8056 c8056]) rfl (q_load wd_25 rfl) (St.ld X8067 (j := 1) rfl rfl) rfl ?_
  refine lpure (v := .slice a8058 n8058 c8058) rfl (p_move rfl) rfl rfl ?_
  refine lcall rfl rfl ca_15 rfl rfl (f15_ok X8067 p8054 p8057 H8055 H8056 H8058) rfl (fun e8068 v8069 h8070 hq8071 => ?_)
  cases hq8071
  refine lpure (v := .int .i64 e8068) rfl (p_assign rfl) rfl rfl ?_
  refine lend (nseq (dseq (dreg ?_)))
  refine lpure (v := .int .i64 e8068) rfl (p_move rfl) rfl rfl ?_
  refine lpure (v := .bool (decide (e8068 ≠ 0))) rfl (p_ne rfl) rfl rfl ?_
  refine lend (nseq ?_)
  refine dcond rfl rfl (fun k8072 => ?_) (fun k8072 => ?_)
  · refine dseq (dreg ?_)
    refine lpure (v := .int .i64 e8068) rfl (p_move rfl) rfl rfl ?_
    refine lpure (v := .int .i64 0) rfl (p_assign rfl) rfl rfl ?_
    refine lpure (v := .int .i64 e8068) rfl (p_assign rfl) rfl rfl ?_
    refine lend (nseq (dret (rseq ?_)))
    exact kcut_r (res_2 resT resT) X8067 rfl rfl
  refine dskip (nseq (dseq (dseq (dreg ?_))))
  refine lread (v := .int .i64 p8059) rfl (q_load wd_3 rfl) (St.ld X8067 (j := 0) rfl rfl) rfl ?_
  refine lpure (v := .bool (decide (p8059 < 84))) rfl (p_lt rfl) rfl rfl ?_
  refine lpure (v := .bool (decide (p8059 < 84))) rfl (p_move rfl) rfl rfl ?_
  refine lsh (τ := Bool) (σ := Unit) (fun s8074 (_ : Unit) => [(1, .slice a8058 n8058 c8058), (3, .pointer (some ⟨b8060, 0, none⟩)), (5, .pointer (some ⟨b8064, 0, none⟩)), (20, .bool s8074)]) (fun s8074 (_ : Unit) hh => St φ h.n hh ([(some b8064, .cells [.int .i64 p8059] 3 .exact), (some b8060, .cells [.int .i64 p8054.Nodes, .slice a8055 n8055 c8055, .slice a8056 n8056 c8056] 25 .exact)])) 3 ?_ ?_
  · rintro s8074 _ t0 h8076 X8075
    refine lend (nseq ?_)
    refine dcond rfl rfl (fun k8077 => ?_) (fun k8077 => ?_)
    · refine dseq (dreg ?_)
      refine lpure (v := .int .i64 0) rfl (p_assign rfl) rfl rfl ?_
      refine lpure (v := .int .i64 2) rfl (p_assign rfl) rfl rfl ?_
      refine lend (nseq (dret (rseq ?_)))
      exact kcut_r (res_2 resT resT) X8075 rfl rfl
    refine dskip (nseq (dseq (dreg ?_)))
    refine lread (v := .agg #[.int .i64 p8054.Nodes, .slice a8055 n8055 c8055, .slice a8056 n8056 c8056]) rfl (q_load wd_25 rfl) (St.ld X8075 (j := 1) rfl rfl) rfl ?_
    refine lpure (v := .slice a8058 n8058 c8058) rfl (p_move rfl) rfl rfl ?_
    refine lpure (v := .func (.func 33) #[] #[.pointer (some ⟨b8064, 0, none⟩)]) rfl (p_makeFunc rfl) rfl rfl ?_
    refine linl rfl rfl rfl rfl ca_31 rfl Tryz.func31 rfl rfl rfl rfl rfl ?_
    refine dseq (dreg ?_)
    refine lbox rfl rfl rfl rfl rfl X8075 (fun b8078 h8080 X8081 => ?_)
    refine lbox rfl rfl rfl rfl rfl X8081 (fun b8082 h8084 X8085 => ?_)
    refine lbox rfl rfl rfl rfl rfl X8085 (fun b8086 h8088 X8089 => ?_)
    refine lpure (v := .int .i64 0) rfl (p_assign rfl) rfl rfl ?_
    refine lpure (v := .int .i64 0) rfl (p_assign rfl) rfl rfl ?_
    refine lend (nseq (dseq (dreg ?_)))
    refine lread (v := .agg #[.int .i64 p8054.Nodes, .slice a8055 n8055 c8055, .slice a8056 n8056 c8056]) rfl (q_load wd_25 rfl) (St.ld X8089 (j := 2) rfl rfl) rfl ?_
    refine lread (v := .slice a8058 n8058 c8058) rfl (q_load wd_27 rfl) (St.ld X8089 (j := 1) rfl rfl) rfl ?_
    refine lpure (v := .func (.func 61) #[] #[.pointer (some ⟨b8082, 0, none⟩), .pointer (some ⟨b8086, 0, none⟩)]) rfl (p_makeFunc rfl) rfl rfl ?_
    refine linl rfl rfl rfl rfl ca_60 rfl Tryz.func60 rfl rfl rfl rfl rfl ?_
    refine dseq (dreg ?_)
    refine lbox rfl rfl rfl rfl rfl X8089 (fun b8090 h8092 X8093 => ?_)
    refine lpure (v := .int .i64 0) rfl (p_assign rfl) rfl rfl ?_
    refine lpure (v := .int .i64 0) rfl (p_assign rfl) rfl rfl ?_
    refine lend (nseq (dseq (dseq (dreg ?_))))
    refine lread (v := .agg #[.int .i64 p8054.Nodes, .slice a8055 n8055 c8055, .slice a8056 n8056 c8056]) rfl (q_load wd_25 rfl) (St.ld X8093 (j := 0) rfl rfl) rfl ?_
    refine lpure (v := .slice a8058 n8058 c8058) rfl (p_move rfl) rfl rfl ?_
    refine lcall rfl rfl ca_15 rfl rfl (f15_ok X8093 p8054 p8057 H8055 H8056 H8058) rfl (fun e8094 v8095 h8096 hq8097 => ?_)
    cases hq8097
    refine lpure (v := .int .i64 e8094) rfl (p_assign rfl) rfl rfl ?_
    refine lend (nseq (dseq (dreg ?_)))
    refine lpure (v := .int .i64 e8094) rfl (p_move rfl) rfl rfl ?_
    refine lpure (v := .bool (decide (e8094 ≠ 0))) rfl (p_ne rfl) rfl rfl ?_
    refine lend (nseq ?_)
    refine dcond rfl rfl (fun k8098 => ?_) (fun k8098 => ?_)
    · refine dseq (dreg ?_)
      refine lpure (v := .int .i64 0) rfl (p_assign rfl) rfl rfl ?_
      refine lend (nseq (dseq (dreg ?_)))
      refine lpure (v := .int .i64 0) rfl (p_move rfl) rfl rfl ?_
      refine lpure (v := .int .i64 e8094) rfl (p_move rfl) rfl rfl ?_
      refine lpure (v := .int .i64 0) rfl (p_assign rfl) rfl rfl ?_
      refine lpure (v := .int .i64 e8094) rfl (p_assign rfl) rfl rfl ?_
      refine lend (nseq (dret (rseq ?_)))
      refine kin_r (res_2 resT resT) ?_
      refine lpure (v := .int .i64 0) rfl (p_extract rfl) rfl rfl ?_
      refine lpure (v := .int .i64 e8094) rfl (p_extract rfl) rfl rfl ?_
      refine lpure (v := .int .i64 0) rfl (p_assign rfl) rfl rfl ?_
      refine lpure (v := .int .i64 e8094) rfl (p_assign rfl) rfl rfl ?_
      refine lend (nseq (dret ?_))
      refine kin_r (res_2 resT resT) ?_
      refine lpure (v := .int .i64 0) rfl (p_extract rfl) rfl rfl ?_
      refine lpure (v := .int .i64 e8094) rfl (p_extract rfl) rfl rfl ?_
      refine lpure (v := .int .i64 0) rfl (p_assign rfl) rfl rfl ?_
      refine lpure (v := .int .i64 e8094) rfl (p_assign rfl) rfl rfl ?_
      refine lend (nseq (dret ?_))
      exact kcut_r (res_2 resT resT) X8093 rfl rfl
    refine dskip (nseq (dseq (dreg ?_)))
    refine lpure (v := .func (.func 61) #[] #[.pointer (some ⟨b8082, 0, none⟩), .pointer (some ⟨b8086, 0, none⟩)]) rfl (p_move rfl) rfl rfl ?_
    refine lread (v := .agg #[.int .i64 p8054.Nodes, .slice a8055 n8055 c8055, .slice a8056 n8056 c8056]) rfl (q_load wd_25 rfl) (St.ld X8093 (j := 0) rfl rfl) rfl ?_
    refine lpure (v := .agg #[.int .i64 p8054.Nodes, .slice a8055 n8055 c8055, .slice a8056 n8056 c8056]) rfl (p_build rfl) (build_st' tz_60 pl_60 rfl) rfl ?_
    refine linl rfl rfl rfl rfl ca_61 rfl Tryz.func61 rfl rfl rfl rfl rfl ?_
    refine dseq (dreg ?_)
    refine lbox rfl rfl rfl rfl rfl X8093 (fun b8099 h8101 X8102 => ?_)
    refine lpure (v := .int .i64 0) rfl (p_assign rfl) rfl rfl ?_
    refine lend (nseq (dseq (dreg ?_)))
    refine lpure (v := .int .i64 0) rfl (p_assign rfl) rfl rfl ?_
    refine lend (nseq (dseq (dseq (dreg ?_))))
    refine lread (v := .slice a8058 n8058 c8058) rfl (q_load wd_27 rfl) (St.ld X8102 (j := 3) rfl rfl) rfl ?_
    refine lpure (v := .int .i64 (p8057.length : Int)) rfl (p_len rfl rfl rfl un_27 rfl) (RSl.lenC H8058) rfl ?_
    refine lpure (v := .int .i64 0) rfl (p_move rfl) rfl rfl ?_
    refine lend (nseq (dblock ?_))
    refine dloopM (τ := Int × Int) (σ := Unit) (fun s8131 (_ : Unit) => [(2, .pointer (some ⟨b8086, 0, none⟩)), (3, .pointer (some ⟨b8099, 0, none⟩)), (5, .int .i64 s8131.1), (8, .slice a8058 n8058 c8058), (9, .int .i64 (p8057.length : Int)), (10, .int .i64 s8131.2)]) (fun s8131 (_ : Unit) hh => St φ h.n hh ([(some b8099, .cells [.int .i64 p8054.Nodes, .slice a8055 n8055 c8055, .slice a8056 n8056 c8056] 60 .exact), (some b8090, .cells [.int .i64 p8054.Nodes, .slice a8055 n8055 c8055, .slice a8056 n8056 c8056] 25 .exact), (some b8086, .cells [.func (.func 33) #[] #[.pointer (some ⟨b8064, 0, none⟩)]] 66 .exact), (some b8082, .cells [.slice a8058 n8058 c8058] 27 .exact), (some b8078, .cells [.int .i64 p8054.Nodes, .slice a8055 n8055 c8055, .slice a8056 n8056 c8056] 25 .exact), (some b8064, .cells [.int .i64 p8059] 3 .exact), (some b8060, .cells [.int .i64 p8054.Nodes, .slice a8055 n8055 c8055, .slice a8056 n8056 c8056] 25 .exact)])) (0, 0) () (sub_cons rfl (sub_cons rfl (sub_cons rfl (sub_cons rfl (sub_cons rfl (sub_cons rfl sub_nil)))))) X8102 ?_
    rintro n8147 ih8146 s8131 _ t0 h8149 X8148
    refine dseq (dreg ?_)
    refine lpure (v := .bool (decide (s8131.2 < (p8057.length : Int)))) rfl (p_lt rfl) rfl rfl ?_
    refine lend (nseq (dseq ?_))
    refine dcond rfl rfl (fun k8150 => ?_) (fun k8150 => ?_)
    · refine dskip (nseq (dseq (dblock (dseq (dreg ?_)))))
      refine Sim.bindM fun e8151 he8152 => ?_
      obtain ⟨p8153, cs8153, hp8153, hF8153, hR8153⟩ := RSl.ia H8058 he8152 (kd := .i64) (n := 1) rfl
      have hR8153 : _ = [(.int .i64 e8151 : Value)] := hR8153
      subst hR8153
      refine lpure (v := p8153) rfl (p_ia rs_27 rfl) hp8153 rfl ?_
      refine lread (v := .int .i64 e8151) rfl (q_load wd_3 rfl) (FP.ld X8148 hF8153) rfl ?_
      refine lpure (v := .int .i64 e8151) rfl (p_assign rfl) rfl rfl ?_
      refine lend (nseq ?_)
      refine dgo_start (n := 12) rfl (by kernel_rfl) ?_
      refine gpure (v := .int .i64 s8131.1) rfl (p_move rfl) (lo_t rfl rfl) rfl rfl ?_
      refine gload (v := .func (.func 33) #[] #[.pointer (some ⟨b8064, 0, none⟩)]) rfl (q_load wd_66 rfl) (St.ld X8148 (j := 2) rfl rfl) rfl ?_
      refine gpure (v := .pointer (some ⟨b8099, 0, none⟩)) rfl (p_fa fo_60_0 rfl) (lo_t (lo_own X8148 (j := 0) (o := 0) (s := none) (f := 0) rfl) rfl) rfl rfl ?_
      refine gpure (v := .pointer (some ⟨b8099, 2, none⟩)) rfl (p_fa fo_25_2 rfl) (lo_t (lo_own X8148 (j := 0) (o := 0) (s := none) (f := 0) rfl) rfl) rfl rfl ?_
      refine gload (v := .slice a8056 n8056 c8056) rfl (q_load wd_23 rfl) (St.ld X8148 (j := 0) rfl rfl) rfl ?_
      refine gpure (v := .int .i64 e8151) rfl (p_move rfl) (lo_t rfl rfl) rfl rfl ?_
      refine gpure (v := .int .i64 (w64 (Int.tdiv e8151 2))) rfl (p_quo rfl) (lo_t rfl (lo_c rfl)) rfl rfl ?_
      refine Sim.bindM fun e8154 he8155 => ?_
      obtain ⟨p8156, cs8156, hp8156, hF8156, hR8156⟩ := RSl.ia H8056 he8155 (kd := .i64) (n := 4) rfl
      obtain rfl := eApiLink_el hR8156
      refine gpure (v := p8156) rfl (p_ia rs_23 rfl) (lo_t (lo_sl X8148 H8056) (lo_t rfl rfl)) hp8156 rfl ?_
      refine gload (v := .agg #[.int .i64 e8154.A, .int .i64 e8154.B, .int .i64 e8154.Per, .int .i64 e8154.Delay]) rfl (q_load wd_65 rfl) (FP.ldw X8148 hF8156 rfl rfl) rfl ?_
      refine gwait rfl (still_act rfl).1 rfl ?_
      refine dgo_skip ?_
      refine dgo_skip ?_
      refine ginl (m := 11) [false, false, false] (rk_cons (q_load wd_65 rfl) (FP.ldw X8148 hF8156 rfl rfl) (same_self 20 rfl) (rk_cons (q_load wd_23 rfl) (St.ld X8148 (j := 0) rfl rfl) (same_self 20 rfl) (rk_cons (q_load wd_66 rfl) (St.ld X8148 (j := 2) rfl rfl) (same_self 20 rfl) rk_nil))) rfl rfl rfl rfl rfl rfl rfl ca_33 rfl Tryz.func33 rfl rfl rfl rfl rfl ?_
      refine dseq (dreg ?_)
      refine lbox rfl rfl rfl rfl rfl X8148 (fun b8157 h8159 X8160 => ?_)
      refine lpure (v := .int .i64 0) rfl (p_assign rfl) rfl rfl ?_
      refine lend (nseq (dseq (dreg ?_)))
      refine lread (v := .int .i64 p8059) rfl (q_load wd_3 rfl) (St.ld X8160 (j := 6) rfl rfl) rfl ?_
      refine lpure (v := .pointer (some ⟨b8157, 2, none⟩)) rfl (p_fa fo_65_2 rfl) rfl rfl ?_
      refine lread (v := .int .i64 e8154.Per) rfl (q_load wd_3 rfl) (St.ld X8160 (j := 0) rfl rfl) rfl ?_
      refine lpure (v := .int .i64 (w64 (p8059 * e8154.Per))) rfl (p_mul rfl) rfl rfl ?_
      refine lpure (v := .pointer (some ⟨b8157, 3, none⟩)) rfl (p_fa fo_65_3 rfl) rfl rfl ?_
      refine lread (v := .int .i64 e8154.Delay) rfl (q_load wd_3 rfl) (St.ld X8160 (j := 0) rfl rfl) rfl ?_
      refine lpure (v := .int .i64 (w64 ((w64 (p8059 * e8154.Per)) + e8154.Delay))) rfl (p_add rfl) rfl rfl ?_
      refine lpure (v := .int .i64 (w64 ((w64 (p8059 * e8154.Per)) + e8154.Delay))) rfl (p_assign rfl) rfl rfl ?_
      refine lend (nseq (dret ?_))
      refine kin_r (res_1 resT) ?_
      refine dgo_skip ?_
      refine dgo_skip ?_
      refine dgo_skip ?_
      refine dgo_skip ?_
      refine dgo_skip ?_
      refine dgo_skip ?_
      refine dgo_skip ?_
      refine dgo_skip ?_
      refine dgo_skip ?_
      refine dgo_skip ?_
      refine gpure (v := .int .i64 (w64 (s8131.1 + (w64 ((w64 (p8059 * e8154.Per)) + e8154.Delay))))) rfl (p_add rfl) (lo_t rfl (lo_t rfl rfl)) rfl rfl ?_
      refine gpure (v := .int .i64 (w64 (s8131.1 + (w64 ((w64 (p8059 * e8154.Per)) + e8154.Delay))))) rfl (p_assign rfl) (lo_t rfl rfl) rfl rfl ?_
      refine gend rk_nil ?_
      refine nblock (nseq (dreg ?_))
      refine lpure (v := .int .i64 (w64 (s8131.2 + 1))) rfl (p_add rfl) rfl rfl ?_
      refine lpure (v := .int .i64 (w64 (s8131.2 + 1))) rfl (p_move rfl) rfl rfl ?_
      refine lend ?_
      exact kbackM ih8146 ((w64 (s8131.1 + (w64 ((w64 (p8059 * e8154.Per)) + e8154.Delay)))), (w64 (s8131.2 + 1))) () (sub_cons rfl (sub_cons rfl (sub_cons rfl (sub_cons rfl (sub_cons rfl (sub_cons rfl sub_nil)))))) (St.pick X8160 (.skip _ (.keep _ (.keep _ (.keep _ (.keep _ (.keep _ (.keep _ (.keep _ (.nil _))))))))))
    refine dexit (eseq (eloop (xblock (nseq (dseq (dreg ?_))))))
    refine lpure (v := .int .i64 s8131.1) rfl (p_move rfl) rfl rfl ?_
    refine lpure (v := .int .i64 s8131.1) rfl (p_assign rfl) rfl rfl ?_
    refine lend (nseq (dret ?_))
    refine kin_r (res_1 resT) ?_
    refine lpure (v := .int .i64 s8131.1) rfl (p_assign rfl) rfl rfl ?_
    refine lpure (v := .int .i64 0) rfl (p_assign rfl) rfl rfl ?_
    refine lend (nseq (dret ?_))
    refine kin_r (res_2 resT resT) ?_
    refine lpure (v := .int .i64 s8131.1) rfl (p_extract rfl) rfl rfl ?_
    refine lpure (v := .int .i64 0) rfl (p_extract rfl) rfl rfl ?_
    refine lpure (v := .int .i64 s8131.1) rfl (p_assign rfl) rfl rfl ?_
    refine lpure (v := .int .i64 0) rfl (p_assign rfl) rfl rfl ?_
    refine lend (nseq (dret ?_))
    refine kin_r (res_2 resT resT) ?_
    refine lpure (v := .int .i64 s8131.1) rfl (p_extract rfl) rfl rfl ?_
    refine lpure (v := .int .i64 0) rfl (p_extract rfl) rfl rfl ?_
    refine lpure (v := .int .i64 s8131.1) rfl (p_assign rfl) rfl rfl ?_
    refine lpure (v := .int .i64 0) rfl (p_assign rfl) rfl rfl ?_
    refine lend (nseq (dret ?_))
    exact kcut_r (res_2 resT resT) X8148 rfl rfl
  intro j8161 J8162
  refine lcase (i := 17) (show _ = Value.bool (decide (p8059 < 84)) from rfl) (fun k8163 => ?_) (fun k8163 => ?_)
  · refine lskip rfl rfl ?_
    refine lskip rfl rfl ?_
    refine lpure (v := .bool true) rfl (p_pick rfl) rfl rfl ?_
    refine Sim.of_eq (congrArg j8161 (show ((decide (p8059 < 84)) || (decide (1542 < p8059))) = true from by rw [k8163] <;> rfl)) ?_
    exact ljmpM J8162 true () (sub_cons rfl (sub_cons rfl (sub_cons rfl (sub_cons rfl sub_nil)))) X8067
  refine lread (v := .int .i64 p8059) rfl (q_load wd_3 rfl) (St.ld X8067 (j := 0) rfl rfl) rfl ?_
  refine lpure (v := .bool (decide (1542 < p8059))) rfl (p_gt rfl) rfl rfl ?_
  refine lpure (v := .bool (decide (1542 < p8059))) rfl (p_pick rfl) rfl rfl ?_
  refine Sim.of_eq (congrArg j8161 (show ((decide (p8059 < 84)) || (decide (1542 < p8059))) = (decide (1542 < p8059)) from by rw [k8163] <;> rfl)) ?_
  exact ljmpM J8162 (decide (1542 < p8059)) () (sub_cons rfl (sub_cons rfl (sub_cons rfl (sub_cons rfl sub_nil)))) X8067
/-! isochron/route.Back -/
theorem f13_ok {n : Nat} {φ : Fz} {lo : Nat} {h : Heap} {own : OwnL}  {a8301 : Option Addr} {n8301 c8301 : Nat} {a8302 : Option Addr} {n8302 c8302 : Nat} {a8304 : Option Addr} {n8304 c8304 : Nat} (X : St φ lo h (own)) (p8300 : ApiTopo) (p8303 : (List Int)) (H8301 : RSl eBool φ (.slice a8301 n8301 c8301) p8300.Station) (H8302 : RSl eApiLink φ (.slice a8302 n8302 c8302) p8300.Links) (H8304 : RSl (eInt .i64) φ (.slice a8304 n8304 c8304) p8303) : Sim ((recN Tryz.prog LL cutF (n + 15)).call 13 #[(.agg #[.int .i64 p8300.Nodes, .slice a8301 n8301 c8301, .slice a8302 n8302 c8302]), (.slice a8304 n8304 c8304)] h) (m_route_Back p8300 p8303) (fun (d : ((List Int) × Int)) p => ∃ φ2 : Fz, ∃ a8426 : Option Addr, ∃ n8426 : Nat, ∃ c8426 : Nat, ∃ ob8426 : Option Nat, ∃ blk8426 : Blk, Fz.le φ φ2 ∧ St φ2 lo p.2 ((ob8426, blk8426) :: own) ∧ p.1 = .tuple #[.slice a8426 n8426 c8426, .int .i64 d.2] ∧ OSl (eInt .i64) φ2 3 ob8426 blk8426 (.slice a8426 n8426 c8426) d.1) := by
  refine fopen Tryz.func13 rfl rfl rfl rfl ?_
  refine dseq (dreg ?_)
  refine lbox rfl rfl rfl rfl rfl X (fun b8305 h8307 X8308 => ?_)
  refine lbox rfl rfl rfl rfl rfl X8308 (fun b8309 h8311 X8312 => ?_)
  refine lpure (v := .slice none 0 0) rfl (p_assign rfl) rfl rfl ?_
  refine lpure (v := .int .i64 0) rfl (p_assign rfl) rfl rfl ?_
  refine lend (nseq (dseq (dreg ?_)))
  refine lread (v := .agg #[.int .i64 p8300.Nodes, .slice a8301 n8301 c8301, .slice a8302 n8302 c8302]) rfl (q_load wd_25 rfl) (St.ld X8312 (j := 1) rfl rfl) rfl ?_
  refine lread (v := .slice a8304 n8304 c8304) rfl (q_load wd_27 rfl) (St.ld X8312 (j := 0) rfl rfl) rfl ?_
  refine lpure (v := .func (.func 35) #[] #[.pointer (some ⟨b8309, 0, none⟩)]) rfl (p_makeFunc rfl) rfl rfl ?_
  refine linl rfl rfl rfl rfl ca_34 rfl Tryz.func34 rfl rfl rfl rfl rfl ?_
  refine dseq (dreg ?_)
  refine lbox rfl rfl rfl rfl rfl X8312 (fun b8313 h8315 X8316 => ?_)
  refine lpure (v := .slice none 0 0) rfl (p_assign rfl) rfl rfl ?_
  refine lpure (v := .int .i64 0) rfl (p_assign rfl) rfl rfl ?_
  refine lend (nseq (dseq (dseq (dreg ?_))))
  refine lread (v := .agg #[.int .i64 p8300.Nodes, .slice a8301 n8301 c8301, .slice a8302 n8302 c8302]) rfl (q_load wd_25 rfl) (St.ld X8316 (j := 0) rfl rfl) rfl ?_
  refine lpure (v := .slice a8304 n8304 c8304) rfl (p_move rfl) rfl rfl ?_
  refine lcall rfl rfl ca_15 rfl rfl (f15_ok X8316 p8300 p8303 H8301 H8302 H8304) rfl (fun e8317 v8318 h8319 hq8320 => ?_)
  cases hq8320
  refine lpure (v := .int .i64 e8317) rfl (p_assign rfl) rfl rfl ?_
  refine lend (nseq (dseq (dreg ?_)))
  refine lpure (v := .int .i64 e8317) rfl (p_move rfl) rfl rfl ?_
  refine lpure (v := .bool (decide (e8317 ≠ 0))) rfl (p_ne rfl) rfl rfl ?_
  refine lend (nseq ?_)
  refine dcond rfl rfl (fun k8321 => ?_) (fun k8321 => ?_)
  · refine dseq (dreg ?_)
    refine lpure (v := .slice none 0 0) rfl (p_assign rfl) rfl rfl ?_
    refine lend (nseq (dseq (dreg ?_)))
    refine lpure (v := .slice none 0 0) rfl (p_move rfl) rfl rfl ?_
    refine lpure (v := .int .i64 e8317) rfl (p_move rfl) rfl rfl ?_
    refine lpure (v := .slice none 0 0) rfl (p_assign rfl) rfl rfl ?_
    refine lpure (v := .int .i64 e8317) rfl (p_assign rfl) rfl rfl ?_
    refine lend (nseq (dret (rseq ?_)))
    refine kin_r (res_2 resT resT) ?_
    refine lpure (v := .slice none 0 0) rfl (p_extract rfl) rfl rfl ?_
    refine lpure (v := .int .i64 e8317) rfl (p_extract rfl) rfl rfl ?_
    refine lpure (v := .slice none 0 0) rfl (p_assign rfl) rfl rfl ?_
    refine lpure (v := .int .i64 e8317) rfl (p_assign rfl) rfl rfl ?_
    refine lend (nseq (dret ?_))
    exact kopen_r (res_2 resT resT) ⟨φ, none, 0, 0, none, (.dead), (Fz.le_refl _), St.pick X8316 (.none _ (.skip _ (.skip _ (.skip _ (.refl _))))), rfl, OSl.nil⟩
  refine dskip (nseq (dseq (dreg ?_)))
  refine lpure (v := .func (.func 35) #[] #[.pointer (some ⟨b8309, 0, none⟩)]) rfl (p_move rfl) rfl rfl ?_
  refine lread (v := .agg #[.int .i64 p8300.Nodes, .slice a8301 n8301 c8301, .slice a8302 n8302 c8302]) rfl (q_load wd_25 rfl) (St.ld X8316 (j := 0) rfl rfl) rfl ?_
  refine lpure (v := .agg #[.int .i64 p8300.Nodes, .slice a8301 n8301 c8301, .slice a8302 n8302 c8302]) rfl (p_build rfl) (build_st' tz_60 pl_60 rfl) rfl ?_
  refine linl rfl rfl rfl rfl ca_35 rfl Tryz.func35 rfl rfl rfl rfl rfl ?_
  refine dseq (dreg ?_)
  refine lbox rfl rfl rfl rfl rfl X8316 (fun b8322 h8324 X8325 => ?_)
  refine lpure (v := .slice none 0 0) rfl (p_assign rfl) rfl rfl ?_
  refine lend (nseq (dseq (dreg ?_)))
  refine lalloc rfl tz_27 rfl rfl rfl X8325 (fun b8326 h8328 X8329 => ?_)
  refine lend (nseq (dseq (dseq (dreg ?_))))
  refine lread (v := .slice a8304 n8304 c8304) rfl (q_load wd_27 rfl) (St.ld X8329 (j := 3) rfl rfl) rfl ?_
  refine linl rfl rfl rfl rfl ca_36 rfl Tryz.func36 rfl rfl rfl rfl rfl ?_
  refine dseq (dreg ?_)
  refine lbox rfl rfl rfl rfl rfl X8329 (fun b8330 h8332 X8333 => ?_)
  refine lpure (v := .nilFunc) rfl (p_assign rfl) rfl rfl ?_
  refine lend (nseq (dseq (dreg ?_)))
  refine lpure (v := .func (.func 62) #[] #[.pointer (some ⟨b8330, 0, none⟩)]) rfl (p_makeFunc rfl) rfl rfl ?_
  refine lpure (v := .func (.func 62) #[] #[.pointer (some ⟨b8330, 0, none⟩)]) rfl (p_assign rfl) rfl rfl ?_
  refine lend (nseq (dret ?_))
  refine kin_r (res_1 resT) ?_
  refine lend (nseq (dblock ?_))
  refine drange rfl rfl ca_62 Tryz.func62 rfl rfl X8333 (fun _ => rfl) ?_
  intro l8334 q8335 df8336 h8338 Q8337 X8339
  refine dseq (dreg ?_)
  refine lread (v := .slice a8304 n8304 c8304) rfl (q_load wd_27 rfl) (St.ld X8339 (j := 2) rfl rfl) rfl ?_
  refine lpure (v := .int .i64 (p8303.length : Int)) rfl (p_len rfl rfl rfl un_27 rfl) (RSl.lenC H8304) rfl ?_
  refine lpure (v := .int .i64 (w64 ((p8303.length : Int) - 1))) rfl (p_sub rfl) rfl rfl ?_
  refine lpure (v := .int .i64 (w64 ((p8303.length : Int) - 1))) rfl (p_assign rfl) rfl rfl ?_
  refine lend (nseq (dblock ?_))
  refine dloopM (τ := Int × (List Int)) (σ := Option Addr × Nat × Nat × Option Nat × Blk) (fun s8384 (a8386, n8386, c8386, ob8386, blk8386) => [(0, .func (.yield l8334) #[] #[]), (1, .pointer (some ⟨b8330, 0, none⟩)), (3, .int .i64 s8384.1)]) (fun s8384 (a8386, n8386, c8386, ob8386, blk8386) hh => St φ lo hh ((ob8386, blk8386) :: (some l8334, rdy q8335) :: (none, .dead) :: (some b8330, .cells [.slice a8304 n8304 c8304] 27 .exact) :: (some b8326, .cells [.slice a8386 n8386 c8386] 27 .exact) :: (some b8322, .cells [.int .i64 p8300.Nodes, .slice a8301 n8301 c8301, .slice a8302 n8302 c8302] 60 .exact) :: (some b8313, .cells [.int .i64 p8300.Nodes, .slice a8301 n8301 c8301, .slice a8302 n8302 c8302] 25 .exact) :: (some b8309, .cells [.slice a8304 n8304 c8304] 27 .exact) :: (some b8305, .cells [.int .i64 p8300.Nodes, .slice a8301 n8301 c8301, .slice a8302 n8302 c8302] 25 .exact) :: own) ∧ OSl (eInt .i64) φ 3 ob8386 blk8386 (.slice a8386 n8386 c8386) s8384.2) ((w64 ((p8303.length : Int) - 1)), []) (none, 0, 0, none, .dead) (sub_cons rfl (sub_cons rfl (sub_cons rfl sub_nil))) ⟨(St.pick X8339 (.none _ (.keep _ (.none _ (.skip _ (.keep _ (.keep _ (.keep _ (.keep _ (.keep _ (.keep _ (.refl _)))))))))))), OSl.nil⟩ ?_
  rintro n8407 ih8406 s8384 ⟨a8386, n8386, c8386, ob8386, blk8386⟩ t0 h8409 ⟨X8408, O8386⟩
  refine dseq (dseq (dreg ?_))
  refine lpure (v := .int .i64 s8384.1) rfl (p_move rfl) rfl rfl ?_
  refine lpure (v := .bool (decide (0 ≤ s8384.1))) rfl (p_ge rfl) rfl rfl ?_
  refine lend (nseq ?_)
  refine dcond rfl rfl (fun k8410 => ?_) (fun k8410 => ?_)
  · refine dskip (nseq (dseq (dblock (dseq (dreg ?_)))))
    refine lpure (v := .func (.yield l8334) #[] #[]) rfl (p_move rfl) rfl rfl ?_
    refine lpure (v := .int .i64 s8384.1) rfl (p_move rfl) rfl rfl ?_
    refine lread (v := .slice a8304 n8304 c8304) rfl (q_load wd_27 rfl) (St.ld X8408 (j := 3) rfl rfl) rfl ?_
    refine lpure (v := .int .i64 s8384.1) rfl (p_move rfl) rfl rfl ?_
    refine Sim.bindM fun e8411 he8412 => ?_
    obtain ⟨p8413, cs8413, hp8413, hF8413, hR8413⟩ := RSl.ia H8304 he8412 (kd := .i64) (n := 1) rfl
    have hR8413 : _ = [(.int .i64 e8411 : Value)] := hR8413
    subst hR8413
    refine lpure (v := p8413) rfl (p_ia rs_27 rfl) hp8413 rfl ?_
    refine lread (v := .int .i64 e8411) rfl (q_load wd_3 rfl) (FP.ld X8408 hF8413) rfl ?_
    refine lround rfl rfl rfl rfl rfl rfl X8408 (j := 1) rfl Q8337 rfl rfl rfl rfl rfl (fun t8414 => ?_)
    refine dreg ?_
    refine lpure (v := .int .i64 e8411) rfl (p_assign rfl) rfl rfl ?_
    refine lend ?_
    refine basg X8408 (j := 1) rfl (fun h8415 X8416 => ?_)
    refine dblock (dreg ?_)
    refine lread (v := .slice a8386 n8386 c8386) rfl (q_load wd_27 rfl) (St.ld X8416 (j := 4) rfl rfl) rfl ?_
    refine lpure (v := .int .i64 e8411) rfl (p_move rfl) rfl rfl ?_
    refine lpure (v := .int .i64 (bitXor .i64 e8411 1)) rfl (p_bin rfl) bin_xor rfl ?_
    obtain ⟨h8417, b8417, hv8417, X8417, O8417⟩ := OSl.lay (E := (eInt .i64)) (φ := φ) (cs := [.int .i64 (bitXor .i64 e8411 1)]) (l := [(bitXor .i64 e8411 1)]) (len := 1) (parts := [(0, .int .i64 (bitXor .i64 e8411 1))]) un_27 ts_3 rfl rfl rfl tz_3 rfl rfl (show RowD (eInt .i64) φ [.int .i64 (bitXor .i64 e8411 1)] [(bitXor .i64 e8411 1)] from ⟨[.int .i64 (bitXor .i64 e8411 1)], _, rfl, rfl, rfl⟩) rfl rfl X8416
    refine lheap rfl (h_buildSlice rfl) hv8417 rfl ?_
    obtain ⟨ws8419, hw8419⟩ := OSl.read O8417 X8417 (k := 0) rfl (n := 1) rfl
    refine Sim.mustM fun k8419 => ?_
    obtain ⟨h8419, a8419, c8419, ob8419, blk8419, hv8419, X8419, O8419⟩ := OSl.append O8386 X8417 (j := 1) rfl hw8419 k8419 (ts := #[27, 27]) rfl un_27 (argOk_of ax_27_27) ts_3 rfl rfl tb_3 rfl tz_3 rfl
    refine lheap rfl (h_builtin rfl rfl) hv8419 rfl ?_
    refine lstore rfl ts_27 rfl rfl (j := 5) rfl rfl rfl rfl rfl rfl X8419 (fun h8420 X8421 => ?_)
    refine lend (nblock ?_)
    refine nrnd X8421 (j := 2) rfl (fun h8422 X8423 => ?_)
    refine lpure (v := .bool false) rfl (p_not rfl) rfl rfl ?_
    refine lend (nseq (dcondF rfl rfl (dskip (nblock (nseq (dreg ?_))))))
    refine lpure (v := .int .i64 s8384.1) rfl (p_move rfl) rfl rfl ?_
    refine lpure (v := .int .i64 (w64 (s8384.1 - 1))) rfl (p_sub rfl) rfl rfl ?_
    refine lpure (v := .int .i64 (w64 (s8384.1 - 1))) rfl (p_assign rfl) rfl rfl ?_
    refine lend ?_
    exact kbackM ih8406 ((w64 (s8384.1 - 1)), (s8384.2 ++ ([(bitXor .i64 e8411 1)]))) (a8419, (s8384.2.length + ([(bitXor .i64 e8411 1)]).length), c8419, ob8419, blk8419) (sub_cons rfl (sub_cons rfl (sub_cons rfl sub_nil))) ⟨(St.pick X8423 (.skip _ (.keep _ (.keep _ (.none _ (.skip _ (.keep _ (.keep _ (.keep _ (.keep _ (.keep _ (.keep _ (.refl _))))))))))))), O8419⟩
  refine dexit (eseq (eloop (xblock ?_)))
  refine kin_n res_0 ?_
  refine rend_n X8408 (j := 1) rfl (fun h8424 X8425 => ?_)
  refine nblock (nseq (dseq (dreg ?_)))
  refine lread (v := .slice a8386 n8386 c8386) rfl (q_load wd_27 rfl) (St.ld X8425 (j := 4) rfl rfl) rfl ?_
  refine lpure (v := .slice a8386 n8386 c8386) rfl (p_assign rfl) rfl rfl ?_
  refine lend (nseq (dret ?_))
  refine kin_r (res_1 resT) ?_
  refine lpure (v := .slice a8386 n8386 c8386) rfl (p_assign rfl) rfl rfl ?_
  refine lpure (v := .int .i64 0) rfl (p_assign rfl) rfl rfl ?_
  refine lend (nseq (dret ?_))
  refine kin_r (res_2 resT resT) ?_
  refine lpure (v := .slice a8386 n8386 c8386) rfl (p_extract rfl) rfl rfl ?_
  refine lpure (v := .int .i64 0) rfl (p_extract rfl) rfl rfl ?_
  refine lpure (v := .slice a8386 n8386 c8386) rfl (p_assign rfl) rfl rfl ?_
  refine lpure (v := .int .i64 0) rfl (p_assign rfl) rfl rfl ?_
  refine lend (nseq (dret ?_))
  exact kopen_r (res_2 resT resT) ⟨φ, a8386, n8386, c8386, ob8386, blk8386, (Fz.le_refl _), St.pick X8425 (.keep _ (.skip _ (.skip _ (.skip _ (.skip _ (.skip _ (.skip _ (.skip _ (.skip _ (.refl _)))))))))), rfl, O8386⟩
/-! isochron/route.inner -/
theorem f50_ok {n : Nat} {φ : Fz} {lo : Nat} {h : Heap} {own : OwnL}  {a8532 : Option Addr} {n8532 c8532 : Nat} (X : St φ lo h (own)) (p8531 : (List Int)) (H8532 : RSl (eInt .i64) φ (.slice a8532 n8532 c8532) p8531) : Sim ((recN Tryz.prog LL cutF (n + 1)).call 50 #[(.slice a8532 n8532 c8532)] h) (m_route_inner p8531) (fun (d : (List Int)) p => ∃ a8534 : Option Addr, ∃ n8534 : Nat, ∃ c8534 : Nat, p = (.slice a8534 n8534 c8534, h) ∧ RSl (eInt .i64) φ (.slice a8534 n8534 c8534) d) := by
  refine fcut Tryz.func50 rfl rfl rfl rfl X ?_
  intro h0 X0
  refine dseq (dreg ?_)
  refine lpure (v := .slice none 0 0) rfl (p_assign rfl) rfl rfl ?_
  refine lend (nseq (dseq (dreg ?_)))
  refine lpure (v := .slice a8532 n8532 c8532) rfl (p_move rfl) rfl rfl ?_
  refine lpure (v := .slice a8532 n8532 c8532) rfl (p_move rfl) rfl rfl ?_
  refine lpure (v := .int .i64 (p8531.length : Int)) rfl (p_len rfl rfl rfl un_26 rfl) (RSl.lenC H8532) rfl ?_
  refine lpure (v := .int .i64 (w64 ((p8531.length : Int) - 1))) rfl (p_sub rfl) rfl rfl ?_
  refine lpure (v := .slice a8532 n8532 c8532) rfl (p_move rfl) rfl rfl ?_
  refine lpure (v := .int .i64 (p8531.length : Int)) rfl (p_len rfl rfl rfl un_26 rfl) (RSl.lenC H8532) rfl ?_
  refine lpure (v := .int .i64 (w64 ((p8531.length : Int) - 1))) rfl (p_sub rfl) rfl rfl ?_
  refine Sim.mustM fun k8533 => ?_
  have k8533 := of_decide_eq_true k8533
  obtain ⟨a8533, n8533, c8533, hv8533, H8533, K8533⟩ := RSl.slice3 (mx := .int .i64 (w64 ((p8531.length : Int) - 1))) H8532 un_26 ts_3 rfl (bnd_int (show (0 : Int) ≤ 1 from by omega)) ⟨.i64, (w64 ((p8531.length : Int) - 1)), rfl, by omega, rfl⟩ ⟨.i64, (w64 ((p8531.length : Int) - 1)), rfl, by omega, rfl⟩ (by omega) (by omega) (by omega) (by omega) (by unfold unk; omega)
  refine lpure rfl (p_slice3 ⟨_, _, _, rfl⟩ rfl (evo_ok rfl) (evo_ok rfl) rfl) hv8533 rfl ?_
  refine lpure (v := .slice a8533 n8533 c8533) rfl (p_assign rfl) rfl rfl ?_
  refine lend (nseq (dret ?_))
  exact kcut_r (res_1 resT) X0 (lo_slF X.fzlt H8533) ⟨a8533, n8533, c8533, rfl, H8533⟩
/-! isochron/route.meet -/
theorem f49_ok {n : Nat} {φ : Fz} {lo : Nat} {h : Heap} {own : OwnL}  {a8545 : Option Addr} {n8545 c8545 : Nat} {a8547 : Option Addr} {n8547 c8547 : Nat} (X : St φ lo h (own)) (p8544 : (List Int)) (p8546 : (List Int)) (H8545 : RSl (eInt .i64) φ (.slice a8545 n8545 c8545) p8544) (H8547 : RSl (eInt .i64) φ (.slice a8547 n8547 c8547) p8546) : Sim ((recN Tryz.prog LL cutF (n + 6)).call 49 #[(.slice a8545 n8545 c8545), (.slice a8547 n8547 c8547)] h) (m_route_meet p8544 p8546) (fun (d : Bool) p => p = (.bool d, h)) := by
  refine fcut Tryz.func49 rfl rfl rfl rfl X ?_
  intro h0 X0
  refine dseq (dreg ?_)
  refine lbox rfl rfl rfl rfl rfl X0 (fun b8548 h8550 X8551 => ?_)
  refine lpure (v := .bool false) rfl (p_assign rfl) rfl rfl ?_
  refine lend (nseq (dseq (dreg ?_)))
  refine lpure (v := .slice a8545 n8545 c8545) rfl (p_move rfl) rfl rfl ?_
  refine lpure (v := .func (.func 75) #[] #[.pointer (some ⟨b8548, 0, none⟩)]) rfl (p_makeFunc rfl) rfl rfl ?_
  refine linl rfl rfl rfl rfl ca_74 rfl Tryz.func74 rfl rfl rfl rfl rfl ?_
  refine dseq (dreg ?_)
  refine lpure (v := .bool false) rfl (p_assign rfl) rfl rfl ?_
  refine lend (nseq (dseq (dreg ?_)))
  refine lpure (v := .slice a8545 n8545 c8545) rfl (p_move rfl) rfl rfl ?_
  refine lpure (v := .func (.func 75) #[] #[.pointer (some ⟨b8548, 0, none⟩)]) rfl (p_move rfl) rfl rfl ?_
  refine linl rfl rfl rfl rfl ca_95 rfl Tryz.func95 rfl rfl rfl rfl rfl ?_
  refine dseq (dreg ?_)
  refine lpure (v := .int .i64 0) rfl (p_assign rfl) rfl rfl ?_
  refine lend (nseq (dseq (dseq (dreg ?_))))
  refine lpure (v := .slice a8545 n8545 c8545) rfl (p_move rfl) rfl rfl ?_
  refine lpure (v := .int .i64 (p8544.length : Int)) rfl (p_len rfl rfl rfl un_26 rfl) (RSl.lenC H8545) rfl ?_
  refine lpure (v := .int .i64 0) rfl (p_move rfl) rfl rfl ?_
  refine lend (nseq (dblock ?_))
  refine dloopM (τ := Int) (σ := Unit) (fun s8576 (_ : Unit) => [(0, .slice a8545 n8545 c8545), (1, .func (.func 75) #[] #[.pointer (some ⟨b8548, 0, none⟩)]), (7, .int .i64 (p8544.length : Int)), (8, .int .i64 s8576)]) (fun s8576 (_ : Unit) hh => St φ h.n hh ([(some b8548, .cells [.slice a8547 n8547 c8547] 26 .exact)])) 0 () (sub_cons rfl (sub_cons rfl (sub_cons rfl (sub_cons rfl sub_nil)))) X8551 ?_
  rintro n8590 ih8589 s8576 _ t0 h8592 X8591
  refine dseq (dreg ?_)
  refine lpure (v := .bool (decide (s8576 < (p8544.length : Int)))) rfl (p_lt rfl) rfl rfl ?_
  refine lend (nseq (dseq ?_))
  refine dcond rfl rfl (fun k8593 => ?_) (fun k8593 => ?_)
  · refine dskip (nseq (dseq (dblock (dseq (dreg ?_)))))
    refine lpure (v := .int .i64 s8576) rfl (p_move rfl) rfl rfl ?_
    refine lpure (v := .int .i64 s8576) rfl (p_assign rfl) rfl rfl ?_
    refine lend (nseq (dseq (dreg ?_)))
    refine lpure (v := .func (.func 75) #[] #[.pointer (some ⟨b8548, 0, none⟩)]) rfl (p_move rfl) rfl rfl ?_
    refine lpure (v := .slice a8545 n8545 c8545) rfl (p_move rfl) rfl rfl ?_
    refine lpure (v := .int .i64 s8576) rfl (p_move rfl) rfl rfl ?_
    refine Sim.bindM fun e8594 he8595 => ?_
    obtain ⟨p8596, cs8596, hp8596, hF8596, hR8596⟩ := RSl.ia H8545 he8595 (kd := .i64) (n := 1) rfl
    have hR8596 : _ = [(.int .i64 e8594 : Value)] := hR8596
    subst hR8596
    refine lpure (v := p8596) rfl (p_ia rs_26 rfl) hp8596 rfl ?_
    refine lread (v := .int .i64 e8594) rfl (q_load wd_3 rfl) (FP.ld X8591 hF8596) rfl ?_
    refine linl rfl rfl rfl rfl ca_75 rfl Tryz.func75 rfl rfl rfl rfl rfl ?_
    refine dseq (dreg ?_)
    refine lpure (v := .bool false) rfl (p_assign rfl) rfl rfl ?_
    refine lend (nseq (dseq (dreg ?_)))
    refine lread (v := .slice a8547 n8547 c8547) rfl (q_load wd_26 rfl) (St.ld X8591 (j := 0) rfl rfl) rfl ?_
    refine lpure (v := .int .i64 e8594) rfl (p_move rfl) rfl rfl ?_
    refine lcall rfl rfl ca_54 rfl rfl (f54_ok X8591 p8546 e8594 H8547) rfl (fun e8597 v8598 h8599 hq8600 => ?_)
    cases hq8600
    refine lpure (v := .bool e8597) rfl (p_assign rfl) rfl rfl ?_
    refine lend (nseq (dret ?_))
    refine kin_r (res_1 resT) ?_
    refine lend (nseq ?_)
    refine dcond rfl rfl (fun k8601 => ?_) (fun k8601 => ?_)
    · refine dseq (dreg ?_)
      refine lpure (v := .int .i64 s8576) rfl (p_move rfl) rfl rfl ?_
      refine lpure (v := .int .i64 s8576) rfl (p_assign rfl) rfl rfl ?_
      refine lend (nseq (dret (rblock (rseq (rloop (rblock (rseq ?_)))))))
      refine kin_r (res_1 resT) ?_
      refine lpure (v := .bool (decide (0 ≤ s8576))) rfl (p_ge rfl) rfl rfl ?_
      refine lpure (v := .bool (decide (0 ≤ s8576))) rfl (p_assign rfl) rfl rfl ?_
      refine lend (nseq (dret ?_))
      refine kin_r (res_1 resT) ?_
      refine lpure (v := .bool (decide (0 ≤ s8576))) rfl (p_assign rfl) rfl rfl ?_
      refine lend (nseq (dret ?_))
      exact kcut_r (res_1 resT) X8591 rfl rfl
    refine dskip (nblock (nseq (dreg ?_)))
    refine lpure (v := .int .i64 (w64 (s8576 + 1))) rfl (p_add rfl) rfl rfl ?_
    refine lpure (v := .int .i64 (w64 (s8576 + 1))) rfl (p_move rfl) rfl rfl ?_
    refine lend ?_
    exact kbackM ih8589 (w64 (s8576 + 1)) () (sub_cons rfl (sub_cons rfl (sub_cons rfl (sub_cons rfl sub_nil)))) X8591
  refine dexit (eseq (eloop (xblock (nseq (dseq (dreg ?_))))))
  refine lpure (v := .int .i64 (-1)) rfl (p_assign rfl) rfl rfl ?_
  refine lend (nseq (dret ?_))
  refine kin_r (res_1 resT) ?_
  refine lpure (v := .bool false) rfl (p_ge rfl) rfl rfl ?_
  refine lpure (v := .bool false) rfl (p_assign rfl) rfl rfl ?_
  refine lend (nseq (dret ?_))
  refine kin_r (res_1 resT) ?_
  refine lpure (v := .bool false) rfl (p_assign rfl) rfl rfl ?_
  refine lend (nseq (dret ?_))
  exact kcut_r (res_1 resT) X8591 rfl rfl
/-! isochron/route.Apart -/
theorem f22_ok {n : Nat} {φ : Fz} {lo : Nat} {h : Heap} {own : OwnL}  {a8446 : Option Addr} {n8446 c8446 : Nat} {a8447 : Option Addr} {n8447 c8447 : Nat} {a8449 : Option Addr} {n8449 c8449 : Nat} {a8451 : Option Addr} {n8451 c8451 : Nat} (X : St φ lo h (own)) (p8445 : ApiTopo) (p8448 : (List Int)) (p8450 : (List Int)) (H8446 : RSl eBool φ (.slice a8446 n8446 c8446) p8445.Station) (H8447 : RSl eApiLink φ (.slice a8447 n8447 c8447) p8445.Links) (H8449 : RSl (eInt .i64) φ (.slice a8449 n8449 c8449) p8448) (H8451 : RSl (eInt .i64) φ (.slice a8451 n8451 c8451) p8450) : Sim ((recN Tryz.prog LL cutF (n + 17)).call 22 #[(.agg #[.int .i64 p8445.Nodes, .slice a8446 n8446 c8446, .slice a8447 n8447 c8447]), (.slice a8449 n8449 c8449), (.slice a8451 n8451 c8451)] h) (m_route_Apart p8445 p8448 p8450) (fun (d : (Bool × Int)) p => p = (.tuple #[.bool d.1, .int .i64 d.2], h)) := by
  refine fcut Tryz.func22 rfl rfl rfl rfl X ?_
  intro h0 X0
  refine dseq (dreg ?_)
  refine lbox rfl rfl rfl rfl rfl X0 (fun b8452 h8454 X8455 => ?_)
  refine lbox rfl rfl rfl rfl rfl X8455 (fun b8456 h8458 X8459 => ?_)
  refine lpure (v := .bool false) rfl (p_assign rfl) rfl rfl ?_
  refine lpure (v := .int .i64 0) rfl (p_assign rfl) rfl rfl ?_
  refine lend (nseq (dseq (dreg ?_)))
  refine lread (v := .agg #[.int .i64 p8445.Nodes, .slice a8446 n8446 c8446, .slice a8447 n8447 c8447]) rfl (q_load wd_25 rfl) (St.ld X8459 (j := 1) rfl rfl) rfl ?_
  refine lpure (v := .slice a8449 n8449 c8449) rfl (p_move rfl) rfl rfl ?_
  refine lcall rfl rfl ca_9 rfl rfl (f9_ok X8459 p8445 p8448 H8446 H8447 H8449) rfl ?_
  rintro e8460 _ h8462 ⟨φ8464, a8467, n8467, c8467, ob8467, blk8467, g8465, X8466, rfl, O8467⟩
  refine lpure (v := .tuple #[.slice a8467 n8467 c8467, .int .i64 e8460.2]) rfl (p_move rfl) rfl rfl ?_
  refine lpure (v := .slice a8467 n8467 c8467) rfl (p_extract rfl) rfl rfl ?_
  refine lpure (v := .int .i64 e8460.2) rfl (p_extract rfl) rfl rfl ?_
  refine lpure (v := .slice a8467 n8467 c8467) rfl (p_assign rfl) rfl rfl ?_
  refine lpure (v := .int .i64 e8460.2) rfl (p_assign rfl) rfl rfl ?_
  refine lend (nseq (dseq (dseq (dreg ?_))))
  refine lpure (v := .int .i64 e8460.2) rfl (p_move rfl) rfl rfl ?_
  refine lpure (v := .bool (decide (e8460.2 ≠ 0))) rfl (p_ne rfl) rfl rfl ?_
  refine lend (nseq ?_)
  refine dcond rfl rfl (fun k8469 => ?_) (fun k8469 => ?_)
  · refine dseq (dreg ?_)
    refine lpure (v := .int .i64 e8460.2) rfl (p_move rfl) rfl rfl ?_
    refine lpure (v := .bool false) rfl (p_assign rfl) rfl rfl ?_
    refine lpure (v := .int .i64 e8460.2) rfl (p_assign rfl) rfl rfl ?_
    refine lend (nseq (dret (rseq ?_)))
    exact kcut_r (res_2 resT resT) X8466 rfl rfl
  refine dskip (nseq (dseq (dreg ?_)))
  refine lread (v := .agg #[.int .i64 p8445.Nodes, .slice a8446 n8446 c8446, .slice a8447 n8447 c8447]) rfl (q_load wd_25 rfl) (St.ld X8466 (j := 2) rfl rfl) rfl ?_
  refine lread (v := .slice a8451 n8451 c8451) rfl (q_load wd_27 rfl) (St.ld X8466 (j := 1) rfl rfl) rfl ?_
  refine lcall rfl rfl ca_9 rfl rfl (f9_ok X8466 p8445 p8450 (H8446.mono g8465) (H8447.mono g8465) (H8451.mono g8465)) rfl ?_
  rintro e8470 _ h8472 ⟨φ8474, a8477, n8477, c8477, ob8477, blk8477, g8475, X8476, rfl, O8477⟩
  refine lpure (v := .tuple #[.slice a8477 n8477 c8477, .int .i64 e8470.2]) rfl (p_move rfl) rfl rfl ?_
  refine lpure (v := .slice a8477 n8477 c8477) rfl (p_extract rfl) rfl rfl ?_
  refine lpure (v := .int .i64 e8470.2) rfl (p_extract rfl) rfl rfl ?_
  refine lpure (v := .slice a8477 n8477 c8477) rfl (p_assign rfl) rfl rfl ?_
  refine lpure (v := .int .i64 e8470.2) rfl (p_assign rfl) rfl rfl ?_
  refine lend (nseq (dseq (dseq (dreg ?_))))
  refine lpure (v := .int .i64 e8470.2) rfl (p_move rfl) rfl rfl ?_
  refine lpure (v := .bool (decide (e8470.2 ≠ 0))) rfl (p_ne rfl) rfl rfl ?_
  refine lend (nseq ?_)
  refine dcond rfl rfl (fun k8479 => ?_) (fun k8479 => ?_)
  · refine dseq (dreg ?_)
    refine lpure (v := .int .i64 e8470.2) rfl (p_move rfl) rfl rfl ?_
    refine lpure (v := .bool false) rfl (p_assign rfl) rfl rfl ?_
    refine lpure (v := .int .i64 e8470.2) rfl (p_assign rfl) rfl rfl ?_
    refine lend (nseq (dret (rseq ?_)))
    exact kcut_r (res_2 resT resT) X8476 rfl rfl
  refine dskip (nseq (dseq (dreg ?_)))
  refine lpure (v := .slice a8449 n8449 c8449) rfl (p_move rfl) rfl rfl ?_
  refine lpure (v := .func (.func 47) #[] #[.pointer (some ⟨b8456, 0, none⟩)]) rfl (p_makeFunc rfl) rfl rfl ?_
  refine linl rfl rfl rfl rfl ca_46 rfl Tryz.func46 rfl rfl rfl rfl rfl ?_
  refine dseq (dreg ?_)
  refine lpure (v := .bool false) rfl (p_assign rfl) rfl rfl ?_
  refine lend (nseq (dseq (dreg ?_)))
  refine lpure (v := .slice a8449 n8449 c8449) rfl (p_move rfl) rfl rfl ?_
  refine lpure (v := .func (.func 47) #[] #[.pointer (some ⟨b8456, 0, none⟩)]) rfl (p_move rfl) rfl rfl ?_
  refine linl rfl rfl rfl rfl ca_73 rfl Tryz.func73 rfl rfl rfl rfl rfl ?_
  refine dseq (dreg ?_)
  refine lpure (v := .int .i64 0) rfl (p_assign rfl) rfl rfl ?_
  refine lend (nseq (dseq (dseq (dreg ?_))))
  refine lpure (v := .slice a8449 n8449 c8449) rfl (p_move rfl) rfl rfl ?_
  refine lpure (v := .int .i64 (p8448.length : Int)) rfl (p_len rfl rfl rfl un_27 rfl) (RSl.lenC (H8449.mono (g8465.trans g8475))) rfl ?_
  refine lpure (v := .int .i64 0) rfl (p_move rfl) rfl rfl ?_
  refine lend (nseq (dblock ?_))
  refine dloopM (τ := Int) (σ := Unit) (fun s9087 (_ : Unit) => [(0, .slice a8449 n8449 c8449), (1, .func (.func 47) #[] #[.pointer (some ⟨b8456, 0, none⟩)]), (7, .int .i64 (p8448.length : Int)), (8, .int .i64 s9087)]) (fun s9087 (_ : Unit) hh => St φ8474 h.n hh ([(ob8477, blk8477), (ob8467, blk8467), (some b8456, .cells [.slice a8451 n8451 c8451] 27 .exact), (some b8452, .cells [.int .i64 p8445.Nodes, .slice a8446 n8446 c8446, .slice a8447 n8447 c8447] 25 .exact)])) 0 () (sub_cons rfl (sub_cons rfl (sub_cons rfl (sub_cons rfl sub_nil)))) X8476 ?_
  rintro n9530 ih9529 s9087 _ t0 h9532 X9531
  refine dseq (dreg ?_)
  refine lpure (v := .bool (decide (s9087 < (p8448.length : Int)))) rfl (p_lt rfl) rfl rfl ?_
  refine lend (nseq (dseq ?_))
  refine dcond rfl rfl (fun k9533 => ?_) (fun k9533 => ?_)
  · refine dskip (nseq (dseq (dblock (dseq (dreg ?_)))))
    refine lpure (v := .int .i64 s9087) rfl (p_move rfl) rfl rfl ?_
    refine lpure (v := .int .i64 s9087) rfl (p_assign rfl) rfl rfl ?_
    refine lend (nseq (dseq (dreg ?_)))
    refine lpure (v := .func (.func 47) #[] #[.pointer (some ⟨b8456, 0, none⟩)]) rfl (p_move rfl) rfl rfl ?_
    refine lpure (v := .slice a8449 n8449 c8449) rfl (p_move rfl) rfl rfl ?_
    refine lpure (v := .int .i64 s9087) rfl (p_move rfl) rfl rfl ?_
    refine Sim.bindM fun e9534 he9535 => ?_
    obtain ⟨p9536, cs9536, hp9536, hF9536, hR9536⟩ := RSl.ia (H8449.mono (g8465.trans g8475)) he9535 (kd := .i64) (n := 1) rfl
    have hR9536 : _ = [(.int .i64 e9534 : Value)] := hR9536
    subst hR9536
    refine lpure (v := p9536) rfl (p_ia rs_27 rfl) hp9536 rfl ?_
    refine lread (v := .int .i64 e9534) rfl (q_load wd_3 rfl) (FP.ld X9531 hF9536) rfl ?_
    refine linl rfl rfl rfl rfl ca_47 rfl Tryz.func47 rfl rfl rfl rfl rfl ?_
    refine dseq (dreg ?_)
    refine lbox rfl rfl rfl rfl rfl X9531 (fun b9537 h9539 X9540 => ?_)
    refine lpure (v := .bool false) rfl (p_assign rfl) rfl rfl ?_
    refine lend (nseq (dseq (dreg ?_)))
    refine lread (v := .slice a8451 n8451 c8451) rfl (q_load wd_27 rfl) (St.ld X9540 (j := 3) rfl rfl) rfl ?_
    refine lpure (v := .func (.func 48) #[] #[.pointer (some ⟨b9537, 0, none⟩)]) rfl (p_makeFunc rfl) rfl rfl ?_
    refine linl rfl rfl rfl rfl ca_46 rfl Tryz.func46 rfl rfl rfl rfl rfl ?_
    refine dseq (dreg ?_)
    refine lpure (v := .bool false) rfl (p_assign rfl) rfl rfl ?_
    refine lend (nseq (dseq (dreg ?_)))
    refine lpure (v := .slice a8451 n8451 c8451) rfl (p_move rfl) rfl rfl ?_
    refine lpure (v := .func (.func 48) #[] #[.pointer (some ⟨b9537, 0, none⟩)]) rfl (p_move rfl) rfl rfl ?_
    refine linl rfl rfl rfl rfl ca_73 rfl Tryz.func73 rfl rfl rfl rfl rfl ?_
    refine dseq (dreg ?_)
    refine lpure (v := .int .i64 0) rfl (p_assign rfl) rfl rfl ?_
    refine lend (nseq (dseq (dseq (dreg ?_))))
    refine lpure (v := .slice a8451 n8451 c8451) rfl (p_move rfl) rfl rfl ?_
    refine lpure (v := .int .i64 (p8450.length : Int)) rfl (p_len rfl rfl rfl un_27 rfl) (RSl.lenC (H8451.mono (g8465.trans g8475))) rfl ?_
    refine lpure (v := .int .i64 0) rfl (p_move rfl) rfl rfl ?_
    refine lend (nseq (dblock ?_))
    refine dloopM (τ := Int) (σ := Unit) (fun s9728 (_ : Unit) => [(0, .slice a8451 n8451 c8451), (1, .func (.func 48) #[] #[.pointer (some ⟨b9537, 0, none⟩)]), (7, .int .i64 (p8450.length : Int)), (8, .int .i64 s9728)]) (fun s9728 (_ : Unit) hh => St φ8474 h.n hh ([(some b9537, .cells [.int .i64 e9534] 3 .exact), (ob8477, blk8477), (ob8467, blk8467), (some b8456, .cells [.slice a8451 n8451 c8451] 27 .exact), (some b8452, .cells [.int .i64 p8445.Nodes, .slice a8446 n8446 c8446, .slice a8447 n8447 c8447] 25 .exact)])) 0 () (sub_cons rfl (sub_cons rfl (sub_cons rfl (sub_cons rfl sub_nil)))) X9540 ?_
    rintro n9824 ih9823 s9728 _ t0 h9826 X9825
    refine dseq (dreg ?_)
    refine lpure (v := .bool (decide (s9728 < (p8450.length : Int)))) rfl (p_lt rfl) rfl rfl ?_
    refine lend (nseq (dseq ?_))
    refine dcond rfl rfl (fun k9827 => ?_) (fun k9827 => ?_)
    · refine dskip (nseq (dseq (dblock (dseq (dreg ?_)))))
      refine lpure (v := .int .i64 s9728) rfl (p_move rfl) rfl rfl ?_
      refine lpure (v := .int .i64 s9728) rfl (p_assign rfl) rfl rfl ?_
      refine lend (nseq (dseq (dreg ?_)))
      refine lpure (v := .func (.func 48) #[] #[.pointer (some ⟨b9537, 0, none⟩)]) rfl (p_move rfl) rfl rfl ?_
      refine lpure (v := .slice a8451 n8451 c8451) rfl (p_move rfl) rfl rfl ?_
      refine lpure (v := .int .i64 s9728) rfl (p_move rfl) rfl rfl ?_
      refine Sim.bindM fun e9828 he9829 => ?_
      obtain ⟨p9830, cs9830, hp9830, hF9830, hR9830⟩ := RSl.ia (H8451.mono (g8465.trans g8475)) he9829 (kd := .i64) (n := 1) rfl
      have hR9830 : _ = [(.int .i64 e9828 : Value)] := hR9830
      subst hR9830
      refine lpure (v := p9830) rfl (p_ia rs_27 rfl) hp9830 rfl ?_
      refine lread (v := .int .i64 e9828) rfl (q_load wd_3 rfl) (FP.ld X9825 hF9830) rfl ?_
      refine linl rfl rfl rfl rfl ca_48 rfl Tryz.func48 rfl rfl rfl rfl rfl ?_
      refine dseq (dreg ?_)
      refine lpure (v := .bool false) rfl (p_assign rfl) rfl rfl ?_
      refine lend (nseq (dseq (dreg ?_)))
      refine lread (v := .int .i64 e9534) rfl (q_load wd_3 rfl) (St.ld X9825 (j := 0) rfl rfl) rfl ?_
      refine lpure (v := .int .i64 (w64 (Int.tdiv e9534 2))) rfl (p_quo rfl) rfl rfl ?_
      refine lpure (v := .int .i64 e9828) rfl (p_move rfl) rfl rfl ?_
      refine lpure (v := .int .i64 (w64 (Int.tdiv e9828 2))) rfl (p_quo rfl) rfl rfl ?_
      refine lpure (v := .bool (decide ((w64 (Int.tdiv e9534 2)) = (w64 (Int.tdiv e9828 2))))) rfl (p_eq rfl) rfl rfl ?_
      refine lpure (v := .bool (decide ((w64 (Int.tdiv e9534 2)) = (w64 (Int.tdiv e9828 2))))) rfl (p_assign rfl) rfl rfl ?_
      refine lend (nseq (dret ?_))
      refine kin_r (res_1 resT) ?_
      refine lend (nseq ?_)
      refine dcond rfl rfl (fun k9831 => ?_) (fun k9831 => ?_)
      · refine dseq (dreg ?_)
        refine lpure (v := .int .i64 s9728) rfl (p_move rfl) rfl rfl ?_
        refine lpure (v := .int .i64 s9728) rfl (p_assign rfl) rfl rfl ?_
        refine lend (nseq (dret (rblock (rseq (rloop (rblock (rseq ?_)))))))
        refine kin_r (res_1 resT) ?_
        refine lpure (v := .bool (decide (0 ≤ s9728))) rfl (p_ge rfl) rfl rfl ?_
        refine lpure (v := .bool (decide (0 ≤ s9728))) rfl (p_assign rfl) rfl rfl ?_
        refine lend (nseq (dret ?_))
        refine kin_r (res_1 resT) ?_
        refine lpure (v := .bool (decide (0 ≤ s9728))) rfl (p_assign rfl) rfl rfl ?_
        refine lend (nseq (dret ?_))
        refine kin_r (res_1 resT) ?_
        refine lend (nseq ?_)
        refine dcond rfl rfl (fun k9832 => ?_) (fun k9832 => ?_)
        · refine dseq (dreg ?_)
          refine lpure (v := .int .i64 s9087) rfl (p_move rfl) rfl rfl ?_
          refine lpure (v := .int .i64 s9087) rfl (p_assign rfl) rfl rfl ?_
          refine lend (nseq (dret (rblock (rseq (rloop (rblock (rseq ?_)))))))
          refine kin_r (res_1 resT) ?_
          refine lpure (v := .bool (decide (0 ≤ s9087))) rfl (p_ge rfl) rfl rfl ?_
          refine lpure (v := .bool (decide (0 ≤ s9087))) rfl (p_assign rfl) rfl rfl ?_
          refine lend (nseq (dret ?_))
          refine kin_r (res_1 resT) ?_
          refine lpure (v := .bool (decide (0 ≤ s9087))) rfl (p_assign rfl) rfl rfl ?_
          refine lend (nseq (dseq (dreg ?_)))
          refine lpure (v := .bool (decide (0 ≤ s9087))) rfl (p_move rfl) rfl rfl ?_
          refine lpure (v := .bool (!(decide (0 ≤ s9087)))) rfl (p_not rfl) rfl rfl ?_
          refine lpure (v := .bool (!(decide (0 ≤ s9087)))) rfl (p_move rfl) rfl rfl ?_
          refine ljoinM (τ := (List Int) × Bool) (σ := Fz × Option Addr × Nat × Nat) (fun s9852 (φ9854, a9853, n9853, c9853) => [(8, .slice a9853 n9853 c9853), (10, .slice a8477 n8477 c8477), (41, .bool s9852.2)]) (fun s9852 (φ9854, a9853, n9853, c9853) hh => St φ9854 h.n hh ([(some b9537, .cells [.int .i64 e9534] 3 .exact), (ob8477, blk8477), (none, .dead), (some b8456, .cells [.slice a8451 n8451 c8451] 27 .exact), (some b8452, .cells [.int .i64 p8445.Nodes, .slice a8446 n8446 c8446, .slice a8447 n8447 c8447] 25 .exact)]) ∧ Fz.le φ8474 φ9854 ∧ RSl (eInt .i64) φ9854 (.slice a9853 n9853 c9853) s9852.1) 6 ?_ ?_
          · rintro s9852 ⟨φ9854, a9853, n9853, c9853⟩ t0 h9857 ⟨X9856, g9855, H9853⟩
            refine lpure (v := .bool s9852.2) rfl (p_move rfl) rfl rfl ?_
            refine ljoinM (τ := Bool) (σ := Fz) (fun s9873 φ9874 => [(48, .bool s9873)]) (fun s9873 φ9874 hh => St φ9874 h.n hh ([(some b9537, .cells [.int .i64 e9534] 3 .exact), (none, .dead), (none, .dead), (some b8456, .cells [.slice a8451 n8451 c8451] 27 .exact), (some b8452, .cells [.int .i64 p8445.Nodes, .slice a8446 n8446 c8446, .slice a8447 n8447 c8447] 25 .exact)]) ∧ Fz.le φ9854 φ9874) 6 ?_ ?_
            · rintro s9873 φ9874 t0 h9877 ⟨X9876, g9875⟩
              refine lpure (v := .bool s9873) rfl (p_assign rfl) rfl rfl ?_
              refine lpure (v := .int .i64 0) rfl (p_assign rfl) rfl rfl ?_
              refine lend (nseq (dret ?_))
              exact kcut_r (res_2 resT resT) X9876 rfl rfl
            intro j9878 J9879
            refine lif (i := 42) (show _ = Value.bool s9852.2 from rfl) (fun k9880 => ?_) (fun k9880 => ?_)
            · refine lpure (v := .slice a8477 n8477 c8477) rfl (p_move rfl) rfl rfl ?_
              obtain ⟨φ9881, g9882, X9883, H9884⟩ := OSl.freeze X9856 (j := 1) rfl (O8477.mono g9855)
              refine lcall rfl rfl ca_50 rfl rfl (f50_ok X9883 (e8470.1) H9884) rfl ?_
              rintro e9885 _ _ ⟨a9889, n9889, c9889, hq, H9889⟩
              cases hq
              refine lpure (v := .slice a9853 n9853 c9853) rfl (p_move rfl) rfl rfl ?_
              refine lcall rfl rfl ca_49 rfl rfl (f49_ok X9883 e9885 (s9852.1) H9889 (H9853.mono g9882)) rfl (fun e9890 v9891 h9892 hq9893 => ?_)
              cases hq9893
              refine lpure (v := .bool (!e9890)) rfl (p_not rfl) rfl rfl ?_
              refine lpure (v := .bool (!e9890)) rfl (p_pick rfl) rfl rfl ?_
              exact ljmpM J9879 (!e9890) φ9881 (sub_cons rfl sub_nil) ⟨(St.pick X9883 (.keep _ (.none _ (.none _ (.skip _ (.skip _ (.keep _ (.keep _ (.nil _))))))))), g9882⟩
            refine lskip rfl rfl ?_
            refine lskip rfl rfl ?_
            refine lskip rfl rfl ?_
            refine lskip rfl rfl ?_
            refine lskip rfl rfl ?_
            refine lpure (v := .bool false) rfl (p_pick rfl) rfl rfl ?_
            exact ljmpM J9879 false φ9854 (sub_cons rfl sub_nil) ⟨(St.pick X9856 (.keep _ (.none _ (.none _ (.skip _ (.skip _ (.keep _ (.keep _ (.nil _))))))))), (Fz.le_refl _)⟩
          intro j9894 J9895
          refine lif (i := 35) (show _ = Value.bool (!(decide (0 ≤ s9087))) from rfl) (fun k9896 => ?_) (fun k9896 => ?_)
          · refine lpure (v := .slice a8467 n8467 c8467) rfl (p_move rfl) rfl rfl ?_
            obtain ⟨φ9897, g9898, X9899, H9900⟩ := OSl.freeze X9825 (j := 2) rfl (O8467.mono g8475)
            refine lcall rfl rfl ca_50 rfl rfl (f50_ok X9899 (e8460.1) H9900) rfl ?_
            rintro e9901 _ _ ⟨a9905, n9905, c9905, hq, H9905⟩
            cases hq
            refine lpure (v := .slice a8477 n8477 c8477) rfl (p_move rfl) rfl rfl ?_
            obtain ⟨φ9906, g9907, X9908, H9909⟩ := OSl.freeze X9899 (j := 1) rfl (O8477.mono g9898)
            refine lcall rfl rfl ca_49 rfl rfl (f49_ok X9908 e9901 (e8470.1) (H9905.mono g9907) H9909) rfl (fun e9910 v9911 h9912 hq9913 => ?_)
            cases hq9913
            refine lpure (v := .bool (!e9910)) rfl (p_not rfl) rfl rfl ?_
            refine lpure (v := .bool (!e9910)) rfl (p_pick rfl) rfl rfl ?_
            exact ljmpM J9895 (e8460.1, (!e9910)) (φ9897, a8467, n8467, c8467) (sub_cons rfl (sub_cons rfl (sub_cons rfl sub_nil))) ⟨(St.pick X9899 (.keep _ (.keep _ (.none _ (.skip _ (.keep _ (.keep _ (.nil _)))))))), g9898, H9900⟩
          refine lskip rfl rfl ?_
          refine lskip rfl rfl ?_
          refine lskip rfl rfl ?_
          refine lskip rfl rfl ?_
          refine lskip rfl rfl ?_
          refine lpure (v := .bool false) rfl (p_pick rfl) rfl rfl ?_
          obtain ⟨φ9914, g9915, X9916, H9917⟩ := OSl.freeze X9825 (j := 2) rfl (O8467.mono g8475)
          exact ljmpM J9895 (e8460.1, false) (φ9914, a8467, n8467, c8467) (sub_cons rfl (sub_cons rfl (sub_cons rfl sub_nil))) ⟨(St.pick X9916 (.keep _ (.keep _ (.none _ (.skip _ (.keep _ (.keep _ (.nil _)))))))), g9915, H9917⟩
        refine dskip (nblock (nseq (dreg ?_)))
        refine lpure (v := .int .i64 (w64 (s9087 + 1))) rfl (p_add rfl) rfl rfl ?_
        refine lpure (v := .int .i64 (w64 (s9087 + 1))) rfl (p_move rfl) rfl rfl ?_
        refine lend ?_
        exact kbackM ih9529 (w64 (s9087 + 1)) () (sub_cons rfl (sub_cons rfl (sub_cons rfl (sub_cons rfl sub_nil)))) (St.pick X9825 (.skip _ (.keep _ (.keep _ (.keep _ (.keep _ (.nil _)))))))
      refine dskip (nblock (nseq (dreg ?_)))
      refine lpure (v := .int .i64 (w64 (s9728 + 1))) rfl (p_add rfl) rfl rfl ?_
      refine lpure (v := .int .i64 (w64 (s9728 + 1))) rfl (p_move rfl) rfl rfl ?_
      refine lend ?_
      exact kbackM ih9823 (w64 (s9728 + 1)) () (sub_cons rfl (sub_cons rfl (sub_cons rfl (sub_cons rfl sub_nil)))) X9825
    refine dexit (eseq (eloop (xblock (nseq (dseq (dreg ?_))))))
    refine lpure (v := .int .i64 (-1)) rfl (p_assign rfl) rfl rfl ?_
    refine lend (nseq (dret ?_))
    refine kin_r (res_1 resT) ?_
    refine lpure (v := .bool false) rfl (p_ge rfl) rfl rfl ?_
    refine lpure (v := .bool false) rfl (p_assign rfl) rfl rfl ?_
    refine lend (nseq (dret ?_))
    refine kin_r (res_1 resT) ?_
    refine lpure (v := .bool false) rfl (p_assign rfl) rfl rfl ?_
    refine lend (nseq (dret ?_))
    refine kin_r (res_1 resT) ?_
    refine lend (nseq (dcondF rfl rfl (dskip (nblock (nseq (dreg ?_))))))
    refine lpure (v := .int .i64 (w64 (s9087 + 1))) rfl (p_add rfl) rfl rfl ?_
    refine lpure (v := .int .i64 (w64 (s9087 + 1))) rfl (p_move rfl) rfl rfl ?_
    refine lend ?_
    exact kbackM ih9529 (w64 (s9087 + 1)) () (sub_cons rfl (sub_cons rfl (sub_cons rfl (sub_cons rfl sub_nil)))) (St.pick X9825 (.skip _ (.keep _ (.keep _ (.keep _ (.keep _ (.nil _)))))))
  refine dexit (eseq (eloop (xblock (nseq (dseq (dreg ?_))))))
  refine lpure (v := .int .i64 (-1)) rfl (p_assign rfl) rfl rfl ?_
  refine lend (nseq (dret ?_))
  refine kin_r (res_1 resT) ?_
  refine lpure (v := .bool false) rfl (p_ge rfl) rfl rfl ?_
  refine lpure (v := .bool false) rfl (p_assign rfl) rfl rfl ?_
  refine lend (nseq (dret ?_))
  refine kin_r (res_1 resT) ?_
  refine lpure (v := .bool false) rfl (p_assign rfl) rfl rfl ?_
  refine lend (nseq (dseq (dreg ?_)))
  refine lpure (v := .bool false) rfl (p_move rfl) rfl rfl ?_
  refine lpure (v := .bool true) rfl (p_not rfl) rfl rfl ?_
  refine lpure (v := .bool true) rfl (p_move rfl) rfl rfl ?_
  refine lpure (v := .slice a8467 n8467 c8467) rfl (p_move rfl) rfl rfl ?_
  obtain ⟨φ9918, g9919, X9920, H9921⟩ := OSl.freeze X9531 (j := 1) rfl (O8467.mono g8475)
  refine lcall rfl rfl ca_50 rfl rfl (f50_ok X9920 (e8460.1) H9921) rfl ?_
  rintro e9922 _ _ ⟨a9926, n9926, c9926, hq, H9926⟩
  cases hq
  refine lpure (v := .slice a8477 n8477 c8477) rfl (p_move rfl) rfl rfl ?_
  obtain ⟨φ9927, g9928, X9929, H9930⟩ := OSl.freeze X9920 (j := 0) rfl (O8477.mono g9919)
  refine lcall rfl rfl ca_49 rfl rfl (f49_ok X9929 e9922 (e8470.1) (H9926.mono g9928) H9930) rfl (fun e9931 v9932 h9933 hq9934 => ?_)
  cases hq9934
  refine lpure (v := .bool (!e9931)) rfl (p_not rfl) rfl rfl ?_
  refine lpure (v := .bool (!e9931)) rfl (p_pick rfl) rfl rfl ?_
  refine lpure (v := .bool (!e9931)) rfl (p_move rfl) rfl rfl ?_
  refine ljoinM (τ := Bool) (σ := Fz) (fun s9950 φ9951 => [(48, .bool s9950)]) (fun s9950 φ9951 hh => St φ9951 h.n hh ([(none, .dead), (none, .dead), (some b8456, .cells [.slice a8451 n8451 c8451] 27 .exact), (some b8452, .cells [.int .i64 p8445.Nodes, .slice a8446 n8446 c8446, .slice a8447 n8447 c8447] 25 .exact)]) ∧ Fz.le φ9918 φ9951) 6 ?_ ?_
  · rintro s9950 φ9951 t0 h9954 ⟨X9953, g9952⟩
    refine lpure (v := .bool s9950) rfl (p_assign rfl) rfl rfl ?_
    refine lpure (v := .int .i64 0) rfl (p_assign rfl) rfl rfl ?_
    refine lend (nseq (dret ?_))
    exact kcut_r (res_2 resT resT) X9953 rfl rfl
  intro j9955 J9956
  refine lif (i := 42) (show _ = Value.bool (!e9931) from rfl) (fun k9957 => ?_) (fun k9957 => ?_)
  · refine lpure (v := .slice a8477 n8477 c8477) rfl (p_move rfl) rfl rfl ?_
    obtain ⟨φ9958, g9959, X9960, H9961⟩ := OSl.freeze X9920 (j := 0) rfl (O8477.mono g9919)
    refine lcall rfl rfl ca_50 rfl rfl (f50_ok X9960 (e8470.1) H9961) rfl ?_
    rintro e9962 _ _ ⟨a9966, n9966, c9966, hq, H9966⟩
    cases hq
    refine lpure (v := .slice a8467 n8467 c8467) rfl (p_move rfl) rfl rfl ?_
    refine lcall rfl rfl ca_49 rfl rfl (f49_ok X9960 e9962 (e8460.1) H9966 (H9921.mono g9959)) rfl (fun e9967 v9968 h9969 hq9970 => ?_)
    cases hq9970
    refine lpure (v := .bool (!e9967)) rfl (p_not rfl) rfl rfl ?_
    refine lpure (v := .bool (!e9967)) rfl (p_pick rfl) rfl rfl ?_
    exact ljmpM J9956 (!e9967) φ9958 (sub_cons rfl sub_nil) ⟨(St.pick X9960 (.none _ (.none _ (.skip _ (.skip _ (.keep _ (.keep _ (.nil _)))))))), g9959⟩
  refine lskip rfl rfl ?_
  refine lskip rfl rfl ?_
  refine lskip rfl rfl ?_
  refine lskip rfl rfl ?_
  refine lskip rfl rfl ?_
  refine lpure (v := .bool false) rfl (p_pick rfl) rfl rfl ?_
  exact ljmpM J9956 false φ9918 (sub_cons rfl sub_nil) ⟨(St.pick X9920 (.none _ (.none _ (.skip _ (.skip _ (.keep _ (.keep _ (.nil _)))))))), (Fz.le_refl _)⟩
/-! isochron/route.Tree -/
theorem f24_ok {n : Nat} {φ : Fz} {lo : Nat} {h : Heap} {own : OwnL}  {a14275 : Option Addr} {n14275 c14275 : Nat} {a14276 : Option Addr} {n14276 c14276 : Nat} {a14278 : Option Addr} {n14278 c14278 : Nat} (X : St φ lo h (own)) (p14274 : ApiTopo) (p14277 : (List (List Int))) (H14275 : RSl eBool φ (.slice a14275 n14275 c14275) p14274.Station) (H14276 : RSl eApiLink φ (.slice a14276 n14276 c14276) p14274.Links) (H14278 : RSl (eSl (eInt .i64)) φ (.slice a14278 n14278 c14278) p14277) : Sim ((recN Tryz.prog LL cutF (n + 13)).call 24 #[(.agg #[.int .i64 p14274.Nodes, .slice a14275 n14275 c14275, .slice a14276 n14276 c14276]), (.slice a14278 n14278 c14278)] h) (m_route_Tree p14274 p14277) (fun (d : ((List Int) × Bool × Int)) p => ∃ φ2 : Fz, ∃ a18539 : Option Addr, ∃ n18539 : Nat, ∃ c18539 : Nat, ∃ ob18539 : Option Nat, ∃ blk18539 : Blk, Fz.le φ φ2 ∧ St φ2 lo p.2 ((ob18539, blk18539) :: own) ∧ p.1 = .tuple #[.slice a18539 n18539 c18539, .bool d.2.1, .int .i64 d.2.2] ∧ OSl (eInt .i64) φ2 3 ob18539 blk18539 (.slice a18539 n18539 c18539) d.1) := by
  refine fopen Tryz.func24 rfl rfl rfl rfl ?_
  refine dseq (dreg ?_)
  refine lbox rfl rfl rfl rfl rfl X (fun b14279 h14281 X14282 => ?_)
  refine lpure (v := .slice none 0 0) rfl (p_assign rfl) rfl rfl ?_
  refine lpure (v := .bool false) rfl (p_assign rfl) rfl rfl ?_
  refine lpure (v := .int .i64 0) rfl (p_assign rfl) rfl rfl ?_
  refine lend (nseq (dseq (dseq (dreg ?_))))
  refine lread (v := .agg #[.int .i64 p14274.Nodes, .slice a14275 n14275 c14275, .slice a14276 n14276 c14276]) rfl (q_load wd_25 rfl) (St.ld X14282 (j := 0) rfl rfl) rfl ?_
  refine lcall rfl rfl ca_39 rfl rfl (f39_ok X14282 p14274 H14275 H14276) rfl (fun e14283 v14284 h14285 hq14286 => ?_)
  cases hq14286
  refine lpure (v := .int .i64 e14283) rfl (p_assign rfl) rfl rfl ?_
  refine lend (nseq (dseq (dreg ?_)))
  refine lpure (v := .int .i64 e14283) rfl (p_move rfl) rfl rfl ?_
  refine lpure (v := .bool (decide (e14283 ≠ 0))) rfl (p_ne rfl) rfl rfl ?_
  refine lend (nseq ?_)
  refine dcond rfl rfl (fun k14287 => ?_) (fun k14287 => ?_)
  · refine dseq (dreg ?_)
    refine lpure (v := .int .i64 e14283) rfl (p_move rfl) rfl rfl ?_
    refine lpure (v := .slice none 0 0) rfl (p_assign rfl) rfl rfl ?_
    refine lpure (v := .bool false) rfl (p_assign rfl) rfl rfl ?_
    refine lpure (v := .int .i64 e14283) rfl (p_assign rfl) rfl rfl ?_
    refine lend (nseq (dret (rseq ?_)))
    exact kopen_r (res_3 resT resT resT) ⟨φ, none, 0, 0, none, (.dead), (Fz.le_refl _), St.pick X14282 (.none _ (.skip _ (.refl _))), rfl, OSl.nil⟩
  refine dskip (nseq (dseq (dreg ?_)))
  refine lread (v := .agg #[.int .i64 p14274.Nodes, .slice a14275 n14275 c14275, .slice a14276 n14276 c14276]) rfl (q_load wd_25 rfl) (St.ld X14282 (j := 0) rfl rfl) rfl ?_
  refine lpure (v := .agg #[.int .i64 p14274.Nodes, .slice a14275 n14275 c14275, .slice a14276 n14276 c14276]) rfl (p_build rfl) (build_st' tz_60 pl_60 rfl) rfl ?_
  refine lalloc rfl tz_60 rfl rfl rfl X14282 (fun b14288 h14290 X14291 => ?_)
  refine lstore rfl ts_60 rfl rfl (j := 0) rfl rfl rfl rfl rfl rfl X14291 (fun h14292 X14293 => ?_)
  refine lend (nseq (dseq (dreg ?_)))
  refine lpure (v := .slice none 0 0) rfl (p_assign rfl) rfl rfl ?_
  refine lend (nseq (dseq (dseq (dreg ?_))))
  refine lpure (v := .slice a14278 n14278 c14278) rfl (p_move rfl) rfl rfl ?_
  refine lpure (v := .int .i64 (p14277.length : Int)) rfl (p_len rfl rfl rfl un_52 rfl) (RSl.lenC H14278) rfl ?_
  refine lpure (v := .int .i64 0) rfl (p_move rfl) rfl rfl ?_
  refine lend (nseq (dblock ?_))
  refine dloopM (τ := (List Int) × Int) (σ := Option Addr × Nat × Nat × Option Nat × Blk) (fun s16417 (a16419, n16419, c16419, ob16419, blk16419) => [(1, .slice a14278 n14278 c14278), (8, .pointer (some ⟨b14288, 0, none⟩)), (9, .slice a16419 n16419 c16419), (25, .slice a14278 n14278 c14278), (26, .int .i64 (p14277.length : Int)), (27, .int .i64 s16417.2)]) (fun s16417 (a16419, n16419, c16419, ob16419, blk16419) hh => St φ lo hh ((ob16419, blk16419) :: (some b14288, .cells [.int .i64 p14274.Nodes, .slice a14275 n14275 c14275, .slice a14276 n14276 c14276] 60 .exact) :: (some b14279, .cells [.int .i64 p14274.Nodes, .slice a14275 n14275 c14275, .slice a14276 n14276 c14276] 25 .exact) :: own) ∧ OSl (eInt .i64) φ 3 ob16419 blk16419 (.slice a16419 n16419 c16419) s16417.1) ([], 0) (none, 0, 0, none, .dead) (sub_cons rfl (sub_cons rfl (sub_cons rfl (sub_cons rfl (sub_cons rfl (sub_cons rfl sub_nil)))))) ⟨(St.pick X14293 (.none _ (.keep _ (.keep _ (.refl _))))), OSl.nil⟩ ?_
  rintro n17480 ih17479 s16417 ⟨a16419, n16419, c16419, ob16419, blk16419⟩ t0 h17482 ⟨X17481, O16419⟩
  refine dseq (dreg ?_)
  refine lpure (v := .bool (decide (s16417.2 < (p14277.length : Int)))) rfl (p_lt rfl) rfl rfl ?_
  refine lend (nseq (dseq ?_))
  refine dcond rfl rfl (fun k17483 => ?_) (fun k17483 => ?_)
  · refine dskip (nseq (dseq (dblock (dseq (dreg ?_)))))
    refine Sim.bindM fun e17484 he17485 => ?_
    obtain ⟨p17487, cs17487, hp17487, hF17487, hR17487⟩ := RSl.ia H14278 he17485 (kd := .i64) (n := 1) rfl
    obtain ⟨a17486, n17486, c17486, rfl, H17486⟩ := hR17487
    refine lpure (v := p17487) rfl (p_ia rs_52 rfl) hp17487 rfl ?_
    refine lread (v := .slice a17486 n17486 c17486) rfl (q_load wd_27 rfl) (FP.ld X17481 hF17487) rfl ?_
    refine lpure (v := .slice a17486 n17486 c17486) rfl (p_assign rfl) rfl rfl ?_
    refine lend (nseq (dseq (dseq (dreg ?_))))
    refine lread (v := .agg #[.int .i64 p14274.Nodes, .slice a14275 n14275 c14275, .slice a14276 n14276 c14276]) rfl (q_load wd_60 rfl) (St.ld X17481 (j := 1) rfl rfl) rfl ?_
    refine lpure (v := .slice a17486 n17486 c17486) rfl (p_move rfl) rfl rfl ?_
    refine lcall rfl rfl ca_40 rfl rfl (f40_ok X17481 ((RouteWalk.mk p14274)) e17484 H14275 H14276 H17486) rfl (fun e17488 v17489 h17490 hq17491 => ?_)
    cases hq17491
    refine lpure (v := .bool (!e17488)) rfl (p_not rfl) rfl rfl ?_
    refine lend (nseq ?_)
    refine dcond rfl rfl (fun k17492 => ?_) (fun k17492 => ?_)
    · refine dseq (dreg ?_)
      refine lpure (v := .slice none 0 0) rfl (p_assign rfl) rfl rfl ?_
      refine lpure (v := .bool false) rfl (p_assign rfl) rfl rfl ?_
      refine lpure (v := .int .i64 310) rfl (p_assign rfl) rfl rfl ?_
      refine lend (nseq (dret (rseq (rblock (rseq (rloop (rblock (rseq ?_))))))))
      exact kopen_r (res_3 resT resT resT) ⟨φ, none, 0, 0, none, (.dead), (Fz.le_refl _), St.pick X17481 (.none _ (.skip _ (.skip _ (.skip _ (.refl _))))), rfl, OSl.nil⟩
    refine dskip (nseq (dreg ?_))
    refine lpure (v := .slice a16419 n16419 c16419) rfl (p_move rfl) rfl rfl ?_
    refine lpure (v := .slice a17486 n17486 c17486) rfl (p_move rfl) rfl rfl ?_
    obtain ⟨ws17493, hw17493⟩ := RSl.read H17486 X17481 (n := 1) rfl
    refine Sim.mustM fun k17493 => ?_
    obtain ⟨h17493, a17493, c17493, ob17493, blk17493, hv17493, X17493, O17493⟩ := OSl.append O16419 X17481 (j := 0) rfl hw17493 k17493 (ts := #[26, 27]) rfl un_26 (argOk_of ax_26_27) ts_3 rfl rfl tb_3 rfl tz_3 rfl
    refine lheap rfl (h_builtin rfl rfl) hv17493 rfl ?_
    refine lpure (v := .slice a17493 (s16417.1.length + e17484.length) c17493) rfl (p_assign rfl) rfl rfl ?_
    refine lend (nblock (nseq (dreg ?_)))
    refine lpure (v := .int .i64 (w64 (s16417.2 + 1))) rfl (p_add rfl) rfl rfl ?_
    refine lpure (v := .int .i64 (w64 (s16417.2 + 1))) rfl (p_move rfl) rfl rfl ?_
    refine lend ?_
    exact kbackM ih17479 ((s16417.1 ++ e17484), (w64 (s16417.2 + 1))) (a17493, (s16417.1.length + e17484.length), c17493, ob17493, blk17493) (sub_cons rfl (sub_cons rfl (sub_cons rfl (sub_cons rfl (sub_cons rfl (sub_cons rfl sub_nil)))))) ⟨X17493, O17493⟩
  refine dexit (eseq (eloop (xblock (nseq (dseq (dreg ?_))))))
  refine lpure (v := .slice a16419 n16419 c16419) rfl (p_move rfl) rfl rfl ?_
  refine lcall rfl rfl ca_52 rfl rfl (sort_ok (f := 52) rfl X17481 (s16417.1) O16419) rfl ?_
  rintro e17494 _ h17496 ⟨φ17498, blk17501, g17499, X17500, rfl, O17501⟩
  refine lend (nseq (dseq (dreg ?_)))
  refine lpure (v := .slice a16419 n16419 c16419) rfl (p_move rfl) rfl rfl ?_
  refine lcall rfl rfl ca_53 rfl rfl (compact_ok (f := 53) rfl X17500 e17494 O17501) rfl ?_
  rintro e17502 _ h17504 ⟨φ17506, a17509, n17509, c17509, ob17509, blk17509, g17507, X17508, rfl, O17509⟩
  refine lpure (v := .slice a17509 n17509 c17509) rfl (p_assign rfl) rfl rfl ?_
  refine lend (nseq (dseq (dreg ?_)))
  refine lpure (v := .bool true) rfl (p_assign rfl) rfl rfl ?_
  refine lend (nseq (dseq (dreg ?_)))
  refine lpure (v := .slice none 0 0) rfl (p_assign rfl) rfl rfl ?_
  refine lend (nseq (dseq (dseq (dreg ?_))))
  refine lpure (v := .slice a17509 n17509 c17509) rfl (p_move rfl) rfl rfl ?_
  refine lpure (v := .int .i64 (e17502.length : Int)) rfl (p_len rfl rfl rfl un_26 rfl) (OSl.len O17509) rfl ?_
  refine lpure (v := .int .i64 0) rfl (p_move rfl) rfl rfl ?_
  refine lend (nseq (dblock ?_))
  refine dloopM (τ := (List Int) × Bool × (List Int) × Int) (σ := Blk × Option Addr × Nat × Nat × Option Nat × Blk) (fun s17998 (blk17999, a18001, n18001, c18001, ob18001, blk18001) => [(1, .slice a14278 n14278 c14278), (8, .pointer (some ⟨b14288, 0, none⟩)), (9, .slice a17509 n17509 c17509), (12, .bool s17998.2.1), (13, .slice a18001 n18001 c18001), (43, .slice a17509 n17509 c17509), (44, .int .i64 (e17502.length : Int)), (45, .int .i64 s17998.2.2.2)]) (fun s17998 (blk17999, a18001, n18001, c18001, ob18001, blk18001) hh => St φ17506 lo hh ((ob18001, blk18001) :: (ob17509, blk17999) :: (some b14288, .cells [.int .i64 p14274.Nodes, .slice a14275 n14275 c14275, .slice a14276 n14276 c14276] 60 .exact) :: (some b14279, .cells [.int .i64 p14274.Nodes, .slice a14275 n14275 c14275, .slice a14276 n14276 c14276] 25 .exact) :: own) ∧ OSl (eInt .i64) φ17506 3 ob17509 blk17999 (.slice a17509 n17509 c17509) s17998.1 ∧ OSl (eInt .i64) φ17506 3 ob18001 blk18001 (.slice a18001 n18001 c18001) s17998.2.2.1) (e17502, true, [], 0) (blk17509, none, 0, 0, none, .dead) (sub_cons rfl (sub_cons rfl (sub_cons rfl (sub_cons rfl (sub_cons rfl (sub_cons rfl (sub_cons rfl (sub_cons rfl sub_nil)))))))) ⟨(St.pick X17508 (.none _ (.keep _ (.keep _ (.keep _ (.refl _)))))), O17509, OSl.nil⟩ ?_
  rintro n18271 ih18270 s17998 ⟨blk17999, a18001, n18001, c18001, ob18001, blk18001⟩ t0 h18273 ⟨X18272, O17999, O18001⟩
  refine dseq (dreg ?_)
  refine lpure (v := .bool (decide (s17998.2.2.2 < (e17502.length : Int)))) rfl (p_lt rfl) rfl rfl ?_
  refine lend (nseq (dseq ?_))
  refine dcond rfl rfl (fun k18274 => ?_) (fun k18274 => ?_)
  · refine dskip (nseq (dseq (dblock (dseq (dreg ?_)))))
    refine Sim.bindM fun e18275 he18276 => ?_
    obtain ⟨b18277, vs18277, m18277, off18277, cs18277, rfl, rfl, hp18277, hc18277, hR18277, hl18277, hm18277, hs18277⟩ := OSl.ia O17999 he18276 (kd := .i64) (n := 1) rfl
    have hR18277 : _ = [(.int .i64 e18275 : Value)] := hR18277
    subst hR18277
    refine lpure (v := .pointer (some ⟨b18277, off18277, none⟩)) rfl (p_ia rs_26 rfl) hp18277 rfl ?_
    refine lread (v := .int .i64 e18275) rfl (q_load wd_3 rfl) (St.ld X18272 (j := 1) rfl (rdE1 hc18277 (k := 0) rfl rfl)) rfl ?_
    refine lpure (v := .int .i64 e18275) rfl (p_assign rfl) rfl rfl ?_
    refine lend (nseq (dseq (dreg ?_)))
    refine lpure (v := .bool s17998.2.1) rfl (p_move rfl) rfl rfl ?_
    refine lpure (v := .bool s17998.2.1) rfl (p_move rfl) rfl rfl ?_
    refine ljoinM (τ := Bool) (σ := Unit) (fun s18296 (_ : Unit) => [(1, .slice a14278 n14278 c14278), (8, .pointer (some ⟨b14288, 0, none⟩)), (9, .slice a17509 n17509 c17509), (13, .slice a18001 n18001 c18001), (15, .int .i64 e18275), (43, .slice a17509 n17509 c17509), (44, .int .i64 (e17502.length : Int)), (45, .int .i64 s17998.2.2.2), (57, .bool s18296)]) (fun s18296 (_ : Unit) hh => St φ17506 lo hh ((ob18001, blk18001) :: (some b18277, .cells vs18277 3 m18277) :: (some b14288, .cells [.int .i64 p14274.Nodes, .slice a14275 n14275 c14275, .slice a14276 n14276 c14276] 60 .exact) :: (some b14279, .cells [.int .i64 p14274.Nodes, .slice a14275 n14275 c14275, .slice a14276 n14276 c14276] 25 .exact) :: own)) 7 ?_ ?_
    · rintro s18296 _ t0 h18298 X18297
      refine lpure (v := .bool s18296) rfl (p_assign rfl) rfl rfl ?_
      refine lend (nseq (dreg ?_))
      refine lpure (v := .slice a18001 n18001 c18001) rfl (p_move rfl) rfl rfl ?_
      refine lread (v := .agg #[.int .i64 p14274.Nodes, .slice a14275 n14275 c14275, .slice a14276 n14276 c14276]) rfl (q_load wd_60 rfl) (St.ld X18297 (j := 2) rfl rfl) rfl ?_
      refine lpure (v := .int .i64 e18275) rfl (p_move rfl) rfl rfl ?_
      refine linl rfl rfl rfl rfl ca_55 rfl Tryz.func55 rfl rfl rfl rfl rfl ?_
      refine dseq (dreg ?_)
      refine lbox rfl rfl rfl rfl rfl X18297 (fun b18299 h18301 X18302 => ?_)
      refine lpure (v := .int .i64 0) rfl (p_assign rfl) rfl rfl ?_
      refine lend (nseq (dseq (dreg ?_)))
      refine lpure (v := .pointer (some ⟨b18299, 0, none⟩)) rfl (p_fa fo_60_0 rfl) rfl rfl ?_
      refine lread (v := .agg #[.int .i64 p14274.Nodes, .slice a14275 n14275 c14275, .slice a14276 n14276 c14276]) rfl (q_load wd_25 rfl) (St.ld X18302 (j := 0) rfl rfl) rfl ?_
      refine lpure (v := .int .i64 e18275) rfl (p_move rfl) rfl rfl ?_
      refine lcall rfl rfl ca_79 rfl rfl (f79_ok X18302 p14274 e18275 (H14275.mono (g17499.trans g17507)) (H14276.mono (g17499.trans g17507))) rfl (fun e18303 v18304 h18305 hq18306 => ?_)
      cases hq18306
      refine lpure (v := .tuple #[.int .i64 e18303.1, .int .i64 e18303.2]) rfl (p_move rfl) rfl rfl ?_
      refine lpure (v := .int .i64 e18303.1) rfl (p_extract rfl) rfl rfl ?_
      refine lpure (v := .int .i64 e18303.2) rfl (p_extract rfl) rfl rfl ?_
      refine lpure (v := .int .i64 e18303.1) rfl (p_assign rfl) rfl rfl ?_
      refine lpure (v := .int .i64 e18303.2) rfl (p_assign rfl) rfl rfl ?_
      refine lend (nseq (dseq (dreg ?_)))
      refine lpure (v := .int .i64 e18303.1) rfl (p_move rfl) rfl rfl ?_
      refine lpure (v := .int .i64 e18303.1) rfl (p_assign rfl) rfl rfl ?_
      refine lend (nseq (dret ?_))
      refine kin_r (res_1 resT) ?_
      obtain ⟨h18307, b18307, hv18307, X18307, O18307⟩ := OSl.lay (E := (eInt .i64)) (φ := φ17506) (cs := [.int .i64 e18303.1]) (l := [e18303.1]) (len := 1) (parts := [(0, .int .i64 e18303.1)]) un_26 ts_3 rfl rfl rfl tz_3 rfl rfl (show RowD (eInt .i64) φ17506 [.int .i64 e18303.1] [e18303.1] from ⟨[.int .i64 e18303.1], _, rfl, rfl, rfl⟩) rfl rfl X18302
      refine lheap rfl (h_buildSlice rfl) hv18307 rfl ?_
      obtain ⟨ws18309, hw18309⟩ := OSl.read O18307 X18307 (k := 0) rfl (n := 1) rfl
      refine Sim.mustM fun k18309 => ?_
      obtain ⟨h18309, a18309, c18309, ob18309, blk18309, hv18309, X18309, O18309⟩ := OSl.append O18001 X18307 (j := 2) rfl hw18309 k18309 (ts := #[26, 26]) rfl un_26 (argOk_of ax_26_26) ts_3 rfl rfl tb_3 rfl tz_3 rfl
      refine lheap rfl (h_builtin rfl rfl) hv18309 rfl ?_
      refine lpure (v := .slice a18309 (s17998.2.2.1.length + ([e18303.1]).length) c18309) rfl (p_assign rfl) rfl rfl ?_
      refine lend (nblock (nseq (dreg ?_)))
      refine lpure (v := .int .i64 (w64 (s17998.2.2.2 + 1))) rfl (p_add rfl) rfl rfl ?_
      refine lpure (v := .int .i64 (w64 (s17998.2.2.2 + 1))) rfl (p_move rfl) rfl rfl ?_
      refine lend ?_
      exact kbackM ih18270 (s17998.1, s18296, (s17998.2.2.1 ++ ([e18303.1])), (w64 (s17998.2.2.2 + 1))) ((.cells vs18277 3 m18277), a18309, (s17998.2.2.1.length + ([e18303.1]).length), c18309, ob18309, blk18309) (sub_cons rfl (sub_cons rfl (sub_cons rfl (sub_cons rfl (sub_cons rfl (sub_cons rfl (sub_cons rfl (sub_cons rfl sub_nil)))))))) ⟨(St.pick X18309 (.skip _ (.skip _ (.keep _ (.keep _ (.keep _ (.keep _ (.refl _)))))))), O17999, O18309⟩
    intro j18310 J18311
    refine lif (i := 50) (show _ = Value.bool s17998.2.1 from rfl) (fun k18312 => ?_) (fun k18312 => ?_)
    · refine lpure (v := .slice a18001 n18001 c18001) rfl (p_move rfl) rfl rfl ?_
      refine lread (v := .agg #[.int .i64 p14274.Nodes, .slice a14275 n14275 c14275, .slice a14276 n14276 c14276]) rfl (q_load wd_60 rfl) (St.ld X18272 (j := 2) rfl rfl) rfl ?_
      refine lpure (v := .int .i64 e18275) rfl (p_move rfl) rfl rfl ?_
      refine linl rfl rfl rfl rfl ca_55 rfl Tryz.func55 rfl rfl rfl rfl rfl ?_
      refine dseq (dreg ?_)
      refine lbox rfl rfl rfl rfl rfl X18272 (fun b18313 h18315 X18316 => ?_)
      refine lpure (v := .int .i64 0) rfl (p_assign rfl) rfl rfl ?_
      refine lend (nseq (dseq (dreg ?_)))
      refine lpure (v := .pointer (some ⟨b18313, 0, none⟩)) rfl (p_fa fo_60_0 rfl) rfl rfl ?_
      refine lread (v := .agg #[.int .i64 p14274.Nodes, .slice a14275 n14275 c14275, .slice a14276 n14276 c14276]) rfl (q_load wd_25 rfl) (St.ld X18316 (j := 0) rfl rfl) rfl ?_
      refine lpure (v := .int .i64 e18275) rfl (p_move rfl) rfl rfl ?_
      refine lcall rfl rfl ca_79 rfl rfl (f79_ok X18316 p14274 e18275 (H14275.mono (g17499.trans g17507)) (H14276.mono (g17499.trans g17507))) rfl (fun e18317 v18318 h18319 hq18320 => ?_)
      cases hq18320
      refine lpure (v := .tuple #[.int .i64 e18317.1, .int .i64 e18317.2]) rfl (p_move rfl) rfl rfl ?_
      refine lpure (v := .int .i64 e18317.1) rfl (p_extract rfl) rfl rfl ?_
      refine lpure (v := .int .i64 e18317.2) rfl (p_extract rfl) rfl rfl ?_
      refine lpure (v := .int .i64 e18317.1) rfl (p_assign rfl) rfl rfl ?_
      refine lpure (v := .int .i64 e18317.2) rfl (p_assign rfl) rfl rfl ?_
      refine lend (nseq (dseq (dreg ?_)))
      refine lpure (v := .int .i64 e18317.1) rfl (p_move rfl) rfl rfl ?_
      refine lpure (v := .int .i64 e18317.1) rfl (p_assign rfl) rfl rfl ?_
      refine lend (nseq (dret ?_))
      refine kin_r (res_1 resT) ?_
      obtain ⟨φ18321, g18322, X18323, H18324⟩ := OSl.freeze X18316 (j := 1) rfl O18001
      refine lcall rfl rfl ca_54 rfl rfl (f54_ok X18323 (s17998.2.2.1) (e18317.1) H18324) rfl (fun e18325 v18326 h18327 hq18328 => ?_)
      cases hq18328
      refine lpure (v := .bool (!e18325)) rfl (p_not rfl) rfl rfl ?_
      refine lpure (v := .bool (!e18325)) rfl (p_pick rfl) rfl rfl ?_
      exact ljmpM J18311 (!e18325) () (sub_cons rfl (sub_cons rfl (sub_cons rfl (sub_cons rfl (sub_cons rfl (sub_cons rfl (sub_cons rfl (sub_cons rfl (sub_cons rfl sub_nil))))))))) (St.pick X18316 (.skip _ (.keep _ (.keep _ (.keep _ (.keep _ (.refl _)))))))
    refine lskip rfl rfl ?_
    refine lskip rfl rfl ?_
    refine lskip rfl rfl ?_
    refine lskip rfl rfl ?_
    refine lskip rfl rfl ?_
    refine lskip rfl rfl ?_
    refine lpure (v := .bool false) rfl (p_pick rfl) rfl rfl ?_
    exact ljmpM J18311 false () (sub_cons rfl (sub_cons rfl (sub_cons rfl (sub_cons rfl (sub_cons rfl (sub_cons rfl (sub_cons rfl (sub_cons rfl (sub_cons rfl sub_nil))))))))) X18272
  refine dexit (eseq (eloop (xblock (nseq (dseq (dseq (dreg ?_)))))))
  refine lpure (v := .slice a14278 n14278 c14278) rfl (p_move rfl) rfl rfl ?_
  refine lpure (v := .int .i64 (p14277.length : Int)) rfl (p_len rfl rfl rfl un_52 rfl) (RSl.lenC (H14278.mono (g17499.trans g17507))) rfl ?_
  refine lpure (v := .int .i64 0) rfl (p_move rfl) rfl rfl ?_
  refine lend (nseq (dblock ?_))
  refine dloopM (τ := Bool × Int) (σ := Unit) (fun s18433 (_ : Unit) => [(1, .slice a14278 n14278 c14278), (8, .pointer (some ⟨b14288, 0, none⟩)), (9, .slice a17509 n17509 c17509), (12, .bool s18433.1), (65, .slice a14278 n14278 c14278), (66, .int .i64 (p14277.length : Int)), (67, .int .i64 s18433.2)]) (fun s18433 (_ : Unit) hh => St φ17506 lo hh ((ob18001, blk18001) :: (ob17509, blk17999) :: (some b14288, .cells [.int .i64 p14274.Nodes, .slice a14275 n14275 c14275, .slice a14276 n14276 c14276] 60 .exact) :: (some b14279, .cells [.int .i64 p14274.Nodes, .slice a14275 n14275 c14275, .slice a14276 n14276 c14276] 25 .exact) :: own)) (s17998.2.1, 0) () (sub_cons rfl (sub_cons rfl (sub_cons rfl (sub_cons rfl (sub_cons rfl (sub_cons rfl (sub_cons rfl sub_nil))))))) X18272 ?_
  rintro n18487 ih18486 s18433 _ t0 h18489 X18488
  refine dseq (dreg ?_)
  refine lpure (v := .bool (decide (s18433.2 < (p14277.length : Int)))) rfl (p_lt rfl) rfl rfl ?_
  refine lend (nseq (dseq ?_))
  refine dcond rfl rfl (fun k18490 => ?_) (fun k18490 => ?_)
  · refine dskip (nseq (dseq (dblock (dseq (dreg ?_)))))
    refine Sim.bindM fun e18491 he18492 => ?_
    obtain ⟨p18494, cs18494, hp18494, hF18494, hR18494⟩ := RSl.ia (H14278.mono (g17499.trans g17507)) he18492 (kd := .i64) (n := 1) rfl
    obtain ⟨a18493, n18493, c18493, rfl, H18493⟩ := hR18494
    refine lpure (v := p18494) rfl (p_ia rs_52 rfl) hp18494 rfl ?_
    refine lread (v := .slice a18493 n18493 c18493) rfl (q_load wd_27 rfl) (FP.ld X18488 hF18494) rfl ?_
    refine lpure (v := .slice a18493 n18493 c18493) rfl (p_assign rfl) rfl rfl ?_
    refine lend (nseq ?_)
    refine ddraw 0 0 0 (by kernel_rfl) ?_
    refine spure (v := .bool s18433.1) rfl (p_move rfl) (lo_t rfl rfl) rfl rfl ?_
    refine spure (v := .bool s18433.1) rfl (p_move rfl) (lo_t rfl rfl) rfl rfl ?_
    refine sjoinM (τ := Bool) (σ := Unit) (fun s18515 (_ : Unit) => [(1, .slice a14278 n14278 c14278), (8, .pointer (some ⟨b14288, 0, none⟩)), (9, .slice a17509 n17509 c17509), (65, .slice a14278 n14278 c14278), (66, .int .i64 (p14277.length : Int)), (67, .int .i64 s18433.2), (86, .bool s18515)]) (fun s18515 (_ : Unit) hh => St φ17506 lo hh ((ob18001, blk18001) :: (ob17509, blk17999) :: (some b14288, .cells [.int .i64 p14274.Nodes, .slice a14275 n14275 c14275, .slice a14276 n14276 c14276] 60 .exact) :: (some b14279, .cells [.int .i64 p14274.Nodes, .slice a14275 n14275 c14275, .slice a14276 n14276 c14276] 25 .exact) :: own)) 14 16 ?_ ?_
    · rintro s18515 _ t0 h18517 X18516
      refine spure (v := .bool s18515) rfl (p_assign rfl) (lo_t rfl rfl) rfl rfl ?_
      refine send ?_
      refine nblock (nseq (dreg ?_))
      refine lpure (v := .int .i64 (w64 (s18433.2 + 1))) rfl (p_add rfl) rfl rfl ?_
      refine lpure (v := .int .i64 (w64 (s18433.2 + 1))) rfl (p_move rfl) rfl rfl ?_
      refine lend ?_
      exact kbackM ih18486 (s18515, (w64 (s18433.2 + 1))) () (sub_cons rfl (sub_cons rfl (sub_cons rfl (sub_cons rfl (sub_cons rfl (sub_cons rfl (sub_cons rfl sub_nil))))))) X18516
    intro j18518 J18519
    refine sif (j := 72) (show _ = Value.bool s18433.1 from rfl) (fun k18520 => ?_) (fun k18520 => ?_)
    · refine sload (v := .agg #[.int .i64 p14274.Nodes, .slice a14275 n14275 c14275, .slice a14276 n14276 c14276]) rfl rfl (q_load wd_60 rfl) (St.ld X18488 (j := 2) rfl rfl) (same_self 20 rfl) rfl ?_
      refine spure (v := .slice a18493 n18493 c18493) rfl (p_move rfl) (lo_t (lo_sl X18488 H18493) rfl) rfl rfl ?_
      refine Sim.bindM fun e18521 he18522 => ?_
      obtain ⟨p18523, cs18523, hp18523, hF18523, hR18523⟩ := RSl.ia H18493 he18522 (kd := .i64) (n := 1) rfl
      have hR18523 : _ = [(.int .i64 e18521 : Value)] := hR18523
      subst hR18523
      refine spure (v := p18523) rfl (p_ia rs_27 rfl) (lo_t (lo_sl X18488 H18493) (lo_c rfl)) hp18523 rfl ?_
      refine sload (v := .int .i64 e18521) rfl rfl (q_load wd_3 rfl) (FP.ld X18488 hF18523) (same_self 20 rfl) rfl ?_
      refine scall (en := fun d => (.int .i64 d)) rfl rfl ca_56 rfl rfl (f56_ok X18488 ((RouteWalk.mk p14274)) e18521 (H14275.mono (g17499.trans g17507)) (H14276.mono (g17499.trans g17507))) rfl (fun e18524 => ?_)
      refine sload (v := .agg #[.int .i64 p14274.Nodes, .slice a14275 n14275 c14275, .slice a14276 n14276 c14276]) rfl rfl (q_load wd_60 rfl) (St.ld X18488 (j := 2) rfl rfl) (same_self 20 rfl) rfl ?_
      refine spure (v := .slice a14278 n14278 c14278) rfl (p_move rfl) (lo_t (lo_sl X18488 (H14278.mono (g17499.trans g17507))) rfl) rfl rfl ?_
      refine Sim.bindM fun e18528 he18529 => ?_
      obtain ⟨p18531, cs18531, hp18531, hF18531, hR18531⟩ := RSl.ia (H14278.mono (g17499.trans g17507)) he18529 (kd := .i64) (n := 1) rfl
      obtain ⟨a18530, n18530, c18530, rfl, H18530⟩ := hR18531
      refine spure (v := p18531) rfl (p_ia rs_52 rfl) (lo_t (lo_sl X18488 (H14278.mono (g17499.trans g17507))) (lo_c rfl)) hp18531 rfl ?_
      refine sload (v := .slice a18530 n18530 c18530) rfl rfl (q_load wd_27 rfl) (FP.ld X18488 hF18531) (same_self 20 rfl) rfl ?_
      refine Sim.bindM fun e18532 he18533 => ?_
      obtain ⟨p18534, cs18534, hp18534, hF18534, hR18534⟩ := RSl.ia H18530 he18533 (kd := .i64) (n := 1) rfl
      have hR18534 : _ = [(.int .i64 e18532 : Value)] := hR18534
      subst hR18534
      refine spure (v := p18534) rfl (p_ia rs_27 rfl) (lo_t (lo_sl X18488 H18530) (lo_c rfl)) hp18534 rfl ?_
      refine sload (v := .int .i64 e18532) rfl rfl (q_load wd_3 rfl) (FP.ld X18488 hF18534) (same_self 20 rfl) rfl ?_
      refine scall (en := fun d => (.int .i64 d)) rfl rfl ca_56 rfl rfl (f56_ok X18488 ((RouteWalk.mk p14274)) e18532 (H14275.mono (g17499.trans g17507)) (H14276.mono (g17499.trans g17507))) rfl (fun e18535 => ?_)
      refine spure (v := .bool (decide (e18524 = e18535))) rfl (p_eq rfl) (lo_t rfl (lo_t rfl rfl)) rfl rfl ?_
      refine spure (v := .bool (decide (e18524 = e18535))) rfl (p_pick rfl) (lo_t rfl (lo_t rfl (lo_c rfl))) rfl rfl ?_
      exact sjmpM J18519 (decide (e18524 = e18535)) () (sub_cons rfl (sub_cons rfl (sub_cons rfl (sub_cons rfl (sub_cons rfl (sub_cons rfl (sub_cons rfl sub_nil))))))) X18488
    refine sskip rfl rfl ?_
    refine sskip rfl rfl ?_
    refine sskip rfl rfl ?_
    refine sskip rfl rfl ?_
    refine sskip rfl rfl ?_
    refine sskip rfl rfl ?_
    refine sskip rfl rfl ?_
    refine sskip rfl rfl ?_
    refine sskip rfl rfl ?_
    refine sskip rfl rfl ?_
    refine sskip rfl rfl ?_
    refine sskip rfl rfl ?_
    refine sskip rfl rfl ?_
    refine spure (v := .bool false) rfl (p_pick rfl) (lo_t rfl (lo_t rfl (lo_c rfl))) rfl rfl ?_
    exact sjmpM J18519 false () (sub_cons rfl (sub_cons rfl (sub_cons rfl (sub_cons rfl (sub_cons rfl (sub_cons rfl (sub_cons rfl sub_nil))))))) X18488
  refine dexit (eseq (eloop (xblock (nseq (dseq (dreg ?_))))))
  refine lpure (v := .slice a17509 n17509 c17509) rfl (p_move rfl) rfl rfl ?_
  refine lpure (v := .bool s18433.1) rfl (p_move rfl) rfl rfl ?_
  refine lpure (v := .slice a17509 n17509 c17509) rfl (p_assign rfl) rfl rfl ?_
  refine lpure (v := .bool s18433.1) rfl (p_assign rfl) rfl rfl ?_
  refine lpure (v := .int .i64 0) rfl (p_assign rfl) rfl rfl ?_
  refine lend (nseq (dret ?_))
  exact kopen_r (res_3 resT resT resT) ⟨φ17506, a17509, n17509, c17509, ob17509, blk17999, (g17499.trans g17507), St.pick (St.front X18488 (j := 1) rfl) (.keep _ (.skip _ (.skip _ (.skip _ (.refl _))))), rfl, O17999⟩
/-! slices.Equal[[]int,int] -/
theorem f17_ok {n : Nat} {φ : Fz} {lo : Nat} {h : Heap} {own : OwnL}  {a18583 : Option Addr} {n18583 c18583 : Nat} {a18585 : Option Addr} {n18585 c18585 : Nat} (X : St φ lo h (own)) (p18582 : (List Int)) (p18584 : (List Int)) (H18583 : RSl (eInt .i64) φ (.slice a18583 n18583 c18583) p18582) (H18585 : RSl (eInt .i64) φ (.slice a18585 n18585 c18585) p18584) : Sim ((recN Tryz.prog LL cutF (n + 1)).call 17 #[(.slice a18583 n18583 c18583), (.slice a18585 n18585 c18585)] h) (m_slices_Equal_int_int p18582 p18584) (fun (d : Bool) p => p = (.bool d, h)) := by
  refine fcut Tryz.func17 rfl rfl rfl rfl X ?_
  intro h0 X0
  refine dseq (dreg ?_)
  refine lpure (v := .bool false) rfl (p_assign rfl) rfl rfl ?_
  refine lend (nseq (dseq (dseq (dreg ?_))))
  refine lpure (v := .slice a18583 n18583 c18583) rfl (p_move rfl) rfl rfl ?_
  refine lpure (v := .int .i64 (p18582.length : Int)) rfl (p_len rfl rfl rfl un_26 rfl) (RSl.lenC H18583) rfl ?_
  refine lpure (v := .slice a18585 n18585 c18585) rfl (p_move rfl) rfl rfl ?_
  refine lpure (v := .int .i64 (p18584.length : Int)) rfl (p_len rfl rfl rfl un_26 rfl) (RSl.lenC H18585) rfl ?_
  refine lpure (v := .bool (decide ((p18582.length : Int) ≠ (p18584.length : Int)))) rfl (p_ne rfl) rfl rfl ?_
  refine lend (nseq ?_)
  refine dcond rfl rfl (fun k18586 => ?_) (fun k18586 => ?_)
  · refine dseq (dreg ?_)
    refine lpure (v := .bool false) rfl (p_assign rfl) rfl rfl ?_
    refine lend (nseq (dret (rseq ?_)))
    exact kcut_r (res_1 resT) X0 rfl rfl
  refine dskip (nseq (dseq (dseq (dreg ?_))))
  refine lpure (v := .slice a18583 n18583 c18583) rfl (p_move rfl) rfl rfl ?_
  refine lpure (v := .int .i64 (p18582.length : Int)) rfl (p_len rfl rfl rfl un_26 rfl) (RSl.lenC H18583) rfl ?_
  refine lpure (v := .int .i64 0) rfl (p_move rfl) rfl rfl ?_
  refine lend (nseq (dblock ?_))
  refine dloopM (τ := Int) (σ := Unit) (fun s18609 (_ : Unit) => [(0, .slice a18583 n18583 c18583), (1, .slice a18585 n18585 c18585), (12, .int .i64 (p18582.length : Int)), (13, .int .i64 s18609)]) (fun s18609 (_ : Unit) hh => St φ h.n hh ([])) 0 () (sub_cons rfl (sub_cons rfl (sub_cons rfl (sub_cons rfl sub_nil)))) X0 ?_
  rintro n18622 ih18621 s18609 _ t0 h18624 X18623
  refine dseq (dreg ?_)
  refine lpure (v := .bool (decide (s18609 < (p18582.length : Int)))) rfl (p_lt rfl) rfl rfl ?_
  refine lend (nseq (dseq ?_))
  refine dcond rfl rfl (fun k18625 => ?_) (fun k18625 => ?_)
  · refine dskip (nseq (dseq (dblock (dseq (dreg ?_)))))
    refine lpure (v := .int .i64 s18609) rfl (p_move rfl) rfl rfl ?_
    refine lpure (v := .int .i64 s18609) rfl (p_assign rfl) rfl rfl ?_
    refine lend (nseq (dseq ?_))
    refine ddraw 0 0 0 (by kernel_rfl) ?_
    refine spure (v := .slice a18583 n18583 c18583) rfl (p_move rfl) (lo_t (lo_sl X18623 H18583) rfl) rfl rfl ?_
    refine spure (v := .int .i64 s18609) rfl (p_move rfl) (lo_t rfl rfl) rfl rfl ?_
    refine Sim.bindM fun e18626 he18627 => ?_
    obtain ⟨p18628, cs18628, hp18628, hF18628, hR18628⟩ := RSl.ia H18583 he18627 (kd := .i64) (n := 1) rfl
    have hR18628 : _ = [(.int .i64 e18626 : Value)] := hR18628
    subst hR18628
    refine spure (v := p18628) rfl (p_ia rs_26 rfl) (lo_t (lo_sl X18623 H18583) (lo_t rfl rfl)) hp18628 rfl ?_
    refine sload (v := .int .i64 e18626) rfl rfl (q_load wd_3 rfl) (FP.ld X18623 hF18628) (same_self 20 rfl) rfl ?_
    refine spure (v := .slice a18585 n18585 c18585) rfl (p_move rfl) (lo_t (lo_sl X18623 H18585) rfl) rfl rfl ?_
    refine spure (v := .int .i64 s18609) rfl (p_move rfl) (lo_t rfl rfl) rfl rfl ?_
    refine Sim.bindM fun e18629 he18630 => ?_
    obtain ⟨p18631, cs18631, hp18631, hF18631, hR18631⟩ := RSl.ia H18585 he18630 (kd := .i64) (n := 1) rfl
    have hR18631 : _ = [(.int .i64 e18629 : Value)] := hR18631
    subst hR18631
    refine spure (v := p18631) rfl (p_ia rs_26 rfl) (lo_t (lo_sl X18623 H18585) (lo_t rfl rfl)) hp18631 rfl ?_
    refine sload (v := .int .i64 e18629) rfl rfl (q_load wd_3 rfl) (FP.ld X18623 hF18631) (same_self 20 rfl) rfl ?_
    refine spure (v := .bool (decide (e18626 ≠ e18629))) rfl (p_ne rfl) (lo_t rfl (lo_t rfl rfl)) rfl rfl ?_
    refine send ?_
    refine nseq ?_
    refine dcond rfl rfl (fun k18632 => ?_) (fun k18632 => ?_)
    · refine dseq (dreg ?_)
      refine lpure (v := .bool false) rfl (p_assign rfl) rfl rfl ?_
      refine lend (nseq (dret (rblock (rseq (rloop (rblock (rseq ?_)))))))
      exact kcut_r (res_1 resT) X18623 rfl rfl
    refine dskip (nblock (nseq (dreg ?_)))
    refine lpure (v := .int .i64 (w64 (s18609 + 1))) rfl (p_add rfl) rfl rfl ?_
    refine lpure (v := .int .i64 (w64 (s18609 + 1))) rfl (p_move rfl) rfl rfl ?_
    refine lend ?_
    exact kbackM ih18621 (w64 (s18609 + 1)) () (sub_cons rfl (sub_cons rfl (sub_cons rfl (sub_cons rfl sub_nil)))) X18623
  refine dexit (eseq (eloop (xblock (nseq (dseq (dreg ?_))))))
  refine lpure (v := .bool true) rfl (p_assign rfl) rfl rfl ?_
  refine lend (nseq (dret ?_))
  exact kcut_r (res_1 resT) X18623 rfl rfl
/-! slices.Equal[isochron/api.Route,int] -/
theorem f19_ok {n : Nat} {φ : Fz} {lo : Nat} {h : Heap} {own : OwnL}  {a18669 : Option Addr} {n18669 c18669 : Nat} {a18671 : Option Addr} {n18671 c18671 : Nat} (X : St φ lo h (own)) (p18668 : (List Int)) (p18670 : (List Int)) (H18669 : RSl (eInt .i64) φ (.slice a18669 n18669 c18669) p18668) (H18671 : RSl (eInt .i64) φ (.slice a18671 n18671 c18671) p18670) : Sim ((recN Tryz.prog LL cutF (n + 1)).call 19 #[(.slice a18669 n18669 c18669), (.slice a18671 n18671 c18671)] h) (m_slices_Equal_api_Route_int p18668 p18670) (fun (d : Bool) p => p = (.bool d, h)) := by
  refine fcut Tryz.func19 rfl rfl rfl rfl X ?_
  intro h0 X0
  refine dseq (dreg ?_)
  refine lpure (v := .bool false) rfl (p_assign rfl) rfl rfl ?_
  refine lend (nseq (dseq (dseq (dreg ?_))))
  refine lpure (v := .slice a18669 n18669 c18669) rfl (p_move rfl) rfl rfl ?_
  refine lpure (v := .int .i64 (p18668.length : Int)) rfl (p_len rfl rfl rfl un_27 rfl) (RSl.lenC H18669) rfl ?_
  refine lpure (v := .slice a18671 n18671 c18671) rfl (p_move rfl) rfl rfl ?_
  refine lpure (v := .int .i64 (p18670.length : Int)) rfl (p_len rfl rfl rfl un_27 rfl) (RSl.lenC H18671) rfl ?_
  refine lpure (v := .bool (decide ((p18668.length : Int) ≠ (p18670.length : Int)))) rfl (p_ne rfl) rfl rfl ?_
  refine lend (nseq ?_)
  refine dcond rfl rfl (fun k18672 => ?_) (fun k18672 => ?_)
  · refine dseq (dreg ?_)
    refine lpure (v := .bool false) rfl (p_assign rfl) rfl rfl ?_
    refine lend (nseq (dret (rseq ?_)))
    exact kcut_r (res_1 resT) X0 rfl rfl
  refine dskip (nseq (dseq (dseq (dreg ?_))))
  refine lpure (v := .slice a18669 n18669 c18669) rfl (p_move rfl) rfl rfl ?_
  refine lpure (v := .int .i64 (p18668.length : Int)) rfl (p_len rfl rfl rfl un_27 rfl) (RSl.lenC H18669) rfl ?_
  refine lpure (v := .int .i64 0) rfl (p_move rfl) rfl rfl ?_
  refine lend (nseq (dblock ?_))
  refine dloopM (τ := Int) (σ := Unit) (fun s18695 (_ : Unit) => [(0, .slice a18669 n18669 c18669), (1, .slice a18671 n18671 c18671), (12, .int .i64 (p18668.length : Int)), (13, .int .i64 s18695)]) (fun s18695 (_ : Unit) hh => St φ h.n hh ([])) 0 () (sub_cons rfl (sub_cons rfl (sub_cons rfl (sub_cons rfl sub_nil)))) X0 ?_
  rintro n18708 ih18707 s18695 _ t0 h18710 X18709
  refine dseq (dreg ?_)
  refine lpure (v := .bool (decide (s18695 < (p18668.length : Int)))) rfl (p_lt rfl) rfl rfl ?_
  refine lend (nseq (dseq ?_))
  refine dcond rfl rfl (fun k18711 => ?_) (fun k18711 => ?_)
  · refine dskip (nseq (dseq (dblock (dseq (dreg ?_)))))
    refine lpure (v := .int .i64 s18695) rfl (p_move rfl) rfl rfl ?_
    refine lpure (v := .int .i64 s18695) rfl (p_assign rfl) rfl rfl ?_
    refine lend (nseq (dseq ?_))
    refine ddraw 0 0 0 (by kernel_rfl) ?_
    refine spure (v := .slice a18669 n18669 c18669) rfl (p_move rfl) (lo_t (lo_sl X18709 H18669) rfl) rfl rfl ?_
    refine spure (v := .int .i64 s18695) rfl (p_move rfl) (lo_t rfl rfl) rfl rfl ?_
    refine Sim.bindM fun e18712 he18713 => ?_
    obtain ⟨p18714, cs18714, hp18714, hF18714, hR18714⟩ := RSl.ia H18669 he18713 (kd := .i64) (n := 1) rfl
    have hR18714 : _ = [(.int .i64 e18712 : Value)] := hR18714
    subst hR18714
    refine spure (v := p18714) rfl (p_ia rs_27 rfl) (lo_t (lo_sl X18709 H18669) (lo_t rfl rfl)) hp18714 rfl ?_
    refine sload (v := .int .i64 e18712) rfl rfl (q_load wd_3 rfl) (FP.ld X18709 hF18714) (same_self 20 rfl) rfl ?_
    refine spure (v := .slice a18671 n18671 c18671) rfl (p_move rfl) (lo_t (lo_sl X18709 H18671) rfl) rfl rfl ?_
    refine spure (v := .int .i64 s18695) rfl (p_move rfl) (lo_t rfl rfl) rfl rfl ?_
    refine Sim.bindM fun e18715 he18716 => ?_
    obtain ⟨p18717, cs18717, hp18717, hF18717, hR18717⟩ := RSl.ia H18671 he18716 (kd := .i64) (n := 1) rfl
    have hR18717 : _ = [(.int .i64 e18715 : Value)] := hR18717
    subst hR18717
    refine spure (v := p18717) rfl (p_ia rs_27 rfl) (lo_t (lo_sl X18709 H18671) (lo_t rfl rfl)) hp18717 rfl ?_
    refine sload (v := .int .i64 e18715) rfl rfl (q_load wd_3 rfl) (FP.ld X18709 hF18717) (same_self 20 rfl) rfl ?_
    refine spure (v := .bool (decide (e18712 ≠ e18715))) rfl (p_ne rfl) (lo_t rfl (lo_t rfl rfl)) rfl rfl ?_
    refine send ?_
    refine nseq ?_
    refine dcond rfl rfl (fun k18718 => ?_) (fun k18718 => ?_)
    · refine dseq (dreg ?_)
      refine lpure (v := .bool false) rfl (p_assign rfl) rfl rfl ?_
      refine lend (nseq (dret (rblock (rseq (rloop (rblock (rseq ?_)))))))
      exact kcut_r (res_1 resT) X18709 rfl rfl
    refine dskip (nblock (nseq (dreg ?_)))
    refine lpure (v := .int .i64 (w64 (s18695 + 1))) rfl (p_add rfl) rfl rfl ?_
    refine lpure (v := .int .i64 (w64 (s18695 + 1))) rfl (p_move rfl) rfl rfl ?_
    refine lend ?_
    exact kbackM ih18707 (w64 (s18695 + 1)) () (sub_cons rfl (sub_cons rfl (sub_cons rfl (sub_cons rfl sub_nil)))) X18709
  refine dexit (eseq (eloop (xblock (nseq (dseq (dreg ?_))))))
  refine lpure (v := .bool true) rfl (p_assign rfl) rfl rfl ?_
  refine lend (nseq (dret ?_))
  exact kcut_r (res_1 resT) X18709 rfl rfl
/-! isochron/isochronlaw21.wakes -/
theorem f6_ok {n : Nat} {φ : Fz} {lo : Nat} {h : Heap} {own : OwnL}  (X : St φ lo h (own)) : Sim ((recN Tryz.prog LL cutF (n + 18)).call 6 #[] h) (m_isochronlaw21_wakes) (fun (d : Bool) p => p = (.bool d, h)) := by
  refine fcut Tryz.func6 rfl rfl rfl rfl X ?_
  intro h0 X0
  refine dseq (dreg ?_)
  refine lpure (v := .bool false) rfl (p_assign rfl) rfl rfl ?_
  refine lend (nseq (dseq (dreg ?_)))
  refine lcall rfl rfl ca_27 rfl rfl (f27_ok X0) rfl ?_
  rintro e34 _ h36 ⟨φ38, a41, n41, c41, ob41, blk41, a43, n43, c43, ob43, blk43, g39, X40, rfl, O41, O43⟩
  refine lalloc rfl tz_25 rfl rfl rfl X40 (fun b45 h47 X48 => ?_)
  refine lstore rfl ts_25 rfl rfl (j := 0) rfl rfl rfl rfl rfl rfl X48 (fun h49 X50 => ?_)
  refine lend (nseq (dseq (dreg ?_)))
  refine lread (v := .agg #[.int .i64 e34.Nodes, .slice a41 n41 c41, .slice a43 n43 c43]) rfl (q_load wd_25 rfl) (St.ld X50 (j := 0) rfl rfl) rfl ?_
  obtain ⟨h51, b51, hv51, X51, O51⟩ := OSl.lay (E := (eInt .i64)) (φ := φ38) (cs := [.int .i64 0, .int .i64 2, .int .i64 4]) (l := [0, 2, 4]) (len := 3) (parts := [(0, .int .i64 0), (1, .int .i64 2), (2, .int .i64 4)]) un_27 ts_3 rfl rfl rfl tz_3 rfl rfl (show RowD (eInt .i64) φ38 [.int .i64 0, .int .i64 2, .int .i64 4] [0, 2, 4] from ⟨[.int .i64 0], _, rfl, rfl, ⟨[.int .i64 2], _, rfl, rfl, ⟨[.int .i64 4], _, rfl, rfl, rfl⟩⟩⟩) rfl rfl X50
  refine lheap rfl (h_buildSlice rfl) hv51 rfl ?_
  obtain ⟨φ7889, g7890, X7891, H7892⟩ := OSl.freeze X51 (j := 2) rfl O41
  obtain ⟨φ7893, g7894, X7895, H7896⟩ := OSl.freeze X7891 (j := 3) rfl (O43.mono g7890)
  obtain ⟨φ7897, g7898, X7899, H7900⟩ := OSl.freeze X7895 (j := 0) rfl (O51.mono (g7890.trans g7894))
  refine lcall rfl rfl ca_9 rfl rfl (f9_ok X7899 e34 ([0, 2, 4]) (H7892.mono (g7894.trans g7898)) (H7896.mono g7898) H7900) rfl ?_
  rintro e7901 _ h7903 ⟨φ7905, a7908, n7908, c7908, ob7908, blk7908, g7906, X7907, rfl, O7908⟩
  refine lpure (v := .tuple #[.slice a7908 n7908 c7908, .int .i64 e7901.2]) rfl (p_move rfl) rfl rfl ?_
  refine lpure (v := .slice a7908 n7908 c7908) rfl (p_extract rfl) rfl rfl ?_
  refine lpure (v := .int .i64 e7901.2) rfl (p_extract rfl) rfl rfl ?_
  refine lpure (v := .slice a7908 n7908 c7908) rfl (p_assign rfl) rfl rfl ?_
  refine lpure (v := .int .i64 e7901.2) rfl (p_assign rfl) rfl rfl ?_
  refine lend (nseq (dseq (dreg ?_)))
  refine lread (v := .agg #[.int .i64 e34.Nodes, .slice a41 n41 c41, .slice a43 n43 c43]) rfl (q_load wd_25 rfl) (St.ld X7907 (j := 2) rfl rfl) rfl ?_
  obtain ⟨h7910, b7910, hv7910, X7910, O7910⟩ := OSl.lay (E := (eInt .i64)) (φ := φ7905) (cs := [.int .i64 2, .int .i64 4]) (l := [2, 4]) (len := 2) (parts := [(0, .int .i64 2), (1, .int .i64 4)]) un_27 ts_3 rfl rfl rfl tz_3 rfl rfl (show RowD (eInt .i64) φ7905 [.int .i64 2, .int .i64 4] [2, 4] from ⟨[.int .i64 2], _, rfl, rfl, ⟨[.int .i64 4], _, rfl, rfl, rfl⟩⟩) rfl rfl X7907
  refine lheap rfl (h_buildSlice rfl) hv7910 rfl ?_
  obtain ⟨φ7937, g7938, X7939, H7940⟩ := OSl.freeze X7910 (j := 0) rfl O7910
  refine lcall rfl rfl ca_10 rfl rfl (f10_ok X7939 e34 ([2, 4]) (H7892.mono (((g7894.trans g7898).trans g7906).trans g7938)) (H7896.mono ((g7898.trans g7906).trans g7938)) H7940) rfl (fun e7941 v7942 h7943 hq7944 => ?_)
  cases hq7944
  refine lpure (v := .tuple #[.int .i64 e7941.1, .int .i64 e7941.2.1, .int .i64 e7941.2.2]) rfl (p_move rfl) rfl rfl ?_
  refine lpure (v := .int .i64 e7941.1) rfl (p_extract rfl) rfl rfl ?_
  refine lpure (v := .int .i64 e7941.2.1) rfl (p_extract rfl) rfl rfl ?_
  refine lpure (v := .int .i64 e7941.2.2) rfl (p_extract rfl) rfl rfl ?_
  refine lpure (v := .int .i64 e7941.1) rfl (p_assign rfl) rfl rfl ?_
  refine lpure (v := .int .i64 e7941.2.1) rfl (p_assign rfl) rfl rfl ?_
  refine lpure (v := .int .i64 e7941.2.2) rfl (p_assign rfl) rfl rfl ?_
  refine lend (nseq (dseq (dreg ?_)))
  refine lread (v := .agg #[.int .i64 e34.Nodes, .slice a41 n41 c41, .slice a43 n43 c43]) rfl (q_load wd_25 rfl) (St.ld X7910 (j := 3) rfl rfl) rfl ?_
  obtain ⟨h7945, b7945, hv7945, X7945, O7945⟩ := OSl.lay (E := (eInt .i64)) (φ := φ7905) (cs := [.int .i64 0, .int .i64 2, .int .i64 4]) (l := [0, 2, 4]) (len := 3) (parts := [(0, .int .i64 0), (1, .int .i64 2), (2, .int .i64 4)]) un_27 ts_3 rfl rfl rfl tz_3 rfl rfl (show RowD (eInt .i64) φ7905 [.int .i64 0, .int .i64 2, .int .i64 4] [0, 2, 4] from ⟨[.int .i64 0], _, rfl, rfl, ⟨[.int .i64 2], _, rfl, rfl, ⟨[.int .i64 4], _, rfl, rfl, rfl⟩⟩⟩) rfl rfl X7910
  refine lheap rfl (h_buildSlice rfl) hv7945 rfl ?_
  obtain ⟨φ8044, g8045, X8046, H8047⟩ := OSl.freeze X7945 (j := 0) rfl O7945
  refine lcall rfl rfl ca_11 rfl rfl (f11_ok X8046 e34 ([0, 2, 4]) (H7892.mono (((g7894.trans g7898).trans g7906).trans g8045)) (H7896.mono ((g7898.trans g7906).trans g8045)) H8047) rfl (fun e8048 v8049 h8050 hq8051 => ?_)
  cases hq8051
  refine lpure (v := .tuple #[.int .i64 e8048.1, .int .i64 e8048.2]) rfl (p_move rfl) rfl rfl ?_
  refine lpure (v := .int .i64 e8048.1) rfl (p_extract rfl) rfl rfl ?_
  refine lpure (v := .int .i64 e8048.2) rfl (p_extract rfl) rfl rfl ?_
  refine lpure (v := .int .i64 e8048.1) rfl (p_assign rfl) rfl rfl ?_
  refine lpure (v := .int .i64 e8048.2) rfl (p_assign rfl) rfl rfl ?_
  refine lend (nseq (dseq (dreg ?_)))
  refine lread (v := .agg #[.int .i64 e34.Nodes, .slice a41 n41 c41, .slice a43 n43 c43]) rfl (q_load wd_25 rfl) (St.ld X7945 (j := 4) rfl rfl) rfl ?_
  obtain ⟨h8052, b8052, hv8052, X8052, O8052⟩ := OSl.lay (E := (eInt .i64)) (φ := φ7905) (cs := [.int .i64 0, .int .i64 2, .int .i64 4]) (l := [0, 2, 4]) (len := 3) (parts := [(0, .int .i64 0), (1, .int .i64 2), (2, .int .i64 4)]) un_27 ts_3 rfl rfl rfl tz_3 rfl rfl (show RowD (eInt .i64) φ7905 [.int .i64 0, .int .i64 2, .int .i64 4] [0, 2, 4] from ⟨[.int .i64 0], _, rfl, rfl, ⟨[.int .i64 2], _, rfl, rfl, ⟨[.int .i64 4], _, rfl, rfl, rfl⟩⟩⟩) rfl rfl X7945
  refine lheap rfl (h_buildSlice rfl) hv8052 rfl ?_
  obtain ⟨φ8164, g8165, X8166, H8167⟩ := OSl.freeze X8052 (j := 0) rfl O8052
  refine lcall rfl rfl ca_12 rfl rfl (f12_ok X8166 e34 ([0, 2, 4]) 100 (H7892.mono (((g7894.trans g7898).trans g7906).trans g8165)) (H7896.mono ((g7898.trans g7906).trans g8165)) H8167) rfl (fun e8168 v8169 h8170 hq8171 => ?_)
  cases hq8171
  refine lpure (v := .tuple #[.int .i64 e8168.1, .int .i64 e8168.2]) rfl (p_move rfl) rfl rfl ?_
  refine lpure (v := .int .i64 e8168.1) rfl (p_extract rfl) rfl rfl ?_
  refine lpure (v := .int .i64 e8168.2) rfl (p_extract rfl) rfl rfl ?_
  refine lpure (v := .int .i64 e8168.1) rfl (p_assign rfl) rfl rfl ?_
  refine lpure (v := .int .i64 e8168.2) rfl (p_assign rfl) rfl rfl ?_
  refine lend (nseq (dseq (dreg ?_)))
  refine lread (v := .agg #[.int .i64 e34.Nodes, .slice a41 n41 c41, .slice a43 n43 c43]) rfl (q_load wd_25 rfl) (St.ld X8052 (j := 5) rfl rfl) rfl ?_
  obtain ⟨h8172, b8172, hv8172, X8172, O8172⟩ := OSl.lay (E := (eInt .i64)) (φ := φ7905) (cs := [.int .i64 0, .int .i64 2, .int .i64 4]) (l := [0, 2, 4]) (len := 3) (parts := [(0, .int .i64 0), (1, .int .i64 2), (2, .int .i64 4)]) un_27 ts_3 rfl rfl rfl tz_3 rfl rfl (show RowD (eInt .i64) φ7905 [.int .i64 0, .int .i64 2, .int .i64 4] [0, 2, 4] from ⟨[.int .i64 0], _, rfl, rfl, ⟨[.int .i64 2], _, rfl, rfl, ⟨[.int .i64 4], _, rfl, rfl, rfl⟩⟩⟩) rfl rfl X8052
  refine lheap rfl (h_buildSlice rfl) hv8172 rfl ?_
  obtain ⟨φ8428, g8429, X8430, H8431⟩ := OSl.freeze X8172 (j := 0) rfl O8172
  refine lcall rfl rfl ca_13 rfl rfl (f13_ok X8430 e34 ([0, 2, 4]) (H7892.mono (((g7894.trans g7898).trans g7906).trans g8429)) (H7896.mono ((g7898.trans g7906).trans g8429)) H8431) rfl ?_
  rintro e8432 _ h8434 ⟨φ8436, a8439, n8439, c8439, ob8439, blk8439, g8437, X8438, rfl, O8439⟩
  refine lpure (v := .tuple #[.slice a8439 n8439 c8439, .int .i64 e8432.2]) rfl (p_move rfl) rfl rfl ?_
  refine lpure (v := .slice a8439 n8439 c8439) rfl (p_extract rfl) rfl rfl ?_
  refine lpure (v := .int .i64 e8432.2) rfl (p_extract rfl) rfl rfl ?_
  refine lpure (v := .slice a8439 n8439 c8439) rfl (p_assign rfl) rfl rfl ?_
  refine lpure (v := .int .i64 e8432.2) rfl (p_assign rfl) rfl rfl ?_
  refine lend (nseq (dseq (dreg ?_)))
  refine lread (v := .agg #[.int .i64 e34.Nodes, .slice a41 n41 c41, .slice a43 n43 c43]) rfl (q_load wd_25 rfl) (St.ld X8438 (j := 7) rfl rfl) rfl ?_
  obtain ⟨h8441, b8441, hv8441, X8441, O8441⟩ := OSl.lay (E := (eInt .i64)) (φ := φ8436) (cs := [.int .i64 0]) (l := [0]) (len := 1) (parts := [(0, .int .i64 0)]) un_27 ts_3 rfl rfl rfl tz_3 rfl rfl (show RowD (eInt .i64) φ8436 [.int .i64 0] [0] from ⟨[.int .i64 0], _, rfl, rfl, rfl⟩) rfl rfl X8438
  refine lheap rfl (h_buildSlice rfl) hv8441 rfl ?_
  obtain ⟨h8443, b8443, hv8443, X8443, O8443⟩ := OSl.lay (E := (eInt .i64)) (φ := φ8436) (cs := [.int .i64 2, .int .i64 4]) (l := [2, 4]) (len := 2) (parts := [(0, .int .i64 2), (1, .int .i64 4)]) un_27 ts_3 rfl rfl rfl tz_3 rfl rfl (show RowD (eInt .i64) φ8436 [.int .i64 2, .int .i64 4] [2, 4] from ⟨[.int .i64 2], _, rfl, rfl, ⟨[.int .i64 4], _, rfl, rfl, rfl⟩⟩) rfl rfl X8441
  refine lheap rfl (h_buildSlice rfl) hv8443 rfl ?_
  obtain ⟨φ9971, g9972, X9973, H9974⟩ := OSl.freeze X8443 (j := 1) rfl O8441
  obtain ⟨φ9975, g9976, X9977, H9978⟩ := OSl.freeze X9973 (j := 0) rfl (O8443.mono g9972)
  refine lcall rfl rfl ca_22 rfl rfl (f22_ok X9977 e34 ([0]) ([2, 4]) (H7892.mono ((((((g7894.trans g7898).trans g7906).trans g8429).trans g8437).trans g9972).trans g9976)) (H7896.mono (((((g7898.trans g7906).trans g8429).trans g8437).trans g9972).trans g9976)) (H9974.mono g9976) H9978) rfl (fun e9979 v9980 h9981 hq9982 => ?_)
  cases hq9982
  refine lpure (v := .tuple #[.bool e9979.1, .int .i64 e9979.2]) rfl (p_move rfl) rfl rfl ?_
  refine lpure (v := .bool e9979.1) rfl (p_extract rfl) rfl rfl ?_
  refine lpure (v := .int .i64 e9979.2) rfl (p_extract rfl) rfl rfl ?_
  refine lpure (v := .bool e9979.1) rfl (p_assign rfl) rfl rfl ?_
  refine lpure (v := .int .i64 e9979.2) rfl (p_assign rfl) rfl rfl ?_
  refine lend (nseq (dseq (dreg ?_)))
  refine lread (v := .agg #[.int .i64 e34.Nodes, .slice a41 n41 c41, .slice a43 n43 c43]) rfl (q_load wd_25 rfl) (St.ld X8443 (j := 9) rfl rfl) rfl ?_
  obtain ⟨h9983, b9983, hv9983, X9983, O9983⟩ := OSl.lay (E := (eInt .i64)) (φ := φ8436) (cs := [.int .i64 0, .int .i64 2]) (l := [0, 2]) (len := 2) (parts := [(0, .int .i64 0), (1, .int .i64 2)]) un_27 ts_3 rfl rfl rfl tz_3 rfl rfl (show RowD (eInt .i64) φ8436 [.int .i64 0, .int .i64 2] [0, 2] from ⟨[.int .i64 0], _, rfl, rfl, ⟨[.int .i64 2], _, rfl, rfl, rfl⟩⟩) rfl rfl X8443
  refine lheap rfl (h_buildSlice rfl) hv9983 rfl ?_
  obtain ⟨h9985, b9985, hv9985, X9985, O9985⟩ := OSl.lay (E := (eInt .i64)) (φ := φ8436) (cs := [.int .i64 0, .int .i64 2, .int .i64 4]) (l := [0, 2, 4]) (len := 3) (parts := [(0, .int .i64 0), (1, .int .i64 2), (2, .int .i64 4)]) un_27 ts_3 rfl rfl rfl tz_3 rfl rfl (show RowD (eInt .i64) φ8436 [.int .i64 0, .int .i64 2, .int .i64 4] [0, 2, 4] from ⟨[.int .i64 0], _, rfl, rfl, ⟨[.int .i64 2], _, rfl, rfl, ⟨[.int .i64 4], _, rfl, rfl, rfl⟩⟩⟩) rfl rfl X9983
  refine lheap rfl (h_buildSlice rfl) hv9985 rfl ?_
  obtain ⟨φ9987, g9988, X9989, H9990⟩ := OSl.freeze X9985 (j := 1) rfl O9983
  obtain ⟨φ9991, g9992, X9993, H9994⟩ := OSl.freeze X9989 (j := 0) rfl (O9985.mono g9988)
  obtain ⟨h9995, b9995, hv9995, X9995, O9995⟩ := OSl.lay (E := (eSl (eInt .i64))) (φ := φ9991) (cs := [.slice (some ⟨b9983, 0, none⟩) 2 2, .slice (some ⟨b9985, 0, none⟩) 3 3]) (l := [[0, 2], [0, 2, 4]]) (len := 2) (parts := [(0, .slice (some ⟨b9983, 0, none⟩) 2 2), (1, .slice (some ⟨b9985, 0, none⟩) 3 3)]) un_52 ts_27 rfl rfl rfl tz_27 rfl rfl (show RowD (eSl (eInt .i64)) φ9991 [.slice (some ⟨b9983, 0, none⟩) 2 2, .slice (some ⟨b9985, 0, none⟩) 3 3] [[0, 2], [0, 2, 4]] from ⟨[.slice (some ⟨b9983, 0, none⟩) 2 2], _, rfl, ⟨_, _, _, rfl, (H9990.mono g9992)⟩, ⟨[.slice (some ⟨b9985, 0, none⟩) 3 3], _, rfl, ⟨_, _, _, rfl, H9994⟩, rfl⟩⟩) rfl rfl X9993
  refine lheap rfl (h_buildSlice rfl) hv9995 rfl ?_
  obtain ⟨φ18541, g18542, X18543, H18544⟩ := OSl.freeze X9995 (j := 0) rfl O9995
  refine lcall rfl rfl ca_24 rfl rfl (f24_ok X18543 e34 ([[0, 2], [0, 2, 4]]) (H7892.mono (((((((g7894.trans g7898).trans g7906).trans g8429).trans g8437).trans g9988).trans g9992).trans g18542)) (H7896.mono ((((((g7898.trans g7906).trans g8429).trans g8437).trans g9988).trans g9992).trans g18542)) H18544) rfl ?_
  rintro e18545 _ h18547 ⟨φ18549, a18552, n18552, c18552, ob18552, blk18552, g18550, X18551, rfl, O18552⟩
  refine lpure (v := .tuple #[.slice a18552 n18552 c18552, .bool e18545.2.1, .int .i64 e18545.2.2]) rfl (p_move rfl) rfl rfl ?_
  refine lpure (v := .slice a18552 n18552 c18552) rfl (p_extract rfl) rfl rfl ?_
  refine lpure (v := .bool e18545.2.1) rfl (p_extract rfl) rfl rfl ?_
  refine lpure (v := .int .i64 e18545.2.2) rfl (p_extract rfl) rfl rfl ?_
  refine lpure (v := .slice a18552 n18552 c18552) rfl (p_assign rfl) rfl rfl ?_
  refine lpure (v := .bool e18545.2.1) rfl (p_assign rfl) rfl rfl ?_
  refine lpure (v := .int .i64 e18545.2.2) rfl (p_assign rfl) rfl rfl ?_
  refine lend (nseq (dseq (dreg ?_)))
  refine lpure (v := .int .i64 e7901.2) rfl (p_move rfl) rfl rfl ?_
  refine lpure (v := .bool (decide (e7901.2 = 0))) rfl (p_eq rfl) rfl rfl ?_
  refine lpure (v := .bool (decide (e7901.2 = 0))) rfl (p_move rfl) rfl rfl ?_
  refine lsh (τ := Bool) (σ := Unit) (fun s18555 (_ : Unit) => [(1, .pointer (some ⟨b45, 0, none⟩)), (2, .slice a7908 n7908 c7908), (4, .int .i64 e7941.1), (5, .int .i64 e7941.2.1), (7, .int .i64 e8048.1), (8, .int .i64 e8048.2), (9, .int .i64 e8168.1), (10, .int .i64 e8168.2), (11, .slice a8439 n8439 c8439), (12, .int .i64 e8432.2), (13, .bool e9979.1), (14, .int .i64 e9979.2), (15, .slice a18552 n18552 c18552), (16, .bool e18545.2.1), (17, .int .i64 e18545.2.2), (72, .bool s18555)]) (fun s18555 (_ : Unit) hh => St φ18549 h.n hh ([(ob18552, blk18552), (none, .dead), (none, .dead), (none, .dead), (some b8443, (.cells [.int .i64 2, .int .i64 4] 3 .exact)), (some b8441, (.cells [.int .i64 0] 3 .exact)), (ob8439, blk8439), (none, .dead), (some b8052, (.cells [.int .i64 0, .int .i64 2, .int .i64 4] 3 .exact)), (some b7945, (.cells [.int .i64 0, .int .i64 2, .int .i64 4] 3 .exact)), (some b7910, (.cells [.int .i64 2, .int .i64 4] 3 .exact)), (ob7908, blk7908), (none, .dead), (some b45, .cells [.int .i64 e34.Nodes, .slice a41 n41 c41, .slice a43 n43 c43] 25 .exact), (none, .dead), (none, .dead)])) 3 ?_ ?_
  · rintro s18555 _ t0 h18557 X18556
    refine lpure (v := .bool s18555) rfl (p_move rfl) rfl rfl ?_
    refine lsh (τ := Bool) (σ := Unit) (fun s18559 (_ : Unit) => [(1, .pointer (some ⟨b45, 0, none⟩)), (2, .slice a7908 n7908 c7908), (4, .int .i64 e7941.1), (5, .int .i64 e7941.2.1), (7, .int .i64 e8048.1), (9, .int .i64 e8168.1), (10, .int .i64 e8168.2), (11, .slice a8439 n8439 c8439), (12, .int .i64 e8432.2), (13, .bool e9979.1), (14, .int .i64 e9979.2), (15, .slice a18552 n18552 c18552), (16, .bool e18545.2.1), (17, .int .i64 e18545.2.2), (76, .bool s18559)]) (fun s18559 (_ : Unit) hh => St φ18549 h.n hh ([(ob18552, blk18552), (none, .dead), (none, .dead), (none, .dead), (some b8443, (.cells [.int .i64 2, .int .i64 4] 3 .exact)), (some b8441, (.cells [.int .i64 0] 3 .exact)), (ob8439, blk8439), (none, .dead), (some b8052, (.cells [.int .i64 0, .int .i64 2, .int .i64 4] 3 .exact)), (some b7945, (.cells [.int .i64 0, .int .i64 2, .int .i64 4] 3 .exact)), (some b7910, (.cells [.int .i64 2, .int .i64 4] 3 .exact)), (ob7908, blk7908), (none, .dead), (some b45, .cells [.int .i64 e34.Nodes, .slice a41 n41 c41, .slice a43 n43 c43] 25 .exact), (none, .dead), (none, .dead)])) 3 ?_ ?_
    · rintro s18559 _ t0 h18561 X18560
      refine lpure (v := .bool s18559) rfl (p_move rfl) rfl rfl ?_
      refine lsh (τ := Bool) (σ := Unit) (fun s18563 (_ : Unit) => [(1, .pointer (some ⟨b45, 0, none⟩)), (2, .slice a7908 n7908 c7908), (4, .int .i64 e7941.1), (5, .int .i64 e7941.2.1), (7, .int .i64 e8048.1), (9, .int .i64 e8168.1), (11, .slice a8439 n8439 c8439), (12, .int .i64 e8432.2), (13, .bool e9979.1), (14, .int .i64 e9979.2), (15, .slice a18552 n18552 c18552), (16, .bool e18545.2.1), (17, .int .i64 e18545.2.2), (80, .bool s18563)]) (fun s18563 (_ : Unit) hh => St φ18549 h.n hh ([(ob18552, blk18552), (none, .dead), (none, .dead), (none, .dead), (some b8443, (.cells [.int .i64 2, .int .i64 4] 3 .exact)), (some b8441, (.cells [.int .i64 0] 3 .exact)), (ob8439, blk8439), (none, .dead), (some b8052, (.cells [.int .i64 0, .int .i64 2, .int .i64 4] 3 .exact)), (some b7945, (.cells [.int .i64 0, .int .i64 2, .int .i64 4] 3 .exact)), (some b7910, (.cells [.int .i64 2, .int .i64 4] 3 .exact)), (ob7908, blk7908), (none, .dead), (some b45, .cells [.int .i64 e34.Nodes, .slice a41 n41 c41, .slice a43 n43 c43] 25 .exact), (none, .dead), (none, .dead)])) 3 ?_ ?_
      · rintro s18563 _ t0 h18565 X18564
        refine lpure (v := .bool s18563) rfl (p_move rfl) rfl rfl ?_
        refine lsh (τ := Bool) (σ := Unit) (fun s18567 (_ : Unit) => [(1, .pointer (some ⟨b45, 0, none⟩)), (2, .slice a7908 n7908 c7908), (4, .int .i64 e7941.1), (5, .int .i64 e7941.2.1), (7, .int .i64 e8048.1), (9, .int .i64 e8168.1), (11, .slice a8439 n8439 c8439), (13, .bool e9979.1), (14, .int .i64 e9979.2), (15, .slice a18552 n18552 c18552), (16, .bool e18545.2.1), (17, .int .i64 e18545.2.2), (84, .bool s18567)]) (fun s18567 (_ : Unit) hh => St φ18549 h.n hh ([(ob18552, blk18552), (none, .dead), (none, .dead), (none, .dead), (some b8443, (.cells [.int .i64 2, .int .i64 4] 3 .exact)), (some b8441, (.cells [.int .i64 0] 3 .exact)), (ob8439, blk8439), (none, .dead), (some b8052, (.cells [.int .i64 0, .int .i64 2, .int .i64 4] 3 .exact)), (some b7945, (.cells [.int .i64 0, .int .i64 2, .int .i64 4] 3 .exact)), (some b7910, (.cells [.int .i64 2, .int .i64 4] 3 .exact)), (ob7908, blk7908), (none, .dead), (some b45, .cells [.int .i64 e34.Nodes, .slice a41 n41 c41, .slice a43 n43 c43] 25 .exact), (none, .dead), (none, .dead)])) 3 ?_ ?_
        · rintro s18567 _ t0 h18569 X18568
          refine lpure (v := .bool s18567) rfl (p_move rfl) rfl rfl ?_
          refine lsh (τ := Bool) (σ := Unit) (fun s18571 (_ : Unit) => [(1, .pointer (some ⟨b45, 0, none⟩)), (2, .slice a7908 n7908 c7908), (4, .int .i64 e7941.1), (5, .int .i64 e7941.2.1), (7, .int .i64 e8048.1), (9, .int .i64 e8168.1), (11, .slice a8439 n8439 c8439), (13, .bool e9979.1), (15, .slice a18552 n18552 c18552), (16, .bool e18545.2.1), (17, .int .i64 e18545.2.2), (88, .bool s18571)]) (fun s18571 (_ : Unit) hh => St φ18549 h.n hh ([(ob18552, blk18552), (none, .dead), (none, .dead), (none, .dead), (some b8443, (.cells [.int .i64 2, .int .i64 4] 3 .exact)), (some b8441, (.cells [.int .i64 0] 3 .exact)), (ob8439, blk8439), (none, .dead), (some b8052, (.cells [.int .i64 0, .int .i64 2, .int .i64 4] 3 .exact)), (some b7945, (.cells [.int .i64 0, .int .i64 2, .int .i64 4] 3 .exact)), (some b7910, (.cells [.int .i64 2, .int .i64 4] 3 .exact)), (ob7908, blk7908), (none, .dead), (some b45, .cells [.int .i64 e34.Nodes, .slice a41 n41 c41, .slice a43 n43 c43] 25 .exact), (none, .dead), (none, .dead)])) 3 ?_ ?_
          · rintro s18571 _ t0 h18573 X18572
            refine lpure (v := .bool s18571) rfl (p_move rfl) rfl rfl ?_
            refine lsh (τ := Bool) (σ := Unit) (fun s18575 (_ : Unit) => [(1, .pointer (some ⟨b45, 0, none⟩)), (2, .slice a7908 n7908 c7908), (4, .int .i64 e7941.1), (5, .int .i64 e7941.2.1), (7, .int .i64 e8048.1), (9, .int .i64 e8168.1), (11, .slice a8439 n8439 c8439), (13, .bool e9979.1), (15, .slice a18552 n18552 c18552), (16, .bool e18545.2.1), (92, .bool s18575)]) (fun s18575 (_ : Unit) hh => St φ18549 h.n hh ([(ob18552, blk18552), (none, .dead), (none, .dead), (none, .dead), (some b8443, (.cells [.int .i64 2, .int .i64 4] 3 .exact)), (some b8441, (.cells [.int .i64 0] 3 .exact)), (ob8439, blk8439), (none, .dead), (some b8052, (.cells [.int .i64 0, .int .i64 2, .int .i64 4] 3 .exact)), (some b7945, (.cells [.int .i64 0, .int .i64 2, .int .i64 4] 3 .exact)), (some b7910, (.cells [.int .i64 2, .int .i64 4] 3 .exact)), (ob7908, blk7908), (none, .dead), (some b45, .cells [.int .i64 e34.Nodes, .slice a41 n41 c41, .slice a43 n43 c43] 25 .exact), (none, .dead), (none, .dead)])) 3 ?_ ?_
            · rintro s18575 _ t0 h18577 X18576
              refine lpure (v := .bool s18575) rfl (p_assign rfl) rfl rfl ?_
              refine lend (nseq (dseq (dreg ?_)))
              refine lpure (v := .bool s18575) rfl (p_move rfl) rfl rfl ?_
              refine lpure (v := .bool s18575) rfl (p_move rfl) rfl rfl ?_
              refine ljoinM (τ := Bool) (σ := Unit) (fun s18645 (_ : Unit) => [(1, .pointer (some ⟨b45, 0, none⟩)), (4, .int .i64 e7941.1), (5, .int .i64 e7941.2.1), (7, .int .i64 e8048.1), (9, .int .i64 e8168.1), (11, .slice a8439 n8439 c8439), (13, .bool e9979.1), (15, .slice a18552 n18552 c18552), (16, .bool e18545.2.1), (98, .bool s18645)]) (fun s18645 (_ : Unit) hh => St φ18549 h.n hh ([(ob18552, blk18552), (none, .dead), (none, .dead), (none, .dead), (some b8443, (.cells [.int .i64 2, .int .i64 4] 3 .exact)), (some b8441, (.cells [.int .i64 0] 3 .exact)), (ob8439, blk8439), (none, .dead), (some b8052, (.cells [.int .i64 0, .int .i64 2, .int .i64 4] 3 .exact)), (some b7945, (.cells [.int .i64 0, .int .i64 2, .int .i64 4] 3 .exact)), (some b7910, (.cells [.int .i64 2, .int .i64 4] 3 .exact)), (ob7908, blk7908), (none, .dead), (some b45, .cells [.int .i64 e34.Nodes, .slice a41 n41 c41, .slice a43 n43 c43] 25 .exact), (none, .dead), (none, .dead)])) 4 ?_ ?_
              · rintro s18645 _ t0 h18647 X18646
                refine lpure (v := .bool s18645) rfl (p_move rfl) rfl rfl ?_
                refine lsh (τ := Bool) (σ := Unit) (fun s18649 (_ : Unit) => [(1, .pointer (some ⟨b45, 0, none⟩)), (5, .int .i64 e7941.2.1), (7, .int .i64 e8048.1), (9, .int .i64 e8168.1), (11, .slice a8439 n8439 c8439), (13, .bool e9979.1), (15, .slice a18552 n18552 c18552), (16, .bool e18545.2.1), (102, .bool s18649)]) (fun s18649 (_ : Unit) hh => St φ18549 h.n hh ([(ob18552, blk18552), (none, .dead), (none, .dead), (none, .dead), (some b8443, (.cells [.int .i64 2, .int .i64 4] 3 .exact)), (some b8441, (.cells [.int .i64 0] 3 .exact)), (ob8439, blk8439), (none, .dead), (some b8052, (.cells [.int .i64 0, .int .i64 2, .int .i64 4] 3 .exact)), (some b7945, (.cells [.int .i64 0, .int .i64 2, .int .i64 4] 3 .exact)), (some b7910, (.cells [.int .i64 2, .int .i64 4] 3 .exact)), (ob7908, blk7908), (none, .dead), (some b45, .cells [.int .i64 e34.Nodes, .slice a41 n41 c41, .slice a43 n43 c43] 25 .exact), (none, .dead), (none, .dead)])) 3 ?_ ?_
                · rintro s18649 _ t0 h18651 X18650
                  refine lpure (v := .bool s18649) rfl (p_move rfl) rfl rfl ?_
                  refine lsh (τ := Bool) (σ := Unit) (fun s18653 (_ : Unit) => [(1, .pointer (some ⟨b45, 0, none⟩)), (7, .int .i64 e8048.1), (9, .int .i64 e8168.1), (11, .slice a8439 n8439 c8439), (13, .bool e9979.1), (15, .slice a18552 n18552 c18552), (16, .bool e18545.2.1), (106, .bool s18653)]) (fun s18653 (_ : Unit) hh => St φ18549 h.n hh ([(ob18552, blk18552), (none, .dead), (none, .dead), (none, .dead), (some b8443, (.cells [.int .i64 2, .int .i64 4] 3 .exact)), (some b8441, (.cells [.int .i64 0] 3 .exact)), (ob8439, blk8439), (none, .dead), (some b8052, (.cells [.int .i64 0, .int .i64 2, .int .i64 4] 3 .exact)), (some b7945, (.cells [.int .i64 0, .int .i64 2, .int .i64 4] 3 .exact)), (some b7910, (.cells [.int .i64 2, .int .i64 4] 3 .exact)), (ob7908, blk7908), (none, .dead), (some b45, .cells [.int .i64 e34.Nodes, .slice a41 n41 c41, .slice a43 n43 c43] 25 .exact), (none, .dead), (none, .dead)])) 3 ?_ ?_
                  · rintro s18653 _ t0 h18655 X18654
                    refine lpure (v := .bool s18653) rfl (p_move rfl) rfl rfl ?_
                    refine lsh (τ := Bool) (σ := Unit) (fun s18657 (_ : Unit) => [(1, .pointer (some ⟨b45, 0, none⟩)), (9, .int .i64 e8168.1), (11, .slice a8439 n8439 c8439), (13, .bool e9979.1), (15, .slice a18552 n18552 c18552), (16, .bool e18545.2.1), (110, .bool s18657)]) (fun s18657 (_ : Unit) hh => St φ18549 h.n hh ([(ob18552, blk18552), (none, .dead), (none, .dead), (none, .dead), (some b8443, (.cells [.int .i64 2, .int .i64 4] 3 .exact)), (some b8441, (.cells [.int .i64 0] 3 .exact)), (ob8439, blk8439), (none, .dead), (some b8052, (.cells [.int .i64 0, .int .i64 2, .int .i64 4] 3 .exact)), (some b7945, (.cells [.int .i64 0, .int .i64 2, .int .i64 4] 3 .exact)), (some b7910, (.cells [.int .i64 2, .int .i64 4] 3 .exact)), (ob7908, blk7908), (none, .dead), (some b45, .cells [.int .i64 e34.Nodes, .slice a41 n41 c41, .slice a43 n43 c43] 25 .exact), (none, .dead), (none, .dead)])) 3 ?_ ?_
                    · rintro s18657 _ t0 h18659 X18658
                      refine lpure (v := .bool s18657) rfl (p_move rfl) rfl rfl ?_
                      refine lsh (τ := Bool) (σ := Unit) (fun s18661 (_ : Unit) => [(1, .pointer (some ⟨b45, 0, none⟩)), (11, .slice a8439 n8439 c8439), (13, .bool e9979.1), (15, .slice a18552 n18552 c18552), (16, .bool e18545.2.1), (114, .bool s18661)]) (fun s18661 (_ : Unit) hh => St φ18549 h.n hh ([(ob18552, blk18552), (none, .dead), (none, .dead), (none, .dead), (some b8443, (.cells [.int .i64 2, .int .i64 4] 3 .exact)), (some b8441, (.cells [.int .i64 0] 3 .exact)), (ob8439, blk8439), (none, .dead), (some b8052, (.cells [.int .i64 0, .int .i64 2, .int .i64 4] 3 .exact)), (some b7945, (.cells [.int .i64 0, .int .i64 2, .int .i64 4] 3 .exact)), (some b7910, (.cells [.int .i64 2, .int .i64 4] 3 .exact)), (ob7908, blk7908), (none, .dead), (some b45, .cells [.int .i64 e34.Nodes, .slice a41 n41 c41, .slice a43 n43 c43] 25 .exact), (none, .dead), (none, .dead)])) 3 ?_ ?_
                      · rintro s18661 _ t0 h18663 X18662
                        refine lpure (v := .bool s18661) rfl (p_move rfl) rfl rfl ?_
                        refine ljoinM (τ := Bool) (σ := Unit) (fun s18731 (_ : Unit) => [(1, .pointer (some ⟨b45, 0, none⟩)), (13, .bool e9979.1), (15, .slice a18552 n18552 c18552), (16, .bool e18545.2.1), (119, .bool s18731)]) (fun s18731 (_ : Unit) hh => St φ18549 h.n hh ([(ob18552, blk18552), (none, .dead), (none, .dead), (none, .dead), (some b8443, (.cells [.int .i64 2, .int .i64 4] 3 .exact)), (some b8441, (.cells [.int .i64 0] 3 .exact)), (ob8439, blk8439), (none, .dead), (some b8052, (.cells [.int .i64 0, .int .i64 2, .int .i64 4] 3 .exact)), (some b7945, (.cells [.int .i64 0, .int .i64 2, .int .i64 4] 3 .exact)), (some b7910, (.cells [.int .i64 2, .int .i64 4] 3 .exact)), (ob7908, blk7908), (none, .dead), (some b45, .cells [.int .i64 e34.Nodes, .slice a41 n41 c41, .slice a43 n43 c43] 25 .exact), (none, .dead), (none, .dead)])) 4 ?_ ?_
                        · rintro s18731 _ t0 h18733 X18732
                          refine lpure (v := .bool s18731) rfl (p_move rfl) rfl rfl ?_
                          refine lsh (τ := Bool) (σ := Unit) (fun s18735 (_ : Unit) => [(1, .pointer (some ⟨b45, 0, none⟩)), (15, .slice a18552 n18552 c18552), (16, .bool e18545.2.1), (122, .bool s18735)]) (fun s18735 (_ : Unit) hh => St φ18549 h.n hh ([(ob18552, blk18552), (none, .dead), (none, .dead), (none, .dead), (some b8443, (.cells [.int .i64 2, .int .i64 4] 3 .exact)), (some b8441, (.cells [.int .i64 0] 3 .exact)), (ob8439, blk8439), (none, .dead), (some b8052, (.cells [.int .i64 0, .int .i64 2, .int .i64 4] 3 .exact)), (some b7945, (.cells [.int .i64 0, .int .i64 2, .int .i64 4] 3 .exact)), (some b7910, (.cells [.int .i64 2, .int .i64 4] 3 .exact)), (ob7908, blk7908), (none, .dead), (some b45, .cells [.int .i64 e34.Nodes, .slice a41 n41 c41, .slice a43 n43 c43] 25 .exact), (none, .dead), (none, .dead)])) 2 ?_ ?_
                          · rintro s18735 _ t0 h18737 X18736
                            refine lpure (v := .bool s18735) rfl (p_move rfl) rfl rfl ?_
                            refine ljoinM (τ := Bool) (σ := Unit) (fun s18754 (_ : Unit) => [(1, .pointer (some ⟨b45, 0, none⟩)), (16, .bool e18545.2.1), (127, .bool s18754)]) (fun s18754 (_ : Unit) hh => St φ18549 h.n hh ([(ob18552, blk18552), (none, .dead), (none, .dead), (none, .dead), (some b8443, (.cells [.int .i64 2, .int .i64 4] 3 .exact)), (some b8441, (.cells [.int .i64 0] 3 .exact)), (ob8439, blk8439), (none, .dead), (some b8052, (.cells [.int .i64 0, .int .i64 2, .int .i64 4] 3 .exact)), (some b7945, (.cells [.int .i64 0, .int .i64 2, .int .i64 4] 3 .exact)), (some b7910, (.cells [.int .i64 2, .int .i64 4] 3 .exact)), (ob7908, blk7908), (none, .dead), (some b45, .cells [.int .i64 e34.Nodes, .slice a41 n41 c41, .slice a43 n43 c43] 25 .exact), (none, .dead), (none, .dead)])) 4 ?_ ?_
                            · rintro s18754 _ t0 h18756 X18755
                              refine lpure (v := .bool s18754) rfl (p_move rfl) rfl rfl ?_
                              refine lsh (τ := Bool) (σ := Unit) (fun s18758 (_ : Unit) => [(1, .pointer (some ⟨b45, 0, none⟩)), (130, .bool s18758)]) (fun s18758 (_ : Unit) hh => St φ18549 h.n hh ([(ob18552, blk18552), (none, .dead), (none, .dead), (none, .dead), (some b8443, (.cells [.int .i64 2, .int .i64 4] 3 .exact)), (some b8441, (.cells [.int .i64 0] 3 .exact)), (ob8439, blk8439), (none, .dead), (some b8052, (.cells [.int .i64 0, .int .i64 2, .int .i64 4] 3 .exact)), (some b7945, (.cells [.int .i64 0, .int .i64 2, .int .i64 4] 3 .exact)), (some b7910, (.cells [.int .i64 2, .int .i64 4] 3 .exact)), (ob7908, blk7908), (none, .dead), (some b45, .cells [.int .i64 e34.Nodes, .slice a41 n41 c41, .slice a43 n43 c43] 25 .exact), (none, .dead), (none, .dead)])) 2 ?_ ?_
                              · rintro s18758 _ t0 h18760 X18759
                                refine lpure (v := .bool s18758) rfl (p_move rfl) rfl rfl ?_
                                refine ljoinM (τ := Bool) (σ := Unit) (fun s18773 (_ : Unit) => [(136, .bool s18773)]) (fun s18773 (_ : Unit) hh => St φ18549 h.n hh ([(ob18552, blk18552), (none, .dead), (none, .dead), (none, .dead), (some b8443, (.cells [.int .i64 2, .int .i64 4] 3 .exact)), (some b8441, (.cells [.int .i64 0] 3 .exact)), (ob8439, blk8439), (none, .dead), (some b8052, (.cells [.int .i64 0, .int .i64 2, .int .i64 4] 3 .exact)), (some b7945, (.cells [.int .i64 0, .int .i64 2, .int .i64 4] 3 .exact)), (some b7910, (.cells [.int .i64 2, .int .i64 4] 3 .exact)), (ob7908, blk7908), (none, .dead), (some b45, .cells [.int .i64 e34.Nodes, .slice a41 n41 c41, .slice a43 n43 c43] 25 .exact), (none, .dead), (none, .dead)])) 5 ?_ ?_
                                · rintro s18773 _ t0 h18775 X18774
                                  refine lpure (v := .bool s18773) rfl (p_assign rfl) rfl rfl ?_
                                  refine lend (nseq (dret ?_))
                                  exact kcut_r (res_1 resT) X18774 rfl rfl
                                intro j18776 J18777
                                refine lif (i := 131) (show _ = Value.bool s18758 from rfl) (fun k18778 => ?_) (fun k18778 => ?_)
                                · refine lread (v := .agg #[.int .i64 e34.Nodes, .slice a41 n41 c41, .slice a43 n43 c43]) rfl (q_load wd_25 rfl) (St.ld X18759 (j := 13) rfl rfl) rfl ?_
                                  obtain ⟨h18779, b18779, hv18779, X18779, O18779⟩ := OSl.lay (E := (eInt .i64)) (φ := φ18549) (cs := [.int .i64 0, .int .i64 4]) (l := [0, 4]) (len := 2) (parts := [(0, .int .i64 0), (1, .int .i64 4)]) un_27 ts_3 rfl rfl rfl tz_3 rfl rfl (show RowD (eInt .i64) φ18549 [.int .i64 0, .int .i64 4] [0, 4] from ⟨[.int .i64 0], _, rfl, rfl, ⟨[.int .i64 4], _, rfl, rfl, rfl⟩⟩) rfl rfl X18759
                                  refine lheap rfl (h_buildSlice rfl) hv18779 rfl ?_
                                  obtain ⟨φ18781, g18782, X18783, H18784⟩ := OSl.freeze X18779 (j := 0) rfl O18779
                                  refine lcall rfl rfl ca_15 rfl rfl (f15_ok X18783 e34 ([0, 4]) (H7892.mono (((((((((g7894.trans g7898).trans g7906).trans g8429).trans g8437).trans g9988).trans g9992).trans g18542).trans g18550).trans g18782)) (H7896.mono ((((((((g7898.trans g7906).trans g8429).trans g8437).trans g9988).trans g9992).trans g18542).trans g18550).trans g18782)) H18784) rfl (fun e18785 v18786 h18787 hq18788 => ?_)
                                  cases hq18788
                                  refine lpure (v := .bool (decide (e18785 = 310))) rfl (p_eq rfl) rfl rfl ?_
                                  refine lpure (v := .bool (decide (e18785 = 310))) rfl (p_pick rfl) rfl rfl ?_
                                  exact ljmpM J18777 (decide (e18785 = 310)) () (sub_cons rfl sub_nil) (St.pick X18779 (.skip _ (.keep _ (.none _ (.none _ (.none _ (.skip _ (.skip _ (.skip _ (.keep _ (.keep _ (.keep _ (.none _ (.skip _ (.keep _ (.keep _ (.keep _ (.keep _ (.none _ (.skip _ (.keep _ (.none _ (.none _ (.nil _))))))))))))))))))))))))
                                refine lskip rfl rfl ?_
                                refine lskip rfl rfl ?_
                                refine lskip rfl rfl ?_
                                refine lskip rfl rfl ?_
                                refine lpure (v := .bool false) rfl (p_pick rfl) rfl rfl ?_
                                exact ljmpM J18777 false () (sub_cons rfl sub_nil) (St.pick X18759 (.keep _ (.none _ (.none _ (.none _ (.skip _ (.skip _ (.skip _ (.keep _ (.keep _ (.keep _ (.none _ (.skip _ (.keep _ (.keep _ (.keep _ (.keep _ (.none _ (.skip _ (.keep _ (.none _ (.none _ (.nil _)))))))))))))))))))))))
                              intro j18789 J18790
                              refine lcase (i := 128) (show _ = Value.bool s18754 from rfl) (fun k18791 => ?_) (fun k18791 => ?_)
                              · refine lpure (v := .bool e18545.2.1) rfl (p_move rfl) rfl rfl ?_
                                refine lpure (v := .bool e18545.2.1) rfl (p_pick rfl) rfl rfl ?_
                                refine Sim.of_eq (congrArg j18789 (show (s18754 && e18545.2.1) = e18545.2.1 from by rw [k18791] <;> rfl)) ?_
                                exact ljmpM J18790 e18545.2.1 () (sub_cons rfl (sub_cons rfl sub_nil)) (St.pick X18755 (.keep _ (.none _ (.none _ (.none _ (.skip _ (.skip _ (.skip _ (.keep _ (.keep _ (.keep _ (.none _ (.skip _ (.keep _ (.keep _ (.keep _ (.keep _ (.none _ (.skip _ (.keep _ (.none _ (.none _ (.nil _)))))))))))))))))))))))
                              refine lskip rfl rfl ?_
                              refine lpure (v := .bool false) rfl (p_pick rfl) rfl rfl ?_
                              refine Sim.of_eq (congrArg j18789 (show (s18754 && e18545.2.1) = false from by rw [k18791] <;> rfl)) ?_
                              exact ljmpM J18790 false () (sub_cons rfl (sub_cons rfl sub_nil)) (St.pick X18755 (.keep _ (.none _ (.none _ (.none _ (.skip _ (.skip _ (.skip _ (.keep _ (.keep _ (.keep _ (.none _ (.skip _ (.keep _ (.keep _ (.keep _ (.keep _ (.none _ (.skip _ (.keep _ (.none _ (.none _ (.nil _)))))))))))))))))))))))
                            intro j18792 J18793
                            refine lif (i := 123) (show _ = Value.bool s18735 from rfl) (fun k18794 => ?_) (fun k18794 => ?_)
                            · refine lpure (v := .slice a18552 n18552 c18552) rfl (p_move rfl) rfl rfl ?_
                              obtain ⟨h18795, b18795, hv18795, X18795, O18795⟩ := OSl.lay (E := (eInt .i64)) (φ := φ18549) (cs := [.int .i64 0, .int .i64 2, .int .i64 4]) (l := [0, 2, 4]) (len := 3) (parts := [(0, .int .i64 0), (1, .int .i64 2), (2, .int .i64 4)]) un_26 ts_3 rfl rfl rfl tz_3 rfl rfl (show RowD (eInt .i64) φ18549 [.int .i64 0, .int .i64 2, .int .i64 4] [0, 2, 4] from ⟨[.int .i64 0], _, rfl, rfl, ⟨[.int .i64 2], _, rfl, rfl, ⟨[.int .i64 4], _, rfl, rfl, rfl⟩⟩⟩) rfl rfl X18736
                              refine lheap rfl (h_buildSlice rfl) hv18795 rfl ?_
                              obtain ⟨φ18797, g18798, X18799, H18800⟩ := OSl.freeze X18795 (j := 1) rfl O18552
                              obtain ⟨φ18801, g18802, X18803, H18804⟩ := OSl.freeze X18799 (j := 0) rfl (O18795.mono g18798)
                              refine lcall rfl rfl ca_17 rfl rfl (f17_ok X18803 (e18545.1) ([0, 2, 4]) (H18800.mono g18802) H18804) rfl (fun e18805 v18806 h18807 hq18808 => ?_)
                              cases hq18808
                              refine lpure (v := .bool e18805) rfl (p_pick rfl) rfl rfl ?_
                              exact ljmpM J18793 e18805 () (sub_cons rfl (sub_cons rfl (sub_cons rfl sub_nil))) (St.pick X18795 (.skip _ (.keep _ (.none _ (.none _ (.none _ (.skip _ (.skip _ (.skip _ (.keep _ (.keep _ (.keep _ (.none _ (.skip _ (.keep _ (.keep _ (.keep _ (.keep _ (.none _ (.skip _ (.keep _ (.none _ (.none _ (.nil _))))))))))))))))))))))))
                            refine lskip rfl rfl ?_
                            refine lskip rfl rfl ?_
                            refine lskip rfl rfl ?_
                            refine lpure (v := .bool false) rfl (p_pick rfl) rfl rfl ?_
                            exact ljmpM J18793 false () (sub_cons rfl (sub_cons rfl (sub_cons rfl sub_nil))) (St.pick X18736 (.keep _ (.none _ (.none _ (.none _ (.skip _ (.skip _ (.skip _ (.keep _ (.keep _ (.keep _ (.none _ (.skip _ (.keep _ (.keep _ (.keep _ (.keep _ (.none _ (.skip _ (.keep _ (.none _ (.none _ (.nil _)))))))))))))))))))))))
                          intro j18809 J18810
                          refine lcase (i := 120) (show _ = Value.bool s18731 from rfl) (fun k18811 => ?_) (fun k18811 => ?_)
                          · refine lpure (v := .bool e9979.1) rfl (p_move rfl) rfl rfl ?_
                            refine lpure (v := .bool e9979.1) rfl (p_pick rfl) rfl rfl ?_
                            refine Sim.of_eq (congrArg j18809 (show (s18731 && e9979.1) = e9979.1 from by rw [k18811] <;> rfl)) ?_
                            exact ljmpM J18810 e9979.1 () (sub_cons rfl (sub_cons rfl (sub_cons rfl (sub_cons rfl sub_nil)))) (St.pick X18732 (.keep _ (.none _ (.none _ (.none _ (.skip _ (.skip _ (.skip _ (.keep _ (.keep _ (.keep _ (.none _ (.skip _ (.keep _ (.keep _ (.keep _ (.keep _ (.none _ (.skip _ (.keep _ (.none _ (.none _ (.nil _)))))))))))))))))))))))
                          refine lskip rfl rfl ?_
                          refine lpure (v := .bool false) rfl (p_pick rfl) rfl rfl ?_
                          refine Sim.of_eq (congrArg j18809 (show (s18731 && e9979.1) = false from by rw [k18811] <;> rfl)) ?_
                          exact ljmpM J18810 false () (sub_cons rfl (sub_cons rfl (sub_cons rfl (sub_cons rfl sub_nil)))) (St.pick X18732 (.keep _ (.none _ (.none _ (.none _ (.skip _ (.skip _ (.skip _ (.keep _ (.keep _ (.keep _ (.none _ (.skip _ (.keep _ (.keep _ (.keep _ (.keep _ (.none _ (.skip _ (.keep _ (.none _ (.none _ (.nil _)))))))))))))))))))))))
                        intro j18812 J18813
                        refine lif (i := 115) (show _ = Value.bool s18661 from rfl) (fun k18814 => ?_) (fun k18814 => ?_)
                        · refine lpure (v := .slice a8439 n8439 c8439) rfl (p_move rfl) rfl rfl ?_
                          obtain ⟨h18815, b18815, hv18815, X18815, O18815⟩ := OSl.lay (E := (eInt .i64)) (φ := φ18549) (cs := [.int .i64 5, .int .i64 3, .int .i64 1]) (l := [5, 3, 1]) (len := 3) (parts := [(0, .int .i64 5), (1, .int .i64 3), (2, .int .i64 1)]) un_27 ts_3 rfl rfl rfl tz_3 rfl rfl (show RowD (eInt .i64) φ18549 [.int .i64 5, .int .i64 3, .int .i64 1] [5, 3, 1] from ⟨[.int .i64 5], _, rfl, rfl, ⟨[.int .i64 3], _, rfl, rfl, ⟨[.int .i64 1], _, rfl, rfl, rfl⟩⟩⟩) rfl rfl X18662
                          refine lheap rfl (h_buildSlice rfl) hv18815 rfl ?_
                          obtain ⟨φ18817, g18818, X18819, H18820⟩ := OSl.freeze X18815 (j := 7) rfl (O8439.mono (((g9988.trans g9992).trans g18542).trans g18550))
                          obtain ⟨φ18821, g18822, X18823, H18824⟩ := OSl.freeze X18819 (j := 0) rfl (O18815.mono g18818)
                          refine lcall rfl rfl ca_19 rfl rfl (f19_ok X18823 (e8432.1) ([5, 3, 1]) (H18820.mono g18822) H18824) rfl (fun e18825 v18826 h18827 hq18828 => ?_)
                          cases hq18828
                          refine lpure (v := .bool e18825) rfl (p_pick rfl) rfl rfl ?_
                          exact ljmpM J18813 e18825 () (sub_cons rfl (sub_cons rfl (sub_cons rfl (sub_cons rfl (sub_cons rfl sub_nil))))) (St.pick X18815 (.skip _ (.keep _ (.none _ (.none _ (.none _ (.skip _ (.skip _ (.skip _ (.keep _ (.keep _ (.keep _ (.none _ (.skip _ (.keep _ (.keep _ (.keep _ (.keep _ (.none _ (.skip _ (.keep _ (.none _ (.none _ (.nil _))))))))))))))))))))))))
                        refine lskip rfl rfl ?_
                        refine lskip rfl rfl ?_
                        refine lskip rfl rfl ?_
                        refine lpure (v := .bool false) rfl (p_pick rfl) rfl rfl ?_
                        exact ljmpM J18813 false () (sub_cons rfl (sub_cons rfl (sub_cons rfl (sub_cons rfl (sub_cons rfl sub_nil))))) (St.pick X18662 (.keep _ (.none _ (.none _ (.none _ (.skip _ (.skip _ (.skip _ (.keep _ (.keep _ (.keep _ (.none _ (.skip _ (.keep _ (.keep _ (.keep _ (.keep _ (.none _ (.skip _ (.keep _ (.none _ (.none _ (.nil _)))))))))))))))))))))))
                      intro j18829 J18830
                      refine lcase (i := 111) (show _ = Value.bool s18657 from rfl) (fun k18831 => ?_) (fun k18831 => ?_)
                      · refine lpure (v := .int .i64 e8168.1) rfl (p_move rfl) rfl rfl ?_
                        refine lpure (v := .bool (decide (e8168.1 = 9657))) rfl (p_eq rfl) rfl rfl ?_
                        refine lpure (v := .bool (decide (e8168.1 = 9657))) rfl (p_pick rfl) rfl rfl ?_
                        refine Sim.of_eq (congrArg j18829 (show (s18657 && (decide (e8168.1 = 9657))) = (decide (e8168.1 = 9657)) from by rw [k18831] <;> rfl)) ?_
                        exact ljmpM J18830 (decide (e8168.1 = 9657)) () (sub_cons rfl (sub_cons rfl (sub_cons rfl (sub_cons rfl (sub_cons rfl (sub_cons rfl sub_nil)))))) (St.pick X18658 (.keep _ (.none _ (.none _ (.none _ (.skip _ (.skip _ (.skip _ (.keep _ (.keep _ (.keep _ (.none _ (.skip _ (.keep _ (.keep _ (.keep _ (.keep _ (.none _ (.skip _ (.keep _ (.none _ (.none _ (.nil _)))))))))))))))))))))))
                      refine lskip rfl rfl ?_
                      refine lskip rfl rfl ?_
                      refine lpure (v := .bool false) rfl (p_pick rfl) rfl rfl ?_
                      refine Sim.of_eq (congrArg j18829 (show (s18657 && (decide (e8168.1 = 9657))) = false from by rw [k18831] <;> rfl)) ?_
                      exact ljmpM J18830 false () (sub_cons rfl (sub_cons rfl (sub_cons rfl (sub_cons rfl (sub_cons rfl (sub_cons rfl sub_nil)))))) (St.pick X18658 (.keep _ (.none _ (.none _ (.none _ (.skip _ (.skip _ (.skip _ (.keep _ (.keep _ (.keep _ (.none _ (.skip _ (.keep _ (.keep _ (.keep _ (.keep _ (.none _ (.skip _ (.keep _ (.none _ (.none _ (.nil _)))))))))))))))))))))))
                    intro j18832 J18833
                    refine lcase (i := 107) (show _ = Value.bool s18653 from rfl) (fun k18834 => ?_) (fun k18834 => ?_)
                    · refine lpure (v := .int .i64 e8048.1) rfl (p_move rfl) rfl rfl ?_
                      refine lpure (v := .bool (decide (e8048.1 = 57))) rfl (p_eq rfl) rfl rfl ?_
                      refine lpure (v := .bool (decide (e8048.1 = 57))) rfl (p_pick rfl) rfl rfl ?_
                      refine Sim.of_eq (congrArg j18832 (show (s18653 && (decide (e8048.1 = 57))) = (decide (e8048.1 = 57)) from by rw [k18834] <;> rfl)) ?_
                      exact ljmpM J18833 (decide (e8048.1 = 57)) () (sub_cons rfl (sub_cons rfl (sub_cons rfl (sub_cons rfl (sub_cons rfl (sub_cons rfl (sub_cons rfl sub_nil))))))) (St.pick X18654 (.keep _ (.none _ (.none _ (.none _ (.skip _ (.skip _ (.skip _ (.keep _ (.keep _ (.keep _ (.none _ (.skip _ (.keep _ (.keep _ (.keep _ (.keep _ (.none _ (.skip _ (.keep _ (.none _ (.none _ (.nil _)))))))))))))))))))))))
                    refine lskip rfl rfl ?_
                    refine lskip rfl rfl ?_
                    refine lpure (v := .bool false) rfl (p_pick rfl) rfl rfl ?_
                    refine Sim.of_eq (congrArg j18832 (show (s18653 && (decide (e8048.1 = 57))) = false from by rw [k18834] <;> rfl)) ?_
                    exact ljmpM J18833 false () (sub_cons rfl (sub_cons rfl (sub_cons rfl (sub_cons rfl (sub_cons rfl (sub_cons rfl (sub_cons rfl sub_nil))))))) (St.pick X18654 (.keep _ (.none _ (.none _ (.none _ (.skip _ (.skip _ (.skip _ (.keep _ (.keep _ (.keep _ (.none _ (.skip _ (.keep _ (.keep _ (.keep _ (.keep _ (.none _ (.skip _ (.keep _ (.none _ (.none _ (.nil _)))))))))))))))))))))))
                  intro j18835 J18836
                  refine lcase (i := 103) (show _ = Value.bool s18649 from rfl) (fun k18837 => ?_) (fun k18837 => ?_)
                  · refine lpure (v := .int .i64 e7941.2.1) rfl (p_move rfl) rfl rfl ?_
                    refine lpure (v := .bool (decide (e7941.2.1 = 3))) rfl (p_eq rfl) rfl rfl ?_
                    refine lpure (v := .bool (decide (e7941.2.1 = 3))) rfl (p_pick rfl) rfl rfl ?_
                    refine Sim.of_eq (congrArg j18835 (show (s18649 && (decide (e7941.2.1 = 3))) = (decide (e7941.2.1 = 3)) from by rw [k18837] <;> rfl)) ?_
                    exact ljmpM J18836 (decide (e7941.2.1 = 3)) () (sub_cons rfl (sub_cons rfl (sub_cons rfl (sub_cons rfl (sub_cons rfl (sub_cons rfl (sub_cons rfl (sub_cons rfl sub_nil)))))))) (St.pick X18650 (.keep _ (.none _ (.none _ (.none _ (.skip _ (.skip _ (.skip _ (.keep _ (.keep _ (.keep _ (.none _ (.skip _ (.keep _ (.keep _ (.keep _ (.keep _ (.none _ (.skip _ (.keep _ (.none _ (.none _ (.nil _)))))))))))))))))))))))
                  refine lskip rfl rfl ?_
                  refine lskip rfl rfl ?_
                  refine lpure (v := .bool false) rfl (p_pick rfl) rfl rfl ?_
                  refine Sim.of_eq (congrArg j18835 (show (s18649 && (decide (e7941.2.1 = 3))) = false from by rw [k18837] <;> rfl)) ?_
                  exact ljmpM J18836 false () (sub_cons rfl (sub_cons rfl (sub_cons rfl (sub_cons rfl (sub_cons rfl (sub_cons rfl (sub_cons rfl (sub_cons rfl sub_nil)))))))) (St.pick X18650 (.keep _ (.none _ (.none _ (.none _ (.skip _ (.skip _ (.skip _ (.keep _ (.keep _ (.keep _ (.none _ (.skip _ (.keep _ (.keep _ (.keep _ (.keep _ (.none _ (.skip _ (.keep _ (.none _ (.none _ (.nil _)))))))))))))))))))))))
                intro j18838 J18839
                refine lcase (i := 99) (show _ = Value.bool s18645 from rfl) (fun k18840 => ?_) (fun k18840 => ?_)
                · refine lpure (v := .int .i64 e7941.1) rfl (p_move rfl) rfl rfl ?_
                  refine lpure (v := .bool (decide (e7941.1 = 1))) rfl (p_eq rfl) rfl rfl ?_
                  refine lpure (v := .bool (decide (e7941.1 = 1))) rfl (p_pick rfl) rfl rfl ?_
                  refine Sim.of_eq (congrArg j18838 (show (s18645 && (decide (e7941.1 = 1))) = (decide (e7941.1 = 1)) from by rw [k18840] <;> rfl)) ?_
                  exact ljmpM J18839 (decide (e7941.1 = 1)) () (sub_cons rfl (sub_cons rfl (sub_cons rfl (sub_cons rfl (sub_cons rfl (sub_cons rfl (sub_cons rfl (sub_cons rfl (sub_cons rfl sub_nil))))))))) (St.pick X18646 (.keep _ (.none _ (.none _ (.none _ (.skip _ (.skip _ (.skip _ (.keep _ (.keep _ (.keep _ (.none _ (.skip _ (.keep _ (.keep _ (.keep _ (.keep _ (.none _ (.skip _ (.keep _ (.none _ (.none _ (.nil _)))))))))))))))))))))))
                refine lskip rfl rfl ?_
                refine lskip rfl rfl ?_
                refine lpure (v := .bool false) rfl (p_pick rfl) rfl rfl ?_
                refine Sim.of_eq (congrArg j18838 (show (s18645 && (decide (e7941.1 = 1))) = false from by rw [k18840] <;> rfl)) ?_
                exact ljmpM J18839 false () (sub_cons rfl (sub_cons rfl (sub_cons rfl (sub_cons rfl (sub_cons rfl (sub_cons rfl (sub_cons rfl (sub_cons rfl (sub_cons rfl sub_nil))))))))) (St.pick X18646 (.keep _ (.none _ (.none _ (.none _ (.skip _ (.skip _ (.skip _ (.keep _ (.keep _ (.keep _ (.none _ (.skip _ (.keep _ (.keep _ (.keep _ (.keep _ (.none _ (.skip _ (.keep _ (.none _ (.none _ (.nil _)))))))))))))))))))))))
              intro j18841 J18842
              refine lif (i := 94) (show _ = Value.bool s18575 from rfl) (fun k18843 => ?_) (fun k18843 => ?_)
              · refine lpure (v := .slice a7908 n7908 c7908) rfl (p_move rfl) rfl rfl ?_
                obtain ⟨h18844, b18844, hv18844, X18844, O18844⟩ := OSl.lay (E := (eInt .i64)) (φ := φ18549) (cs := [.int .i64 0, .int .i64 1, .int .i64 2, .int .i64 3]) (l := [0, 1, 2, 3]) (len := 4) (parts := [(0, .int .i64 0), (1, .int .i64 1), (2, .int .i64 2), (3, .int .i64 3)]) un_26 ts_3 rfl rfl rfl tz_3 rfl rfl (show RowD (eInt .i64) φ18549 [.int .i64 0, .int .i64 1, .int .i64 2, .int .i64 3] [0, 1, 2, 3] from ⟨[.int .i64 0], _, rfl, rfl, ⟨[.int .i64 1], _, rfl, rfl, ⟨[.int .i64 2], _, rfl, rfl, ⟨[.int .i64 3], _, rfl, rfl, rfl⟩⟩⟩⟩) rfl rfl X18576
                refine lheap rfl (h_buildSlice rfl) hv18844 rfl ?_
                obtain ⟨φ18846, g18847, X18848, H18849⟩ := OSl.freeze X18844 (j := 12) rfl (O7908.mono (((((g8429.trans g8437).trans g9988).trans g9992).trans g18542).trans g18550))
                obtain ⟨φ18850, g18851, X18852, H18853⟩ := OSl.freeze X18848 (j := 0) rfl (O18844.mono g18847)
                refine lcall rfl rfl ca_17 rfl rfl (f17_ok X18852 (e7901.1) ([0, 1, 2, 3]) (H18849.mono g18851) H18853) rfl (fun e18854 v18855 h18856 hq18857 => ?_)
                cases hq18857
                refine lpure (v := .bool e18854) rfl (p_pick rfl) rfl rfl ?_
                exact ljmpM J18842 e18854 () (sub_cons rfl (sub_cons rfl (sub_cons rfl (sub_cons rfl (sub_cons rfl (sub_cons rfl (sub_cons rfl (sub_cons rfl (sub_cons rfl (sub_cons rfl sub_nil)))))))))) (St.pick X18844 (.skip _ (.keep _ (.none _ (.none _ (.none _ (.skip _ (.skip _ (.skip _ (.keep _ (.keep _ (.keep _ (.none _ (.skip _ (.keep _ (.keep _ (.keep _ (.keep _ (.none _ (.skip _ (.keep _ (.none _ (.none _ (.nil _))))))))))))))))))))))))
              refine lskip rfl rfl ?_
              refine lskip rfl rfl ?_
              refine lskip rfl rfl ?_
              refine lpure (v := .bool false) rfl (p_pick rfl) rfl rfl ?_
              exact ljmpM J18842 false () (sub_cons rfl (sub_cons rfl (sub_cons rfl (sub_cons rfl (sub_cons rfl (sub_cons rfl (sub_cons rfl (sub_cons rfl (sub_cons rfl (sub_cons rfl sub_nil)))))))))) (St.pick X18576 (.keep _ (.none _ (.none _ (.none _ (.skip _ (.skip _ (.skip _ (.keep _ (.keep _ (.keep _ (.none _ (.skip _ (.keep _ (.keep _ (.keep _ (.keep _ (.none _ (.skip _ (.keep _ (.none _ (.none _ (.nil _)))))))))))))))))))))))
            intro j18858 J18859
            refine lcase (i := 89) (show _ = Value.bool s18571 from rfl) (fun k18860 => ?_) (fun k18860 => ?_)
            · refine lpure (v := .int .i64 e18545.2.2) rfl (p_move rfl) rfl rfl ?_
              refine lpure (v := .bool (decide (e18545.2.2 = 0))) rfl (p_eq rfl) rfl rfl ?_
              refine lpure (v := .bool (decide (e18545.2.2 = 0))) rfl (p_pick rfl) rfl rfl ?_
              refine Sim.of_eq (congrArg j18858 (show (s18571 && (decide (e18545.2.2 = 0))) = (decide (e18545.2.2 = 0)) from by rw [k18860] <;> rfl)) ?_
              exact ljmpM J18859 (decide (e18545.2.2 = 0)) () (sub_cons rfl (sub_cons rfl (sub_cons rfl (sub_cons rfl (sub_cons rfl (sub_cons rfl (sub_cons rfl (sub_cons rfl (sub_cons rfl (sub_cons rfl (sub_cons rfl sub_nil))))))))))) (St.pick X18572 (.keep _ (.none _ (.none _ (.none _ (.skip _ (.skip _ (.skip _ (.keep _ (.keep _ (.keep _ (.none _ (.skip _ (.keep _ (.keep _ (.keep _ (.keep _ (.none _ (.skip _ (.keep _ (.none _ (.none _ (.nil _)))))))))))))))))))))))
            refine lskip rfl rfl ?_
            refine lskip rfl rfl ?_
            refine lpure (v := .bool false) rfl (p_pick rfl) rfl rfl ?_
            refine Sim.of_eq (congrArg j18858 (show (s18571 && (decide (e18545.2.2 = 0))) = false from by rw [k18860] <;> rfl)) ?_
            exact ljmpM J18859 false () (sub_cons rfl (sub_cons rfl (sub_cons rfl (sub_cons rfl (sub_cons rfl (sub_cons rfl (sub_cons rfl (sub_cons rfl (sub_cons rfl (sub_cons rfl (sub_cons rfl sub_nil))))))))))) (St.pick X18572 (.keep _ (.none _ (.none _ (.none _ (.skip _ (.skip _ (.skip _ (.keep _ (.keep _ (.keep _ (.none _ (.skip _ (.keep _ (.keep _ (.keep _ (.keep _ (.none _ (.skip _ (.keep _ (.none _ (.none _ (.nil _)))))))))))))))))))))))
          intro j18861 J18862
          refine lcase (i := 85) (show _ = Value.bool s18567 from rfl) (fun k18863 => ?_) (fun k18863 => ?_)
          · refine lpure (v := .int .i64 e9979.2) rfl (p_move rfl) rfl rfl ?_
            refine lpure (v := .bool (decide (e9979.2 = 0))) rfl (p_eq rfl) rfl rfl ?_
            refine lpure (v := .bool (decide (e9979.2 = 0))) rfl (p_pick rfl) rfl rfl ?_
            refine Sim.of_eq (congrArg j18861 (show (s18567 && (decide (e9979.2 = 0))) = (decide (e9979.2 = 0)) from by rw [k18863] <;> rfl)) ?_
            exact ljmpM J18862 (decide (e9979.2 = 0)) () (sub_cons rfl (sub_cons rfl (sub_cons rfl (sub_cons rfl (sub_cons rfl (sub_cons rfl (sub_cons rfl (sub_cons rfl (sub_cons rfl (sub_cons rfl (sub_cons rfl (sub_cons rfl sub_nil)))))))))))) (St.pick X18568 (.keep _ (.none _ (.none _ (.none _ (.skip _ (.skip _ (.skip _ (.keep _ (.keep _ (.keep _ (.none _ (.skip _ (.keep _ (.keep _ (.keep _ (.keep _ (.none _ (.skip _ (.keep _ (.none _ (.none _ (.nil _)))))))))))))))))))))))
          refine lskip rfl rfl ?_
          refine lskip rfl rfl ?_
          refine lpure (v := .bool false) rfl (p_pick rfl) rfl rfl ?_
          refine Sim.of_eq (congrArg j18861 (show (s18567 && (decide (e9979.2 = 0))) = false from by rw [k18863] <;> rfl)) ?_
          exact ljmpM J18862 false () (sub_cons rfl (sub_cons rfl (sub_cons rfl (sub_cons rfl (sub_cons rfl (sub_cons rfl (sub_cons rfl (sub_cons rfl (sub_cons rfl (sub_cons rfl (sub_cons rfl (sub_cons rfl sub_nil)))))))))))) (St.pick X18568 (.keep _ (.none _ (.none _ (.none _ (.skip _ (.skip _ (.skip _ (.keep _ (.keep _ (.keep _ (.none _ (.skip _ (.keep _ (.keep _ (.keep _ (.keep _ (.none _ (.skip _ (.keep _ (.none _ (.none _ (.nil _)))))))))))))))))))))))
        intro j18864 J18865
        refine lcase (i := 81) (show _ = Value.bool s18563 from rfl) (fun k18866 => ?_) (fun k18866 => ?_)
        · refine lpure (v := .int .i64 e8432.2) rfl (p_move rfl) rfl rfl ?_
          refine lpure (v := .bool (decide (e8432.2 = 0))) rfl (p_eq rfl) rfl rfl ?_
          refine lpure (v := .bool (decide (e8432.2 = 0))) rfl (p_pick rfl) rfl rfl ?_
          refine Sim.of_eq (congrArg j18864 (show (s18563 && (decide (e8432.2 = 0))) = (decide (e8432.2 = 0)) from by rw [k18866] <;> rfl)) ?_
          exact ljmpM J18865 (decide (e8432.2 = 0)) () (sub_cons rfl (sub_cons rfl (sub_cons rfl (sub_cons rfl (sub_cons rfl (sub_cons rfl (sub_cons rfl (sub_cons rfl (sub_cons rfl (sub_cons rfl (sub_cons rfl (sub_cons rfl (sub_cons rfl sub_nil))))))))))))) (St.pick X18564 (.keep _ (.none _ (.none _ (.none _ (.skip _ (.skip _ (.skip _ (.keep _ (.keep _ (.keep _ (.none _ (.skip _ (.keep _ (.keep _ (.keep _ (.keep _ (.none _ (.skip _ (.keep _ (.none _ (.none _ (.nil _)))))))))))))))))))))))
        refine lskip rfl rfl ?_
        refine lskip rfl rfl ?_
        refine lpure (v := .bool false) rfl (p_pick rfl) rfl rfl ?_
        refine Sim.of_eq (congrArg j18864 (show (s18563 && (decide (e8432.2 = 0))) = false from by rw [k18866] <;> rfl)) ?_
        exact ljmpM J18865 false () (sub_cons rfl (sub_cons rfl (sub_cons rfl (sub_cons rfl (sub_cons rfl (sub_cons rfl (sub_cons rfl (sub_cons rfl (sub_cons rfl (sub_cons rfl (sub_cons rfl (sub_cons rfl (sub_cons rfl sub_nil))))))))))))) (St.pick X18564 (.keep _ (.none _ (.none _ (.none _ (.skip _ (.skip _ (.skip _ (.keep _ (.keep _ (.keep _ (.none _ (.skip _ (.keep _ (.keep _ (.keep _ (.keep _ (.none _ (.skip _ (.keep _ (.none _ (.none _ (.nil _)))))))))))))))))))))))
      intro j18867 J18868
      refine lcase (i := 77) (show _ = Value.bool s18559 from rfl) (fun k18869 => ?_) (fun k18869 => ?_)
      · refine lpure (v := .int .i64 e8168.2) rfl (p_move rfl) rfl rfl ?_
        refine lpure (v := .bool (decide (e8168.2 = 0))) rfl (p_eq rfl) rfl rfl ?_
        refine lpure (v := .bool (decide (e8168.2 = 0))) rfl (p_pick rfl) rfl rfl ?_
        refine Sim.of_eq (congrArg j18867 (show (s18559 && (decide (e8168.2 = 0))) = (decide (e8168.2 = 0)) from by rw [k18869] <;> rfl)) ?_
        exact ljmpM J18868 (decide (e8168.2 = 0)) () (sub_cons rfl (sub_cons rfl (sub_cons rfl (sub_cons rfl (sub_cons rfl (sub_cons rfl (sub_cons rfl (sub_cons rfl (sub_cons rfl (sub_cons rfl (sub_cons rfl (sub_cons rfl (sub_cons rfl (sub_cons rfl sub_nil)))))))))))))) (St.pick X18560 (.keep _ (.none _ (.none _ (.none _ (.skip _ (.skip _ (.skip _ (.keep _ (.keep _ (.keep _ (.none _ (.skip _ (.keep _ (.keep _ (.keep _ (.keep _ (.none _ (.skip _ (.keep _ (.none _ (.none _ (.nil _)))))))))))))))))))))))
      refine lskip rfl rfl ?_
      refine lskip rfl rfl ?_
      refine lpure (v := .bool false) rfl (p_pick rfl) rfl rfl ?_
      refine Sim.of_eq (congrArg j18867 (show (s18559 && (decide (e8168.2 = 0))) = false from by rw [k18869] <;> rfl)) ?_
      exact ljmpM J18868 false () (sub_cons rfl (sub_cons rfl (sub_cons rfl (sub_cons rfl (sub_cons rfl (sub_cons rfl (sub_cons rfl (sub_cons rfl (sub_cons rfl (sub_cons rfl (sub_cons rfl (sub_cons rfl (sub_cons rfl (sub_cons rfl sub_nil)))))))))))))) (St.pick X18560 (.keep _ (.none _ (.none _ (.none _ (.skip _ (.skip _ (.skip _ (.keep _ (.keep _ (.keep _ (.none _ (.skip _ (.keep _ (.keep _ (.keep _ (.keep _ (.none _ (.skip _ (.keep _ (.none _ (.none _ (.nil _)))))))))))))))))))))))
    intro j18870 J18871
    refine lcase (i := 73) (show _ = Value.bool s18555 from rfl) (fun k18872 => ?_) (fun k18872 => ?_)
    · refine lpure (v := .int .i64 e8048.2) rfl (p_move rfl) rfl rfl ?_
      refine lpure (v := .bool (decide (e8048.2 = 0))) rfl (p_eq rfl) rfl rfl ?_
      refine lpure (v := .bool (decide (e8048.2 = 0))) rfl (p_pick rfl) rfl rfl ?_
      refine Sim.of_eq (congrArg j18870 (show (s18555 && (decide (e8048.2 = 0))) = (decide (e8048.2 = 0)) from by rw [k18872] <;> rfl)) ?_
      exact ljmpM J18871 (decide (e8048.2 = 0)) () (sub_cons rfl (sub_cons rfl (sub_cons rfl (sub_cons rfl (sub_cons rfl (sub_cons rfl (sub_cons rfl (sub_cons rfl (sub_cons rfl (sub_cons rfl (sub_cons rfl (sub_cons rfl (sub_cons rfl (sub_cons rfl (sub_cons rfl sub_nil))))))))))))))) (St.pick X18556 (.keep _ (.none _ (.none _ (.none _ (.skip _ (.skip _ (.skip _ (.keep _ (.keep _ (.keep _ (.none _ (.skip _ (.keep _ (.keep _ (.keep _ (.keep _ (.none _ (.skip _ (.keep _ (.none _ (.none _ (.nil _)))))))))))))))))))))))
    refine lskip rfl rfl ?_
    refine lskip rfl rfl ?_
    refine lpure (v := .bool false) rfl (p_pick rfl) rfl rfl ?_
    refine Sim.of_eq (congrArg j18870 (show (s18555 && (decide (e8048.2 = 0))) = false from by rw [k18872] <;> rfl)) ?_
    exact ljmpM J18871 false () (sub_cons rfl (sub_cons rfl (sub_cons rfl (sub_cons rfl (sub_cons rfl (sub_cons rfl (sub_cons rfl (sub_cons rfl (sub_cons rfl (sub_cons rfl (sub_cons rfl (sub_cons rfl (sub_cons rfl (sub_cons rfl (sub_cons rfl sub_nil))))))))))))))) (St.pick X18556 (.keep _ (.none _ (.none _ (.none _ (.skip _ (.skip _ (.skip _ (.keep _ (.keep _ (.keep _ (.none _ (.skip _ (.keep _ (.keep _ (.keep _ (.keep _ (.none _ (.skip _ (.keep _ (.none _ (.none _ (.nil _)))))))))))))))))))))))
  intro j18873 J18874
  refine lcase (i := 69) (show _ = Value.bool (decide (e7901.2 = 0)) from rfl) (fun k18875 => ?_) (fun k18875 => ?_)
  · refine lpure (v := .int .i64 e7941.2.2) rfl (p_move rfl) rfl rfl ?_
    refine lpure (v := .bool (decide (e7941.2.2 = 0))) rfl (p_eq rfl) rfl rfl ?_
    refine lpure (v := .bool (decide (e7941.2.2 = 0))) rfl (p_pick rfl) rfl rfl ?_
    refine Sim.of_eq (congrArg j18873 (show ((decide (e7901.2 = 0)) && (decide (e7941.2.2 = 0))) = (decide (e7941.2.2 = 0)) from by rw [k18875] <;> rfl)) ?_
    exact ljmpM J18874 (decide (e7941.2.2 = 0)) () (sub_cons rfl (sub_cons rfl (sub_cons rfl (sub_cons rfl (sub_cons rfl (sub_cons rfl (sub_cons rfl (sub_cons rfl (sub_cons rfl (sub_cons rfl (sub_cons rfl (sub_cons rfl (sub_cons rfl (sub_cons rfl (sub_cons rfl (sub_cons rfl sub_nil)))))))))))))))) (St.pick X18551 (.keep _ (.none _ (.none _ (.none _ (.skip _ (.skip _ (.skip _ (.keep _ (.keep _ (.keep _ (.none _ (.skip _ (.keep _ (.keep _ (.keep _ (.keep _ (.none _ (.skip _ (.keep _ (.none _ (.none _ (.nil _)))))))))))))))))))))))
  refine lskip rfl rfl ?_
  refine lskip rfl rfl ?_
  refine lpure (v := .bool false) rfl (p_pick rfl) rfl rfl ?_
  refine Sim.of_eq (congrArg j18873 (show ((decide (e7901.2 = 0)) && (decide (e7941.2.2 = 0))) = false from by rw [k18875] <;> rfl)) ?_
  exact ljmpM J18874 false () (sub_cons rfl (sub_cons rfl (sub_cons rfl (sub_cons rfl (sub_cons rfl (sub_cons rfl (sub_cons rfl (sub_cons rfl (sub_cons rfl (sub_cons rfl (sub_cons rfl (sub_cons rfl (sub_cons rfl (sub_cons rfl (sub_cons rfl (sub_cons rfl sub_nil)))))))))))))))) (St.pick X18551 (.keep _ (.none _ (.none _ (.none _ (.skip _ (.skip _ (.skip _ (.keep _ (.keep _ (.keep _ (.none _ (.skip _ (.keep _ (.keep _ (.keep _ (.keep _ (.none _ (.skip _ (.keep _ (.none _ (.none _ (.nil _)))))))))))))))))))))))
/-! isochron/isochronlaw21.few -/
theorem f7_ok {n : Nat} {φ : Fz} {lo : Nat} {h : Heap} {own : OwnL}  {a18901 : Option Addr} {n18901 c18901 : Nat} {a18902 : Option Addr} {n18902 c18902 : Nat} (X : St φ lo h (own)) (p18900 : ApiTopo) (H18901 : RSl eBool φ (.slice a18901 n18901 c18901) p18900.Station) (H18902 : RSl eApiLink φ (.slice a18902 n18902 c18902) p18900.Links) (K18901 : c18901 < unk) (K18902 : c18902 < unk) : Sim ((recN Tryz.prog LL cutF (n + 1)).call 7 #[(.agg #[.int .i64 p18900.Nodes, .slice a18901 n18901 c18901, .slice a18902 n18902 c18902])] h) (m_isochronlaw21_few p18900) (fun (d : ApiTopo) p => ∃ a18919 : Option Addr, ∃ n18919 : Nat, ∃ c18919 : Nat, ∃ a18920 : Option Addr, ∃ n18920 : Nat, ∃ c18920 : Nat, p = (.agg #[.int .i64 d.Nodes, .slice a18919 n18919 c18919, .slice a18920 n18920 c18920], h) ∧ RSl eBool φ (.slice a18919 n18919 c18919) d.Station ∧ RSl eApiLink φ (.slice a18920 n18920 c18920) d.Links) := by
  refine fcut Tryz.func7 rfl rfl rfl rfl X ?_
  intro h0 X0
  refine dseq (dreg ?_)
  refine lbox rfl rfl rfl rfl rfl X0 (fun b18903 h18905 X18906 => ?_)
  refine lalloc rfl tz_25 rfl rfl rfl X18906 (fun b18907 h18909 X18910 => ?_)
  refine lend (nseq (dseq ?_))
  refine ddraw 163840 163840 10320 (by kernel_rfl) ?_
  refine spure (v := .pointer (some ⟨b18903, 1, none⟩)) rfl (p_fa fo_25_1 rfl) (lo_t (lo_own X18910 (j := 1) (o := 0) (s := none) (f := 0) rfl) rfl) rfl rfl ?_
  refine sload (v := .slice a18901 n18901 c18901) rfl rfl (q_load wd_22 rfl) (St.ld X18910 (j := 1) rfl rfl) (same_self 20 rfl) rfl ?_
  refine spure (v := .pointer (some ⟨b18903, 1, none⟩)) rfl (p_fa fo_25_1 rfl) (lo_t (lo_own X18910 (j := 1) (o := 0) (s := none) (f := 0) rfl) rfl) rfl rfl ?_
  refine sload (v := .slice a18901 n18901 c18901) rfl rfl (q_load wd_22 rfl) (St.ld X18910 (j := 1) rfl rfl) (same_self 20 rfl) rfl ?_
  refine spure (v := .int .i64 (p18900.Station.length : Int)) rfl (p_len rfl rfl rfl un_22 rfl) (lo_t (lo_sl X18910 H18901) rfl) (RSl.lenC H18901) rfl ?_
  refine spure (v := .int .i64 (min (p18900.Station.length : Int) 20)) rfl (p_min rfl rfl rfl) (lo_t rfl (lo_c rfl)) rfl rfl ?_
  refine Sim.mustM fun k18911 => ?_
  have k18911 := of_decide_eq_true k18911
  obtain ⟨a18911, n18911, c18911, hv18911, H18911, K18911⟩ := RSl.sliceC H18901 K18901 (m := 1) rfl bnd_none (bnd_int (show (0 : Int) ≤ (min (p18900.Station.length : Int) 20) from by omega)) (by omega) (by omega)
  refine spure rfl (p_slice rs_22 rfl (evo_ok rfl) (evo_ok rfl) (evo_ok rfl)) (lo_t (lo_sl X18910 H18901) (lo_t rfl rfl)) hv18911 rfl ?_
  refine spure (v := .pointer (some ⟨b18903, 2, none⟩)) rfl (p_fa fo_25_2 rfl) (lo_t (lo_own X18910 (j := 1) (o := 0) (s := none) (f := 0) rfl) rfl) rfl rfl ?_
  refine sload (v := .slice a18902 n18902 c18902) rfl rfl (q_load wd_23 rfl) (St.ld X18910 (j := 1) rfl rfl) (same_self 20 rfl) rfl ?_
  refine spure (v := .pointer (some ⟨b18903, 2, none⟩)) rfl (p_fa fo_25_2 rfl) (lo_t (lo_own X18910 (j := 1) (o := 0) (s := none) (f := 0) rfl) rfl) rfl rfl ?_
  refine sload (v := .slice a18902 n18902 c18902) rfl rfl (q_load wd_23 rfl) (St.ld X18910 (j := 1) rfl rfl) (same_self 20 rfl) rfl ?_
  refine spure (v := .int .i64 (p18900.Links.length : Int)) rfl (p_len rfl rfl rfl un_23 rfl) (lo_t (lo_sl X18910 H18902) rfl) (RSl.lenC H18902) rfl ?_
  refine spure (v := .int .i64 (min (p18900.Links.length : Int) 30)) rfl (p_min rfl rfl rfl) (lo_t rfl (lo_c rfl)) rfl rfl ?_
  refine Sim.mustM fun k18912 => ?_
  have k18912 := of_decide_eq_true k18912
  obtain ⟨a18912, n18912, c18912, hv18912, H18912, K18912⟩ := RSl.sliceC H18902 K18902 (m := 4) rfl bnd_none (bnd_int (show (0 : Int) ≤ (min (p18900.Links.length : Int) 30) from by omega)) (by omega) (by omega)
  refine spure rfl (p_slice rs_23 rfl (evo_ok rfl) (evo_ok rfl) (evo_ok rfl)) (lo_t (lo_sl X18910 H18902) (lo_t rfl rfl)) hv18912 rfl ?_
  refine spure (v := .pointer (some ⟨b18903, 1, none⟩)) rfl (p_fa fo_25_1 rfl) (lo_t (lo_own X18910 (j := 1) (o := 0) (s := none) (f := 0) rfl) rfl) rfl rfl ?_
  refine sstore rfl rfl ts_22 rfl rfl (j := 1) rfl rfl rfl rfl rfl rfl X18910 (fun h18913 X18914 => ?_)
  refine spure (v := .pointer (some ⟨b18903, 2, none⟩)) rfl (p_fa fo_25_2 rfl) (lo_t (lo_own X18914 (j := 1) (o := 0) (s := none) (f := 0) rfl) rfl) rfl rfl ?_
  refine sstore rfl rfl ts_23 rfl rfl (j := 1) rfl rfl rfl rfl rfl rfl X18914 (fun h18915 X18916 => ?_)
  refine send ?_
  refine nseq (dseq (dreg ?_))
  refine lread (v := .agg #[.int .i64 p18900.Nodes, .slice a18911 n18911 c18911, .slice a18912 n18912 c18912]) rfl (q_load wd_25 rfl) (St.ld X18916 (j := 1) rfl rfl) rfl ?_
  refine lstore rfl ts_25 rfl rfl (j := 0) rfl rfl rfl rfl rfl rfl X18916 (fun h18917 X18918 => ?_)
  refine lend (nseq (dret ?_))
  exact kcut_r (res_1 (resC wd_25 (St.ld X18918 (j := 0) rfl rfl))) X18918 (lo_agg (all_cons rfl (all_cons (lo_slF X.fzlt H18911) (all_cons (lo_slF X.fzlt H18912) all_nil)))) ⟨a18911, n18911, c18911, a18912, n18912, c18912, rfl, H18911, H18912⟩
/-! isochron/isochronlaw21.cut -/
theorem f8_ok {n : Nat} {φ : Fz} {lo : Nat} {h : Heap} {own : OwnL}  {a18945 : Option Addr} {n18945 c18945 : Nat} (X : St φ lo h (own)) (p18944 : (List Int)) (H18945 : RSl (eInt .i64) φ (.slice a18945 n18945 c18945) p18944) : Sim ((recN Tryz.prog LL cutF (n + 1)).call 8 #[(.slice a18945 n18945 c18945)] h) (m_isochronlaw21_cut p18944) (fun (d : (List Int)) p => ∃ φ2 : Fz, ∃ a18950 : Option Addr, ∃ n18950 : Nat, ∃ c18950 : Nat, ∃ ob18950 : Option Nat, ∃ blk18950 : Blk, Fz.le φ φ2 ∧ St φ2 lo p.2 ((ob18950, blk18950) :: own) ∧ p.1 = .slice a18950 n18950 c18950 ∧ OSl (eInt .i64) φ2 3 ob18950 blk18950 (.slice a18950 n18950 c18950) d) := by
  refine fopen Tryz.func8 rfl rfl rfl rfl ?_
  refine dseq (dreg ?_)
  refine lpure (v := .slice none 0 0) rfl (p_assign rfl) rfl rfl ?_
  refine lend (nseq (dseq (dreg ?_)))
  obtain ⟨h18946, b18946, hv18946, X18946, O18946⟩ := OSl.lay (E := (eInt .i64)) (φ := φ) (cs := []) (l := ([] : List Int)) (len := 0) (parts := []) un_27 ts_3 rfl rfl rfl tz_3 rfl rfl (show RowD (eInt .i64) φ [] ([] : List Int) from rfl) rfl rfl X
  refine lheap rfl (h_buildSlice rfl) hv18946 rfl ?_
  refine lpure (v := .slice a18945 n18945 c18945) rfl (p_move rfl) rfl rfl ?_
  refine lpure (v := .slice a18945 n18945 c18945) rfl (p_move rfl) rfl rfl ?_
  refine lpure (v := .int .i64 (p18944.length : Int)) rfl (p_len rfl rfl rfl un_27 rfl) (RSl.lenC H18945) rfl ?_
  refine lpure (v := .int .i64 (min (p18944.length : Int) 12)) rfl (p_min rfl rfl rfl) rfl rfl ?_
  refine Sim.mustM fun k18948 => ?_
  have k18948 := of_decide_eq_true k18948
  obtain ⟨a18948, n18948, c18948, hv18948, H18948⟩ := RSl.slice H18945 X18946 un_27 ts_3 rfl bnd_none (bnd_int (show (0 : Int) ≤ (min (p18944.length : Int) 12) from by omega)) (by omega) (by omega)
  refine lread rfl (q_slice rfl (evo_ok rfl) (evo_ok rfl) (evo_ok rfl)) hv18948 rfl ?_
  obtain ⟨ws18949, hw18949⟩ := RSl.read H18948 X18946 (n := 1) rfl
  refine Sim.mustM fun k18949 => ?_
  obtain ⟨h18949, a18949, c18949, ob18949, blk18949, hv18949, X18949, O18949⟩ := OSl.append O18946 X18946 (j := 0) rfl hw18949 k18949 (ts := #[27, 27]) rfl un_27 (argOk_of ax_27_27) ts_3 rfl rfl tb_3 rfl tz_3 rfl
  refine lheap rfl (h_builtin rfl rfl) hv18949 rfl ?_
  refine lpure (v := .slice a18949 (([] : List Int).length + (p18944.take ((min (p18944.length : Int) 12)).toNat).length) c18949) rfl (p_assign rfl) rfl rfl ?_
  refine lend (nseq (dret ?_))
  exact kopen_r (res_1 resT) ⟨φ, a18949, ((([] : List Int).length + (p18944.take ((min (p18944.length : Int) 12)).toNat).length)), c18949, ob18949, blk18949, (Fz.le_refl _), St.pick X18949 (.keep _ (.refl _)), rfl, O18949⟩
/-! isochron/isochronref16.node -/
theorem f83_ok {n : Nat} {φ : Fz} {lo : Nat} {h : Heap} {own : OwnL}  {a19036 : Option Addr} {n19036 c19036 : Nat} {a19037 : Option Addr} {n19037 c19037 : Nat} (X : St φ lo h (own)) (p19035 : ApiTopo) (p19038 : Int) (H19036 : RSl eBool φ (.slice a19036 n19036 c19036) p19035.Station) (H19037 : RSl eApiLink φ (.slice a19037 n19037 c19037) p19035.Links) : Sim ((recN Tryz.prog LL cutF (n + 1)).call 83 #[(.agg #[.int .i64 p19035.Nodes, .slice a19036 n19036 c19036, .slice a19037 n19037 c19037]), (.int .i64 p19038)] h) (m_isochronref16_node p19035 p19038) (fun (d : Bool) p => p = (.bool d, h)) := by
  refine fcut Tryz.func83 rfl rfl rfl rfl X ?_
  intro h0 X0
  refine dseq (dreg ?_)
  refine lbox rfl rfl rfl rfl rfl X0 (fun b19039 h19041 X19042 => ?_)
  refine lpure (v := .bool false) rfl (p_assign rfl) rfl rfl ?_
  refine lend (nseq (dseq (dreg ?_)))
  refine lpure (v := .int .i64 p19038) rfl (p_move rfl) rfl rfl ?_
  refine lpure (v := .bool (decide (0 ≤ p19038))) rfl (p_ge rfl) rfl rfl ?_
  refine lpure (v := .bool (decide (0 ≤ p19038))) rfl (p_move rfl) rfl rfl ?_
  refine lsh (τ := Bool) (σ := Unit) (fun s19044 (_ : Unit) => [(12, .bool s19044)]) (fun s19044 (_ : Unit) hh => St φ h.n hh ([(some b19039, .cells [.int .i64 p19035.Nodes, .slice a19036 n19036 c19036, .slice a19037 n19037 c19037] 25 .exact)])) 5 ?_ ?_
  · rintro s19044 _ t0 h19046 X19045
    refine lpure (v := .bool s19044) rfl (p_assign rfl) rfl rfl ?_
    refine lend (nseq (dret ?_))
    exact kcut_r (res_1 resT) X19045 rfl rfl
  intro j19047 J19048
  refine lcase (i := 7) (show _ = Value.bool (decide (0 ≤ p19038)) from rfl) (fun k19049 => ?_) (fun k19049 => ?_)
  · refine lpure (v := .int .i64 p19038) rfl (p_move rfl) rfl rfl ?_
    refine lpure (v := .pointer (some ⟨b19039, 0, none⟩)) rfl (p_fa fo_25_0 rfl) rfl rfl ?_
    refine lread (v := .int .i64 p19035.Nodes) rfl (q_load wd_3 rfl) (St.ld X19042 (j := 0) rfl rfl) rfl ?_
    refine lpure (v := .bool (decide (p19038 < p19035.Nodes))) rfl (p_lt rfl) rfl rfl ?_
    refine lpure (v := .bool (decide (p19038 < p19035.Nodes))) rfl (p_pick rfl) rfl rfl ?_
    refine Sim.of_eq (congrArg j19047 (show ((decide (0 ≤ p19038)) && (decide (p19038 < p19035.Nodes))) = (decide (p19038 < p19035.Nodes)) from by rw [k19049] <;> rfl)) ?_
    exact ljmpM J19048 (decide (p19038 < p19035.Nodes)) () (sub_cons rfl sub_nil) X19042
  refine lskip rfl rfl ?_
  refine lskip rfl rfl ?_
  refine lskip rfl rfl ?_
  refine lskip rfl rfl ?_
  refine lpure (v := .bool false) rfl (p_pick rfl) rfl rfl ?_
  refine Sim.of_eq (congrArg j19047 (show ((decide (0 ≤ p19038)) && (decide (p19038 < p19035.Nodes))) = false from by rw [k19049] <;> rfl)) ?_
  exact ljmpM J19048 false () (sub_cons rfl sub_nil) X19042
/-! isochron/isochronref16.link -/
theorem f63_ok {n : Nat} {φ : Fz} {lo : Nat} {h : Heap} {own : OwnL}  {a19024 : Option Addr} {n19024 c19024 : Nat} {a19025 : Option Addr} {n19025 c19025 : Nat} (X : St φ lo h (own)) (p19023 : ApiTopo) (p19026 : ApiLink) (H19024 : RSl eBool φ (.slice a19024 n19024 c19024) p19023.Station) (H19025 : RSl eApiLink φ (.slice a19025 n19025 c19025) p19023.Links) : Sim ((recN Tryz.prog LL cutF (n + 2)).call 63 #[(.agg #[.int .i64 p19023.Nodes, .slice a19024 n19024 c19024, .slice a19025 n19025 c19025]), (.agg #[.int .i64 p19026.A, .int .i64 p19026.B, .int .i64 p19026.Per, .int .i64 p19026.Delay])] h) (m_isochronref16_link p19023 p19026) (fun (d : Bool) p => p = (.bool d, h)) := by
  refine fcut Tryz.func63 rfl rfl rfl rfl X ?_
  intro h0 X0
  refine dseq (dreg ?_)
  refine lbox rfl rfl rfl rfl rfl X0 (fun b19027 h19029 X19030 => ?_)
  refine lbox rfl rfl rfl rfl rfl X19030 (fun b19031 h19033 X19034 => ?_)
  refine lpure (v := .bool false) rfl (p_assign rfl) rfl rfl ?_
  refine lend (nseq (dseq (dseq (dreg ?_))))
  refine lread (v := .agg #[.int .i64 p19023.Nodes, .slice a19024 n19024 c19024, .slice a19025 n19025 c19025]) rfl (q_load wd_25 rfl) (St.ld X19034 (j := 1) rfl rfl) rfl ?_
  refine lpure (v := .pointer (some ⟨b19031, 0, none⟩)) rfl (p_fa fo_65_0 rfl) rfl rfl ?_
  refine lread (v := .int .i64 p19026.A) rfl (q_load wd_3 rfl) (St.ld X19034 (j := 0) rfl rfl) rfl ?_
  refine lcall rfl rfl ca_83 rfl rfl (f83_ok X19034 p19023 (p19026.A) H19024 H19025) rfl (fun e19050 v19051 h19052 hq19053 => ?_)
  cases hq19053
  refine lpure (v := .bool (!e19050)) rfl (p_not rfl) rfl rfl ?_
  refine lpure (v := .bool (!e19050)) rfl (p_move rfl) rfl rfl ?_
  refine ljoinM (τ := Bool) (σ := Unit) (fun s19060 (_ : Unit) => [(2, .pointer (some ⟨b19027, 0, none⟩)), (3, .pointer (some ⟨b19031, 0, none⟩)), (16, .bool s19060)]) (fun s19060 (_ : Unit) hh => St φ h.n hh ([(some b19031, .cells [.int .i64 p19026.A, .int .i64 p19026.B, .int .i64 p19026.Per, .int .i64 p19026.Delay] 65 .exact), (some b19027, .cells [.int .i64 p19023.Nodes, .slice a19024 n19024 c19024, .slice a19025 n19025 c19025] 25 .exact)])) 6 ?_ ?_
  · rintro s19060 _ t0 h19062 X19061
    refine lpure (v := .bool s19060) rfl (p_move rfl) rfl rfl ?_
    refine lsh (τ := Bool) (σ := Unit) (fun s19064 (_ : Unit) => [(2, .pointer (some ⟨b19027, 0, none⟩)), (3, .pointer (some ⟨b19031, 0, none⟩)), (23, .bool s19064)]) (fun s19064 (_ : Unit) hh => St φ h.n hh ([(some b19031, .cells [.int .i64 p19026.A, .int .i64 p19026.B, .int .i64 p19026.Per, .int .i64 p19026.Delay] 65 .exact), (some b19027, .cells [.int .i64 p19023.Nodes, .slice a19024 n19024 c19024, .slice a19025 n19025 c19025] 25 .exact)])) 6 ?_ ?_
    · rintro s19064 _ t0 h19066 X19065
      refine lpure (v := .bool s19064) rfl (p_move rfl) rfl rfl ?_
      refine ljoinM (τ := Bool) (σ := Unit) (fun s19076 (_ : Unit) => [(3, .pointer (some ⟨b19031, 0, none⟩)), (39, .bool s19076)]) (fun s19076 (_ : Unit) hh => St φ h.n hh ([(some b19031, .cells [.int .i64 p19026.A, .int .i64 p19026.B, .int .i64 p19026.Per, .int .i64 p19026.Delay] 65 .exact), (some b19027, .cells [.int .i64 p19023.Nodes, .slice a19024 n19024 c19024, .slice a19025 n19025 c19025] 25 .exact)])) 15 ?_ ?_
      · rintro s19076 _ t0 h19078 X19077
        refine lend (nseq ?_)
        refine dcond rfl rfl (fun k19079 => ?_) (fun k19079 => ?_)
        · refine dseq (dreg ?_)
          refine lpure (v := .bool false) rfl (p_assign rfl) rfl rfl ?_
          refine lend (nseq (dret (rseq ?_)))
          exact kcut_r (res_1 resT) X19077 rfl rfl
        refine dskip (nseq (dseq (dreg ?_)))
        refine lpure (v := .pointer (some ⟨b19031, 2, none⟩)) rfl (p_fa fo_65_2 rfl) rfl rfl ?_
        refine lread (v := .int .i64 p19026.Per) rfl (q_load wd_3 rfl) (St.ld X19077 (j := 0) rfl rfl) rfl ?_
        refine lpure (v := .bool (decide (1 ≤ p19026.Per))) rfl (p_ge rfl) rfl rfl ?_
        refine lpure (v := .bool (decide (1 ≤ p19026.Per))) rfl (p_move rfl) rfl rfl ?_
        refine lsh (τ := Bool) (σ := Unit) (fun s19081 (_ : Unit) => [(3, .pointer (some ⟨b19031, 0, none⟩)), (47, .bool s19081)]) (fun s19081 (_ : Unit) hh => St φ h.n hh ([(some b19031, .cells [.int .i64 p19026.A, .int .i64 p19026.B, .int .i64 p19026.Per, .int .i64 p19026.Delay] 65 .exact), (some b19027, .cells [.int .i64 p19023.Nodes, .slice a19024 n19024 c19024, .slice a19025 n19025 c19025] 25 .exact)])) 4 ?_ ?_
        · rintro s19081 _ t0 h19083 X19082
          refine lpure (v := .bool s19081) rfl (p_move rfl) rfl rfl ?_
          refine lsh (τ := Bool) (σ := Unit) (fun s19085 (_ : Unit) => [(3, .pointer (some ⟨b19031, 0, none⟩)), (52, .bool s19085)]) (fun s19085 (_ : Unit) hh => St φ h.n hh ([(some b19031, .cells [.int .i64 p19026.A, .int .i64 p19026.B, .int .i64 p19026.Per, .int .i64 p19026.Delay] 65 .exact), (some b19027, .cells [.int .i64 p19023.Nodes, .slice a19024 n19024 c19024, .slice a19025 n19025 c19025] 25 .exact)])) 4 ?_ ?_
          · rintro s19085 _ t0 h19087 X19086
            refine lpure (v := .bool s19085) rfl (p_move rfl) rfl rfl ?_
            refine lsh (τ := Bool) (σ := Unit) (fun s19089 (_ : Unit) => [(57, .bool s19089)]) (fun s19089 (_ : Unit) hh => St φ h.n hh ([(some b19031, .cells [.int .i64 p19026.A, .int .i64 p19026.B, .int .i64 p19026.Per, .int .i64 p19026.Delay] 65 .exact), (some b19027, .cells [.int .i64 p19023.Nodes, .slice a19024 n19024 c19024, .slice a19025 n19025 c19025] 25 .exact)])) 4 ?_ ?_
            · rintro s19089 _ t0 h19091 X19090
              refine lpure (v := .bool s19089) rfl (p_assign rfl) rfl rfl ?_
              refine lend (nseq (dret ?_))
              exact kcut_r (res_1 resT) X19090 rfl rfl
            intro j19092 J19093
            refine lcase (i := 53) (show _ = Value.bool s19085 from rfl) (fun k19094 => ?_) (fun k19094 => ?_)
            · refine lpure (v := .pointer (some ⟨b19031, 3, none⟩)) rfl (p_fa fo_65_3 rfl) rfl rfl ?_
              refine lread (v := .int .i64 p19026.Delay) rfl (q_load wd_3 rfl) (St.ld X19086 (j := 0) rfl rfl) rfl ?_
              refine lpure (v := .bool (decide (p19026.Delay ≤ 10000))) rfl (p_le rfl) rfl rfl ?_
              refine lpure (v := .bool (decide (p19026.Delay ≤ 10000))) rfl (p_pick rfl) rfl rfl ?_
              refine Sim.of_eq (congrArg j19092 (show (s19085 && (decide (p19026.Delay ≤ 10000))) = (decide (p19026.Delay ≤ 10000)) from by rw [k19094] <;> rfl)) ?_
              exact ljmpM J19093 (decide (p19026.Delay ≤ 10000)) () (sub_cons rfl sub_nil) X19086
            refine lskip rfl rfl ?_
            refine lskip rfl rfl ?_
            refine lskip rfl rfl ?_
            refine lpure (v := .bool false) rfl (p_pick rfl) rfl rfl ?_
            refine Sim.of_eq (congrArg j19092 (show (s19085 && (decide (p19026.Delay ≤ 10000))) = false from by rw [k19094] <;> rfl)) ?_
            exact ljmpM J19093 false () (sub_cons rfl sub_nil) X19086
          intro j19095 J19096
          refine lcase (i := 48) (show _ = Value.bool s19081 from rfl) (fun k19097 => ?_) (fun k19097 => ?_)
          · refine lpure (v := .pointer (some ⟨b19031, 3, none⟩)) rfl (p_fa fo_65_3 rfl) rfl rfl ?_
            refine lread (v := .int .i64 p19026.Delay) rfl (q_load wd_3 rfl) (St.ld X19082 (j := 0) rfl rfl) rfl ?_
            refine lpure (v := .bool (decide (0 ≤ p19026.Delay))) rfl (p_ge rfl) rfl rfl ?_
            refine lpure (v := .bool (decide (0 ≤ p19026.Delay))) rfl (p_pick rfl) rfl rfl ?_
            refine Sim.of_eq (congrArg j19095 (show (s19081 && (decide (0 ≤ p19026.Delay))) = (decide (0 ≤ p19026.Delay)) from by rw [k19097] <;> rfl)) ?_
            exact ljmpM J19096 (decide (0 ≤ p19026.Delay)) () (sub_cons rfl (sub_cons rfl sub_nil)) X19082
          refine lskip rfl rfl ?_
          refine lskip rfl rfl ?_
          refine lskip rfl rfl ?_
          refine lpure (v := .bool false) rfl (p_pick rfl) rfl rfl ?_
          refine Sim.of_eq (congrArg j19095 (show (s19081 && (decide (0 ≤ p19026.Delay))) = false from by rw [k19097] <;> rfl)) ?_
          exact ljmpM J19096 false () (sub_cons rfl (sub_cons rfl sub_nil)) X19082
        intro j19098 J19099
        refine lcase (i := 43) (show _ = Value.bool (decide (1 ≤ p19026.Per)) from rfl) (fun k19100 => ?_) (fun k19100 => ?_)
        · refine lpure (v := .pointer (some ⟨b19031, 2, none⟩)) rfl (p_fa fo_65_2 rfl) rfl rfl ?_
          refine lread (v := .int .i64 p19026.Per) rfl (q_load wd_3 rfl) (St.ld X19077 (j := 0) rfl rfl) rfl ?_
          refine lpure (v := .bool (decide (p19026.Per ≤ 1000))) rfl (p_le rfl) rfl rfl ?_
          refine lpure (v := .bool (decide (p19026.Per ≤ 1000))) rfl (p_pick rfl) rfl rfl ?_
          refine Sim.of_eq (congrArg j19098 (show ((decide (1 ≤ p19026.Per)) && (decide (p19026.Per ≤ 1000))) = (decide (p19026.Per ≤ 1000)) from by rw [k19100] <;> rfl)) ?_
          exact ljmpM J19099 (decide (p19026.Per ≤ 1000)) () (sub_cons rfl (sub_cons rfl sub_nil)) X19077
        refine lskip rfl rfl ?_
        refine lskip rfl rfl ?_
        refine lskip rfl rfl ?_
        refine lpure (v := .bool false) rfl (p_pick rfl) rfl rfl ?_
        refine Sim.of_eq (congrArg j19098 (show ((decide (1 ≤ p19026.Per)) && (decide (p19026.Per ≤ 1000))) = false from by rw [k19100] <;> rfl)) ?_
        exact ljmpM J19099 false () (sub_cons rfl (sub_cons rfl sub_nil)) X19077
      intro j19101 J19102
      refine lif (i := 24) (show _ = Value.bool s19064 from rfl) (fun k19103 => ?_) (fun k19103 => ?_)
      · refine lskip rfl rfl ?_
        refine lskip rfl rfl ?_
        refine lskip rfl rfl ?_
        refine lskip rfl rfl ?_
        refine lskip rfl rfl ?_
        refine lskip rfl rfl ?_
        refine lskip rfl rfl ?_
        refine lskip rfl rfl ?_
        refine lskip rfl rfl ?_
        refine lskip rfl rfl ?_
        refine lskip rfl rfl ?_
        refine lskip rfl rfl ?_
        refine lskip rfl rfl ?_
        refine lskip rfl rfl ?_
        refine lpure (v := .bool true) rfl (p_pick rfl) rfl rfl ?_
        exact ljmpM J19102 true () (sub_cons rfl (sub_cons rfl sub_nil)) X19065
      refine lpure (v := .pointer (some ⟨b19027, 1, none⟩)) rfl (p_fa fo_25_1 rfl) rfl rfl ?_
      refine lread (v := .slice a19024 n19024 c19024) rfl (q_load wd_22 rfl) (St.ld X19065 (j := 1) rfl rfl) rfl ?_
      refine lpure (v := .pointer (some ⟨b19031, 0, none⟩)) rfl (p_fa fo_65_0 rfl) rfl rfl ?_
      refine lread (v := .int .i64 p19026.A) rfl (q_load wd_3 rfl) (St.ld X19065 (j := 0) rfl rfl) rfl ?_
      refine Sim.bindM fun e19104 he19105 => ?_
      obtain ⟨p19106, cs19106, hp19106, hF19106, hR19106⟩ := RSl.ia H19024 he19105 (kd := .i64) (n := 1) rfl
      have hR19106 : _ = [(.bool e19104 : Value)] := hR19106
      subst hR19106
      refine lpure (v := p19106) rfl (p_ia rs_22 rfl) hp19106 rfl ?_
      refine lread (v := .bool e19104) rfl (q_load wd_4 rfl) (FP.ld X19065 hF19106) rfl ?_
      refine lpure (v := .bool e19104) rfl (p_move rfl) rfl rfl ?_
      refine lif (i := 31) (show _ = Value.bool e19104 from rfl) (fun k19107 => ?_) (fun k19107 => ?_)
      · refine lpure (v := .pointer (some ⟨b19027, 1, none⟩)) rfl (p_fa fo_25_1 rfl) rfl rfl ?_
        refine lread (v := .slice a19024 n19024 c19024) rfl (q_load wd_22 rfl) (St.ld X19065 (j := 1) rfl rfl) rfl ?_
        refine lpure (v := .pointer (some ⟨b19031, 1, none⟩)) rfl (p_fa fo_65_1 rfl) rfl rfl ?_
        refine lread (v := .int .i64 p19026.B) rfl (q_load wd_3 rfl) (St.ld X19065 (j := 0) rfl rfl) rfl ?_
        refine Sim.bindM fun e19108 he19109 => ?_
        obtain ⟨p19110, cs19110, hp19110, hF19110, hR19110⟩ := RSl.ia H19024 he19109 (kd := .i64) (n := 1) rfl
        have hR19110 : _ = [(.bool e19108 : Value)] := hR19110
        subst hR19110
        refine lpure (v := p19110) rfl (p_ia rs_22 rfl) hp19110 rfl ?_
        refine lread (v := .bool e19108) rfl (q_load wd_4 rfl) (FP.ld X19065 hF19110) rfl ?_
        refine lpure (v := .bool e19108) rfl (p_pick rfl) rfl rfl ?_
        refine lpure (v := .bool e19108) rfl (p_pick rfl) rfl rfl ?_
        exact ljmpM J19102 e19108 () (sub_cons rfl (sub_cons rfl sub_nil)) X19065
      refine lskip rfl rfl ?_
      refine lskip rfl rfl ?_
      refine lskip rfl rfl ?_
      refine lskip rfl rfl ?_
      refine lskip rfl rfl ?_
      refine lskip rfl rfl ?_
      refine lpure (v := .bool false) rfl (p_pick rfl) rfl rfl ?_
      refine lpure (v := .bool false) rfl (p_pick rfl) rfl rfl ?_
      exact ljmpM J19102 false () (sub_cons rfl (sub_cons rfl sub_nil)) X19065
    intro j19111 J19112
    refine lcase (i := 17) (show _ = Value.bool s19060 from rfl) (fun k19113 => ?_) (fun k19113 => ?_)
    · refine lskip rfl rfl ?_
      refine lskip rfl rfl ?_
      refine lskip rfl rfl ?_
      refine lskip rfl rfl ?_
      refine lskip rfl rfl ?_
      refine lpure (v := .bool true) rfl (p_pick rfl) rfl rfl ?_
      refine Sim.of_eq (congrArg j19111 (show (s19060 || (decide (p19026.A = p19026.B))) = true from by rw [k19113] <;> rfl)) ?_
      exact ljmpM J19112 true () (sub_cons rfl (sub_cons rfl (sub_cons rfl sub_nil))) X19061
    refine lpure (v := .pointer (some ⟨b19031, 0, none⟩)) rfl (p_fa fo_65_0 rfl) rfl rfl ?_
    refine lread (v := .int .i64 p19026.A) rfl (q_load wd_3 rfl) (St.ld X19061 (j := 0) rfl rfl) rfl ?_
    refine lpure (v := .pointer (some ⟨b19031, 1, none⟩)) rfl (p_fa fo_65_1 rfl) rfl rfl ?_
    refine lread (v := .int .i64 p19026.B) rfl (q_load wd_3 rfl) (St.ld X19061 (j := 0) rfl rfl) rfl ?_
    refine lpure (v := .bool (decide (p19026.A = p19026.B))) rfl (p_eq rfl) rfl rfl ?_
    refine lpure (v := .bool (decide (p19026.A = p19026.B))) rfl (p_pick rfl) rfl rfl ?_
    refine Sim.of_eq (congrArg j19111 (show (s19060 || (decide (p19026.A = p19026.B))) = (decide (p19026.A = p19026.B)) from by rw [k19113] <;> rfl)) ?_
    exact ljmpM J19112 (decide (p19026.A = p19026.B)) () (sub_cons rfl (sub_cons rfl (sub_cons rfl sub_nil))) X19061
  intro j19114 J19115
  refine lif (i := 10) (show _ = Value.bool (!e19050) from rfl) (fun k19116 => ?_) (fun k19116 => ?_)
  · refine lskip rfl rfl ?_
    refine lskip rfl rfl ?_
    refine lskip rfl rfl ?_
    refine lskip rfl rfl ?_
    refine lskip rfl rfl ?_
    refine lpure (v := .bool true) rfl (p_pick rfl) rfl rfl ?_
    exact ljmpM J19115 true () (sub_cons rfl (sub_cons rfl (sub_cons rfl sub_nil))) X19034
  refine lread (v := .agg #[.int .i64 p19023.Nodes, .slice a19024 n19024 c19024, .slice a19025 n19025 c19025]) rfl (q_load wd_25 rfl) (St.ld X19034 (j := 1) rfl rfl) rfl ?_
  refine lpure (v := .pointer (some ⟨b19031, 1, none⟩)) rfl (p_fa fo_65_1 rfl) rfl rfl ?_
  refine lread (v := .int .i64 p19026.B) rfl (q_load wd_3 rfl) (St.ld X19034 (j := 0) rfl rfl) rfl ?_
  refine lcall rfl rfl ca_83 rfl rfl (f83_ok X19034 p19023 (p19026.B) H19024 H19025) rfl (fun e19117 v19118 h19119 hq19120 => ?_)
  cases hq19120
  refine lpure (v := .bool (!e19117)) rfl (p_not rfl) rfl rfl ?_
  refine lpure (v := .bool (!e19117)) rfl (p_pick rfl) rfl rfl ?_
  exact ljmpM J19115 (!e19117) () (sub_cons rfl (sub_cons rfl (sub_cons rfl sub_nil))) X19034
/-! isochron/isochronref16.In -/
theorem f67_ok {n : Nat} {φ : Fz} {lo : Nat} {h : Heap} {own : OwnL}  {a19227 : Option Addr} {n19227 c19227 : Nat} (X : St φ lo h (own)) (p19226 : (List Int)) (p19228 : Int) (H19227 : RSl (eInt .i64) φ (.slice a19227 n19227 c19227) p19226) : Sim ((recN Tryz.prog LL cutF (n + 1)).call 67 #[(.slice a19227 n19227 c19227), (.int .i64 p19228)] h) (m_isochronref16_In p19226 p19228) (fun (d : Bool) p => p = (.bool d, h)) := by
  refine fcut Tryz.func67 rfl rfl rfl rfl X ?_
  intro h0 X0
  refine dseq (dreg ?_)
  refine lpure (v := .bool false) rfl (p_assign rfl) rfl rfl ?_
  refine lend (nseq (dseq (dseq (dreg ?_))))
  refine lpure (v := .int .i64 0) rfl (p_assign rfl) rfl rfl ?_
  refine lend (nseq (dblock ?_))
  refine dloopM (τ := Int) (σ := Unit) (fun s19245 (_ : Unit) => [(0, .slice a19227 n19227 c19227), (1, .int .i64 p19228), (5, .int .i64 s19245)]) (fun s19245 (_ : Unit) hh => St φ h.n hh ([])) 0 () (sub_cons rfl (sub_cons rfl (sub_cons rfl sub_nil))) X0 ?_
  rintro n19255 ih19254 s19245 _ t0 h19257 X19256
  refine dseq (dseq (dreg ?_))
  refine lpure (v := .int .i64 s19245) rfl (p_move rfl) rfl rfl ?_
  refine lpure (v := .slice a19227 n19227 c19227) rfl (p_move rfl) rfl rfl ?_
  refine lpure (v := .int .i64 (p19226.length : Int)) rfl (p_len rfl rfl rfl un_26 rfl) (RSl.lenC H19227) rfl ?_
  refine lpure (v := .bool (decide (s19245 < (p19226.length : Int)))) rfl (p_lt rfl) rfl rfl ?_
  refine lend (nseq ?_)
  refine dcond rfl rfl (fun k19258 => ?_) (fun k19258 => ?_)
  · refine dskip (nseq (dseq (dblock (dseq (dreg ?_)))))
    refine lpure (v := .slice a19227 n19227 c19227) rfl (p_move rfl) rfl rfl ?_
    refine lpure (v := .int .i64 s19245) rfl (p_move rfl) rfl rfl ?_
    refine Sim.bindM fun e19259 he19260 => ?_
    obtain ⟨p19261, cs19261, hp19261, hF19261, hR19261⟩ := RSl.ia H19227 he19260 (kd := .i64) (n := 1) rfl
    have hR19261 : _ = [(.int .i64 e19259 : Value)] := hR19261
    subst hR19261
    refine lpure (v := p19261) rfl (p_ia rs_26 rfl) hp19261 rfl ?_
    refine lread (v := .int .i64 e19259) rfl (q_load wd_3 rfl) (FP.ld X19256 hF19261) rfl ?_
    refine lpure (v := .int .i64 p19228) rfl (p_move rfl) rfl rfl ?_
    refine lpure (v := .bool (decide (e19259 = p19228))) rfl (p_eq rfl) rfl rfl ?_
    refine lend (nseq ?_)
    refine dcond rfl rfl (fun k19262 => ?_) (fun k19262 => ?_)
    · refine dseq (dreg ?_)
      refine lpure (v := .bool true) rfl (p_assign rfl) rfl rfl ?_
      refine lend (nseq (dret (rblock (rseq (rloop (rblock (rseq ?_)))))))
      exact kcut_r (res_1 resT) X19256 rfl rfl
    refine dskip (nblock (nseq (dreg ?_)))
    refine lpure (v := .int .i64 s19245) rfl (p_move rfl) rfl rfl ?_
    refine lpure (v := .int .i64 (w64 (s19245 + 1))) rfl (p_add rfl) rfl rfl ?_
    refine lpure (v := .int .i64 (w64 (s19245 + 1))) rfl (p_assign rfl) rfl rfl ?_
    refine lend ?_
    exact kbackM ih19254 (w64 (s19245 + 1)) () (sub_cons rfl (sub_cons rfl (sub_cons rfl sub_nil))) X19256
  refine dexit (eseq (eloop (xblock (nseq (dseq (dreg ?_))))))
  refine lpure (v := .bool false) rfl (p_assign rfl) rfl rfl ?_
  refine lend (nseq (dret ?_))
  exact kcut_r (res_1 resT) X19256 rfl rfl
/-! isochron/isochronref16.Reach -/
theorem f65_ok {n : Nat} {φ : Fz} {lo : Nat} {h : Heap} {own : OwnL}  {a20418 : Option Addr} {n20418 c20418 : Nat} {a20419 : Option Addr} {n20419 c20419 : Nat} {a20422 : Option Addr} {n20422 c20422 : Nat} (X : St φ lo h (own)) (p20417 : ApiTopo) (p20420 : Int) (p20421 : (List Int)) (H20418 : RSl eBool φ (.slice a20418 n20418 c20418) p20417.Station) (H20419 : RSl eApiLink φ (.slice a20419 n20419 c20419) p20417.Links) (H20422 : RSl (eInt .i64) φ (.slice a20422 n20422 c20422) p20421) : Sim ((recN Tryz.prog LL cutF (n + 2)).call 65 #[(.agg #[.int .i64 p20417.Nodes, .slice a20418 n20418 c20418, .slice a20419 n20419 c20419]), (.int .i64 p20420), (.slice a20422 n20422 c20422)] h) (m_isochronref16_Reach p20417 p20420 p20421) (fun (d : (List Bool)) p => ∃ φ2 : Fz, ∃ a21606 : Option Addr, ∃ n21606 : Nat, ∃ c21606 : Nat, ∃ ob21606 : Option Nat, ∃ blk21606 : Blk, Fz.le φ φ2 ∧ St φ2 lo p.2 ((ob21606, blk21606) :: own) ∧ p.1 = .slice a21606 n21606 c21606 ∧ OSl eBool φ2 4 ob21606 blk21606 (.slice a21606 n21606 c21606) d) := by
  refine fopen Tryz.func65 rfl rfl rfl rfl ?_
  refine dseq (dreg ?_)
  refine lbox rfl rfl rfl rfl rfl X (fun b20423 h20425 X20426 => ?_)
  refine lpure (v := .slice none 0 0) rfl (p_assign rfl) rfl rfl ?_
  refine lend (nseq (dseq (dreg ?_)))
  refine lpure (v := .pointer (some ⟨b20423, 0, none⟩)) rfl (p_fa fo_25_0 rfl) rfl rfl ?_
  refine lread (v := .int .i64 p20417.Nodes) rfl (q_load wd_3 rfl) (St.ld X20426 (j := 0) rfl rfl) rfl ?_
  refine Sim.mustM fun k20427 => ?_
  have k20427 := of_decide_eq_true k20427
  obtain ⟨h20427, b20427, vs20427, hv20427, X20427, O20427⟩ := OSl.mk (E := eBool) (φ := φ) (a0 := false) (k := .i64) (k' := .i64) (l := p20417.Nodes) (c := p20417.Nodes) un_22 tb_4 rfl ts_4 rfl rfl tz_4 rfl rfl rfl (by omega) (by omega) (by omega) X20426
  refine lheap rfl (h_makeSlice rfl) hv20427 rfl ?_
  refine lpure (v := .slice (some ⟨b20427, 0, none⟩) (p20417.Nodes).toNat (p20417.Nodes).toNat) rfl (p_assign rfl) rfl rfl ?_
  refine lend (nseq (dseq (dreg ?_)))
  refine lpure (v := .slice (some ⟨b20427, 0, none⟩) (p20417.Nodes).toNat (p20417.Nodes).toNat) rfl (p_move rfl) rfl rfl ?_
  refine lpure (v := .int .i64 p20420) rfl (p_move rfl) rfl rfl ?_
  refine Sim.bindM fun e20429 he20430 => ?_
  obtain ⟨off20431, cs20431, hp20431, hc20431, hR20431, hl20431, hm20431, hs20431⟩ := OSl.iaC O20427 he20430 (kd := .i64) (n := 1) rfl
  have hR20431 : _ = [(.bool e20429 : Value)] := hR20431
  subst hR20431
  refine lpure (v := .pointer (some ⟨b20427, off20431, none⟩)) rfl (p_ia rs_22 rfl) hp20431 rfl ?_
  have O20434 := hs20431 [.bool true] (true) rfl
  refine lstore rfl ts_4 rfl rfl (j := 0) rfl hm20431 rfl rfl (ble_iff.2 hl20431) rfl X20427 (fun h20432 X20433 => ?_)
  refine lend (nseq (dseq (dseq (dreg ?_))))
  refine lpure (v := .int .i64 0) rfl (p_assign rfl) rfl rfl ?_
  refine lend (nseq (dblock ?_))
  refine dloopM (τ := (List Bool) × Int) (σ := Blk) (fun s21019 blk21020 => [(2, .slice a20422 n20422 c20422), (3, .pointer (some ⟨b20423, 0, none⟩)), (7, .slice (some ⟨b20427, 0, none⟩) (p20417.Nodes).toNat (p20417.Nodes).toNat), (8, .int .i64 s21019.2)]) (fun s21019 blk21020 hh => St φ lo hh ((some b20427, blk21020) :: (some b20423, .cells [.int .i64 p20417.Nodes, .slice a20418 n20418 c20418, .slice a20419 n20419 c20419] 25 .exact) :: own) ∧ OSl eBool φ 4 (some b20427) blk21020 (.slice (some ⟨b20427, 0, none⟩) (p20417.Nodes).toNat (p20417.Nodes).toNat) s21019.1) (((List.replicate (p20417.Nodes).toNat false).set (p20420).toNat true), 0) ((.cells (setAt vs20427 off20431 [.bool true]) 4 .exact)) (sub_cons rfl (sub_cons rfl (sub_cons rfl (sub_cons rfl sub_nil)))) ⟨X20433, O20434⟩ ?_
  rintro n21314 ih21313 s21019 blk21020 t0 h21316 ⟨X21315, O21020⟩
  refine dseq (dseq (dreg ?_))
  refine lpure (v := .int .i64 s21019.2) rfl (p_move rfl) rfl rfl ?_
  refine lpure (v := .pointer (some ⟨b20423, 0, none⟩)) rfl (p_fa fo_25_0 rfl) rfl rfl ?_
  refine lread (v := .int .i64 p20417.Nodes) rfl (q_load wd_3 rfl) (St.ld X21315 (j := 1) rfl rfl) rfl ?_
  refine lpure (v := .bool (decide (s21019.2 < p20417.Nodes))) rfl (p_lt rfl) rfl rfl ?_
  refine lend (nseq ?_)
  refine dcond rfl rfl (fun k21317 => ?_) (fun k21317 => ?_)
  · refine dskip (nseq (dseq (dblock (dseq (dreg ?_)))))
    refine lpure (v := .int .i64 0) rfl (p_assign rfl) rfl rfl ?_
    refine lend (nseq (dblock ?_))
    refine dloopM (τ := (List Bool) × Int) (σ := Blk) (fun s21461 blk21462 => [(2, .slice a20422 n20422 c20422), (3, .pointer (some ⟨b20423, 0, none⟩)), (7, .slice (some ⟨b20427, 0, none⟩) (p20417.Nodes).toNat (p20417.Nodes).toNat), (8, .int .i64 s21019.2), (9, .int .i64 s21461.2)]) (fun s21461 blk21462 hh => St φ lo hh ((some b20427, blk21462) :: (some b20423, .cells [.int .i64 p20417.Nodes, .slice a20418 n20418 c20418, .slice a20419 n20419 c20419] 25 .exact) :: own) ∧ OSl eBool φ 4 (some b20427) blk21462 (.slice (some ⟨b20427, 0, none⟩) (p20417.Nodes).toNat (p20417.Nodes).toNat) s21461.1) (s21019.1, 0) blk21020 (sub_cons rfl (sub_cons rfl (sub_cons rfl (sub_cons rfl (sub_cons rfl sub_nil))))) ⟨X21315, O21020⟩ ?_
    rintro n21535 ih21534 s21461 blk21462 t0 h21537 ⟨X21536, O21462⟩
    refine dseq (dseq (dreg ?_))
    refine lpure (v := .int .i64 s21461.2) rfl (p_move rfl) rfl rfl ?_
    refine lpure (v := .pointer (some ⟨b20423, 2, none⟩)) rfl (p_fa fo_25_2 rfl) rfl rfl ?_
    refine lread (v := .slice a20419 n20419 c20419) rfl (q_load wd_23 rfl) (St.ld X21536 (j := 1) rfl rfl) rfl ?_
    refine lpure (v := .int .i64 (p20417.Links.length : Int)) rfl (p_len rfl rfl rfl un_23 rfl) (RSl.lenC H20419) rfl ?_
    refine lpure (v := .bool (decide (s21461.2 < (p20417.Links.length : Int)))) rfl (p_lt rfl) rfl rfl ?_
    refine lend (nseq ?_)
    refine dcond rfl rfl (fun k21538 => ?_) (fun k21538 => ?_)
    · refine dskip (nseq (dseq (dblock (dseq (dreg ?_)))))
      refine lpure (v := .pointer (some ⟨b20423, 2, none⟩)) rfl (p_fa fo_25_2 rfl) rfl rfl ?_
      refine lread (v := .slice a20419 n20419 c20419) rfl (q_load wd_23 rfl) (St.ld X21536 (j := 1) rfl rfl) rfl ?_
      refine lpure (v := .int .i64 s21461.2) rfl (p_move rfl) rfl rfl ?_
      refine Sim.bindM fun e21539 he21540 => ?_
      obtain ⟨p21541, cs21541, hp21541, hF21541, hR21541⟩ := RSl.ia H20419 he21540 (kd := .i64) (n := 4) rfl
      obtain rfl := eApiLink_el hR21541
      refine lpure (v := p21541) rfl (p_ia rs_23 rfl) hp21541 rfl ?_
      refine lread (v := .agg #[.int .i64 e21539.A, .int .i64 e21539.B, .int .i64 e21539.Per, .int .i64 e21539.Delay]) rfl (q_load wd_65 rfl) (FP.ldw X21536 hF21541 rfl rfl) rfl ?_
      refine lalloc rfl tz_65 rfl rfl rfl X21536 (fun b21542 h21544 X21545 => ?_)
      refine lstore rfl ts_65 rfl rfl (j := 0) rfl rfl rfl rfl rfl rfl X21545 (fun h21546 X21547 => ?_)
      refine lend (nseq (dseq (dreg ?_)))
      refine lpure (v := .slice a20422 n20422 c20422) rfl (p_move rfl) rfl rfl ?_
      refine lpure (v := .int .i64 s21461.2) rfl (p_move rfl) rfl rfl ?_
      refine lcall rfl rfl ca_67 rfl rfl (f67_ok X21547 p20421 (s21461.2) H20422) rfl (fun e21548 v21549 h21550 hq21551 => ?_)
      cases hq21551
      refine lpure (v := .bool (!e21548)) rfl (p_not rfl) rfl rfl ?_
      refine lpure (v := .bool (!e21548)) rfl (p_move rfl) rfl rfl ?_
      refine ljoinM (τ := (List Bool) × Bool) (σ := Blk) (fun s21561 blk21562 => [(2, .slice a20422 n20422 c20422), (3, .pointer (some ⟨b20423, 0, none⟩)), (7, .slice (some ⟨b20427, 0, none⟩) (p20417.Nodes).toNat (p20417.Nodes).toNat), (8, .int .i64 s21019.2), (9, .int .i64 s21461.2), (10, .pointer (some ⟨b21542, 0, none⟩)), (52, .bool s21561.2)]) (fun s21561 blk21562 hh => St φ lo hh ((some b21542, .cells [.int .i64 e21539.A, .int .i64 e21539.B, .int .i64 e21539.Per, .int .i64 e21539.Delay] 65 .exact) :: (some b20427, blk21562) :: (some b20423, .cells [.int .i64 p20417.Nodes, .slice a20418 n20418 c20418, .slice a20419 n20419 c20419] 25 .exact) :: own) ∧ OSl eBool φ 4 (some b20427) blk21562 (.slice (some ⟨b20427, 0, none⟩) (p20417.Nodes).toNat (p20417.Nodes).toNat) s21561.1) 13 ?_ ?_
      · rintro s21561 blk21562 t0 h21564 ⟨X21563, O21562⟩
        refine lend (nseq ?_)
        refine djoinM (τ := (List Bool)) (σ := Blk) (fun s21578 blk21579 => [(2, .slice a20422 n20422 c20422), (3, .pointer (some ⟨b20423, 0, none⟩)), (7, .slice (some ⟨b20427, 0, none⟩) (p20417.Nodes).toNat (p20417.Nodes).toNat), (8, .int .i64 s21019.2), (9, .int .i64 s21461.2)]) (fun s21578 blk21579 hh => St φ lo hh ((some b21542, .cells [.int .i64 e21539.A, .int .i64 e21539.B, .int .i64 e21539.Per, .int .i64 e21539.Delay] 65 .exact) :: (some b20427, blk21579) :: (some b20423, .cells [.int .i64 p20417.Nodes, .slice a20418 n20418 c20418, .slice a20419 n20419 c20419] 25 .exact) :: own) ∧ OSl eBool φ 4 (some b20427) blk21579 (.slice (some ⟨b20427, 0, none⟩) (p20417.Nodes).toNat (p20417.Nodes).toNat) s21578) ?_ ?_
        · rintro s21578 blk21579 t0 h21581 ⟨X21580, O21579⟩
          refine nblock (nseq (dreg ?_))
          refine lpure (v := .int .i64 s21461.2) rfl (p_move rfl) rfl rfl ?_
          refine lpure (v := .int .i64 (w64 (s21461.2 + 1))) rfl (p_add rfl) rfl rfl ?_
          refine lpure (v := .int .i64 (w64 (s21461.2 + 1))) rfl (p_assign rfl) rfl rfl ?_
          refine lend ?_
          exact kbackM ih21534 (s21578, (w64 (s21461.2 + 1))) blk21579 (sub_cons rfl (sub_cons rfl (sub_cons rfl (sub_cons rfl (sub_cons rfl sub_nil))))) ⟨(St.pick X21580 (.skip _ (.keep _ (.keep _ (.refl _))))), O21579⟩
        intro j21582 J21583
        refine dcond rfl rfl (fun k21565 => ?_) (fun k21565 => ?_)
        · refine dseq (dreg ?_)
          refine lpure (v := .slice (some ⟨b20427, 0, none⟩) (p20417.Nodes).toNat (p20417.Nodes).toNat) rfl (p_move rfl) rfl rfl ?_
          refine lpure (v := .pointer (some ⟨b21542, 0, none⟩)) rfl (p_fa fo_65_0 rfl) rfl rfl ?_
          refine lread (v := .int .i64 e21539.A) rfl (q_load wd_3 rfl) (St.ld X21563 (j := 0) rfl rfl) rfl ?_
          refine Sim.bindM fun e21584 he21585 => ?_
          obtain ⟨vs21586, m21586, off21586, cs21586, rfl, hp21586, hc21586, hR21586, hl21586, hm21586, hs21586⟩ := OSl.iaB O21562 he21585 (kd := .i64) (n := 1) rfl
          have hR21586 : _ = [(.bool e21584 : Value)] := hR21586
          subst hR21586
          refine lpure (v := .pointer (some ⟨b20427, off21586, none⟩)) rfl (p_ia rs_22 rfl) hp21586 rfl ?_
          have O21589 := hs21586 [.bool true] (true) rfl
          refine lstore rfl ts_4 rfl rfl (j := 1) rfl hm21586 rfl rfl (ble_iff.2 hl21586) rfl X21563 (fun h21587 X21588 => ?_)
          refine lend (nseq (dreg ?_))
          refine lpure (v := .slice (some ⟨b20427, 0, none⟩) (p20417.Nodes).toNat (p20417.Nodes).toNat) rfl (p_move rfl) rfl rfl ?_
          refine lpure (v := .pointer (some ⟨b21542, 1, none⟩)) rfl (p_fa fo_65_1 rfl) rfl rfl ?_
          refine lread (v := .int .i64 e21539.B) rfl (q_load wd_3 rfl) (St.ld X21588 (j := 0) rfl rfl) rfl ?_
          refine Sim.bindM fun e21590 he21591 => ?_
          obtain ⟨off21592, cs21592, hp21592, hc21592, hR21592, hl21592, hm21592, hs21592⟩ := OSl.iaC O21589 he21591 (kd := .i64) (n := 1) rfl
          have hR21592 : _ = [(.bool e21590 : Value)] := hR21592
          subst hR21592
          refine lpure (v := .pointer (some ⟨b20427, off21592, none⟩)) rfl (p_ia rs_22 rfl) hp21592 rfl ?_
          have O21595 := hs21592 [.bool true] (true) rfl
          refine lstore rfl ts_4 rfl rfl (j := 1) rfl hm21592 rfl rfl (ble_iff.2 hl21592) rfl X21588 (fun h21593 X21594 => ?_)
          refine lend ?_
          exact jmpM J21583 ((s21561.1.set (e21539.A).toNat true).set (e21539.B).toNat true) ((.cells (setAt (setAt vs21586 off21586 [.bool true]) off21592 [.bool true]) 4 m21586)) (sub_cons rfl (sub_cons rfl (sub_cons rfl (sub_cons rfl (sub_cons rfl sub_nil))))) ⟨X21594, O21595⟩
        refine dskip ?_
        exact jmpM J21583 s21561.1 blk21562 (sub_cons rfl (sub_cons rfl (sub_cons rfl (sub_cons rfl (sub_cons rfl sub_nil))))) ⟨X21563, O21562⟩
      intro j21596 J21597
      refine lif (i := 39) (show _ = Value.bool (!e21548) from rfl) (fun k21598 => ?_) (fun k21598 => ?_)
      · refine lpure (v := .slice (some ⟨b20427, 0, none⟩) (p20417.Nodes).toNat (p20417.Nodes).toNat) rfl (p_move rfl) rfl rfl ?_
        refine lpure (v := .pointer (some ⟨b21542, 0, none⟩)) rfl (p_fa fo_65_0 rfl) rfl rfl ?_
        refine lread (v := .int .i64 e21539.A) rfl (q_load wd_3 rfl) (St.ld X21547 (j := 0) rfl rfl) rfl ?_
        refine Sim.bindM fun e21599 he21600 => ?_
        obtain ⟨vs21601, m21601, off21601, cs21601, rfl, hp21601, hc21601, hR21601, hl21601, hm21601, hs21601⟩ := OSl.iaB O21462 he21600 (kd := .i64) (n := 1) rfl
        have hR21601 : _ = [(.bool e21599 : Value)] := hR21601
        subst hR21601
        refine lpure (v := .pointer (some ⟨b20427, off21601, none⟩)) rfl (p_ia rs_22 rfl) hp21601 rfl ?_
        refine lread (v := .bool e21599) rfl (q_load wd_4 rfl) (St.ld X21547 (j := 1) rfl (rdE1 hc21601 (k := 0) rfl rfl)) rfl ?_
        refine lpure (v := .bool e21599) rfl (p_move rfl) rfl rfl ?_
        refine lif (i := 45) (show _ = Value.bool e21599 from rfl) (fun k21602 => ?_) (fun k21602 => ?_)
        · refine lskip rfl rfl ?_
          refine lskip rfl rfl ?_
          refine lskip rfl rfl ?_
          refine lskip rfl rfl ?_
          refine lskip rfl rfl ?_
          refine lpure (v := .bool true) rfl (p_pick rfl) rfl rfl ?_
          refine lpure (v := .bool true) rfl (p_pick rfl) rfl rfl ?_
          exact ljmpM J21597 (s21461.1, true) (.cells vs21601 4 m21601) (sub_cons rfl (sub_cons rfl (sub_cons rfl (sub_cons rfl (sub_cons rfl (sub_cons rfl (sub_cons rfl sub_nil))))))) ⟨X21547, O21462⟩
        refine lpure (v := .slice (some ⟨b20427, 0, none⟩) (p20417.Nodes).toNat (p20417.Nodes).toNat) rfl (p_move rfl) rfl rfl ?_
        refine lpure (v := .pointer (some ⟨b21542, 1, none⟩)) rfl (p_fa fo_65_1 rfl) rfl rfl ?_
        refine lread (v := .int .i64 e21539.B) rfl (q_load wd_3 rfl) (St.ld X21547 (j := 0) rfl rfl) rfl ?_
        refine Sim.bindM fun e21603 he21604 => ?_
        obtain ⟨off21605, cs21605, hp21605, hc21605, hR21605, hl21605, hm21605, hs21605⟩ := OSl.iaC O21462 he21604 (kd := .i64) (n := 1) rfl
        have hR21605 : _ = [(.bool e21603 : Value)] := hR21605
        subst hR21605
        refine lpure (v := .pointer (some ⟨b20427, off21605, none⟩)) rfl (p_ia rs_22 rfl) hp21605 rfl ?_
        refine lread (v := .bool e21603) rfl (q_load wd_4 rfl) (St.ld X21547 (j := 1) rfl (rdE1 hc21605 (k := 0) rfl rfl)) rfl ?_
        refine lpure (v := .bool e21603) rfl (p_pick rfl) rfl rfl ?_
        refine lpure (v := .bool e21603) rfl (p_pick rfl) rfl rfl ?_
        exact ljmpM J21597 (s21461.1, e21603) (.cells vs21601 4 m21601) (sub_cons rfl (sub_cons rfl (sub_cons rfl (sub_cons rfl (sub_cons rfl (sub_cons rfl (sub_cons rfl sub_nil))))))) ⟨X21547, O21462⟩
      refine lskip rfl rfl ?_
      refine lskip rfl rfl ?_
      refine lskip rfl rfl ?_
      refine lskip rfl rfl ?_
      refine lskip rfl rfl ?_
      refine lskip rfl rfl ?_
      refine lskip rfl rfl ?_
      refine lskip rfl rfl ?_
      refine lskip rfl rfl ?_
      refine lskip rfl rfl ?_
      refine lskip rfl rfl ?_
      refine lskip rfl rfl ?_
      refine lpure (v := .bool false) rfl (p_pick rfl) rfl rfl ?_
      exact ljmpM J21597 (s21461.1, false) blk21462 (sub_cons rfl (sub_cons rfl (sub_cons rfl (sub_cons rfl (sub_cons rfl (sub_cons rfl (sub_cons rfl sub_nil))))))) ⟨X21547, O21462⟩
    refine dexit (eseq (eloop (xblock (nblock (nseq (dreg ?_))))))
    refine lpure (v := .int .i64 s21019.2) rfl (p_move rfl) rfl rfl ?_
    refine lpure (v := .int .i64 (w64 (s21019.2 + 1))) rfl (p_add rfl) rfl rfl ?_
    refine lpure (v := .int .i64 (w64 (s21019.2 + 1))) rfl (p_assign rfl) rfl rfl ?_
    refine lend ?_
    exact kbackM ih21313 (s21461.1, (w64 (s21019.2 + 1))) blk21462 (sub_cons rfl (sub_cons rfl (sub_cons rfl (sub_cons rfl sub_nil)))) ⟨X21536, O21462⟩
  refine dexit (eseq (eloop (xblock (nseq (dseq (dreg ?_))))))
  refine lpure (v := .slice (some ⟨b20427, 0, none⟩) (p20417.Nodes).toNat (p20417.Nodes).toNat) rfl (p_move rfl) rfl rfl ?_
  refine lpure (v := .slice (some ⟨b20427, 0, none⟩) (p20417.Nodes).toNat (p20417.Nodes).toNat) rfl (p_assign rfl) rfl rfl ?_
  refine lend (nseq (dret ?_))
  exact kopen_r (res_1 resT) ⟨φ, ((some ⟨b20427, 0, none⟩)), ((p20417.Nodes).toNat), ((p20417.Nodes).toNat), (some b20427), blk21020, (Fz.le_refl _), St.pick X21315 (.keep _ (.skip _ (.refl _))), rfl, O21020⟩
/-! isochron/isochronref16.Joins -/
theorem f64_ok {n : Nat} {φ : Fz} {lo : Nat} {h : Heap} {own : OwnL}  (X : St φ lo h (own)) (p21796 : ApiLink) (p21797 : Int) (p21798 : Int) : Sim ((recN Tryz.prog LL cutF (n + 1)).call 64 #[(.agg #[.int .i64 p21796.A, .int .i64 p21796.B, .int .i64 p21796.Per, .int .i64 p21796.Delay]), (.int .i64 p21797), (.int .i64 p21798)] h) (m_isochronref16_Joins p21796 p21797 p21798) (fun (d : Bool) p => p = (.bool d, h)) := by
  refine fcut Tryz.func64 rfl rfl rfl rfl X ?_
  intro h0 X0
  refine dseq (dreg ?_)
  refine lbox rfl rfl rfl rfl rfl X0 (fun b21799 h21801 X21802 => ?_)
  refine lpure (v := .bool false) rfl (p_assign rfl) rfl rfl ?_
  refine lend (nseq (dseq (dreg ?_)))
  refine lpure (v := .pointer (some ⟨b21799, 0, none⟩)) rfl (p_fa fo_65_0 rfl) rfl rfl ?_
  refine lread (v := .int .i64 p21796.A) rfl (q_load wd_3 rfl) (St.ld X21802 (j := 0) rfl rfl) rfl ?_
  refine lpure (v := .int .i64 p21797) rfl (p_move rfl) rfl rfl ?_
  refine lpure (v := .bool (decide (p21796.A = p21797))) rfl (p_eq rfl) rfl rfl ?_
  refine lpure (v := .bool (decide (p21796.A = p21797))) rfl (p_move rfl) rfl rfl ?_
  refine lsh (τ := Bool) (σ := Unit) (fun s21804 (_ : Unit) => [(1, .int .i64 p21797), (2, .int .i64 p21798), (3, .pointer (some ⟨b21799, 0, none⟩)), (16, .bool s21804)]) (fun s21804 (_ : Unit) hh => St φ h.n hh ([(some b21799, .cells [.int .i64 p21796.A, .int .i64 p21796.B, .int .i64 p21796.Per, .int .i64 p21796.Delay] 65 .exact)])) 5 ?_ ?_
  · rintro s21804 _ t0 h21806 X21805
    refine lpure (v := .bool s21804) rfl (p_move rfl) rfl rfl ?_
    refine lsh (τ := Bool) (σ := Unit) (fun s21808 (_ : Unit) => [(28, .bool s21808)]) (fun s21808 (_ : Unit) hh => St φ h.n hh ([(some b21799, .cells [.int .i64 p21796.A, .int .i64 p21796.B, .int .i64 p21796.Per, .int .i64 p21796.Delay] 65 .exact)])) 11 ?_ ?_
    · rintro s21808 _ t0 h21810 X21809
      refine lpure (v := .bool s21808) rfl (p_assign rfl) rfl rfl ?_
      refine lend (nseq (dret ?_))
      exact kcut_r (res_1 resT) X21809 rfl rfl
    intro j21811 J21812
    refine lcase (i := 17) (show _ = Value.bool s21804 from rfl) (fun k21813 => ?_) (fun k21813 => ?_)
    · refine lskip rfl rfl ?_
      refine lskip rfl rfl ?_
      refine lskip rfl rfl ?_
      refine lskip rfl rfl ?_
      refine lskip rfl rfl ?_
      refine lskip rfl rfl ?_
      refine lskip rfl rfl ?_
      refine lskip rfl rfl ?_
      refine lskip rfl rfl ?_
      refine lskip rfl rfl ?_
      refine lpure (v := .bool true) rfl (p_pick rfl) rfl rfl ?_
      refine Sim.of_eq (congrArg j21811 (show (s21804 || ((decide (p21796.A = p21798)) && (decide (p21796.B = p21797)))) = true from by rw [k21813] <;> rfl)) ?_
      exact ljmpM J21812 true () (sub_cons rfl sub_nil) X21805
    refine lpure (v := .pointer (some ⟨b21799, 0, none⟩)) rfl (p_fa fo_65_0 rfl) rfl rfl ?_
    refine lread (v := .int .i64 p21796.A) rfl (q_load wd_3 rfl) (St.ld X21805 (j := 0) rfl rfl) rfl ?_
    refine lpure (v := .int .i64 p21798) rfl (p_move rfl) rfl rfl ?_
    refine lpure (v := .bool (decide (p21796.A = p21798))) rfl (p_eq rfl) rfl rfl ?_
    refine lpure (v := .bool (decide (p21796.A = p21798))) rfl (p_move rfl) rfl rfl ?_
    refine lcase (i := 22) (show _ = Value.bool (decide (p21796.A = p21798)) from rfl) (fun k21814 => ?_) (fun k21814 => ?_)
    · refine lpure (v := .pointer (some ⟨b21799, 1, none⟩)) rfl (p_fa fo_65_1 rfl) rfl rfl ?_
      refine lread (v := .int .i64 p21796.B) rfl (q_load wd_3 rfl) (St.ld X21805 (j := 0) rfl rfl) rfl ?_
      refine lpure (v := .int .i64 p21797) rfl (p_move rfl) rfl rfl ?_
      refine lpure (v := .bool (decide (p21796.B = p21797))) rfl (p_eq rfl) rfl rfl ?_
      refine lpure (v := .bool (decide (p21796.B = p21797))) rfl (p_pick rfl) rfl rfl ?_
      refine lpure (v := .bool (decide (p21796.B = p21797))) rfl (p_pick rfl) rfl rfl ?_
      refine Sim.of_eq (congrArg j21811 (show (s21804 || ((decide (p21796.A = p21798)) && (decide (p21796.B = p21797)))) = (decide (p21796.B = p21797)) from by rw [k21813, k21814] <;> rfl)) ?_
      exact ljmpM J21812 (decide (p21796.B = p21797)) () (sub_cons rfl sub_nil) X21805
    refine lskip rfl rfl ?_
    refine lskip rfl rfl ?_
    refine lskip rfl rfl ?_
    refine lskip rfl rfl ?_
    refine lpure (v := .bool false) rfl (p_pick rfl) rfl rfl ?_
    refine lpure (v := .bool false) rfl (p_pick rfl) rfl rfl ?_
    refine Sim.of_eq (congrArg j21811 (show (s21804 || ((decide (p21796.A = p21798)) && (decide (p21796.B = p21797)))) = false from by rw [k21813, k21814] <;> rfl)) ?_
    exact ljmpM J21812 false () (sub_cons rfl sub_nil) X21805
  intro j21815 J21816
  refine lcase (i := 11) (show _ = Value.bool (decide (p21796.A = p21797)) from rfl) (fun k21817 => ?_) (fun k21817 => ?_)
  · refine lpure (v := .pointer (some ⟨b21799, 1, none⟩)) rfl (p_fa fo_65_1 rfl) rfl rfl ?_
    refine lread (v := .int .i64 p21796.B) rfl (q_load wd_3 rfl) (St.ld X21802 (j := 0) rfl rfl) rfl ?_
    refine lpure (v := .int .i64 p21798) rfl (p_move rfl) rfl rfl ?_
    refine lpure (v := .bool (decide (p21796.B = p21798))) rfl (p_eq rfl) rfl rfl ?_
    refine lpure (v := .bool (decide (p21796.B = p21798))) rfl (p_pick rfl) rfl rfl ?_
    refine Sim.of_eq (congrArg j21815 (show ((decide (p21796.A = p21797)) && (decide (p21796.B = p21798))) = (decide (p21796.B = p21798)) from by rw [k21817] <;> rfl)) ?_
    exact ljmpM J21816 (decide (p21796.B = p21798)) () (sub_cons rfl (sub_cons rfl (sub_cons rfl (sub_cons rfl sub_nil)))) X21802
  refine lskip rfl rfl ?_
  refine lskip rfl rfl ?_
  refine lskip rfl rfl ?_
  refine lskip rfl rfl ?_
  refine lpure (v := .bool false) rfl (p_pick rfl) rfl rfl ?_
  refine Sim.of_eq (congrArg j21815 (show ((decide (p21796.A = p21797)) && (decide (p21796.B = p21798))) = false from by rw [k21817] <;> rfl)) ?_
  exact ljmpM J21816 false () (sub_cons rfl (sub_cons rfl (sub_cons rfl (sub_cons rfl sub_nil)))) X21802
end Go.AM
