/- Printed: functions of the given program as functions over plain data, and that the machine does what they say; no claim of its own; no condition. -/
import Derived.Test.YtlkddekecegfdaaGreatGcOk1
set_option maxRecDepth 100000
set_option maxHeartbeats 4000000
set_option linter.unusedVariables false
set_option linter.unusedSimpArgs false
namespace Go.AM
open Go Go.Proofs

/-! isochron/route.Time -/
theorem f12_ok {n : Nat} {φ : Fz} {lo : Nat} {h : Heap} {own : OwnL}  {a8056 : Option Addr} {n8056 c8056 : Nat} {a8057 : Option Addr} {n8057 c8057 : Nat} {a8059 : Option Addr} {n8059 c8059 : Nat} (X : St φ lo h (own)) (p8055 : ApiTopo) (p8058 : (List Int)) (p8060 : Int) (H8056 : RSl eBool φ (.slice a8056 n8056 c8056) p8055.Station) (H8057 : RSl eApiLink φ (.slice a8057 n8057 c8057) p8055.Links) (H8059 : RSl (eInt .i64) φ (.slice a8059 n8059 c8059) p8058) : Sim ((recN Tryz.prog LL cutF (n + 16)).call 12 #[(.agg #[.int .i64 p8055.Nodes, .slice a8056 n8056 c8056, .slice a8057 n8057 c8057]), (.slice a8059 n8059 c8059), (.int .i64 p8060)] h) (m_route_Time p8055 p8058 p8060) (fun (d : (Int × Int)) p => p = (.tuple #[.int .i64 d.1, .int .i64 d.2], h)) := by
  refine fcut Tryz.func12 rfl rfl rfl rfl X ?_
  intro h0 X0
  refine dseq (dreg ?_)
  refine lbox rfl rfl rfl rfl rfl X0 (fun b8061 h8063 X8064 => ?_)
  refine lbox rfl rfl rfl rfl rfl X8064 (fun b8065 h8067 X8068 => ?_)
  refine lpure (v := .int .i64 0) rfl (p_assign rfl) rfl rfl ?_
  refine lpure (v := .int .i64 0) rfl (p_assign rfl) rfl rfl ?_
  refine lend (nseq (dseq (dseq (dreg ?_))))
  refine lread (v := .agg #[.int .i64 p8055.Nodes, .slice a8056 n8056 c8056, .slice a8057 n8057 c8057]) rfl (q_load wd_25 rfl) (St.ld X8068 (j := 1) rfl rfl) rfl ?_
  refine lpure (v := .slice a8059 n8059 c8059) rfl (p_move rfl) rfl rfl ?_
  refine lcall rfl rfl ca_15 rfl rfl (f15_ok X8068 p8055 p8058 H8056 H8057 H8059) rfl (fun e8069 v8070 h8071 hq8072 => ?_)
  cases hq8072
  refine lpure (v := .int .i64 e8069) rfl (p_assign rfl) rfl rfl ?_
  refine lend (nseq (dseq (dreg ?_)))
  refine lpure (v := .int .i64 e8069) rfl (p_move rfl) rfl rfl ?_
  refine lpure (v := .bool (decide (e8069 ≠ 0))) rfl (p_ne rfl) rfl rfl ?_
  refine lend (nseq ?_)
  refine dcond rfl rfl (fun k8073 => ?_) (fun k8073 => ?_)
  · refine dseq (dreg ?_)
    refine lpure (v := .int .i64 e8069) rfl (p_move rfl) rfl rfl ?_
    refine lpure (v := .int .i64 0) rfl (p_assign rfl) rfl rfl ?_
    refine lpure (v := .int .i64 e8069) rfl (p_assign rfl) rfl rfl ?_
    refine lend (nseq (dret (rseq ?_)))
    exact kcut_r (res_2 resT resT) X8068 rfl rfl
  refine dskip (nseq (dseq (dseq (dreg ?_))))
  refine lread (v := .int .i64 p8060) rfl (q_load wd_3 rfl) (St.ld X8068 (j := 0) rfl rfl) rfl ?_
  refine lpure (v := .bool (decide (p8060 < 84))) rfl (p_lt rfl) rfl rfl ?_
  refine lpure (v := .bool (decide (p8060 < 84))) rfl (p_move rfl) rfl rfl ?_
  refine lsh (τ := Bool) (σ := Unit) (fun s8075 (_ : Unit) => [(1, .slice a8059 n8059 c8059), (3, .pointer (some ⟨b8061, 0, none⟩)), (5, .pointer (some ⟨b8065, 0, none⟩)), (20, .bool s8075)]) (fun s8075 (_ : Unit) hh => St φ h.n hh ([(some b8065, .cells [.int .i64 p8060] 3 .exact), (some b8061, .cells [.int .i64 p8055.Nodes, .slice a8056 n8056 c8056, .slice a8057 n8057 c8057] 25 .exact)])) 3 ?_ ?_
  · rintro s8075 _ t0 h8077 X8076
    refine lend (nseq ?_)
    refine dcond rfl rfl (fun k8078 => ?_) (fun k8078 => ?_)
    · refine dseq (dreg ?_)
      refine lpure (v := .int .i64 0) rfl (p_assign rfl) rfl rfl ?_
      refine lpure (v := .int .i64 2) rfl (p_assign rfl) rfl rfl ?_
      refine lend (nseq (dret (rseq ?_)))
      exact kcut_r (res_2 resT resT) X8076 rfl rfl
    refine dskip (nseq (dseq (dreg ?_)))
    refine lread (v := .agg #[.int .i64 p8055.Nodes, .slice a8056 n8056 c8056, .slice a8057 n8057 c8057]) rfl (q_load wd_25 rfl) (St.ld X8076 (j := 1) rfl rfl) rfl ?_
    refine lpure (v := .slice a8059 n8059 c8059) rfl (p_move rfl) rfl rfl ?_
    refine lpure (v := .func (.func 33) #[] #[.pointer (some ⟨b8065, 0, none⟩)]) rfl (p_makeFunc rfl) rfl rfl ?_
    refine linl rfl rfl rfl rfl ca_31 rfl Tryz.func31 rfl rfl rfl rfl rfl ?_
    refine dseq (dreg ?_)
    refine lbox rfl rfl rfl rfl rfl X8076 (fun b8079 h8081 X8082 => ?_)
    refine lbox rfl rfl rfl rfl rfl X8082 (fun b8083 h8085 X8086 => ?_)
    refine lbox rfl rfl rfl rfl rfl X8086 (fun b8087 h8089 X8090 => ?_)
    refine lpure (v := .int .i64 0) rfl (p_assign rfl) rfl rfl ?_
    refine lpure (v := .int .i64 0) rfl (p_assign rfl) rfl rfl ?_
    refine lend (nseq (dseq (dreg ?_)))
    refine lread (v := .agg #[.int .i64 p8055.Nodes, .slice a8056 n8056 c8056, .slice a8057 n8057 c8057]) rfl (q_load wd_25 rfl) (St.ld X8090 (j := 2) rfl rfl) rfl ?_
    refine lread (v := .slice a8059 n8059 c8059) rfl (q_load wd_27 rfl) (St.ld X8090 (j := 1) rfl rfl) rfl ?_
    refine lpure (v := .func (.func 61) #[] #[.pointer (some ⟨b8083, 0, none⟩), .pointer (some ⟨b8087, 0, none⟩)]) rfl (p_makeFunc rfl) rfl rfl ?_
    refine linl rfl rfl rfl rfl ca_60 rfl Tryz.func60 rfl rfl rfl rfl rfl ?_
    refine dseq (dreg ?_)
    refine lbox rfl rfl rfl rfl rfl X8090 (fun b8091 h8093 X8094 => ?_)
    refine lpure (v := .int .i64 0) rfl (p_assign rfl) rfl rfl ?_
    refine lpure (v := .int .i64 0) rfl (p_assign rfl) rfl rfl ?_
    refine lend (nseq (dseq (dseq (dreg ?_))))
    refine lread (v := .agg #[.int .i64 p8055.Nodes, .slice a8056 n8056 c8056, .slice a8057 n8057 c8057]) rfl (q_load wd_25 rfl) (St.ld X8094 (j := 0) rfl rfl) rfl ?_
    refine lpure (v := .slice a8059 n8059 c8059) rfl (p_move rfl) rfl rfl ?_
    refine lcall rfl rfl ca_15 rfl rfl (f15_ok X8094 p8055 p8058 H8056 H8057 H8059) rfl (fun e8095 v8096 h8097 hq8098 => ?_)
    cases hq8098
    refine lpure (v := .int .i64 e8095) rfl (p_assign rfl) rfl rfl ?_
    refine lend (nseq (dseq (dreg ?_)))
    refine lpure (v := .int .i64 e8095) rfl (p_move rfl) rfl rfl ?_
    refine lpure (v := .bool (decide (e8095 ≠ 0))) rfl (p_ne rfl) rfl rfl ?_
    refine lend (nseq ?_)
    refine dcond rfl rfl (fun k8099 => ?_) (fun k8099 => ?_)
    · refine dseq (dreg ?_)
      refine lpure (v := .int .i64 0) rfl (p_assign rfl) rfl rfl ?_
      refine lend (nseq (dseq (dreg ?_)))
      refine lpure (v := .int .i64 0) rfl (p_move rfl) rfl rfl ?_
      refine lpure (v := .int .i64 e8095) rfl (p_move rfl) rfl rfl ?_
      refine lpure (v := .int .i64 0) rfl (p_assign rfl) rfl rfl ?_
      refine lpure (v := .int .i64 e8095) rfl (p_assign rfl) rfl rfl ?_
      refine lend (nseq (dret (rseq ?_)))
      refine kin_r (res_2 resT resT) ?_
      refine lpure (v := .int .i64 0) rfl (p_extract rfl) rfl rfl ?_
      refine lpure (v := .int .i64 e8095) rfl (p_extract rfl) rfl rfl ?_
      refine lpure (v := .int .i64 0) rfl (p_assign rfl) rfl rfl ?_
      refine lpure (v := .int .i64 e8095) rfl (p_assign rfl) rfl rfl ?_
      refine lend (nseq (dret ?_))
      refine kin_r (res_2 resT resT) ?_
      refine lpure (v := .int .i64 0) rfl (p_extract rfl) rfl rfl ?_
      refine lpure (v := .int .i64 e8095) rfl (p_extract rfl) rfl rfl ?_
      refine lpure (v := .int .i64 0) rfl (p_assign rfl) rfl rfl ?_
      refine lpure (v := .int .i64 e8095) rfl (p_assign rfl) rfl rfl ?_
      refine lend (nseq (dret ?_))
      exact kcut_r (res_2 resT resT) X8094 rfl rfl
    refine dskip (nseq (dseq (dreg ?_)))
    refine lpure (v := .func (.func 61) #[] #[.pointer (some ⟨b8083, 0, none⟩), .pointer (some ⟨b8087, 0, none⟩)]) rfl (p_move rfl) rfl rfl ?_
    refine lread (v := .agg #[.int .i64 p8055.Nodes, .slice a8056 n8056 c8056, .slice a8057 n8057 c8057]) rfl (q_load wd_25 rfl) (St.ld X8094 (j := 0) rfl rfl) rfl ?_
    refine lpure (v := .agg #[.int .i64 p8055.Nodes, .slice a8056 n8056 c8056, .slice a8057 n8057 c8057]) rfl (p_build rfl) (build_st' tz_60 pl_60 rfl) rfl ?_
    refine linl rfl rfl rfl rfl ca_61 rfl Tryz.func61 rfl rfl rfl rfl rfl ?_
    refine dseq (dreg ?_)
    refine lbox rfl rfl rfl rfl rfl X8094 (fun b8100 h8102 X8103 => ?_)
    refine lpure (v := .int .i64 0) rfl (p_assign rfl) rfl rfl ?_
    refine lend (nseq (dseq (dreg ?_)))
    refine lpure (v := .int .i64 0) rfl (p_assign rfl) rfl rfl ?_
    refine lend (nseq (dseq (dseq (dreg ?_))))
    refine lread (v := .slice a8059 n8059 c8059) rfl (q_load wd_27 rfl) (St.ld X8103 (j := 3) rfl rfl) rfl ?_
    refine lpure (v := .int .i64 (p8058.length : Int)) rfl (p_len rfl rfl rfl un_27 rfl) (RSl.lenC H8059) rfl ?_
    refine lpure (v := .int .i64 0) rfl (p_move rfl) rfl rfl ?_
    refine lend (nseq (dblock ?_))
    refine dloopM (τ := Int × Int) (σ := Unit) (fun s8132 (_ : Unit) => [(2, .pointer (some ⟨b8087, 0, none⟩)), (3, .pointer (some ⟨b8100, 0, none⟩)), (5, .int .i64 s8132.1), (8, .slice a8059 n8059 c8059), (9, .int .i64 (p8058.length : Int)), (10, .int .i64 s8132.2)]) (fun s8132 (_ : Unit) hh => St φ h.n hh ([(some b8100, .cells [.int .i64 p8055.Nodes, .slice a8056 n8056 c8056, .slice a8057 n8057 c8057] 60 .exact), (some b8091, .cells [.int .i64 p8055.Nodes, .slice a8056 n8056 c8056, .slice a8057 n8057 c8057] 25 .exact), (some b8087, .cells [.func (.func 33) #[] #[.pointer (some ⟨b8065, 0, none⟩)]] 66 .exact), (some b8083, .cells [.slice a8059 n8059 c8059] 27 .exact), (some b8079, .cells [.int .i64 p8055.Nodes, .slice a8056 n8056 c8056, .slice a8057 n8057 c8057] 25 .exact), (some b8065, .cells [.int .i64 p8060] 3 .exact), (some b8061, .cells [.int .i64 p8055.Nodes, .slice a8056 n8056 c8056, .slice a8057 n8057 c8057] 25 .exact)])) (0, 0) () (sub_cons rfl (sub_cons rfl (sub_cons rfl (sub_cons rfl (sub_cons rfl (sub_cons rfl sub_nil)))))) X8103 ?_
    rintro n8148 ih8147 s8132 _ t0 h8150 X8149
    refine dseq (dreg ?_)
    refine lpure (v := .bool (decide (s8132.2 < (p8058.length : Int)))) rfl (p_lt rfl) rfl rfl ?_
    refine lend (nseq (dseq ?_))
    refine dcond rfl rfl (fun k8151 => ?_) (fun k8151 => ?_)
    · refine dskip (nseq (dseq (dblock (dseq (dreg ?_)))))
      refine Sim.bindM fun e8152 he8153 => ?_
      obtain ⟨p8154, cs8154, hp8154, hF8154, hR8154⟩ := RSl.ia H8059 he8153 (kd := .i64) (n := 1) rfl
      have hR8154 : _ = [(.int .i64 e8152 : Value)] := hR8154
      subst hR8154
      refine lpure (v := p8154) rfl (p_ia rs_27 rfl) hp8154 rfl ?_
      refine lread (v := .int .i64 e8152) rfl (q_load wd_3 rfl) (FP.ld X8149 hF8154) rfl ?_
      refine lpure (v := .int .i64 e8152) rfl (p_assign rfl) rfl rfl ?_
      refine lend (nseq ?_)
      refine dgo_start (n := 12) rfl (by kernel_rfl) ?_
      refine gpure (v := .int .i64 s8132.1) rfl (p_move rfl) (lo_t rfl rfl) rfl rfl ?_
      refine gload (v := .func (.func 33) #[] #[.pointer (some ⟨b8065, 0, none⟩)]) rfl (q_load wd_66 rfl) (St.ld X8149 (j := 2) rfl rfl) rfl ?_
      refine gpure (v := .pointer (some ⟨b8100, 0, none⟩)) rfl (p_fa fo_60_0 rfl) (lo_t (lo_own X8149 (j := 0) (o := 0) (s := none) (f := 0) rfl) rfl) rfl rfl ?_
      refine gpure (v := .pointer (some ⟨b8100, 2, none⟩)) rfl (p_fa fo_25_2 rfl) (lo_t (lo_own X8149 (j := 0) (o := 0) (s := none) (f := 0) rfl) rfl) rfl rfl ?_
      refine gload (v := .slice a8057 n8057 c8057) rfl (q_load wd_23 rfl) (St.ld X8149 (j := 0) rfl rfl) rfl ?_
      refine gpure (v := .int .i64 e8152) rfl (p_move rfl) (lo_t rfl rfl) rfl rfl ?_
      refine gpure (v := .int .i64 (w64 (Int.tdiv e8152 2))) rfl (p_quo rfl) (lo_t rfl (lo_c rfl)) rfl rfl ?_
      refine Sim.bindM fun e8155 he8156 => ?_
      obtain ⟨p8157, cs8157, hp8157, hF8157, hR8157⟩ := RSl.ia H8057 he8156 (kd := .i64) (n := 4) rfl
      obtain rfl := eApiLink_el hR8157
      refine gpure (v := p8157) rfl (p_ia rs_23 rfl) (lo_t (lo_sl X8149 H8057) (lo_t rfl rfl)) hp8157 rfl ?_
      refine gload (v := .agg #[.int .i64 e8155.A, .int .i64 e8155.B, .int .i64 e8155.Per, .int .i64 e8155.Delay]) rfl (q_load wd_65 rfl) (FP.ldw X8149 hF8157 rfl rfl) rfl ?_
      refine gwait rfl (still_act rfl).1 rfl ?_
      refine dgo_skip ?_
      refine dgo_skip ?_
      refine ginl (m := 11) [false, false, false] (rk_cons (q_load wd_65 rfl) (FP.ldw X8149 hF8157 rfl rfl) (same_self 20 rfl) (rk_cons (q_load wd_23 rfl) (St.ld X8149 (j := 0) rfl rfl) (same_self 20 rfl) (rk_cons (q_load wd_66 rfl) (St.ld X8149 (j := 2) rfl rfl) (same_self 20 rfl) rk_nil))) rfl rfl rfl rfl rfl rfl rfl ca_33 rfl Tryz.func33 rfl rfl rfl rfl rfl ?_
      refine dseq (dreg ?_)
      refine lbox rfl rfl rfl rfl rfl X8149 (fun b8158 h8160 X8161 => ?_)
      refine lpure (v := .int .i64 0) rfl (p_assign rfl) rfl rfl ?_
      refine lend (nseq (dseq (dreg ?_)))
      refine lread (v := .int .i64 p8060) rfl (q_load wd_3 rfl) (St.ld X8161 (j := 6) rfl rfl) rfl ?_
      refine lpure (v := .pointer (some ⟨b8158, 2, none⟩)) rfl (p_fa fo_65_2 rfl) rfl rfl ?_
      refine lread (v := .int .i64 e8155.Per) rfl (q_load wd_3 rfl) (St.ld X8161 (j := 0) rfl rfl) rfl ?_
      refine lpure (v := .int .i64 (w64 (p8060 * e8155.Per))) rfl (p_mul rfl) rfl rfl ?_
      refine lpure (v := .pointer (some ⟨b8158, 3, none⟩)) rfl (p_fa fo_65_3 rfl) rfl rfl ?_
      refine lread (v := .int .i64 e8155.Delay) rfl (q_load wd_3 rfl) (St.ld X8161 (j := 0) rfl rfl) rfl ?_
      refine lpure (v := .int .i64 (w64 ((w64 (p8060 * e8155.Per)) + e8155.Delay))) rfl (p_add rfl) rfl rfl ?_
      refine lpure (v := .int .i64 (w64 ((w64 (p8060 * e8155.Per)) + e8155.Delay))) rfl (p_assign rfl) rfl rfl ?_
      refine lend (nseq (dret ?_))
      refine kin_r (res_1 resT) ?_
      refine dgo_skip ?_
      refine dgo_skip ?_
      refine dgo_skip ?_
      refine dgo_skip ?_
      refine dgo_skip ?_
      refine dgo_skip ?_
      refine dgo_skip ?_
      refine dgo_skip ?_
      refine dgo_skip ?_
      refine dgo_skip ?_
      refine gpure (v := .int .i64 (w64 (s8132.1 + (w64 ((w64 (p8060 * e8155.Per)) + e8155.Delay))))) rfl (p_add rfl) (lo_t rfl (lo_t rfl rfl)) rfl rfl ?_
      refine gpure (v := .int .i64 (w64 (s8132.1 + (w64 ((w64 (p8060 * e8155.Per)) + e8155.Delay))))) rfl (p_assign rfl) (lo_t rfl rfl) rfl rfl ?_
      refine gend rk_nil ?_
      refine nblock (nseq (dreg ?_))
      refine lpure (v := .int .i64 (w64 (s8132.2 + 1))) rfl (p_add rfl) rfl rfl ?_
      refine lpure (v := .int .i64 (w64 (s8132.2 + 1))) rfl (p_move rfl) rfl rfl ?_
      refine lend ?_
      exact kbackM ih8147 ((w64 (s8132.1 + (w64 ((w64 (p8060 * e8155.Per)) + e8155.Delay)))), (w64 (s8132.2 + 1))) () (sub_cons rfl (sub_cons rfl (sub_cons rfl (sub_cons rfl (sub_cons rfl (sub_cons rfl sub_nil)))))) (St.pick X8161 (.skip _ (.keep _ (.keep _ (.keep _ (.keep _ (.keep _ (.keep _ (.keep _ (.nil _))))))))))
    refine dexit (eseq (eloop (xblock (nseq (dseq (dreg ?_))))))
    refine lpure (v := .int .i64 s8132.1) rfl (p_move rfl) rfl rfl ?_
    refine lpure (v := .int .i64 s8132.1) rfl (p_assign rfl) rfl rfl ?_
    refine lend (nseq (dret ?_))
    refine kin_r (res_1 resT) ?_
    refine lpure (v := .int .i64 s8132.1) rfl (p_assign rfl) rfl rfl ?_
    refine lpure (v := .int .i64 0) rfl (p_assign rfl) rfl rfl ?_
    refine lend (nseq (dret ?_))
    refine kin_r (res_2 resT resT) ?_
    refine lpure (v := .int .i64 s8132.1) rfl (p_extract rfl) rfl rfl ?_
    refine lpure (v := .int .i64 0) rfl (p_extract rfl) rfl rfl ?_
    refine lpure (v := .int .i64 s8132.1) rfl (p_assign rfl) rfl rfl ?_
    refine lpure (v := .int .i64 0) rfl (p_assign rfl) rfl rfl ?_
    refine lend (nseq (dret ?_))
    refine kin_r (res_2 resT resT) ?_
    refine lpure (v := .int .i64 s8132.1) rfl (p_extract rfl) rfl rfl ?_
    refine lpure (v := .int .i64 0) rfl (p_extract rfl) rfl rfl ?_
    refine lpure (v := .int .i64 s8132.1) rfl (p_assign rfl) rfl rfl ?_
    refine lpure (v := .int .i64 0) rfl (p_assign rfl) rfl rfl ?_
    refine lend (nseq (dret ?_))
    exact kcut_r (res_2 resT resT) X8149 rfl rfl
  intro j8162 J8163
  refine lcase (i := 17) (show _ = Value.bool (decide (p8060 < 84)) from rfl) (fun k8164 => ?_) (fun k8164 => ?_)
  · refine lskip rfl rfl ?_
    refine lskip rfl rfl ?_
    refine lpure (v := .bool true) rfl (p_pick rfl) rfl rfl ?_
    refine Sim.of_eq (congrArg j8162 (show ((decide (p8060 < 84)) || (decide (1542 < p8060))) = true from by rw [k8164] <;> rfl)) ?_
    exact ljmpM J8163 true () (sub_cons rfl (sub_cons rfl (sub_cons rfl (sub_cons rfl sub_nil)))) X8068
  refine lread (v := .int .i64 p8060) rfl (q_load wd_3 rfl) (St.ld X8068 (j := 0) rfl rfl) rfl ?_
  refine lpure (v := .bool (decide (1542 < p8060))) rfl (p_gt rfl) rfl rfl ?_
  refine lpure (v := .bool (decide (1542 < p8060))) rfl (p_pick rfl) rfl rfl ?_
  refine Sim.of_eq (congrArg j8162 (show ((decide (p8060 < 84)) || (decide (1542 < p8060))) = (decide (1542 < p8060)) from by rw [k8164] <;> rfl)) ?_
  exact ljmpM J8163 (decide (1542 < p8060)) () (sub_cons rfl (sub_cons rfl (sub_cons rfl (sub_cons rfl sub_nil)))) X8068
/-! isochron/route.Back -/
theorem f13_ok {n : Nat} {φ : Fz} {lo : Nat} {h : Heap} {own : OwnL}  {a8302 : Option Addr} {n8302 c8302 : Nat} {a8303 : Option Addr} {n8303 c8303 : Nat} {a8305 : Option Addr} {n8305 c8305 : Nat} (X : St φ lo h (own)) (p8301 : ApiTopo) (p8304 : (List Int)) (H8302 : RSl eBool φ (.slice a8302 n8302 c8302) p8301.Station) (H8303 : RSl eApiLink φ (.slice a8303 n8303 c8303) p8301.Links) (H8305 : RSl (eInt .i64) φ (.slice a8305 n8305 c8305) p8304) : Sim ((recN Tryz.prog LL cutF (n + 15)).call 13 #[(.agg #[.int .i64 p8301.Nodes, .slice a8302 n8302 c8302, .slice a8303 n8303 c8303]), (.slice a8305 n8305 c8305)] h) (m_route_Back p8301 p8304) (fun (d : ((List Int) × Int)) p => ∃ φ2 : Fz, ∃ a8427 : Option Addr, ∃ n8427 : Nat, ∃ c8427 : Nat, ∃ ob8427 : Option Nat, ∃ blk8427 : Blk, Fz.le φ φ2 ∧ St φ2 lo p.2 ((ob8427, blk8427) :: own) ∧ p.1 = .tuple #[.slice a8427 n8427 c8427, .int .i64 d.2] ∧ OSl (eInt .i64) φ2 3 ob8427 blk8427 (.slice a8427 n8427 c8427) d.1) := by
  refine fopen Tryz.func13 rfl rfl rfl rfl ?_
  refine dseq (dreg ?_)
  refine lbox rfl rfl rfl rfl rfl X (fun b8306 h8308 X8309 => ?_)
  refine lbox rfl rfl rfl rfl rfl X8309 (fun b8310 h8312 X8313 => ?_)
  refine lpure (v := .slice none 0 0) rfl (p_assign rfl) rfl rfl ?_
  refine lpure (v := .int .i64 0) rfl (p_assign rfl) rfl rfl ?_
  refine lend (nseq (dseq (dreg ?_)))
  refine lread (v := .agg #[.int .i64 p8301.Nodes, .slice a8302 n8302 c8302, .slice a8303 n8303 c8303]) rfl (q_load wd_25 rfl) (St.ld X8313 (j := 1) rfl rfl) rfl ?_
  refine lread (v := .slice a8305 n8305 c8305) rfl (q_load wd_27 rfl) (St.ld X8313 (j := 0) rfl rfl) rfl ?_
  refine lpure (v := .func (.func 35) #[] #[.pointer (some ⟨b8310, 0, none⟩)]) rfl (p_makeFunc rfl) rfl rfl ?_
  refine linl rfl rfl rfl rfl ca_34 rfl Tryz.func34 rfl rfl rfl rfl rfl ?_
  refine dseq (dreg ?_)
  refine lbox rfl rfl rfl rfl rfl X8313 (fun b8314 h8316 X8317 => ?_)
  refine lpure (v := .slice none 0 0) rfl (p_assign rfl) rfl rfl ?_
  refine lpure (v := .int .i64 0) rfl (p_assign rfl) rfl rfl ?_
  refine lend (nseq (dseq (dseq (dreg ?_))))
  refine lread (v := .agg #[.int .i64 p8301.Nodes, .slice a8302 n8302 c8302, .slice a8303 n8303 c8303]) rfl (q_load wd_25 rfl) (St.ld X8317 (j := 0) rfl rfl) rfl ?_
  refine lpure (v := .slice a8305 n8305 c8305) rfl (p_move rfl) rfl rfl ?_
  refine lcall rfl rfl ca_15 rfl rfl (f15_ok X8317 p8301 p8304 H8302 H8303 H8305) rfl (fun e8318 v8319 h8320 hq8321 => ?_)
  cases hq8321
  refine lpure (v := .int .i64 e8318) rfl (p_assign rfl) rfl rfl ?_
  refine lend (nseq (dseq (dreg ?_)))
  refine lpure (v := .int .i64 e8318) rfl (p_move rfl) rfl rfl ?_
  refine lpure (v := .bool (decide (e8318 ≠ 0))) rfl (p_ne rfl) rfl rfl ?_
  refine lend (nseq ?_)
  refine dcond rfl rfl (fun k8322 => ?_) (fun k8322 => ?_)
  · refine dseq (dreg ?_)
    refine lpure (v := .slice none 0 0) rfl (p_assign rfl) rfl rfl ?_
    refine lend (nseq (dseq (dreg ?_)))
    refine lpure (v := .slice none 0 0) rfl (p_move rfl) rfl rfl ?_
    refine lpure (v := .int .i64 e8318) rfl (p_move rfl) rfl rfl ?_
    refine lpure (v := .slice none 0 0) rfl (p_assign rfl) rfl rfl ?_
    refine lpure (v := .int .i64 e8318) rfl (p_assign rfl) rfl rfl ?_
    refine lend (nseq (dret (rseq ?_)))
    refine kin_r (res_2 resT resT) ?_
    refine lpure (v := .slice none 0 0) rfl (p_extract rfl) rfl rfl ?_
    refine lpure (v := .int .i64 e8318) rfl (p_extract rfl) rfl rfl ?_
    refine lpure (v := .slice none 0 0) rfl (p_assign rfl) rfl rfl ?_
    refine lpure (v := .int .i64 e8318) rfl (p_assign rfl) rfl rfl ?_
    refine lend (nseq (dret ?_))
    exact kopen_r (res_2 resT resT) ⟨φ, none, 0, 0, none, (.dead), (Fz.le_refl _), St.pick X8317 (.none _ (.skip _ (.skip _ (.skip _ (.refl _))))), rfl, OSl.nil⟩
  refine dskip (nseq (dseq (dreg ?_)))
  refine lpure (v := .func (.func 35) #[] #[.pointer (some ⟨b8310, 0, none⟩)]) rfl (p_move rfl) rfl rfl ?_
  refine lread (v := .agg #[.int .i64 p8301.Nodes, .slice a8302 n8302 c8302, .slice a8303 n8303 c8303]) rfl (q_load wd_25 rfl) (St.ld X8317 (j := 0) rfl rfl) rfl ?_
  refine lpure (v := .agg #[.int .i64 p8301.Nodes, .slice a8302 n8302 c8302, .slice a8303 n8303 c8303]) rfl (p_build rfl) (build_st' tz_60 pl_60 rfl) rfl ?_
  refine linl rfl rfl rfl rfl ca_35 rfl Tryz.func35 rfl rfl rfl rfl rfl ?_
  refine dseq (dreg ?_)
  refine lbox rfl rfl rfl rfl rfl X8317 (fun b8323 h8325 X8326 => ?_)
  refine lpure (v := .slice none 0 0) rfl (p_assign rfl) rfl rfl ?_
  refine lend (nseq (dseq (dreg ?_)))
  refine lalloc rfl tz_27 rfl rfl rfl X8326 (fun b8327 h8329 X8330 => ?_)
  refine lend (nseq (dseq (dseq (dreg ?_))))
  refine lread (v := .slice a8305 n8305 c8305) rfl (q_load wd_27 rfl) (St.ld X8330 (j := 3) rfl rfl) rfl ?_
  refine linl rfl rfl rfl rfl ca_36 rfl Tryz.func36 rfl rfl rfl rfl rfl ?_
  refine dseq (dreg ?_)
  refine lbox rfl rfl rfl rfl rfl X8330 (fun b8331 h8333 X8334 => ?_)
  refine lpure (v := .nilFunc) rfl (p_assign rfl) rfl rfl ?_
  refine lend (nseq (dseq (dreg ?_)))
  refine lpure (v := .func (.func 62) #[] #[.pointer (some ⟨b8331, 0, none⟩)]) rfl (p_makeFunc rfl) rfl rfl ?_
  refine lpure (v := .func (.func 62) #[] #[.pointer (some ⟨b8331, 0, none⟩)]) rfl (p_assign rfl) rfl rfl ?_
  refine lend (nseq (dret ?_))
  refine kin_r (res_1 resT) ?_
  refine lend (nseq (dblock ?_))
  refine drange rfl rfl ca_62 Tryz.func62 rfl rfl X8334 (fun _ => rfl) ?_
  intro l8335 q8336 df8337 h8339 Q8338 X8340
  refine dseq (dreg ?_)
  refine lread (v := .slice a8305 n8305 c8305) rfl (q_load wd_27 rfl) (St.ld X8340 (j := 2) rfl rfl) rfl ?_
  refine lpure (v := .int .i64 (p8304.length : Int)) rfl (p_len rfl rfl rfl un_27 rfl) (RSl.lenC H8305) rfl ?_
  refine lpure (v := .int .i64 (w64 ((p8304.length : Int) - 1))) rfl (p_sub rfl) rfl rfl ?_
  refine lpure (v := .int .i64 (w64 ((p8304.length : Int) - 1))) rfl (p_assign rfl) rfl rfl ?_
  refine lend (nseq (dblock ?_))
  refine dloopM (τ := Int × (List Int)) (σ := Option Addr × Nat × Nat × Option Nat × Blk) (fun s8385 (a8387, n8387, c8387, ob8387, blk8387) => [(0, .func (.yield l8335) #[] #[]), (1, .pointer (some ⟨b8331, 0, none⟩)), (3, .int .i64 s8385.1)]) (fun s8385 (a8387, n8387, c8387, ob8387, blk8387) hh => St φ lo hh ((ob8387, blk8387) :: (some l8335, rdy q8336) :: (none, .dead) :: (some b8331, .cells [.slice a8305 n8305 c8305] 27 .exact) :: (some b8327, .cells [.slice a8387 n8387 c8387] 27 .exact) :: (some b8323, .cells [.int .i64 p8301.Nodes, .slice a8302 n8302 c8302, .slice a8303 n8303 c8303] 60 .exact) :: (some b8314, .cells [.int .i64 p8301.Nodes, .slice a8302 n8302 c8302, .slice a8303 n8303 c8303] 25 .exact) :: (some b8310, .cells [.slice a8305 n8305 c8305] 27 .exact) :: (some b8306, .cells [.int .i64 p8301.Nodes, .slice a8302 n8302 c8302, .slice a8303 n8303 c8303] 25 .exact) :: own) ∧ OSl (eInt .i64) φ 3 ob8387 blk8387 (.slice a8387 n8387 c8387) s8385.2) ((w64 ((p8304.length : Int) - 1)), []) (none, 0, 0, none, .dead) (sub_cons rfl (sub_cons rfl (sub_cons rfl sub_nil))) ⟨(St.pick X8340 (.none _ (.keep _ (.none _ (.skip _ (.keep _ (.keep _ (.keep _ (.keep _ (.keep _ (.keep _ (.refl _)))))))))))), OSl.nil⟩ ?_
  rintro n8408 ih8407 s8385 ⟨a8387, n8387, c8387, ob8387, blk8387⟩ t0 h8410 ⟨X8409, O8387⟩
  refine dseq (dseq (dreg ?_))
  refine lpure (v := .int .i64 s8385.1) rfl (p_move rfl) rfl rfl ?_
  refine lpure (v := .bool (decide (0 ≤ s8385.1))) rfl (p_ge rfl) rfl rfl ?_
  refine lend (nseq ?_)
  refine dcond rfl rfl (fun k8411 => ?_) (fun k8411 => ?_)
  · refine dskip (nseq (dseq (dblock (dseq (dreg ?_)))))
    refine lpure (v := .func (.yield l8335) #[] #[]) rfl (p_move rfl) rfl rfl ?_
    refine lpure (v := .int .i64 s8385.1) rfl (p_move rfl) rfl rfl ?_
    refine lread (v := .slice a8305 n8305 c8305) rfl (q_load wd_27 rfl) (St.ld X8409 (j := 3) rfl rfl) rfl ?_
    refine lpure (v := .int .i64 s8385.1) rfl (p_move rfl) rfl rfl ?_
    refine Sim.bindM fun e8412 he8413 => ?_
    obtain ⟨p8414, cs8414, hp8414, hF8414, hR8414⟩ := RSl.ia H8305 he8413 (kd := .i64) (n := 1) rfl
    have hR8414 : _ = [(.int .i64 e8412 : Value)] := hR8414
    subst hR8414
    refine lpure (v := p8414) rfl (p_ia rs_27 rfl) hp8414 rfl ?_
    refine lread (v := .int .i64 e8412) rfl (q_load wd_3 rfl) (FP.ld X8409 hF8414) rfl ?_
    refine lround rfl rfl rfl rfl rfl rfl X8409 (j := 1) rfl Q8338 rfl rfl rfl rfl rfl (fun t8415 => ?_)
    refine dreg ?_
    refine lpure (v := .int .i64 e8412) rfl (p_assign rfl) rfl rfl ?_
    refine lend ?_
    refine basg X8409 (j := 1) rfl (fun h8416 X8417 => ?_)
    refine dblock (dreg ?_)
    refine lread (v := .slice a8387 n8387 c8387) rfl (q_load wd_27 rfl) (St.ld X8417 (j := 4) rfl rfl) rfl ?_
    refine lpure (v := .int .i64 e8412) rfl (p_move rfl) rfl rfl ?_
    refine lpure (v := .int .i64 (bitXor .i64 e8412 1)) rfl (p_bin rfl) bin_xor rfl ?_
    obtain ⟨h8418, b8418, hv8418, X8418, O8418⟩ := OSl.lay (E := (eInt .i64)) (φ := φ) (cs := [.int .i64 (bitXor .i64 e8412 1)]) (l := [(bitXor .i64 e8412 1)]) (len := 1) (parts := [(0, .int .i64 (bitXor .i64 e8412 1))]) un_27 ts_3 rfl rfl rfl tz_3 rfl rfl (show RowD (eInt .i64) φ [.int .i64 (bitXor .i64 e8412 1)] [(bitXor .i64 e8412 1)] from ⟨[.int .i64 (bitXor .i64 e8412 1)], _, rfl, rfl, rfl⟩) rfl rfl X8417
    refine lheap rfl (h_buildSlice rfl) hv8418 rfl ?_
    obtain ⟨ws8420, hw8420⟩ := OSl.read O8418 X8418 (k := 0) rfl (n := 1) rfl
    refine Sim.mustM fun k8420 => ?_
    obtain ⟨h8420, a8420, c8420, ob8420, blk8420, hv8420, X8420, O8420⟩ := OSl.append O8387 X8418 (j := 1) rfl hw8420 k8420 (ts := #[27, 27]) rfl un_27 (argOk_of ax_27_27) ts_3 rfl rfl tb_3 rfl tz_3 rfl
    refine lheap rfl (h_builtin rfl rfl) hv8420 rfl ?_
    refine lstore rfl ts_27 rfl rfl (j := 5) rfl rfl rfl rfl rfl rfl X8420 (fun h8421 X8422 => ?_)
    refine lend (nblock ?_)
    refine nrnd X8422 (j := 2) rfl (fun h8423 X8424 => ?_)
    refine lpure (v := .bool false) rfl (p_not rfl) rfl rfl ?_
    refine lend (nseq (dcondF rfl rfl (dskip (nblock (nseq (dreg ?_))))))
    refine lpure (v := .int .i64 s8385.1) rfl (p_move rfl) rfl rfl ?_
    refine lpure (v := .int .i64 (w64 (s8385.1 - 1))) rfl (p_sub rfl) rfl rfl ?_
    refine lpure (v := .int .i64 (w64 (s8385.1 - 1))) rfl (p_assign rfl) rfl rfl ?_
    refine lend ?_
    exact kbackM ih8407 ((w64 (s8385.1 - 1)), (s8385.2 ++ ([(bitXor .i64 e8412 1)]))) (a8420, (s8385.2.length + ([(bitXor .i64 e8412 1)]).length), c8420, ob8420, blk8420) (sub_cons rfl (sub_cons rfl (sub_cons rfl sub_nil))) ⟨(St.pick X8424 (.skip _ (.keep _ (.keep _ (.none _ (.skip _ (.keep _ (.keep _ (.keep _ (.keep _ (.keep _ (.keep _ (.refl _))))))))))))), O8420⟩
  refine dexit (eseq (eloop (xblock ?_)))
  refine kin_n res_0 ?_
  refine rend_n X8409 (j := 1) rfl (fun h8425 X8426 => ?_)
  refine nblock (nseq (dseq (dreg ?_)))
  refine lread (v := .slice a8387 n8387 c8387) rfl (q_load wd_27 rfl) (St.ld X8426 (j := 4) rfl rfl) rfl ?_
  refine lpure (v := .slice a8387 n8387 c8387) rfl (p_assign rfl) rfl rfl ?_
  refine lend (nseq (dret ?_))
  refine kin_r (res_1 resT) ?_
  refine lpure (v := .slice a8387 n8387 c8387) rfl (p_assign rfl) rfl rfl ?_
  refine lpure (v := .int .i64 0) rfl (p_assign rfl) rfl rfl ?_
  refine lend (nseq (dret ?_))
  refine kin_r (res_2 resT resT) ?_
  refine lpure (v := .slice a8387 n8387 c8387) rfl (p_extract rfl) rfl rfl ?_
  refine lpure (v := .int .i64 0) rfl (p_extract rfl) rfl rfl ?_
  refine lpure (v := .slice a8387 n8387 c8387) rfl (p_assign rfl) rfl rfl ?_
  refine lpure (v := .int .i64 0) rfl (p_assign rfl) rfl rfl ?_
  refine lend (nseq (dret ?_))
  exact kopen_r (res_2 resT resT) ⟨φ, a8387, n8387, c8387, ob8387, blk8387, (Fz.le_refl _), St.pick X8426 (.keep _ (.skip _ (.skip _ (.skip _ (.skip _ (.skip _ (.skip _ (.skip _ (.skip _ (.refl _)))))))))), rfl, O8387⟩
/-! isochron/route.inner -/
theorem f50_ok {n : Nat} {φ : Fz} {lo : Nat} {h : Heap} {own : OwnL}  {a8533 : Option Addr} {n8533 c8533 : Nat} (X : St φ lo h (own)) (p8532 : (List Int)) (H8533 : RSl (eInt .i64) φ (.slice a8533 n8533 c8533) p8532) : Sim ((recN Tryz.prog LL cutF (n + 1)).call 50 #[(.slice a8533 n8533 c8533)] h) (m_route_inner p8532) (fun (d : (List Int)) p => ∃ a8535 : Option Addr, ∃ n8535 : Nat, ∃ c8535 : Nat, p = (.slice a8535 n8535 c8535, h) ∧ RSl (eInt .i64) φ (.slice a8535 n8535 c8535) d) := by
  refine fcut Tryz.func50 rfl rfl rfl rfl X ?_
  intro h0 X0
  refine dseq (dreg ?_)
  refine lpure (v := .slice none 0 0) rfl (p_assign rfl) rfl rfl ?_
  refine lend (nseq (dseq (dreg ?_)))
  refine lpure (v := .slice a8533 n8533 c8533) rfl (p_move rfl) rfl rfl ?_
  refine lpure (v := .slice a8533 n8533 c8533) rfl (p_move rfl) rfl rfl ?_
  refine lpure (v := .int .i64 (p8532.length : Int)) rfl (p_len rfl rfl rfl un_26 rfl) (RSl.lenC H8533) rfl ?_
  refine lpure (v := .int .i64 (w64 ((p8532.length : Int) - 1))) rfl (p_sub rfl) rfl rfl ?_
  refine lpure (v := .slice a8533 n8533 c8533) rfl (p_move rfl) rfl rfl ?_
  refine lpure (v := .int .i64 (p8532.length : Int)) rfl (p_len rfl rfl rfl un_26 rfl) (RSl.lenC H8533) rfl ?_
  refine lpure (v := .int .i64 (w64 ((p8532.length : Int) - 1))) rfl (p_sub rfl) rfl rfl ?_
  refine Sim.mustM fun k8534 => ?_
  have k8534 := of_decide_eq_true k8534
  obtain ⟨a8534, n8534, c8534, hv8534, H8534, K8534⟩ := RSl.slice3 (mx := .int .i64 (w64 ((p8532.length : Int) - 1))) H8533 un_26 ts_3 rfl (bnd_int (show (0 : Int) ≤ 1 from by omega)) ⟨.i64, (w64 ((p8532.length : Int) - 1)), rfl, by omega, rfl⟩ ⟨.i64, (w64 ((p8532.length : Int) - 1)), rfl, by omega, rfl⟩ (by omega) (by omega) (by omega) (by omega) (by unfold unk; omega)
  refine lpure rfl (p_slice3 ⟨_, _, _, rfl⟩ rfl (evo_ok rfl) (evo_ok rfl) rfl) hv8534 rfl ?_
  refine lpure (v := .slice a8534 n8534 c8534) rfl (p_assign rfl) rfl rfl ?_
  refine lend (nseq (dret ?_))
  exact kcut_r (res_1 resT) X0 (lo_slF X.fzlt H8534) ⟨a8534, n8534, c8534, rfl, H8534⟩
/-! isochron/route.meet -/
theorem f49_ok {n : Nat} {φ : Fz} {lo : Nat} {h : Heap} {own : OwnL}  {a8546 : Option Addr} {n8546 c8546 : Nat} {a8548 : Option Addr} {n8548 c8548 : Nat} (X : St φ lo h (own)) (p8545 : (List Int)) (p8547 : (List Int)) (H8546 : RSl (eInt .i64) φ (.slice a8546 n8546 c8546) p8545) (H8548 : RSl (eInt .i64) φ (.slice a8548 n8548 c8548) p8547) : Sim ((recN Tryz.prog LL cutF (n + 6)).call 49 #[(.slice a8546 n8546 c8546), (.slice a8548 n8548 c8548)] h) (m_route_meet p8545 p8547) (fun (d : Bool) p => p = (.bool d, h)) := by
  refine fcut Tryz.func49 rfl rfl rfl rfl X ?_
  intro h0 X0
  refine dseq (dreg ?_)
  refine lbox rfl rfl rfl rfl rfl X0 (fun b8549 h8551 X8552 => ?_)
  refine lpure (v := .bool false) rfl (p_assign rfl) rfl rfl ?_
  refine lend (nseq (dseq (dreg ?_)))
  refine lpure (v := .slice a8546 n8546 c8546) rfl (p_move rfl) rfl rfl ?_
  refine lpure (v := .func (.func 75) #[] #[.pointer (some ⟨b8549, 0, none⟩)]) rfl (p_makeFunc rfl) rfl rfl ?_
  refine linl rfl rfl rfl rfl ca_74 rfl Tryz.func74 rfl rfl rfl rfl rfl ?_
  refine dseq (dreg ?_)
  refine lpure (v := .bool false) rfl (p_assign rfl) rfl rfl ?_
  refine lend (nseq (dseq (dreg ?_)))
  refine lpure (v := .slice a8546 n8546 c8546) rfl (p_move rfl) rfl rfl ?_
  refine lpure (v := .func (.func 75) #[] #[.pointer (some ⟨b8549, 0, none⟩)]) rfl (p_move rfl) rfl rfl ?_
  refine linl rfl rfl rfl rfl ca_95 rfl Tryz.func95 rfl rfl rfl rfl rfl ?_
  refine dseq (dreg ?_)
  refine lpure (v := .int .i64 0) rfl (p_assign rfl) rfl rfl ?_
  refine lend (nseq (dseq (dseq (dreg ?_))))
  refine lpure (v := .slice a8546 n8546 c8546) rfl (p_move rfl) rfl rfl ?_
  refine lpure (v := .int .i64 (p8545.length : Int)) rfl (p_len rfl rfl rfl un_26 rfl) (RSl.lenC H8546) rfl ?_
  refine lpure (v := .int .i64 0) rfl (p_move rfl) rfl rfl ?_
  refine lend (nseq (dblock ?_))
  refine dloopM (τ := Int) (σ := Unit) (fun s8577 (_ : Unit) => [(0, .slice a8546 n8546 c8546), (1, .func (.func 75) #[] #[.pointer (some ⟨b8549, 0, none⟩)]), (7, .int .i64 (p8545.length : Int)), (8, .int .i64 s8577)]) (fun s8577 (_ : Unit) hh => St φ h.n hh ([(some b8549, .cells [.slice a8548 n8548 c8548] 26 .exact)])) 0 () (sub_cons rfl (sub_cons rfl (sub_cons rfl (sub_cons rfl sub_nil)))) X8552 ?_
  rintro n8591 ih8590 s8577 _ t0 h8593 X8592
  refine dseq (dreg ?_)
  refine lpure (v := .bool (decide (s8577 < (p8545.length : Int)))) rfl (p_lt rfl) rfl rfl ?_
  refine lend (nseq (dseq ?_))
  refine dcond rfl rfl (fun k8594 => ?_) (fun k8594 => ?_)
  · refine dskip (nseq (dseq (dblock (dseq (dreg ?_)))))
    refine lpure (v := .int .i64 s8577) rfl (p_move rfl) rfl rfl ?_
    refine lpure (v := .int .i64 s8577) rfl (p_assign rfl) rfl rfl ?_
    refine lend (nseq (dseq (dreg ?_)))
    refine lpure (v := .func (.func 75) #[] #[.pointer (some ⟨b8549, 0, none⟩)]) rfl (p_move rfl) rfl rfl ?_
    refine lpure (v := .slice a8546 n8546 c8546) rfl (p_move rfl) rfl rfl ?_
    refine lpure (v := .int .i64 s8577) rfl (p_move rfl) rfl rfl ?_
    refine Sim.bindM fun e8595 he8596 => ?_
    obtain ⟨p8597, cs8597, hp8597, hF8597, hR8597⟩ := RSl.ia H8546 he8596 (kd := .i64) (n := 1) rfl
    have hR8597 : _ = [(.int .i64 e8595 : Value)] := hR8597
    subst hR8597
    refine lpure (v := p8597) rfl (p_ia rs_26 rfl) hp8597 rfl ?_
    refine lread (v := .int .i64 e8595) rfl (q_load wd_3 rfl) (FP.ld X8592 hF8597) rfl ?_
    refine linl rfl rfl rfl rfl ca_75 rfl Tryz.func75 rfl rfl rfl rfl rfl ?_
    refine dseq (dreg ?_)
    refine lpure (v := .bool false) rfl (p_assign rfl) rfl rfl ?_
    refine lend (nseq (dseq (dreg ?_)))
    refine lread (v := .slice a8548 n8548 c8548) rfl (q_load wd_26 rfl) (St.ld X8592 (j := 0) rfl rfl) rfl ?_
    refine lpure (v := .int .i64 e8595) rfl (p_move rfl) rfl rfl ?_
    refine lcall rfl rfl ca_54 rfl rfl (f54_ok X8592 p8547 e8595 H8548) rfl (fun e8598 v8599 h8600 hq8601 => ?_)
    cases hq8601
    refine lpure (v := .bool e8598) rfl (p_assign rfl) rfl rfl ?_
    refine lend (nseq (dret ?_))
    refine kin_r (res_1 resT) ?_
    refine lend (nseq ?_)
    refine dcond rfl rfl (fun k8602 => ?_) (fun k8602 => ?_)
    · refine dseq (dreg ?_)
      refine lpure (v := .int .i64 s8577) rfl (p_move rfl) rfl rfl ?_
      refine lpure (v := .int .i64 s8577) rfl (p_assign rfl) rfl rfl ?_
      refine lend (nseq (dret (rblock (rseq (rloop (rblock (rseq ?_)))))))
      refine kin_r (res_1 resT) ?_
      refine lpure (v := .bool (decide (0 ≤ s8577))) rfl (p_ge rfl) rfl rfl ?_
      refine lpure (v := .bool (decide (0 ≤ s8577))) rfl (p_assign rfl) rfl rfl ?_
      refine lend (nseq (dret ?_))
      refine kin_r (res_1 resT) ?_
      refine lpure (v := .bool (decide (0 ≤ s8577))) rfl (p_assign rfl) rfl rfl ?_
      refine lend (nseq (dret ?_))
      exact kcut_r (res_1 resT) X8592 rfl rfl
    refine dskip (nblock (nseq (dreg ?_)))
    refine lpure (v := .int .i64 (w64 (s8577 + 1))) rfl (p_add rfl) rfl rfl ?_
    refine lpure (v := .int .i64 (w64 (s8577 + 1))) rfl (p_move rfl) rfl rfl ?_
    refine lend ?_
    exact kbackM ih8590 (w64 (s8577 + 1)) () (sub_cons rfl (sub_cons rfl (sub_cons rfl (sub_cons rfl sub_nil)))) X8592
  refine dexit (eseq (eloop (xblock (nseq (dseq (dreg ?_))))))
  refine lpure (v := .int .i64 (-1)) rfl (p_assign rfl) rfl rfl ?_
  refine lend (nseq (dret ?_))
  refine kin_r (res_1 resT) ?_
  refine lpure (v := .bool false) rfl (p_ge rfl) rfl rfl ?_
  refine lpure (v := .bool false) rfl (p_assign rfl) rfl rfl ?_
  refine lend (nseq (dret ?_))
  refine kin_r (res_1 resT) ?_
  refine lpure (v := .bool false) rfl (p_assign rfl) rfl rfl ?_
  refine lend (nseq (dret ?_))
  exact kcut_r (res_1 resT) X8592 rfl rfl
/-! isochron/route.Apart -/
theorem f22_ok {n : Nat} {φ : Fz} {lo : Nat} {h : Heap} {own : OwnL}  {a8447 : Option Addr} {n8447 c8447 : Nat} {a8448 : Option Addr} {n8448 c8448 : Nat} {a8450 : Option Addr} {n8450 c8450 : Nat} {a8452 : Option Addr} {n8452 c8452 : Nat} (X : St φ lo h (own)) (p8446 : ApiTopo) (p8449 : (List Int)) (p8451 : (List Int)) (H8447 : RSl eBool φ (.slice a8447 n8447 c8447) p8446.Station) (H8448 : RSl eApiLink φ (.slice a8448 n8448 c8448) p8446.Links) (H8450 : RSl (eInt .i64) φ (.slice a8450 n8450 c8450) p8449) (H8452 : RSl (eInt .i64) φ (.slice a8452 n8452 c8452) p8451) : Sim ((recN Tryz.prog LL cutF (n + 17)).call 22 #[(.agg #[.int .i64 p8446.Nodes, .slice a8447 n8447 c8447, .slice a8448 n8448 c8448]), (.slice a8450 n8450 c8450), (.slice a8452 n8452 c8452)] h) (m_route_Apart p8446 p8449 p8451) (fun (d : (Bool × Int)) p => p = (.tuple #[.bool d.1, .int .i64 d.2], h)) := by
  refine fcut Tryz.func22 rfl rfl rfl rfl X ?_
  intro h0 X0
  refine dseq (dreg ?_)
  refine lbox rfl rfl rfl rfl rfl X0 (fun b8453 h8455 X8456 => ?_)
  refine lbox rfl rfl rfl rfl rfl X8456 (fun b8457 h8459 X8460 => ?_)
  refine lpure (v := .bool false) rfl (p_assign rfl) rfl rfl ?_
  refine lpure (v := .int .i64 0) rfl (p_assign rfl) rfl rfl ?_
  refine lend (nseq (dseq (dreg ?_)))
  refine lread (v := .agg #[.int .i64 p8446.Nodes, .slice a8447 n8447 c8447, .slice a8448 n8448 c8448]) rfl (q_load wd_25 rfl) (St.ld X8460 (j := 1) rfl rfl) rfl ?_
  refine lpure (v := .slice a8450 n8450 c8450) rfl (p_move rfl) rfl rfl ?_
  refine lcall rfl rfl ca_9 rfl rfl (f9_ok X8460 p8446 p8449 H8447 H8448 H8450) rfl ?_
  rintro e8461 _ h8463 ⟨φ8465, a8468, n8468, c8468, ob8468, blk8468, g8466, X8467, rfl, O8468⟩
  refine lpure (v := .tuple #[.slice a8468 n8468 c8468, .int .i64 e8461.2]) rfl (p_move rfl) rfl rfl ?_
  refine lpure (v := .slice a8468 n8468 c8468) rfl (p_extract rfl) rfl rfl ?_
  refine lpure (v := .int .i64 e8461.2) rfl (p_extract rfl) rfl rfl ?_
  refine lpure (v := .slice a8468 n8468 c8468) rfl (p_assign rfl) rfl rfl ?_
  refine lpure (v := .int .i64 e8461.2) rfl (p_assign rfl) rfl rfl ?_
  refine lend (nseq (dseq (dseq (dreg ?_))))
  refine lpure (v := .int .i64 e8461.2) rfl (p_move rfl) rfl rfl ?_
  refine lpure (v := .bool (decide (e8461.2 ≠ 0))) rfl (p_ne rfl) rfl rfl ?_
  refine lend (nseq ?_)
  refine dcond rfl rfl (fun k8470 => ?_) (fun k8470 => ?_)
  · refine dseq (dreg ?_)
    refine lpure (v := .int .i64 e8461.2) rfl (p_move rfl) rfl rfl ?_
    refine lpure (v := .bool false) rfl (p_assign rfl) rfl rfl ?_
    refine lpure (v := .int .i64 e8461.2) rfl (p_assign rfl) rfl rfl ?_
    refine lend (nseq (dret (rseq ?_)))
    exact kcut_r (res_2 resT resT) X8467 rfl rfl
  refine dskip (nseq (dseq (dreg ?_)))
  refine lread (v := .agg #[.int .i64 p8446.Nodes, .slice a8447 n8447 c8447, .slice a8448 n8448 c8448]) rfl (q_load wd_25 rfl) (St.ld X8467 (j := 2) rfl rfl) rfl ?_
  refine lread (v := .slice a8452 n8452 c8452) rfl (q_load wd_27 rfl) (St.ld X8467 (j := 1) rfl rfl) rfl ?_
  refine lcall rfl rfl ca_9 rfl rfl (f9_ok X8467 p8446 p8451 (H8447.mono g8466) (H8448.mono g8466) (H8452.mono g8466)) rfl ?_
  rintro e8471 _ h8473 ⟨φ8475, a8478, n8478, c8478, ob8478, blk8478, g8476, X8477, rfl, O8478⟩
  refine lpure (v := .tuple #[.slice a8478 n8478 c8478, .int .i64 e8471.2]) rfl (p_move rfl) rfl rfl ?_
  refine lpure (v := .slice a8478 n8478 c8478) rfl (p_extract rfl) rfl rfl ?_
  refine lpure (v := .int .i64 e8471.2) rfl (p_extract rfl) rfl rfl ?_
  refine lpure (v := .slice a8478 n8478 c8478) rfl (p_assign rfl) rfl rfl ?_
  refine lpure (v := .int .i64 e8471.2) rfl (p_assign rfl) rfl rfl ?_
  refine lend (nseq (dseq (dseq (dreg ?_))))
  refine lpure (v := .int .i64 e8471.2) rfl (p_move rfl) rfl rfl ?_
  refine lpure (v := .bool (decide (e8471.2 ≠ 0))) rfl (p_ne rfl) rfl rfl ?_
  refine lend (nseq ?_)
  refine dcond rfl rfl (fun k8480 => ?_) (fun k8480 => ?_)
  · refine dseq (dreg ?_)
    refine lpure (v := .int .i64 e8471.2) rfl (p_move rfl) rfl rfl ?_
    refine lpure (v := .bool false) rfl (p_assign rfl) rfl rfl ?_
    refine lpure (v := .int .i64 e8471.2) rfl (p_assign rfl) rfl rfl ?_
    refine lend (nseq (dret (rseq ?_)))
    exact kcut_r (res_2 resT resT) X8477 rfl rfl
  refine dskip (nseq (dseq (dreg ?_)))
  refine lpure (v := .slice a8450 n8450 c8450) rfl (p_move rfl) rfl rfl ?_
  refine lpure (v := .func (.func 47) #[] #[.pointer (some ⟨b8457, 0, none⟩)]) rfl (p_makeFunc rfl) rfl rfl ?_
  refine linl rfl rfl rfl rfl ca_46 rfl Tryz.func46 rfl rfl rfl rfl rfl ?_
  refine dseq (dreg ?_)
  refine lpure (v := .bool false) rfl (p_assign rfl) rfl rfl ?_
  refine lend (nseq (dseq (dreg ?_)))
  refine lpure (v := .slice a8450 n8450 c8450) rfl (p_move rfl) rfl rfl ?_
  refine lpure (v := .func (.func 47) #[] #[.pointer (some ⟨b8457, 0, none⟩)]) rfl (p_move rfl) rfl rfl ?_
  refine linl rfl rfl rfl rfl ca_73 rfl Tryz.func73 rfl rfl rfl rfl rfl ?_
  refine dseq (dreg ?_)
  refine lpure (v := .int .i64 0) rfl (p_assign rfl) rfl rfl ?_
  refine lend (nseq (dseq (dseq (dreg ?_))))
  refine lpure (v := .slice a8450 n8450 c8450) rfl (p_move rfl) rfl rfl ?_
  refine lpure (v := .int .i64 (p8449.length : Int)) rfl (p_len rfl rfl rfl un_27 rfl) (RSl.lenC (H8450.mono (g8466.trans g8476))) rfl ?_
  refine lpure (v := .int .i64 0) rfl (p_move rfl) rfl rfl ?_
  refine lend (nseq (dblock ?_))
  refine dloopM (τ := Int) (σ := Unit) (fun s9088 (_ : Unit) => [(0, .slice a8450 n8450 c8450), (1, .func (.func 47) #[] #[.pointer (some ⟨b8457, 0, none⟩)]), (7, .int .i64 (p8449.length : Int)), (8, .int .i64 s9088)]) (fun s9088 (_ : Unit) hh => St φ8475 h.n hh ([(ob8478, blk8478), (ob8468, blk8468), (some b8457, .cells [.slice a8452 n8452 c8452] 27 .exact), (some b8453, .cells [.int .i64 p8446.Nodes, .slice a8447 n8447 c8447, .slice a8448 n8448 c8448] 25 .exact)])) 0 () (sub_cons rfl (sub_cons rfl (sub_cons rfl (sub_cons rfl sub_nil)))) X8477 ?_
  rintro n9531 ih9530 s9088 _ t0 h9533 X9532
  refine dseq (dreg ?_)
  refine lpure (v := .bool (decide (s9088 < (p8449.length : Int)))) rfl (p_lt rfl) rfl rfl ?_
  refine lend (nseq (dseq ?_))
  refine dcond rfl rfl (fun k9534 => ?_) (fun k9534 => ?_)
  · refine dskip (nseq (dseq (dblock (dseq (dreg ?_)))))
    refine lpure (v := .int .i64 s9088) rfl (p_move rfl) rfl rfl ?_
    refine lpure (v := .int .i64 s9088) rfl (p_assign rfl) rfl rfl ?_
    refine lend (nseq (dseq (dreg ?_)))
    refine lpure (v := .func (.func 47) #[] #[.pointer (some ⟨b8457, 0, none⟩)]) rfl (p_move rfl) rfl rfl ?_
    refine lpure (v := .slice a8450 n8450 c8450) rfl (p_move rfl) rfl rfl ?_
    refine lpure (v := .int .i64 s9088) rfl (p_move rfl) rfl rfl ?_
    refine Sim.bindM fun e9535 he9536 => ?_
    obtain ⟨p9537, cs9537, hp9537, hF9537, hR9537⟩ := RSl.ia (H8450.mono (g8466.trans g8476)) he9536 (kd := .i64) (n := 1) rfl
    have hR9537 : _ = [(.int .i64 e9535 : Value)] := hR9537
    subst hR9537
    refine lpure (v := p9537) rfl (p_ia rs_27 rfl) hp9537 rfl ?_
    refine lread (v := .int .i64 e9535) rfl (q_load wd_3 rfl) (FP.ld X9532 hF9537) rfl ?_
    refine linl rfl rfl rfl rfl ca_47 rfl Tryz.func47 rfl rfl rfl rfl rfl ?_
    refine dseq (dreg ?_)
    refine lbox rfl rfl rfl rfl rfl X9532 (fun b9538 h9540 X9541 => ?_)
    refine lpure (v := .bool false) rfl (p_assign rfl) rfl rfl ?_
    refine lend (nseq (dseq (dreg ?_)))
    refine lread (v := .slice a8452 n8452 c8452) rfl (q_load wd_27 rfl) (St.ld X9541 (j := 3) rfl rfl) rfl ?_
    refine lpure (v := .func (.func 48) #[] #[.pointer (some ⟨b9538, 0, none⟩)]) rfl (p_makeFunc rfl) rfl rfl ?_
    refine linl rfl rfl rfl rfl ca_46 rfl Tryz.func46 rfl rfl rfl rfl rfl ?_
    refine dseq (dreg ?_)
    refine lpure (v := .bool false) rfl (p_assign rfl) rfl rfl ?_
    refine lend (nseq (dseq (dreg ?_)))
    refine lpure (v := .slice a8452 n8452 c8452) rfl (p_move rfl) rfl rfl ?_
    refine lpure (v := .func (.func 48) #[] #[.pointer (some ⟨b9538, 0, none⟩)]) rfl (p_move rfl) rfl rfl ?_
    refine linl rfl rfl rfl rfl ca_73 rfl Tryz.func73 rfl rfl rfl rfl rfl ?_
    refine dseq (dreg ?_)
    refine lpure (v := .int .i64 0) rfl (p_assign rfl) rfl rfl ?_
    refine lend (nseq (dseq (dseq (dreg ?_))))
    refine lpure (v := .slice a8452 n8452 c8452) rfl (p_move rfl) rfl rfl ?_
    refine lpure (v := .int .i64 (p8451.length : Int)) rfl (p_len rfl rfl rfl un_27 rfl) (RSl.lenC (H8452.mono (g8466.trans g8476))) rfl ?_
    refine lpure (v := .int .i64 0) rfl (p_move rfl) rfl rfl ?_
    refine lend (nseq (dblock ?_))
    refine dloopM (τ := Int) (σ := Unit) (fun s9729 (_ : Unit) => [(0, .slice a8452 n8452 c8452), (1, .func (.func 48) #[] #[.pointer (some ⟨b9538, 0, none⟩)]), (7, .int .i64 (p8451.length : Int)), (8, .int .i64 s9729)]) (fun s9729 (_ : Unit) hh => St φ8475 h.n hh ([(some b9538, .cells [.int .i64 e9535] 3 .exact), (ob8478, blk8478), (ob8468, blk8468), (some b8457, .cells [.slice a8452 n8452 c8452] 27 .exact), (some b8453, .cells [.int .i64 p8446.Nodes, .slice a8447 n8447 c8447, .slice a8448 n8448 c8448] 25 .exact)])) 0 () (sub_cons rfl (sub_cons rfl (sub_cons rfl (sub_cons rfl sub_nil)))) X9541 ?_
    rintro n9825 ih9824 s9729 _ t0 h9827 X9826
    refine dseq (dreg ?_)
    refine lpure (v := .bool (decide (s9729 < (p8451.length : Int)))) rfl (p_lt rfl) rfl rfl ?_
    refine lend (nseq (dseq ?_))
    refine dcond rfl rfl (fun k9828 => ?_) (fun k9828 => ?_)
    · refine dskip (nseq (dseq (dblock (dseq (dreg ?_)))))
      refine lpure (v := .int .i64 s9729) rfl (p_move rfl) rfl rfl ?_
      refine lpure (v := .int .i64 s9729) rfl (p_assign rfl) rfl rfl ?_
      refine lend (nseq (dseq (dreg ?_)))
      refine lpure (v := .func (.func 48) #[] #[.pointer (some ⟨b9538, 0, none⟩)]) rfl (p_move rfl) rfl rfl ?_
      refine lpure (v := .slice a8452 n8452 c8452) rfl (p_move rfl) rfl rfl ?_
      refine lpure (v := .int .i64 s9729) rfl (p_move rfl) rfl rfl ?_
      refine Sim.bindM fun e9829 he9830 => ?_
      obtain ⟨p9831, cs9831, hp9831, hF9831, hR9831⟩ := RSl.ia (H8452.mono (g8466.trans g8476)) he9830 (kd := .i64) (n := 1) rfl
      have hR9831 : _ = [(.int .i64 e9829 : Value)] := hR9831
      subst hR9831
      refine lpure (v := p9831) rfl (p_ia rs_27 rfl) hp9831 rfl ?_
      refine lread (v := .int .i64 e9829) rfl (q_load wd_3 rfl) (FP.ld X9826 hF9831) rfl ?_
      refine linl rfl rfl rfl rfl ca_48 rfl Tryz.func48 rfl rfl rfl rfl rfl ?_
      refine dseq (dreg ?_)
      refine lpure (v := .bool false) rfl (p_assign rfl) rfl rfl ?_
      refine lend (nseq (dseq (dreg ?_)))
      refine lread (v := .int .i64 e9535) rfl (q_load wd_3 rfl) (St.ld X9826 (j := 0) rfl rfl) rfl ?_
      refine lpure (v := .int .i64 (w64 (Int.tdiv e9535 2))) rfl (p_quo rfl) rfl rfl ?_
      refine lpure (v := .int .i64 e9829) rfl (p_move rfl) rfl rfl ?_
      refine lpure (v := .int .i64 (w64 (Int.tdiv e9829 2))) rfl (p_quo rfl) rfl rfl ?_
      refine lpure (v := .bool (decide ((w64 (Int.tdiv e9535 2)) = (w64 (Int.tdiv e9829 2))))) rfl (p_eq rfl) rfl rfl ?_
      refine lpure (v := .bool (decide ((w64 (Int.tdiv e9535 2)) = (w64 (Int.tdiv e9829 2))))) rfl (p_assign rfl) rfl rfl ?_
      refine lend (nseq (dret ?_))
      refine kin_r (res_1 resT) ?_
      refine lend (nseq ?_)
      refine dcond rfl rfl (fun k9832 => ?_) (fun k9832 => ?_)
      · refine dseq (dreg ?_)
        refine lpure (v := .int .i64 s9729) rfl (p_move rfl) rfl rfl ?_
        refine lpure (v := .int .i64 s9729) rfl (p_assign rfl) rfl rfl ?_
        refine lend (nseq (dret (rblock (rseq (rloop (rblock (rseq ?_)))))))
        refine kin_r (res_1 resT) ?_
        refine lpure (v := .bool (decide (0 ≤ s9729))) rfl (p_ge rfl) rfl rfl ?_
        refine lpure (v := .bool (decide (0 ≤ s9729))) rfl (p_assign rfl) rfl rfl ?_
        refine lend (nseq (dret ?_))
        refine kin_r (res_1 resT) ?_
        refine lpure (v := .bool (decide (0 ≤ s9729))) rfl (p_assign rfl) rfl rfl ?_
        refine lend (nseq (dret ?_))
        refine kin_r (res_1 resT) ?_
        refine lend (nseq ?_)
        refine dcond rfl rfl (fun k9833 => ?_) (fun k9833 => ?_)
        · refine dseq (dreg ?_)
          refine lpure (v := .int .i64 s9088) rfl (p_move rfl) rfl rfl ?_
          refine lpure (v := .int .i64 s9088) rfl (p_assign rfl) rfl rfl ?_
          refine lend (nseq (dret (rblock (rseq (rloop (rblock (rseq ?_)))))))
          refine kin_r (res_1 resT) ?_
          refine lpure (v := .bool (decide (0 ≤ s9088))) rfl (p_ge rfl) rfl rfl ?_
          refine lpure (v := .bool (decide (0 ≤ s9088))) rfl (p_assign rfl) rfl rfl ?_
          refine lend (nseq (dret ?_))
          refine kin_r (res_1 resT) ?_
          refine lpure (v := .bool (decide (0 ≤ s9088))) rfl (p_assign rfl) rfl rfl ?_
          refine lend (nseq (dseq (dreg ?_)))
          refine lpure (v := .bool (decide (0 ≤ s9088))) rfl (p_move rfl) rfl rfl ?_
          refine lpure (v := .bool (!(decide (0 ≤ s9088)))) rfl (p_not rfl) rfl rfl ?_
          refine lpure (v := .bool (!(decide (0 ≤ s9088)))) rfl (p_move rfl) rfl rfl ?_
          refine ljoinM (τ := (List Int) × Bool) (σ := Fz × Option Addr × Nat × Nat) (fun s9853 (φ9855, a9854, n9854, c9854) => [(8, .slice a9854 n9854 c9854), (10, .slice a8478 n8478 c8478), (41, .bool s9853.2)]) (fun s9853 (φ9855, a9854, n9854, c9854) hh => St φ9855 h.n hh ([(some b9538, .cells [.int .i64 e9535] 3 .exact), (ob8478, blk8478), (none, .dead), (some b8457, .cells [.slice a8452 n8452 c8452] 27 .exact), (some b8453, .cells [.int .i64 p8446.Nodes, .slice a8447 n8447 c8447, .slice a8448 n8448 c8448] 25 .exact)]) ∧ Fz.le φ8475 φ9855 ∧ RSl (eInt .i64) φ9855 (.slice a9854 n9854 c9854) s9853.1) 6 ?_ ?_
          · rintro s9853 ⟨φ9855, a9854, n9854, c9854⟩ t0 h9858 ⟨X9857, g9856, H9854⟩
            refine lpure (v := .bool s9853.2) rfl (p_move rfl) rfl rfl ?_
            refine ljoinM (τ := Bool) (σ := Fz) (fun s9874 φ9875 => [(48, .bool s9874)]) (fun s9874 φ9875 hh => St φ9875 h.n hh ([(some b9538, .cells [.int .i64 e9535] 3 .exact), (none, .dead), (none, .dead), (some b8457, .cells [.slice a8452 n8452 c8452] 27 .exact), (some b8453, .cells [.int .i64 p8446.Nodes, .slice a8447 n8447 c8447, .slice a8448 n8448 c8448] 25 .exact)]) ∧ Fz.le φ9855 φ9875) 6 ?_ ?_
            · rintro s9874 φ9875 t0 h9878 ⟨X9877, g9876⟩
              refine lpure (v := .bool s9874) rfl (p_assign rfl) rfl rfl ?_
              refine lpure (v := .int .i64 0) rfl (p_assign rfl) rfl rfl ?_
              refine lend (nseq (dret ?_))
              exact kcut_r (res_2 resT resT) X9877 rfl rfl
            intro j9879 J9880
            refine lif (i := 42) (show _ = Value.bool s9853.2 from rfl) (fun k9881 => ?_) (fun k9881 => ?_)
            · refine lpure (v := .slice a8478 n8478 c8478) rfl (p_move rfl) rfl rfl ?_
              obtain ⟨φ9882, g9883, X9884, H9885⟩ := OSl.freeze X9857 (j := 1) rfl (O8478.mono g9856)
              refine lcall rfl rfl ca_50 rfl rfl (f50_ok X9884 (e8471.1) H9885) rfl ?_
              rintro e9886 _ _ ⟨a9890, n9890, c9890, hq, H9890⟩
              cases hq
              refine lpure (v := .slice a9854 n9854 c9854) rfl (p_move rfl) rfl rfl ?_
              refine lcall rfl rfl ca_49 rfl rfl (f49_ok X9884 e9886 (s9853.1) H9890 (H9854.mono g9883)) rfl (fun e9891 v9892 h9893 hq9894 => ?_)
              cases hq9894
              refine lpure (v := .bool (!e9891)) rfl (p_not rfl) rfl rfl ?_
              refine lpure (v := .bool (!e9891)) rfl (p_pick rfl) rfl rfl ?_
              exact ljmpM J9880 (!e9891) φ9882 (sub_cons rfl sub_nil) ⟨(St.pick X9884 (.keep _ (.none _ (.none _ (.skip _ (.skip _ (.keep _ (.keep _ (.nil _))))))))), g9883⟩
            refine lskip rfl rfl ?_
            refine lskip rfl rfl ?_
            refine lskip rfl rfl ?_
            refine lskip rfl rfl ?_
            refine lskip rfl rfl ?_
            refine lpure (v := .bool false) rfl (p_pick rfl) rfl rfl ?_
            exact ljmpM J9880 false φ9855 (sub_cons rfl sub_nil) ⟨(St.pick X9857 (.keep _ (.none _ (.none _ (.skip _ (.skip _ (.keep _ (.keep _ (.nil _))))))))), (Fz.le_refl _)⟩
          intro j9895 J9896
          refine lif (i := 35) (show _ = Value.bool (!(decide (0 ≤ s9088))) from rfl) (fun k9897 => ?_) (fun k9897 => ?_)
          · refine lpure (v := .slice a8468 n8468 c8468) rfl (p_move rfl) rfl rfl ?_
            obtain ⟨φ9898, g9899, X9900, H9901⟩ := OSl.freeze X9826 (j := 2) rfl (O8468.mono g8476)
            refine lcall rfl rfl ca_50 rfl rfl (f50_ok X9900 (e8461.1) H9901) rfl ?_
            rintro e9902 _ _ ⟨a9906, n9906, c9906, hq, H9906⟩
            cases hq
            refine lpure (v := .slice a8478 n8478 c8478) rfl (p_move rfl) rfl rfl ?_
            obtain ⟨φ9907, g9908, X9909, H9910⟩ := OSl.freeze X9900 (j := 1) rfl (O8478.mono g9899)
            refine lcall rfl rfl ca_49 rfl rfl (f49_ok X9909 e9902 (e8471.1) (H9906.mono g9908) H9910) rfl (fun e9911 v9912 h9913 hq9914 => ?_)
            cases hq9914
            refine lpure (v := .bool (!e9911)) rfl (p_not rfl) rfl rfl ?_
            refine lpure (v := .bool (!e9911)) rfl (p_pick rfl) rfl rfl ?_
            exact ljmpM J9896 (e8461.1, (!e9911)) (φ9898, a8468, n8468, c8468) (sub_cons rfl (sub_cons rfl (sub_cons rfl sub_nil))) ⟨(St.pick X9900 (.keep _ (.keep _ (.none _ (.skip _ (.keep _ (.keep _ (.nil _)))))))), g9899, H9901⟩
          refine lskip rfl rfl ?_
          refine lskip rfl rfl ?_
          refine lskip rfl rfl ?_
          refine lskip rfl rfl ?_
          refine lskip rfl rfl ?_
          refine lpure (v := .bool false) rfl (p_pick rfl) rfl rfl ?_
          obtain ⟨φ9915, g9916, X9917, H9918⟩ := OSl.freeze X9826 (j := 2) rfl (O8468.mono g8476)
          exact ljmpM J9896 (e8461.1, false) (φ9915, a8468, n8468, c8468) (sub_cons rfl (sub_cons rfl (sub_cons rfl sub_nil))) ⟨(St.pick X9917 (.keep _ (.keep _ (.none _ (.skip _ (.keep _ (.keep _ (.nil _)))))))), g9916, H9918⟩
        refine dskip (nblock (nseq (dreg ?_)))
        refine lpure (v := .int .i64 (w64 (s9088 + 1))) rfl (p_add rfl) rfl rfl ?_
        refine lpure (v := .int .i64 (w64 (s9088 + 1))) rfl (p_move rfl) rfl rfl ?_
        refine lend ?_
        exact kbackM ih9530 (w64 (s9088 + 1)) () (sub_cons rfl (sub_cons rfl (sub_cons rfl (sub_cons rfl sub_nil)))) (St.pick X9826 (.skip _ (.keep _ (.keep _ (.keep _ (.keep _ (.nil _)))))))
      refine dskip (nblock (nseq (dreg ?_)))
      refine lpure (v := .int .i64 (w64 (s9729 + 1))) rfl (p_add rfl) rfl rfl ?_
      refine lpure (v := .int .i64 (w64 (s9729 + 1))) rfl (p_move rfl) rfl rfl ?_
      refine lend ?_
      exact kbackM ih9824 (w64 (s9729 + 1)) () (sub_cons rfl (sub_cons rfl (sub_cons rfl (sub_cons rfl sub_nil)))) X9826
    refine dexit (eseq (eloop (xblock (nseq (dseq (dreg ?_))))))
    refine lpure (v := .int .i64 (-1)) rfl (p_assign rfl) rfl rfl ?_
    refine lend (nseq (dret ?_))
    refine kin_r (res_1 resT) ?_
    refine lpure (v := .bool false) rfl (p_ge rfl) rfl rfl ?_
    refine lpure (v := .bool false) rfl (p_assign rfl) rfl rfl ?_
    refine lend (nseq (dret ?_))
    refine kin_r (res_1 resT) ?_
    refine lpure (v := .bool false) rfl (p_assign rfl) rfl rfl ?_
    refine lend (nseq (dret ?_))
    refine kin_r (res_1 resT) ?_
    refine lend (nseq (dcondF rfl rfl (dskip (nblock (nseq (dreg ?_))))))
    refine lpure (v := .int .i64 (w64 (s9088 + 1))) rfl (p_add rfl) rfl rfl ?_
    refine lpure (v := .int .i64 (w64 (s9088 + 1))) rfl (p_move rfl) rfl rfl ?_
    refine lend ?_
    exact kbackM ih9530 (w64 (s9088 + 1)) () (sub_cons rfl (sub_cons rfl (sub_cons rfl (sub_cons rfl sub_nil)))) (St.pick X9826 (.skip _ (.keep _ (.keep _ (.keep _ (.keep _ (.nil _)))))))
  refine dexit (eseq (eloop (xblock (nseq (dseq (dreg ?_))))))
  refine lpure (v := .int .i64 (-1)) rfl (p_assign rfl) rfl rfl ?_
  refine lend (nseq (dret ?_))
  refine kin_r (res_1 resT) ?_
  refine lpure (v := .bool false) rfl (p_ge rfl) rfl rfl ?_
  refine lpure (v := .bool false) rfl (p_assign rfl) rfl rfl ?_
  refine lend (nseq (dret ?_))
  refine kin_r (res_1 resT) ?_
  refine lpure (v := .bool false) rfl (p_assign rfl) rfl rfl ?_
  refine lend (nseq (dseq (dreg ?_)))
  refine lpure (v := .bool false) rfl (p_move rfl) rfl rfl ?_
  refine lpure (v := .bool true) rfl (p_not rfl) rfl rfl ?_
  refine lpure (v := .bool true) rfl (p_move rfl) rfl rfl ?_
  refine lpure (v := .slice a8468 n8468 c8468) rfl (p_move rfl) rfl rfl ?_
  obtain ⟨φ9919, g9920, X9921, H9922⟩ := OSl.freeze X9532 (j := 1) rfl (O8468.mono g8476)
  refine lcall rfl rfl ca_50 rfl rfl (f50_ok X9921 (e8461.1) H9922) rfl ?_
  rintro e9923 _ _ ⟨a9927, n9927, c9927, hq, H9927⟩
  cases hq
  refine lpure (v := .slice a8478 n8478 c8478) rfl (p_move rfl) rfl rfl ?_
  obtain ⟨φ9928, g9929, X9930, H9931⟩ := OSl.freeze X9921 (j := 0) rfl (O8478.mono g9920)
  refine lcall rfl rfl ca_49 rfl rfl (f49_ok X9930 e9923 (e8471.1) (H9927.mono g9929) H9931) rfl (fun e9932 v9933 h9934 hq9935 => ?_)
  cases hq9935
  refine lpure (v := .bool (!e9932)) rfl (p_not rfl) rfl rfl ?_
  refine lpure (v := .bool (!e9932)) rfl (p_pick rfl) rfl rfl ?_
  refine lpure (v := .bool (!e9932)) rfl (p_move rfl) rfl rfl ?_
  refine ljoinM (τ := Bool) (σ := Fz) (fun s9951 φ9952 => [(48, .bool s9951)]) (fun s9951 φ9952 hh => St φ9952 h.n hh ([(none, .dead), (none, .dead), (some b8457, .cells [.slice a8452 n8452 c8452] 27 .exact), (some b8453, .cells [.int .i64 p8446.Nodes, .slice a8447 n8447 c8447, .slice a8448 n8448 c8448] 25 .exact)]) ∧ Fz.le φ9919 φ9952) 6 ?_ ?_
  · rintro s9951 φ9952 t0 h9955 ⟨X9954, g9953⟩
    refine lpure (v := .bool s9951) rfl (p_assign rfl) rfl rfl ?_
    refine lpure (v := .int .i64 0) rfl (p_assign rfl) rfl rfl ?_
    refine lend (nseq (dret ?_))
    exact kcut_r (res_2 resT resT) X9954 rfl rfl
  intro j9956 J9957
  refine lif (i := 42) (show _ = Value.bool (!e9932) from rfl) (fun k9958 => ?_) (fun k9958 => ?_)
  · refine lpure (v := .slice a8478 n8478 c8478) rfl (p_move rfl) rfl rfl ?_
    obtain ⟨φ9959, g9960, X9961, H9962⟩ := OSl.freeze X9921 (j := 0) rfl (O8478.mono g9920)
    refine lcall rfl rfl ca_50 rfl rfl (f50_ok X9961 (e8471.1) H9962) rfl ?_
    rintro e9963 _ _ ⟨a9967, n9967, c9967, hq, H9967⟩
    cases hq
    refine lpure (v := .slice a8468 n8468 c8468) rfl (p_move rfl) rfl rfl ?_
    refine lcall rfl rfl ca_49 rfl rfl (f49_ok X9961 e9963 (e8461.1) H9967 (H9922.mono g9960)) rfl (fun e9968 v9969 h9970 hq9971 => ?_)
    cases hq9971
    refine lpure (v := .bool (!e9968)) rfl (p_not rfl) rfl rfl ?_
    refine lpure (v := .bool (!e9968)) rfl (p_pick rfl) rfl rfl ?_
    exact ljmpM J9957 (!e9968) φ9959 (sub_cons rfl sub_nil) ⟨(St.pick X9961 (.none _ (.none _ (.skip _ (.skip _ (.keep _ (.keep _ (.nil _)))))))), g9960⟩
  refine lskip rfl rfl ?_
  refine lskip rfl rfl ?_
  refine lskip rfl rfl ?_
  refine lskip rfl rfl ?_
  refine lskip rfl rfl ?_
  refine lpure (v := .bool false) rfl (p_pick rfl) rfl rfl ?_
  exact ljmpM J9957 false φ9919 (sub_cons rfl sub_nil) ⟨(St.pick X9921 (.none _ (.none _ (.skip _ (.skip _ (.keep _ (.keep _ (.nil _)))))))), (Fz.le_refl _)⟩
/-! isochron/route.Tree -/
theorem f24_ok {n : Nat} {φ : Fz} {lo : Nat} {h : Heap} {own : OwnL}  {a14276 : Option Addr} {n14276 c14276 : Nat} {a14277 : Option Addr} {n14277 c14277 : Nat} {a14279 : Option Addr} {n14279 c14279 : Nat} (X : St φ lo h (own)) (p14275 : ApiTopo) (p14278 : (List (List Int))) (H14276 : RSl eBool φ (.slice a14276 n14276 c14276) p14275.Station) (H14277 : RSl eApiLink φ (.slice a14277 n14277 c14277) p14275.Links) (H14279 : RSl (eSl (eInt .i64)) φ (.slice a14279 n14279 c14279) p14278) : Sim ((recN Tryz.prog LL cutF (n + 13)).call 24 #[(.agg #[.int .i64 p14275.Nodes, .slice a14276 n14276 c14276, .slice a14277 n14277 c14277]), (.slice a14279 n14279 c14279)] h) (m_route_Tree p14275 p14278) (fun (d : ((List Int) × Bool × Int)) p => ∃ φ2 : Fz, ∃ a18540 : Option Addr, ∃ n18540 : Nat, ∃ c18540 : Nat, ∃ ob18540 : Option Nat, ∃ blk18540 : Blk, Fz.le φ φ2 ∧ St φ2 lo p.2 ((ob18540, blk18540) :: own) ∧ p.1 = .tuple #[.slice a18540 n18540 c18540, .bool d.2.1, .int .i64 d.2.2] ∧ OSl (eInt .i64) φ2 3 ob18540 blk18540 (.slice a18540 n18540 c18540) d.1) := by
  refine fopen Tryz.func24 rfl rfl rfl rfl ?_
  refine dseq (dreg ?_)
  refine lbox rfl rfl rfl rfl rfl X (fun b14280 h14282 X14283 => ?_)
  refine lpure (v := .slice none 0 0) rfl (p_assign rfl) rfl rfl ?_
  refine lpure (v := .bool false) rfl (p_assign rfl) rfl rfl ?_
  refine lpure (v := .int .i64 0) rfl (p_assign rfl) rfl rfl ?_
  refine lend (nseq (dseq (dseq (dreg ?_))))
  refine lread (v := .agg #[.int .i64 p14275.Nodes, .slice a14276 n14276 c14276, .slice a14277 n14277 c14277]) rfl (q_load wd_25 rfl) (St.ld X14283 (j := 0) rfl rfl) rfl ?_
  refine lcall rfl rfl ca_39 rfl rfl (f39_ok X14283 p14275 H14276 H14277) rfl (fun e14284 v14285 h14286 hq14287 => ?_)
  cases hq14287
  refine lpure (v := .int .i64 e14284) rfl (p_assign rfl) rfl rfl ?_
  refine lend (nseq (dseq (dreg ?_)))
  refine lpure (v := .int .i64 e14284) rfl (p_move rfl) rfl rfl ?_
  refine lpure (v := .bool (decide (e14284 ≠ 0))) rfl (p_ne rfl) rfl rfl ?_
  refine lend (nseq ?_)
  refine dcond rfl rfl (fun k14288 => ?_) (fun k14288 => ?_)
  · refine dseq (dreg ?_)
    refine lpure (v := .int .i64 e14284) rfl (p_move rfl) rfl rfl ?_
    refine lpure (v := .slice none 0 0) rfl (p_assign rfl) rfl rfl ?_
    refine lpure (v := .bool false) rfl (p_assign rfl) rfl rfl ?_
    refine lpure (v := .int .i64 e14284) rfl (p_assign rfl) rfl rfl ?_
    refine lend (nseq (dret (rseq ?_)))
    exact kopen_r (res_3 resT resT resT) ⟨φ, none, 0, 0, none, (.dead), (Fz.le_refl _), St.pick X14283 (.none _ (.skip _ (.refl _))), rfl, OSl.nil⟩
  refine dskip (nseq (dseq (dreg ?_)))
  refine lread (v := .agg #[.int .i64 p14275.Nodes, .slice a14276 n14276 c14276, .slice a14277 n14277 c14277]) rfl (q_load wd_25 rfl) (St.ld X14283 (j := 0) rfl rfl) rfl ?_
  refine lpure (v := .agg #[.int .i64 p14275.Nodes, .slice a14276 n14276 c14276, .slice a14277 n14277 c14277]) rfl (p_build rfl) (build_st' tz_60 pl_60 rfl) rfl ?_
  refine lalloc rfl tz_60 rfl rfl rfl X14283 (fun b14289 h14291 X14292 => ?_)
  refine lstore rfl ts_60 rfl rfl (j := 0) rfl rfl rfl rfl rfl rfl X14292 (fun h14293 X14294 => ?_)
  refine lend (nseq (dseq (dreg ?_)))
  refine lpure (v := .slice none 0 0) rfl (p_assign rfl) rfl rfl ?_
  refine lend (nseq (dseq (dseq (dreg ?_))))
  refine lpure (v := .slice a14279 n14279 c14279) rfl (p_move rfl) rfl rfl ?_
  refine lpure (v := .int .i64 (p14278.length : Int)) rfl (p_len rfl rfl rfl un_52 rfl) (RSl.lenC H14279) rfl ?_
  refine lpure (v := .int .i64 0) rfl (p_move rfl) rfl rfl ?_
  refine lend (nseq (dblock ?_))
  refine dloopM (τ := (List Int) × Int) (σ := Option Addr × Nat × Nat × Option Nat × Blk) (fun s16418 (a16420, n16420, c16420, ob16420, blk16420) => [(1, .slice a14279 n14279 c14279), (8, .pointer (some ⟨b14289, 0, none⟩)), (9, .slice a16420 n16420 c16420), (25, .slice a14279 n14279 c14279), (26, .int .i64 (p14278.length : Int)), (27, .int .i64 s16418.2)]) (fun s16418 (a16420, n16420, c16420, ob16420, blk16420) hh => St φ lo hh ((ob16420, blk16420) :: (some b14289, .cells [.int .i64 p14275.Nodes, .slice a14276 n14276 c14276, .slice a14277 n14277 c14277] 60 .exact) :: (some b14280, .cells [.int .i64 p14275.Nodes, .slice a14276 n14276 c14276, .slice a14277 n14277 c14277] 25 .exact) :: own) ∧ OSl (eInt .i64) φ 3 ob16420 blk16420 (.slice a16420 n16420 c16420) s16418.1) ([], 0) (none, 0, 0, none, .dead) (sub_cons rfl (sub_cons rfl (sub_cons rfl (sub_cons rfl (sub_cons rfl (sub_cons rfl sub_nil)))))) ⟨(St.pick X14294 (.none _ (.keep _ (.keep _ (.refl _))))), OSl.nil⟩ ?_
  rintro n17481 ih17480 s16418 ⟨a16420, n16420, c16420, ob16420, blk16420⟩ t0 h17483 ⟨X17482, O16420⟩
  refine dseq (dreg ?_)
  refine lpure (v := .bool (decide (s16418.2 < (p14278.length : Int)))) rfl (p_lt rfl) rfl rfl ?_
  refine lend (nseq (dseq ?_))
  refine dcond rfl rfl (fun k17484 => ?_) (fun k17484 => ?_)
  · refine dskip (nseq (dseq (dblock (dseq (dreg ?_)))))
    refine Sim.bindM fun e17485 he17486 => ?_
    obtain ⟨p17488, cs17488, hp17488, hF17488, hR17488⟩ := RSl.ia H14279 he17486 (kd := .i64) (n := 1) rfl
    obtain ⟨a17487, n17487, c17487, rfl, H17487⟩ := hR17488
    refine lpure (v := p17488) rfl (p_ia rs_52 rfl) hp17488 rfl ?_
    refine lread (v := .slice a17487 n17487 c17487) rfl (q_load wd_27 rfl) (FP.ld X17482 hF17488) rfl ?_
    refine lpure (v := .slice a17487 n17487 c17487) rfl (p_assign rfl) rfl rfl ?_
    refine lend (nseq (dseq (dseq (dreg ?_))))
    refine lread (v := .agg #[.int .i64 p14275.Nodes, .slice a14276 n14276 c14276, .slice a14277 n14277 c14277]) rfl (q_load wd_60 rfl) (St.ld X17482 (j := 1) rfl rfl) rfl ?_
    refine lpure (v := .slice a17487 n17487 c17487) rfl (p_move rfl) rfl rfl ?_
    refine lcall rfl rfl ca_40 rfl rfl (f40_ok X17482 ((RouteWalk.mk p14275)) e17485 H14276 H14277 H17487) rfl (fun e17489 v17490 h17491 hq17492 => ?_)
    cases hq17492
    refine lpure (v := .bool (!e17489)) rfl (p_not rfl) rfl rfl ?_
    refine lend (nseq ?_)
    refine dcond rfl rfl (fun k17493 => ?_) (fun k17493 => ?_)
    · refine dseq (dreg ?_)
      refine lpure (v := .slice none 0 0) rfl (p_assign rfl) rfl rfl ?_
      refine lpure (v := .bool false) rfl (p_assign rfl) rfl rfl ?_
      refine lpure (v := .int .i64 310) rfl (p_assign rfl) rfl rfl ?_
      refine lend (nseq (dret (rseq (rblock (rseq (rloop (rblock (rseq ?_))))))))
      exact kopen_r (res_3 resT resT resT) ⟨φ, none, 0, 0, none, (.dead), (Fz.le_refl _), St.pick X17482 (.none _ (.skip _ (.skip _ (.skip _ (.refl _))))), rfl, OSl.nil⟩
    refine dskip (nseq (dreg ?_))
    refine lpure (v := .slice a16420 n16420 c16420) rfl (p_move rfl) rfl rfl ?_
    refine lpure (v := .slice a17487 n17487 c17487) rfl (p_move rfl) rfl rfl ?_
    obtain ⟨ws17494, hw17494⟩ := RSl.read H17487 X17482 (n := 1) rfl
    refine Sim.mustM fun k17494 => ?_
    obtain ⟨h17494, a17494, c17494, ob17494, blk17494, hv17494, X17494, O17494⟩ := OSl.append O16420 X17482 (j := 0) rfl hw17494 k17494 (ts := #[26, 27]) rfl un_26 (argOk_of ax_26_27) ts_3 rfl rfl tb_3 rfl tz_3 rfl
    refine lheap rfl (h_builtin rfl rfl) hv17494 rfl ?_
    refine lpure (v := .slice a17494 (s16418.1.length + e17485.length) c17494) rfl (p_assign rfl) rfl rfl ?_
    refine lend (nblock (nseq (dreg ?_)))
    refine lpure (v := .int .i64 (w64 (s16418.2 + 1))) rfl (p_add rfl) rfl rfl ?_
    refine lpure (v := .int .i64 (w64 (s16418.2 + 1))) rfl (p_move rfl) rfl rfl ?_
    refine lend ?_
    exact kbackM ih17480 ((s16418.1 ++ e17485), (w64 (s16418.2 + 1))) (a17494, (s16418.1.length + e17485.length), c17494, ob17494, blk17494) (sub_cons rfl (sub_cons rfl (sub_cons rfl (sub_cons rfl (sub_cons rfl (sub_cons rfl sub_nil)))))) ⟨X17494, O17494⟩
  refine dexit (eseq (eloop (xblock (nseq (dseq (dreg ?_))))))
  refine lpure (v := .slice a16420 n16420 c16420) rfl (p_move rfl) rfl rfl ?_
  refine lcall rfl rfl ca_52 rfl rfl (sort_ok (f := 52) rfl X17482 (s16418.1) O16420) rfl ?_
  rintro e17495 _ h17497 ⟨φ17499, blk17502, g17500, X17501, rfl, O17502⟩
  refine lend (nseq (dseq (dreg ?_)))
  refine lpure (v := .slice a16420 n16420 c16420) rfl (p_move rfl) rfl rfl ?_
  refine lcall rfl rfl ca_53 rfl rfl (compact_ok (f := 53) rfl X17501 e17495 O17502) rfl ?_
  rintro e17503 _ h17505 ⟨φ17507, a17510, n17510, c17510, ob17510, blk17510, g17508, X17509, rfl, O17510⟩
  refine lpure (v := .slice a17510 n17510 c17510) rfl (p_assign rfl) rfl rfl ?_
  refine lend (nseq (dseq (dreg ?_)))
  refine lpure (v := .bool true) rfl (p_assign rfl) rfl rfl ?_
  refine lend (nseq (dseq (dreg ?_)))
  refine lpure (v := .slice none 0 0) rfl (p_assign rfl) rfl rfl ?_
  refine lend (nseq (dseq (dseq (dreg ?_))))
  refine lpure (v := .slice a17510 n17510 c17510) rfl (p_move rfl) rfl rfl ?_
  refine lpure (v := .int .i64 (e17503.length : Int)) rfl (p_len rfl rfl rfl un_26 rfl) (OSl.len O17510) rfl ?_
  refine lpure (v := .int .i64 0) rfl (p_move rfl) rfl rfl ?_
  refine lend (nseq (dblock ?_))
  refine dloopM (τ := (List Int) × Bool × (List Int) × Int) (σ := Blk × Option Addr × Nat × Nat × Option Nat × Blk) (fun s17999 (blk18000, a18002, n18002, c18002, ob18002, blk18002) => [(1, .slice a14279 n14279 c14279), (8, .pointer (some ⟨b14289, 0, none⟩)), (9, .slice a17510 n17510 c17510), (12, .bool s17999.2.1), (13, .slice a18002 n18002 c18002), (43, .slice a17510 n17510 c17510), (44, .int .i64 (e17503.length : Int)), (45, .int .i64 s17999.2.2.2)]) (fun s17999 (blk18000, a18002, n18002, c18002, ob18002, blk18002) hh => St φ17507 lo hh ((ob18002, blk18002) :: (ob17510, blk18000) :: (some b14289, .cells [.int .i64 p14275.Nodes, .slice a14276 n14276 c14276, .slice a14277 n14277 c14277] 60 .exact) :: (some b14280, .cells [.int .i64 p14275.Nodes, .slice a14276 n14276 c14276, .slice a14277 n14277 c14277] 25 .exact) :: own) ∧ OSl (eInt .i64) φ17507 3 ob17510 blk18000 (.slice a17510 n17510 c17510) s17999.1 ∧ OSl (eInt .i64) φ17507 3 ob18002 blk18002 (.slice a18002 n18002 c18002) s17999.2.2.1) (e17503, true, [], 0) (blk17510, none, 0, 0, none, .dead) (sub_cons rfl (sub_cons rfl (sub_cons rfl (sub_cons rfl (sub_cons rfl (sub_cons rfl (sub_cons rfl (sub_cons rfl sub_nil)))))))) ⟨(St.pick X17509 (.none _ (.keep _ (.keep _ (.keep _ (.refl _)))))), O17510, OSl.nil⟩ ?_
  rintro n18272 ih18271 s17999 ⟨blk18000, a18002, n18002, c18002, ob18002, blk18002⟩ t0 h18274 ⟨X18273, O18000, O18002⟩
  refine dseq (dreg ?_)
  refine lpure (v := .bool (decide (s17999.2.2.2 < (e17503.length : Int)))) rfl (p_lt rfl) rfl rfl ?_
  refine lend (nseq (dseq ?_))
  refine dcond rfl rfl (fun k18275 => ?_) (fun k18275 => ?_)
  · refine dskip (nseq (dseq (dblock (dseq (dreg ?_)))))
    refine Sim.bindM fun e18276 he18277 => ?_
    obtain ⟨b18278, vs18278, m18278, off18278, cs18278, rfl, rfl, hp18278, hc18278, hR18278, hl18278, hm18278, hs18278⟩ := OSl.ia O18000 he18277 (kd := .i64) (n := 1) rfl
    have hR18278 : _ = [(.int .i64 e18276 : Value)] := hR18278
    subst hR18278
    refine lpure (v := .pointer (some ⟨b18278, off18278, none⟩)) rfl (p_ia rs_26 rfl) hp18278 rfl ?_
    refine lread (v := .int .i64 e18276) rfl (q_load wd_3 rfl) (St.ld X18273 (j := 1) rfl (rdE1 hc18278 (k := 0) rfl rfl)) rfl ?_
    refine lpure (v := .int .i64 e18276) rfl (p_assign rfl) rfl rfl ?_
    refine lend (nseq (dseq (dreg ?_)))
    refine lpure (v := .bool s17999.2.1) rfl (p_move rfl) rfl rfl ?_
    refine lpure (v := .bool s17999.2.1) rfl (p_move rfl) rfl rfl ?_
    refine ljoinM (τ := Bool) (σ := Unit) (fun s18297 (_ : Unit) => [(1, .slice a14279 n14279 c14279), (8, .pointer (some ⟨b14289, 0, none⟩)), (9, .slice a17510 n17510 c17510), (13, .slice a18002 n18002 c18002), (15, .int .i64 e18276), (43, .slice a17510 n17510 c17510), (44, .int .i64 (e17503.length : Int)), (45, .int .i64 s17999.2.2.2), (57, .bool s18297)]) (fun s18297 (_ : Unit) hh => St φ17507 lo hh ((ob18002, blk18002) :: (some b18278, .cells vs18278 3 m18278) :: (some b14289, .cells [.int .i64 p14275.Nodes, .slice a14276 n14276 c14276, .slice a14277 n14277 c14277] 60 .exact) :: (some b14280, .cells [.int .i64 p14275.Nodes, .slice a14276 n14276 c14276, .slice a14277 n14277 c14277] 25 .exact) :: own)) 7 ?_ ?_
    · rintro s18297 _ t0 h18299 X18298
      refine lpure (v := .bool s18297) rfl (p_assign rfl) rfl rfl ?_
      refine lend (nseq (dreg ?_))
      refine lpure (v := .slice a18002 n18002 c18002) rfl (p_move rfl) rfl rfl ?_
      refine lread (v := .agg #[.int .i64 p14275.Nodes, .slice a14276 n14276 c14276, .slice a14277 n14277 c14277]) rfl (q_load wd_60 rfl) (St.ld X18298 (j := 2) rfl rfl) rfl ?_
      refine lpure (v := .int .i64 e18276) rfl (p_move rfl) rfl rfl ?_
      refine linl rfl rfl rfl rfl ca_55 rfl Tryz.func55 rfl rfl rfl rfl rfl ?_
      refine dseq (dreg ?_)
      refine lbox rfl rfl rfl rfl rfl X18298 (fun b18300 h18302 X18303 => ?_)
      refine lpure (v := .int .i64 0) rfl (p_assign rfl) rfl rfl ?_
      refine lend (nseq (dseq (dreg ?_)))
      refine lpure (v := .pointer (some ⟨b18300, 0, none⟩)) rfl (p_fa fo_60_0 rfl) rfl rfl ?_
      refine lread (v := .agg #[.int .i64 p14275.Nodes, .slice a14276 n14276 c14276, .slice a14277 n14277 c14277]) rfl (q_load wd_25 rfl) (St.ld X18303 (j := 0) rfl rfl) rfl ?_
      refine lpure (v := .int .i64 e18276) rfl (p_move rfl) rfl rfl ?_
      refine lcall rfl rfl ca_79 rfl rfl (f79_ok X18303 p14275 e18276 (H14276.mono (g17500.trans g17508)) (H14277.mono (g17500.trans g17508))) rfl (fun e18304 v18305 h18306 hq18307 => ?_)
      cases hq18307
      refine lpure (v := .tuple #[.int .i64 e18304.1, .int .i64 e18304.2]) rfl (p_move rfl) rfl rfl ?_
      refine lpure (v := .int .i64 e18304.1) rfl (p_extract rfl) rfl rfl ?_
      refine lpure (v := .int .i64 e18304.2) rfl (p_extract rfl) rfl rfl ?_
      refine lpure (v := .int .i64 e18304.1) rfl (p_assign rfl) rfl rfl ?_
      refine lpure (v := .int .i64 e18304.2) rfl (p_assign rfl) rfl rfl ?_
      refine lend (nseq (dseq (dreg ?_)))
      refine lpure (v := .int .i64 e18304.1) rfl (p_move rfl) rfl rfl ?_
      refine lpure (v := .int .i64 e18304.1) rfl (p_assign rfl) rfl rfl ?_
      refine lend (nseq (dret ?_))
      refine kin_r (res_1 resT) ?_
      obtain ⟨h18308, b18308, hv18308, X18308, O18308⟩ := OSl.lay (E := (eInt .i64)) (φ := φ17507) (cs := [.int .i64 e18304.1]) (l := [e18304.1]) (len := 1) (parts := [(0, .int .i64 e18304.1)]) un_26 ts_3 rfl rfl rfl tz_3 rfl rfl (show RowD (eInt .i64) φ17507 [.int .i64 e18304.1] [e18304.1] from ⟨[.int .i64 e18304.1], _, rfl, rfl, rfl⟩) rfl rfl X18303
      refine lheap rfl (h_buildSlice rfl) hv18308 rfl ?_
      obtain ⟨ws18310, hw18310⟩ := OSl.read O18308 X18308 (k := 0) rfl (n := 1) rfl
      refine Sim.mustM fun k18310 => ?_
      obtain ⟨h18310, a18310, c18310, ob18310, blk18310, hv18310, X18310, O18310⟩ := OSl.append O18002 X18308 (j := 2) rfl hw18310 k18310 (ts := #[26, 26]) rfl un_26 (argOk_of ax_26_26) ts_3 rfl rfl tb_3 rfl tz_3 rfl
      refine lheap rfl (h_builtin rfl rfl) hv18310 rfl ?_
      refine lpure (v := .slice a18310 (s17999.2.2.1.length + ([e18304.1]).length) c18310) rfl (p_assign rfl) rfl rfl ?_
      refine lend (nblock (nseq (dreg ?_)))
      refine lpure (v := .int .i64 (w64 (s17999.2.2.2 + 1))) rfl (p_add rfl) rfl rfl ?_
      refine lpure (v := .int .i64 (w64 (s17999.2.2.2 + 1))) rfl (p_move rfl) rfl rfl ?_
      refine lend ?_
      exact kbackM ih18271 (s17999.1, s18297, (s17999.2.2.1 ++ ([e18304.1])), (w64 (s17999.2.2.2 + 1))) ((.cells vs18278 3 m18278), a18310, (s17999.2.2.1.length + ([e18304.1]).length), c18310, ob18310, blk18310) (sub_cons rfl (sub_cons rfl (sub_cons rfl (sub_cons rfl (sub_cons rfl (sub_cons rfl (sub_cons rfl (sub_cons rfl sub_nil)))))))) ⟨(St.pick X18310 (.skip _ (.skip _ (.keep _ (.keep _ (.keep _ (.keep _ (.refl _)))))))), O18000, O18310⟩
    intro j18311 J18312
    refine lif (i := 50) (show _ = Value.bool s17999.2.1 from rfl) (fun k18313 => ?_) (fun k18313 => ?_)
    · refine lpure (v := .slice a18002 n18002 c18002) rfl (p_move rfl) rfl rfl ?_
      refine lread (v := .agg #[.int .i64 p14275.Nodes, .slice a14276 n14276 c14276, .slice a14277 n14277 c14277]) rfl (q_load wd_60 rfl) (St.ld X18273 (j := 2) rfl rfl) rfl ?_
      refine lpure (v := .int .i64 e18276) rfl (p_move rfl) rfl rfl ?_
      refine linl rfl rfl rfl rfl ca_55 rfl Tryz.func55 rfl rfl rfl rfl rfl ?_
      refine dseq (dreg ?_)
      refine lbox rfl rfl rfl rfl rfl X18273 (fun b18314 h18316 X18317 => ?_)
      refine lpure (v := .int .i64 0) rfl (p_assign rfl) rfl rfl ?_
      refine lend (nseq (dseq (dreg ?_)))
      refine lpure (v := .pointer (some ⟨b18314, 0, none⟩)) rfl (p_fa fo_60_0 rfl) rfl rfl ?_
      refine lread (v := .agg #[.int .i64 p14275.Nodes, .slice a14276 n14276 c14276, .slice a14277 n14277 c14277]) rfl (q_load wd_25 rfl) (St.ld X18317 (j := 0) rfl rfl) rfl ?_
      refine lpure (v := .int .i64 e18276) rfl (p_move rfl) rfl rfl ?_
      refine lcall rfl rfl ca_79 rfl rfl (f79_ok X18317 p14275 e18276 (H14276.mono (g17500.trans g17508)) (H14277.mono (g17500.trans g17508))) rfl (fun e18318 v18319 h18320 hq18321 => ?_)
      cases hq18321
      refine lpure (v := .tuple #[.int .i64 e18318.1, .int .i64 e18318.2]) rfl (p_move rfl) rfl rfl ?_
      refine lpure (v := .int .i64 e18318.1) rfl (p_extract rfl) rfl rfl ?_
      refine lpure (v := .int .i64 e18318.2) rfl (p_extract rfl) rfl rfl ?_
      refine lpure (v := .int .i64 e18318.1) rfl (p_assign rfl) rfl rfl ?_
      refine lpure (v := .int .i64 e18318.2) rfl (p_assign rfl) rfl rfl ?_
      refine lend (nseq (dseq (dreg ?_)))
      refine lpure (v := .int .i64 e18318.1) rfl (p_move rfl) rfl rfl ?_
      refine lpure (v := .int .i64 e18318.1) rfl (p_assign rfl) rfl rfl ?_
      refine lend (nseq (dret ?_))
      refine kin_r (res_1 resT) ?_
      obtain ⟨φ18322, g18323, X18324, H18325⟩ := OSl.freeze X18317 (j := 1) rfl O18002
      refine lcall rfl rfl ca_54 rfl rfl (f54_ok X18324 (s17999.2.2.1) (e18318.1) H18325) rfl (fun e18326 v18327 h18328 hq18329 => ?_)
      cases hq18329
      refine lpure (v := .bool (!e18326)) rfl (p_not rfl) rfl rfl ?_
      refine lpure (v := .bool (!e18326)) rfl (p_pick rfl) rfl rfl ?_
      exact ljmpM J18312 (!e18326) () (sub_cons rfl (sub_cons rfl (sub_cons rfl (sub_cons rfl (sub_cons rfl (sub_cons rfl (sub_cons rfl (sub_cons rfl (sub_cons rfl sub_nil))))))))) (St.pick X18317 (.skip _ (.keep _ (.keep _ (.keep _ (.keep _ (.refl _)))))))
    refine lskip rfl rfl ?_
    refine lskip rfl rfl ?_
    refine lskip rfl rfl ?_
    refine lskip rfl rfl ?_
    refine lskip rfl rfl ?_
    refine lskip rfl rfl ?_
    refine lpure (v := .bool false) rfl (p_pick rfl) rfl rfl ?_
    exact ljmpM J18312 false () (sub_cons rfl (sub_cons rfl (sub_cons rfl (sub_cons rfl (sub_cons rfl (sub_cons rfl (sub_cons rfl (sub_cons rfl (sub_cons rfl sub_nil))))))))) X18273
  refine dexit (eseq (eloop (xblock (nseq (dseq (dseq (dreg ?_)))))))
  refine lpure (v := .slice a14279 n14279 c14279) rfl (p_move rfl) rfl rfl ?_
  refine lpure (v := .int .i64 (p14278.length : Int)) rfl (p_len rfl rfl rfl un_52 rfl) (RSl.lenC (H14279.mono (g17500.trans g17508))) rfl ?_
  refine lpure (v := .int .i64 0) rfl (p_move rfl) rfl rfl ?_
  refine lend (nseq (dblock ?_))
  refine dloopM (τ := Bool × Int) (σ := Unit) (fun s18434 (_ : Unit) => [(1, .slice a14279 n14279 c14279), (8, .pointer (some ⟨b14289, 0, none⟩)), (9, .slice a17510 n17510 c17510), (12, .bool s18434.1), (65, .slice a14279 n14279 c14279), (66, .int .i64 (p14278.length : Int)), (67, .int .i64 s18434.2)]) (fun s18434 (_ : Unit) hh => St φ17507 lo hh ((ob18002, blk18002) :: (ob17510, blk18000) :: (some b14289, .cells [.int .i64 p14275.Nodes, .slice a14276 n14276 c14276, .slice a14277 n14277 c14277] 60 .exact) :: (some b14280, .cells [.int .i64 p14275.Nodes, .slice a14276 n14276 c14276, .slice a14277 n14277 c14277] 25 .exact) :: own)) (s17999.2.1, 0) () (sub_cons rfl (sub_cons rfl (sub_cons rfl (sub_cons rfl (sub_cons rfl (sub_cons rfl (sub_cons rfl sub_nil))))))) X18273 ?_
  rintro n18488 ih18487 s18434 _ t0 h18490 X18489
  refine dseq (dreg ?_)
  refine lpure (v := .bool (decide (s18434.2 < (p14278.length : Int)))) rfl (p_lt rfl) rfl rfl ?_
  refine lend (nseq (dseq ?_))
  refine dcond rfl rfl (fun k18491 => ?_) (fun k18491 => ?_)
  · refine dskip (nseq (dseq (dblock (dseq (dreg ?_)))))
    refine Sim.bindM fun e18492 he18493 => ?_
    obtain ⟨p18495, cs18495, hp18495, hF18495, hR18495⟩ := RSl.ia (H14279.mono (g17500.trans g17508)) he18493 (kd := .i64) (n := 1) rfl
    obtain ⟨a18494, n18494, c18494, rfl, H18494⟩ := hR18495
    refine lpure (v := p18495) rfl (p_ia rs_52 rfl) hp18495 rfl ?_
    refine lread (v := .slice a18494 n18494 c18494) rfl (q_load wd_27 rfl) (FP.ld X18489 hF18495) rfl ?_
    refine lpure (v := .slice a18494 n18494 c18494) rfl (p_assign rfl) rfl rfl ?_
    refine lend (nseq ?_)
    refine ddraw 0 0 0 (by kernel_rfl) ?_
    refine spure (v := .bool s18434.1) rfl (p_move rfl) (lo_t rfl rfl) rfl rfl ?_
    refine spure (v := .bool s18434.1) rfl (p_move rfl) (lo_t rfl rfl) rfl rfl ?_
    refine sjoinM (τ := Bool) (σ := Unit) (fun s18516 (_ : Unit) => [(1, .slice a14279 n14279 c14279), (8, .pointer (some ⟨b14289, 0, none⟩)), (9, .slice a17510 n17510 c17510), (65, .slice a14279 n14279 c14279), (66, .int .i64 (p14278.length : Int)), (67, .int .i64 s18434.2), (86, .bool s18516)]) (fun s18516 (_ : Unit) hh => St φ17507 lo hh ((ob18002, blk18002) :: (ob17510, blk18000) :: (some b14289, .cells [.int .i64 p14275.Nodes, .slice a14276 n14276 c14276, .slice a14277 n14277 c14277] 60 .exact) :: (some b14280, .cells [.int .i64 p14275.Nodes, .slice a14276 n14276 c14276, .slice a14277 n14277 c14277] 25 .exact) :: own)) 14 16 ?_ ?_
    · rintro s18516 _ t0 h18518 X18517
      refine spure (v := .bool s18516) rfl (p_assign rfl) (lo_t rfl rfl) rfl rfl ?_
      refine send ?_
      refine nblock (nseq (dreg ?_))
      refine lpure (v := .int .i64 (w64 (s18434.2 + 1))) rfl (p_add rfl) rfl rfl ?_
      refine lpure (v := .int .i64 (w64 (s18434.2 + 1))) rfl (p_move rfl) rfl rfl ?_
      refine lend ?_
      exact kbackM ih18487 (s18516, (w64 (s18434.2 + 1))) () (sub_cons rfl (sub_cons rfl (sub_cons rfl (sub_cons rfl (sub_cons rfl (sub_cons rfl (sub_cons rfl sub_nil))))))) X18517
    intro j18519 J18520
    refine sif (j := 72) (show _ = Value.bool s18434.1 from rfl) (fun k18521 => ?_) (fun k18521 => ?_)
    · refine sload (v := .agg #[.int .i64 p14275.Nodes, .slice a14276 n14276 c14276, .slice a14277 n14277 c14277]) rfl rfl (q_load wd_60 rfl) (St.ld X18489 (j := 2) rfl rfl) (same_self 20 rfl) rfl ?_
      refine spure (v := .slice a18494 n18494 c18494) rfl (p_move rfl) (lo_t (lo_sl X18489 H18494) rfl) rfl rfl ?_
      refine Sim.bindM fun e18522 he18523 => ?_
      obtain ⟨p18524, cs18524, hp18524, hF18524, hR18524⟩ := RSl.ia H18494 he18523 (kd := .i64) (n := 1) rfl
      have hR18524 : _ = [(.int .i64 e18522 : Value)] := hR18524
      subst hR18524
      refine spure (v := p18524) rfl (p_ia rs_27 rfl) (lo_t (lo_sl X18489 H18494) (lo_c rfl)) hp18524 rfl ?_
      refine sload (v := .int .i64 e18522) rfl rfl (q_load wd_3 rfl) (FP.ld X18489 hF18524) (same_self 20 rfl) rfl ?_
      refine scall (en := fun d => (.int .i64 d)) rfl rfl ca_56 rfl rfl (f56_ok X18489 ((RouteWalk.mk p14275)) e18522 (H14276.mono (g17500.trans g17508)) (H14277.mono (g17500.trans g17508))) rfl (fun e18525 => ?_)
      refine sload (v := .agg #[.int .i64 p14275.Nodes, .slice a14276 n14276 c14276, .slice a14277 n14277 c14277]) rfl rfl (q_load wd_60 rfl) (St.ld X18489 (j := 2) rfl rfl) (same_self 20 rfl) rfl ?_
      refine spure (v := .slice a14279 n14279 c14279) rfl (p_move rfl) (lo_t (lo_sl X18489 (H14279.mono (g17500.trans g17508))) rfl) rfl rfl ?_
      refine Sim.bindM fun e18529 he18530 => ?_
      obtain ⟨p18532, cs18532, hp18532, hF18532, hR18532⟩ := RSl.ia (H14279.mono (g17500.trans g17508)) he18530 (kd := .i64) (n := 1) rfl
      obtain ⟨a18531, n18531, c18531, rfl, H18531⟩ := hR18532
      refine spure (v := p18532) rfl (p_ia rs_52 rfl) (lo_t (lo_sl X18489 (H14279.mono (g17500.trans g17508))) (lo_c rfl)) hp18532 rfl ?_
      refine sload (v := .slice a18531 n18531 c18531) rfl rfl (q_load wd_27 rfl) (FP.ld X18489 hF18532) (same_self 20 rfl) rfl ?_
      refine Sim.bindM fun e18533 he18534 => ?_
      obtain ⟨p18535, cs18535, hp18535, hF18535, hR18535⟩ := RSl.ia H18531 he18534 (kd := .i64) (n := 1) rfl
      have hR18535 : _ = [(.int .i64 e18533 : Value)] := hR18535
      subst hR18535
      refine spure (v := p18535) rfl (p_ia rs_27 rfl) (lo_t (lo_sl X18489 H18531) (lo_c rfl)) hp18535 rfl ?_
      refine sload (v := .int .i64 e18533) rfl rfl (q_load wd_3 rfl) (FP.ld X18489 hF18535) (same_self 20 rfl) rfl ?_
      refine scall (en := fun d => (.int .i64 d)) rfl rfl ca_56 rfl rfl (f56_ok X18489 ((RouteWalk.mk p14275)) e18533 (H14276.mono (g17500.trans g17508)) (H14277.mono (g17500.trans g17508))) rfl (fun e18536 => ?_)
      refine spure (v := .bool (decide (e18525 = e18536))) rfl (p_eq rfl) (lo_t rfl (lo_t rfl rfl)) rfl rfl ?_
      refine spure (v := .bool (decide (e18525 = e18536))) rfl (p_pick rfl) (lo_t rfl (lo_t rfl (lo_c rfl))) rfl rfl ?_
      exact sjmpM J18520 (decide (e18525 = e18536)) () (sub_cons rfl (sub_cons rfl (sub_cons rfl (sub_cons rfl (sub_cons rfl (sub_cons rfl (sub_cons rfl sub_nil))))))) X18489
    refine sskip rfl rfl ?_
    refine sskip rfl rfl ?_
    refine sskip rfl rfl ?_
    refine sskip rfl rfl ?_
    refine sskip rfl rfl ?_
    refine sskip rfl rfl ?_
    refine sskip rfl rfl ?_
    refine sskip rfl rfl ?_
    refine sskip rfl rfl ?_
    refine sskip rfl rfl ?_
    refine sskip rfl rfl ?_
    refine sskip rfl rfl ?_
    refine sskip rfl rfl ?_
    refine spure (v := .bool false) rfl (p_pick rfl) (lo_t rfl (lo_t rfl (lo_c rfl))) rfl rfl ?_
    exact sjmpM J18520 false () (sub_cons rfl (sub_cons rfl (sub_cons rfl (sub_cons rfl (sub_cons rfl (sub_cons rfl (sub_cons rfl sub_nil))))))) X18489
  refine dexit (eseq (eloop (xblock (nseq (dseq (dreg ?_))))))
  refine lpure (v := .slice a17510 n17510 c17510) rfl (p_move rfl) rfl rfl ?_
  refine lpure (v := .bool s18434.1) rfl (p_move rfl) rfl rfl ?_
  refine lpure (v := .slice a17510 n17510 c17510) rfl (p_assign rfl) rfl rfl ?_
  refine lpure (v := .bool s18434.1) rfl (p_assign rfl) rfl rfl ?_
  refine lpure (v := .int .i64 0) rfl (p_assign rfl) rfl rfl ?_
  refine lend (nseq (dret ?_))
  exact kopen_r (res_3 resT resT resT) ⟨φ17507, a17510, n17510, c17510, ob17510, blk18000, (g17500.trans g17508), St.pick (St.front X18489 (j := 1) rfl) (.keep _ (.skip _ (.skip _ (.skip _ (.refl _))))), rfl, O18000⟩
/-! slices.Equal[[]int,int] -/
theorem f17_ok {n : Nat} {φ : Fz} {lo : Nat} {h : Heap} {own : OwnL}  {a18584 : Option Addr} {n18584 c18584 : Nat} {a18586 : Option Addr} {n18586 c18586 : Nat} (X : St φ lo h (own)) (p18583 : (List Int)) (p18585 : (List Int)) (H18584 : RSl (eInt .i64) φ (.slice a18584 n18584 c18584) p18583) (H18586 : RSl (eInt .i64) φ (.slice a18586 n18586 c18586) p18585) : Sim ((recN Tryz.prog LL cutF (n + 1)).call 17 #[(.slice a18584 n18584 c18584), (.slice a18586 n18586 c18586)] h) (m_slices_Equal_int_int p18583 p18585) (fun (d : Bool) p => p = (.bool d, h)) := by
  refine fcut Tryz.func17 rfl rfl rfl rfl X ?_
  intro h0 X0
  refine dseq (dreg ?_)
  refine lpure (v := .bool false) rfl (p_assign rfl) rfl rfl ?_
  refine lend (nseq (dseq (dseq (dreg ?_))))
  refine lpure (v := .slice a18584 n18584 c18584) rfl (p_move rfl) rfl rfl ?_
  refine lpure (v := .int .i64 (p18583.length : Int)) rfl (p_len rfl rfl rfl un_26 rfl) (RSl.lenC H18584) rfl ?_
  refine lpure (v := .slice a18586 n18586 c18586) rfl (p_move rfl) rfl rfl ?_
  refine lpure (v := .int .i64 (p18585.length : Int)) rfl (p_len rfl rfl rfl un_26 rfl) (RSl.lenC H18586) rfl ?_
  refine lpure (v := .bool (decide ((p18583.length : Int) ≠ (p18585.length : Int)))) rfl (p_ne rfl) rfl rfl ?_
  refine lend (nseq ?_)
  refine dcond rfl rfl (fun k18587 => ?_) (fun k18587 => ?_)
  · refine dseq (dreg ?_)
    refine lpure (v := .bool false) rfl (p_assign rfl) rfl rfl ?_
    refine lend (nseq (dret (rseq ?_)))
    exact kcut_r (res_1 resT) X0 rfl rfl
  refine dskip (nseq (dseq (dseq (dreg ?_))))
  refine lpure (v := .slice a18584 n18584 c18584) rfl (p_move rfl) rfl rfl ?_
  refine lpure (v := .int .i64 (p18583.length : Int)) rfl (p_len rfl rfl rfl un_26 rfl) (RSl.lenC H18584) rfl ?_
  refine lpure (v := .int .i64 0) rfl (p_move rfl) rfl rfl ?_
  refine lend (nseq (dblock ?_))
  refine dloopM (τ := Int) (σ := Unit) (fun s18610 (_ : Unit) => [(0, .slice a18584 n18584 c18584), (1, .slice a18586 n18586 c18586), (12, .int .i64 (p18583.length : Int)), (13, .int .i64 s18610)]) (fun s18610 (_ : Unit) hh => St φ h.n hh ([])) 0 () (sub_cons rfl (sub_cons rfl (sub_cons rfl (sub_cons rfl sub_nil)))) X0 ?_
  rintro n18623 ih18622 s18610 _ t0 h18625 X18624
  refine dseq (dreg ?_)
  refine lpure (v := .bool (decide (s18610 < (p18583.length : Int)))) rfl (p_lt rfl) rfl rfl ?_
  refine lend (nseq (dseq ?_))
  refine dcond rfl rfl (fun k18626 => ?_) (fun k18626 => ?_)
  · refine dskip (nseq (dseq (dblock (dseq (dreg ?_)))))
    refine lpure (v := .int .i64 s18610) rfl (p_move rfl) rfl rfl ?_
    refine lpure (v := .int .i64 s18610) rfl (p_assign rfl) rfl rfl ?_
    refine lend (nseq (dseq ?_))
    refine ddraw 0 0 0 (by kernel_rfl) ?_
    refine spure (v := .slice a18584 n18584 c18584) rfl (p_move rfl) (lo_t (lo_sl X18624 H18584) rfl) rfl rfl ?_
    refine spure (v := .int .i64 s18610) rfl (p_move rfl) (lo_t rfl rfl) rfl rfl ?_
    refine Sim.bindM fun e18627 he18628 => ?_
    obtain ⟨p18629, cs18629, hp18629, hF18629, hR18629⟩ := RSl.ia H18584 he18628 (kd := .i64) (n := 1) rfl
    have hR18629 : _ = [(.int .i64 e18627 : Value)] := hR18629
    subst hR18629
    refine spure (v := p18629) rfl (p_ia rs_26 rfl) (lo_t (lo_sl X18624 H18584) (lo_t rfl rfl)) hp18629 rfl ?_
    refine sload (v := .int .i64 e18627) rfl rfl (q_load wd_3 rfl) (FP.ld X18624 hF18629) (same_self 20 rfl) rfl ?_
    refine spure (v := .slice a18586 n18586 c18586) rfl (p_move rfl) (lo_t (lo_sl X18624 H18586) rfl) rfl rfl ?_
    refine spure (v := .int .i64 s18610) rfl (p_move rfl) (lo_t rfl rfl) rfl rfl ?_
    refine Sim.bindM fun e18630 he18631 => ?_
    obtain ⟨p18632, cs18632, hp18632, hF18632, hR18632⟩ := RSl.ia H18586 he18631 (kd := .i64) (n := 1) rfl
    have hR18632 : _ = [(.int .i64 e18630 : Value)] := hR18632
    subst hR18632
    refine spure (v := p18632) rfl (p_ia rs_26 rfl) (lo_t (lo_sl X18624 H18586) (lo_t rfl rfl)) hp18632 rfl ?_
    refine sload (v := .int .i64 e18630) rfl rfl (q_load wd_3 rfl) (FP.ld X18624 hF18632) (same_self 20 rfl) rfl ?_
    refine spure (v := .bool (decide (e18627 ≠ e18630))) rfl (p_ne rfl) (lo_t rfl (lo_t rfl rfl)) rfl rfl ?_
    refine send ?_
    refine nseq ?_
    refine dcond rfl rfl (fun k18633 => ?_) (fun k18633 => ?_)
    · refine dseq (dreg ?_)
      refine lpure (v := .bool false) rfl (p_assign rfl) rfl rfl ?_
      refine lend (nseq (dret (rblock (rseq (rloop (rblock (rseq ?_)))))))
      exact kcut_r (res_1 resT) X18624 rfl rfl
    refine dskip (nblock (nseq (dreg ?_)))
    refine lpure (v := .int .i64 (w64 (s18610 + 1))) rfl (p_add rfl) rfl rfl ?_
    refine lpure (v := .int .i64 (w64 (s18610 + 1))) rfl (p_move rfl) rfl rfl ?_
    refine lend ?_
    exact kbackM ih18622 (w64 (s18610 + 1)) () (sub_cons rfl (sub_cons rfl (sub_cons rfl (sub_cons rfl sub_nil)))) X18624
  refine dexit (eseq (eloop (xblock (nseq (dseq (dreg ?_))))))
  refine lpure (v := .bool true) rfl (p_assign rfl) rfl rfl ?_
  refine lend (nseq (dret ?_))
  exact kcut_r (res_1 resT) X18624 rfl rfl
/-! slices.Equal[isochron/api.Route,int] -/
theorem f19_ok {n : Nat} {φ : Fz} {lo : Nat} {h : Heap} {own : OwnL}  {a18670 : Option Addr} {n18670 c18670 : Nat} {a18672 : Option Addr} {n18672 c18672 : Nat} (X : St φ lo h (own)) (p18669 : (List Int)) (p18671 : (List Int)) (H18670 : RSl (eInt .i64) φ (.slice a18670 n18670 c18670) p18669) (H18672 : RSl (eInt .i64) φ (.slice a18672 n18672 c18672) p18671) : Sim ((recN Tryz.prog LL cutF (n + 1)).call 19 #[(.slice a18670 n18670 c18670), (.slice a18672 n18672 c18672)] h) (m_slices_Equal_api_Route_int p18669 p18671) (fun (d : Bool) p => p = (.bool d, h)) := by
  refine fcut Tryz.func19 rfl rfl rfl rfl X ?_
  intro h0 X0
  refine dseq (dreg ?_)
  refine lpure (v := .bool false) rfl (p_assign rfl) rfl rfl ?_
  refine lend (nseq (dseq (dseq (dreg ?_))))
  refine lpure (v := .slice a18670 n18670 c18670) rfl (p_move rfl) rfl rfl ?_
  refine lpure (v := .int .i64 (p18669.length : Int)) rfl (p_len rfl rfl rfl un_27 rfl) (RSl.lenC H18670) rfl ?_
  refine lpure (v := .slice a18672 n18672 c18672) rfl (p_move rfl) rfl rfl ?_
  refine lpure (v := .int .i64 (p18671.length : Int)) rfl (p_len rfl rfl rfl un_27 rfl) (RSl.lenC H18672) rfl ?_
  refine lpure (v := .bool (decide ((p18669.length : Int) ≠ (p18671.length : Int)))) rfl (p_ne rfl) rfl rfl ?_
  refine lend (nseq ?_)
  refine dcond rfl rfl (fun k18673 => ?_) (fun k18673 => ?_)
  · refine dseq (dreg ?_)
    refine lpure (v := .bool false) rfl (p_assign rfl) rfl rfl ?_
    refine lend (nseq (dret (rseq ?_)))
    exact kcut_r (res_1 resT) X0 rfl rfl
  refine dskip (nseq (dseq (dseq (dreg ?_))))
  refine lpure (v := .slice a18670 n18670 c18670) rfl (p_move rfl) rfl rfl ?_
  refine lpure (v := .int .i64 (p18669.length : Int)) rfl (p_len rfl rfl rfl un_27 rfl) (RSl.lenC H18670) rfl ?_
  refine lpure (v := .int .i64 0) rfl (p_move rfl) rfl rfl ?_
  refine lend (nseq (dblock ?_))
  refine dloopM (τ := Int) (σ := Unit) (fun s18696 (_ : Unit) => [(0, .slice a18670 n18670 c18670), (1, .slice a18672 n18672 c18672), (12, .int .i64 (p18669.length : Int)), (13, .int .i64 s18696)]) (fun s18696 (_ : Unit) hh => St φ h.n hh ([])) 0 () (sub_cons rfl (sub_cons rfl (sub_cons rfl (sub_cons rfl sub_nil)))) X0 ?_
  rintro n18709 ih18708 s18696 _ t0 h18711 X18710
  refine dseq (dreg ?_)
  refine lpure (v := .bool (decide (s18696 < (p18669.length : Int)))) rfl (p_lt rfl) rfl rfl ?_
  refine lend (nseq (dseq ?_))
  refine dcond rfl rfl (fun k18712 => ?_) (fun k18712 => ?_)
  · refine dskip (nseq (dseq (dblock (dseq (dreg ?_)))))
    refine lpure (v := .int .i64 s18696) rfl (p_move rfl) rfl rfl ?_
    refine lpure (v := .int .i64 s18696) rfl (p_assign rfl) rfl rfl ?_
    refine lend (nseq (dseq ?_))
    refine ddraw 0 0 0 (by kernel_rfl) ?_
    refine spure (v := .slice a18670 n18670 c18670) rfl (p_move rfl) (lo_t (lo_sl X18710 H18670) rfl) rfl rfl ?_
    refine spure (v := .int .i64 s18696) rfl (p_move rfl) (lo_t rfl rfl) rfl rfl ?_
    refine Sim.bindM fun e18713 he18714 => ?_
    obtain ⟨p18715, cs18715, hp18715, hF18715, hR18715⟩ := RSl.ia H18670 he18714 (kd := .i64) (n := 1) rfl
    have hR18715 : _ = [(.int .i64 e18713 : Value)] := hR18715
    subst hR18715
    refine spure (v := p18715) rfl (p_ia rs_27 rfl) (lo_t (lo_sl X18710 H18670) (lo_t rfl rfl)) hp18715 rfl ?_
    refine sload (v := .int .i64 e18713) rfl rfl (q_load wd_3 rfl) (FP.ld X18710 hF18715) (same_self 20 rfl) rfl ?_
    refine spure (v := .slice a18672 n18672 c18672) rfl (p_move rfl) (lo_t (lo_sl X18710 H18672) rfl) rfl rfl ?_
    refine spure (v := .int .i64 s18696) rfl (p_move rfl) (lo_t rfl rfl) rfl rfl ?_
    refine Sim.bindM fun e18716 he18717 => ?_
    obtain ⟨p18718, cs18718, hp18718, hF18718, hR18718⟩ := RSl.ia H18672 he18717 (kd := .i64) (n := 1) rfl
    have hR18718 : _ = [(.int .i64 e18716 : Value)] := hR18718
    subst hR18718
    refine spure (v := p18718) rfl (p_ia rs_27 rfl) (lo_t (lo_sl X18710 H18672) (lo_t rfl rfl)) hp18718 rfl ?_
    refine sload (v := .int .i64 e18716) rfl rfl (q_load wd_3 rfl) (FP.ld X18710 hF18718) (same_self 20 rfl) rfl ?_
    refine spure (v := .bool (decide (e18713 ≠ e18716))) rfl (p_ne rfl) (lo_t rfl (lo_t rfl rfl)) rfl rfl ?_
    refine send ?_
    refine nseq ?_
    refine dcond rfl rfl (fun k18719 => ?_) (fun k18719 => ?_)
    · refine dseq (dreg ?_)
      refine lpure (v := .bool false) rfl (p_assign rfl) rfl rfl ?_
      refine lend (nseq (dret (rblock (rseq (rloop (rblock (rseq ?_)))))))
      exact kcut_r (res_1 resT) X18710 rfl rfl
    refine dskip (nblock (nseq (dreg ?_)))
    refine lpure (v := .int .i64 (w64 (s18696 + 1))) rfl (p_add rfl) rfl rfl ?_
    refine lpure (v := .int .i64 (w64 (s18696 + 1))) rfl (p_move rfl) rfl rfl ?_
    refine lend ?_
    exact kbackM ih18708 (w64 (s18696 + 1)) () (sub_cons rfl (sub_cons rfl (sub_cons rfl (sub_cons rfl sub_nil)))) X18710
  refine dexit (eseq (eloop (xblock (nseq (dseq (dreg ?_))))))
  refine lpure (v := .bool true) rfl (p_assign rfl) rfl rfl ?_
  refine lend (nseq (dret ?_))
  exact kcut_r (res_1 resT) X18710 rfl rfl
/-! isochron/isochronlaw21.wakes -/
theorem f6_ok {n : Nat} {φ : Fz} {lo : Nat} {h : Heap} {own : OwnL}  (X : St φ lo h (own)) : Sim ((recN Tryz.prog LL cutF (n + 18)).call 6 #[] h) (m_isochronlaw21_wakes) (fun (d : Bool) p => p = (.bool d, h)) := by
  refine fcut Tryz.func6 rfl rfl rfl rfl X ?_
  intro h0 X0
  refine dseq (dreg ?_)
  refine lpure (v := .bool false) rfl (p_assign rfl) rfl rfl ?_
  refine lend (nseq (dseq (dreg ?_)))
  refine lcall rfl rfl ca_27 rfl rfl (f27_ok X0) rfl ?_
  rintro e35 _ h37 ⟨φ39, a42, n42, c42, ob42, blk42, a44, n44, c44, ob44, blk44, g40, X41, rfl, O42, O44⟩
  refine lalloc rfl tz_25 rfl rfl rfl X41 (fun b46 h48 X49 => ?_)
  refine lstore rfl ts_25 rfl rfl (j := 0) rfl rfl rfl rfl rfl rfl X49 (fun h50 X51 => ?_)
  refine lend (nseq (dseq (dreg ?_)))
  refine lread (v := .agg #[.int .i64 e35.Nodes, .slice a42 n42 c42, .slice a44 n44 c44]) rfl (q_load wd_25 rfl) (St.ld X51 (j := 0) rfl rfl) rfl ?_
  obtain ⟨h52, b52, hv52, X52, O52⟩ := OSl.lay (E := (eInt .i64)) (φ := φ39) (cs := [.int .i64 0, .int .i64 2, .int .i64 4]) (l := [0, 2, 4]) (len := 3) (parts := [(0, .int .i64 0), (1, .int .i64 2), (2, .int .i64 4)]) un_27 ts_3 rfl rfl rfl tz_3 rfl rfl (show RowD (eInt .i64) φ39 [.int .i64 0, .int .i64 2, .int .i64 4] [0, 2, 4] from ⟨[.int .i64 0], _, rfl, rfl, ⟨[.int .i64 2], _, rfl, rfl, ⟨[.int .i64 4], _, rfl, rfl, rfl⟩⟩⟩) rfl rfl X51
  refine lheap rfl (h_buildSlice rfl) hv52 rfl ?_
  obtain ⟨φ7890, g7891, X7892, H7893⟩ := OSl.freeze X52 (j := 2) rfl O42
  obtain ⟨φ7894, g7895, X7896, H7897⟩ := OSl.freeze X7892 (j := 3) rfl (O44.mono g7891)
  obtain ⟨φ7898, g7899, X7900, H7901⟩ := OSl.freeze X7896 (j := 0) rfl (O52.mono (g7891.trans g7895))
  refine lcall rfl rfl ca_9 rfl rfl (f9_ok X7900 e35 ([0, 2, 4]) (H7893.mono (g7895.trans g7899)) (H7897.mono g7899) H7901) rfl ?_
  rintro e7902 _ h7904 ⟨φ7906, a7909, n7909, c7909, ob7909, blk7909, g7907, X7908, rfl, O7909⟩
  refine lpure (v := .tuple #[.slice a7909 n7909 c7909, .int .i64 e7902.2]) rfl (p_move rfl) rfl rfl ?_
  refine lpure (v := .slice a7909 n7909 c7909) rfl (p_extract rfl) rfl rfl ?_
  refine lpure (v := .int .i64 e7902.2) rfl (p_extract rfl) rfl rfl ?_
  refine lpure (v := .slice a7909 n7909 c7909) rfl (p_assign rfl) rfl rfl ?_
  refine lpure (v := .int .i64 e7902.2) rfl (p_assign rfl) rfl rfl ?_
  refine lend (nseq (dseq (dreg ?_)))
  refine lread (v := .agg #[.int .i64 e35.Nodes, .slice a42 n42 c42, .slice a44 n44 c44]) rfl (q_load wd_25 rfl) (St.ld X7908 (j := 2) rfl rfl) rfl ?_
  obtain ⟨h7911, b7911, hv7911, X7911, O7911⟩ := OSl.lay (E := (eInt .i64)) (φ := φ7906) (cs := [.int .i64 2, .int .i64 4]) (l := [2, 4]) (len := 2) (parts := [(0, .int .i64 2), (1, .int .i64 4)]) un_27 ts_3 rfl rfl rfl tz_3 rfl rfl (show RowD (eInt .i64) φ7906 [.int .i64 2, .int .i64 4] [2, 4] from ⟨[.int .i64 2], _, rfl, rfl, ⟨[.int .i64 4], _, rfl, rfl, rfl⟩⟩) rfl rfl X7908
  refine lheap rfl (h_buildSlice rfl) hv7911 rfl ?_
  obtain ⟨φ7938, g7939, X7940, H7941⟩ := OSl.freeze X7911 (j := 0) rfl O7911
  refine lcall rfl rfl ca_10 rfl rfl (f10_ok X7940 e35 ([2, 4]) (H7893.mono (((g7895.trans g7899).trans g7907).trans g7939)) (H7897.mono ((g7899.trans g7907).trans g7939)) H7941) rfl (fun e7942 v7943 h7944 hq7945 => ?_)
  cases hq7945
  refine lpure (v := .tuple #[.int .i64 e7942.1, .int .i64 e7942.2.1, .int .i64 e7942.2.2]) rfl (p_move rfl) rfl rfl ?_
  refine lpure (v := .int .i64 e7942.1) rfl (p_extract rfl) rfl rfl ?_
  refine lpure (v := .int .i64 e7942.2.1) rfl (p_extract rfl) rfl rfl ?_
  refine lpure (v := .int .i64 e7942.2.2) rfl (p_extract rfl) rfl rfl ?_
  refine lpure (v := .int .i64 e7942.1) rfl (p_assign rfl) rfl rfl ?_
  refine lpure (v := .int .i64 e7942.2.1) rfl (p_assign rfl) rfl rfl ?_
  refine lpure (v := .int .i64 e7942.2.2) rfl (p_assign rfl) rfl rfl ?_
  refine lend (nseq (dseq (dreg ?_)))
  refine lread (v := .agg #[.int .i64 e35.Nodes, .slice a42 n42 c42, .slice a44 n44 c44]) rfl (q_load wd_25 rfl) (St.ld X7911 (j := 3) rfl rfl) rfl ?_
  obtain ⟨h7946, b7946, hv7946, X7946, O7946⟩ := OSl.lay (E := (eInt .i64)) (φ := φ7906) (cs := [.int .i64 0, .int .i64 2, .int .i64 4]) (l := [0, 2, 4]) (len := 3) (parts := [(0, .int .i64 0), (1, .int .i64 2), (2, .int .i64 4)]) un_27 ts_3 rfl rfl rfl tz_3 rfl rfl (show RowD (eInt .i64) φ7906 [.int .i64 0, .int .i64 2, .int .i64 4] [0, 2, 4] from ⟨[.int .i64 0], _, rfl, rfl, ⟨[.int .i64 2], _, rfl, rfl, ⟨[.int .i64 4], _, rfl, rfl, rfl⟩⟩⟩) rfl rfl X7911
  refine lheap rfl (h_buildSlice rfl) hv7946 rfl ?_
  obtain ⟨φ8045, g8046, X8047, H8048⟩ := OSl.freeze X7946 (j := 0) rfl O7946
  refine lcall rfl rfl ca_11 rfl rfl (f11_ok X8047 e35 ([0, 2, 4]) (H7893.mono (((g7895.trans g7899).trans g7907).trans g8046)) (H7897.mono ((g7899.trans g7907).trans g8046)) H8048) rfl (fun e8049 v8050 h8051 hq8052 => ?_)
  cases hq8052
  refine lpure (v := .tuple #[.int .i64 e8049.1, .int .i64 e8049.2]) rfl (p_move rfl) rfl rfl ?_
  refine lpure (v := .int .i64 e8049.1) rfl (p_extract rfl) rfl rfl ?_
  refine lpure (v := .int .i64 e8049.2) rfl (p_extract rfl) rfl rfl ?_
  refine lpure (v := .int .i64 e8049.1) rfl (p_assign rfl) rfl rfl ?_
  refine lpure (v := .int .i64 e8049.2) rfl (p_assign rfl) rfl rfl ?_
  refine lend (nseq (dseq (dreg ?_)))
  refine lread (v := .agg #[.int .i64 e35.Nodes, .slice a42 n42 c42, .slice a44 n44 c44]) rfl (q_load wd_25 rfl) (St.ld X7946 (j := 4) rfl rfl) rfl ?_
  obtain ⟨h8053, b8053, hv8053, X8053, O8053⟩ := OSl.lay (E := (eInt .i64)) (φ := φ7906) (cs := [.int .i64 0, .int .i64 2, .int .i64 4]) (l := [0, 2, 4]) (len := 3) (parts := [(0, .int .i64 0), (1, .int .i64 2), (2, .int .i64 4)]) un_27 ts_3 rfl rfl rfl tz_3 rfl rfl (show RowD (eInt .i64) φ7906 [.int .i64 0, .int .i64 2, .int .i64 4] [0, 2, 4] from ⟨[.int .i64 0], _, rfl, rfl, ⟨[.int .i64 2], _, rfl, rfl, ⟨[.int .i64 4], _, rfl, rfl, rfl⟩⟩⟩) rfl rfl X7946
  refine lheap rfl (h_buildSlice rfl) hv8053 rfl ?_
  obtain ⟨φ8165, g8166, X8167, H8168⟩ := OSl.freeze X8053 (j := 0) rfl O8053
  refine lcall rfl rfl ca_12 rfl rfl (f12_ok X8167 e35 ([0, 2, 4]) 100 (H7893.mono (((g7895.trans g7899).trans g7907).trans g8166)) (H7897.mono ((g7899.trans g7907).trans g8166)) H8168) rfl (fun e8169 v8170 h8171 hq8172 => ?_)
  cases hq8172
  refine lpure (v := .tuple #[.int .i64 e8169.1, .int .i64 e8169.2]) rfl (p_move rfl) rfl rfl ?_
  refine lpure (v := .int .i64 e8169.1) rfl (p_extract rfl) rfl rfl ?_
  refine lpure (v := .int .i64 e8169.2) rfl (p_extract rfl) rfl rfl ?_
  refine lpure (v := .int .i64 e8169.1) rfl (p_assign rfl) rfl rfl ?_
  refine lpure (v := .int .i64 e8169.2) rfl (p_assign rfl) rfl rfl ?_
  refine lend (nseq (dseq (dreg ?_)))
  refine lread (v := .agg #[.int .i64 e35.Nodes, .slice a42 n42 c42, .slice a44 n44 c44]) rfl (q_load wd_25 rfl) (St.ld X8053 (j := 5) rfl rfl) rfl ?_
  obtain ⟨h8173, b8173, hv8173, X8173, O8173⟩ := OSl.lay (E := (eInt .i64)) (φ := φ7906) (cs := [.int .i64 0, .int .i64 2, .int .i64 4]) (l := [0, 2, 4]) (len := 3) (parts := [(0, .int .i64 0), (1, .int .i64 2), (2, .int .i64 4)]) un_27 ts_3 rfl rfl rfl tz_3 rfl rfl (show RowD (eInt .i64) φ7906 [.int .i64 0, .int .i64 2, .int .i64 4] [0, 2, 4] from ⟨[.int .i64 0], _, rfl, rfl, ⟨[.int .i64 2], _, rfl, rfl, ⟨[.int .i64 4], _, rfl, rfl, rfl⟩⟩⟩) rfl rfl X8053
  refine lheap rfl (h_buildSlice rfl) hv8173 rfl ?_
  obtain ⟨φ8429, g8430, X8431, H8432⟩ := OSl.freeze X8173 (j := 0) rfl O8173
  refine lcall rfl rfl ca_13 rfl rfl (f13_ok X8431 e35 ([0, 2, 4]) (H7893.mono (((g7895.trans g7899).trans g7907).trans g8430)) (H7897.mono ((g7899.trans g7907).trans g8430)) H8432) rfl ?_
  rintro e8433 _ h8435 ⟨φ8437, a8440, n8440, c8440, ob8440, blk8440, g8438, X8439, rfl, O8440⟩
  refine lpure (v := .tuple #[.slice a8440 n8440 c8440, .int .i64 e8433.2]) rfl (p_move rfl) rfl rfl ?_
  refine lpure (v := .slice a8440 n8440 c8440) rfl (p_extract rfl) rfl rfl ?_
  refine lpure (v := .int .i64 e8433.2) rfl (p_extract rfl) rfl rfl ?_
  refine lpure (v := .slice a8440 n8440 c8440) rfl (p_assign rfl) rfl rfl ?_
  refine lpure (v := .int .i64 e8433.2) rfl (p_assign rfl) rfl rfl ?_
  refine lend (nseq (dseq (dreg ?_)))
  refine lread (v := .agg #[.int .i64 e35.Nodes, .slice a42 n42 c42, .slice a44 n44 c44]) rfl (q_load wd_25 rfl) (St.ld X8439 (j := 7) rfl rfl) rfl ?_
  obtain ⟨h8442, b8442, hv8442, X8442, O8442⟩ := OSl.lay (E := (eInt .i64)) (φ := φ8437) (cs := [.int .i64 0]) (l := [0]) (len := 1) (parts := [(0, .int .i64 0)]) un_27 ts_3 rfl rfl rfl tz_3 rfl rfl (show RowD (eInt .i64) φ8437 [.int .i64 0] [0] from ⟨[.int .i64 0], _, rfl, rfl, rfl⟩) rfl rfl X8439
  refine lheap rfl (h_buildSlice rfl) hv8442 rfl ?_
  obtain ⟨h8444, b8444, hv8444, X8444, O8444⟩ := OSl.lay (E := (eInt .i64)) (φ := φ8437) (cs := [.int .i64 2, .int .i64 4]) (l := [2, 4]) (len := 2) (parts := [(0, .int .i64 2), (1, .int .i64 4)]) un_27 ts_3 rfl rfl rfl tz_3 rfl rfl (show RowD (eInt .i64) φ8437 [.int .i64 2, .int .i64 4] [2, 4] from ⟨[.int .i64 2], _, rfl, rfl, ⟨[.int .i64 4], _, rfl, rfl, rfl⟩⟩) rfl rfl X8442
  refine lheap rfl (h_buildSlice rfl) hv8444 rfl ?_
  obtain ⟨φ9972, g9973, X9974, H9975⟩ := OSl.freeze X8444 (j := 1) rfl O8442
  obtain ⟨φ9976, g9977, X9978, H9979⟩ := OSl.freeze X9974 (j := 0) rfl (O8444.mono g9973)
  refine lcall rfl rfl ca_22 rfl rfl (f22_ok X9978 e35 ([0]) ([2, 4]) (H7893.mono ((((((g7895.trans g7899).trans g7907).trans g8430).trans g8438).trans g9973).trans g9977)) (H7897.mono (((((g7899.trans g7907).trans g8430).trans g8438).trans g9973).trans g9977)) (H9975.mono g9977) H9979) rfl (fun e9980 v9981 h9982 hq9983 => ?_)
  cases hq9983
  refine lpure (v := .tuple #[.bool e9980.1, .int .i64 e9980.2]) rfl (p_move rfl) rfl rfl ?_
  refine lpure (v := .bool e9980.1) rfl (p_extract rfl) rfl rfl ?_
  refine lpure (v := .int .i64 e9980.2) rfl (p_extract rfl) rfl rfl ?_
  refine lpure (v := .bool e9980.1) rfl (p_assign rfl) rfl rfl ?_
  refine lpure (v := .int .i64 e9980.2) rfl (p_assign rfl) rfl rfl ?_
  refine lend (nseq (dseq (dreg ?_)))
  refine lread (v := .agg #[.int .i64 e35.Nodes, .slice a42 n42 c42, .slice a44 n44 c44]) rfl (q_load wd_25 rfl) (St.ld X8444 (j := 9) rfl rfl) rfl ?_
  obtain ⟨h9984, b9984, hv9984, X9984, O9984⟩ := OSl.lay (E := (eInt .i64)) (φ := φ8437) (cs := [.int .i64 0, .int .i64 2]) (l := [0, 2]) (len := 2) (parts := [(0, .int .i64 0), (1, .int .i64 2)]) un_27 ts_3 rfl rfl rfl tz_3 rfl rfl (show RowD (eInt .i64) φ8437 [.int .i64 0, .int .i64 2] [0, 2] from ⟨[.int .i64 0], _, rfl, rfl, ⟨[.int .i64 2], _, rfl, rfl, rfl⟩⟩) rfl rfl X8444
  refine lheap rfl (h_buildSlice rfl) hv9984 rfl ?_
  obtain ⟨h9986, b9986, hv9986, X9986, O9986⟩ := OSl.lay (E := (eInt .i64)) (φ := φ8437) (cs := [.int .i64 0, .int .i64 2, .int .i64 4]) (l := [0, 2, 4]) (len := 3) (parts := [(0, .int .i64 0), (1, .int .i64 2), (2, .int .i64 4)]) un_27 ts_3 rfl rfl rfl tz_3 rfl rfl (show RowD (eInt .i64) φ8437 [.int .i64 0, .int .i64 2, .int .i64 4] [0, 2, 4] from ⟨[.int .i64 0], _, rfl, rfl, ⟨[.int .i64 2], _, rfl, rfl, ⟨[.int .i64 4], _, rfl, rfl, rfl⟩⟩⟩) rfl rfl X9984
  refine lheap rfl (h_buildSlice rfl) hv9986 rfl ?_
  obtain ⟨φ9988, g9989, X9990, H9991⟩ := OSl.freeze X9986 (j := 1) rfl O9984
  obtain ⟨φ9992, g9993, X9994, H9995⟩ := OSl.freeze X9990 (j := 0) rfl (O9986.mono g9989)
  obtain ⟨h9996, b9996, hv9996, X9996, O9996⟩ := OSl.lay (E := (eSl (eInt .i64))) (φ := φ9992) (cs := [.slice (some ⟨b9984, 0, none⟩) 2 2, .slice (some ⟨b9986, 0, none⟩) 3 3]) (l := [[0, 2], [0, 2, 4]]) (len := 2) (parts := [(0, .slice (some ⟨b9984, 0, none⟩) 2 2), (1, .slice (some ⟨b9986, 0, none⟩) 3 3)]) un_52 ts_27 rfl rfl rfl tz_27 rfl rfl (show RowD (eSl (eInt .i64)) φ9992 [.slice (some ⟨b9984, 0, none⟩) 2 2, .slice (some ⟨b9986, 0, none⟩) 3 3] [[0, 2], [0, 2, 4]] from ⟨[.slice (some ⟨b9984, 0, none⟩) 2 2], _, rfl, ⟨_, _, _, rfl, (H9991.mono g9993)⟩, ⟨[.slice (some ⟨b9986, 0, none⟩) 3 3], _, rfl, ⟨_, _, _, rfl, H9995⟩, rfl⟩⟩) rfl rfl X9994
  refine lheap rfl (h_buildSlice rfl) hv9996 rfl ?_
  obtain ⟨φ18542, g18543, X18544, H18545⟩ := OSl.freeze X9996 (j := 0) rfl O9996
  refine lcall rfl rfl ca_24 rfl rfl (f24_ok X18544 e35 ([[0, 2], [0, 2, 4]]) (H7893.mono (((((((g7895.trans g7899).trans g7907).trans g8430).trans g8438).trans g9989).trans g9993).trans g18543)) (H7897.mono ((((((g7899.trans g7907).trans g8430).trans g8438).trans g9989).trans g9993).trans g18543)) H18545) rfl ?_
  rintro e18546 _ h18548 ⟨φ18550, a18553, n18553, c18553, ob18553, blk18553, g18551, X18552, rfl, O18553⟩
  refine lpure (v := .tuple #[.slice a18553 n18553 c18553, .bool e18546.2.1, .int .i64 e18546.2.2]) rfl (p_move rfl) rfl rfl ?_
  refine lpure (v := .slice a18553 n18553 c18553) rfl (p_extract rfl) rfl rfl ?_
  refine lpure (v := .bool e18546.2.1) rfl (p_extract rfl) rfl rfl ?_
  refine lpure (v := .int .i64 e18546.2.2) rfl (p_extract rfl) rfl rfl ?_
  refine lpure (v := .slice a18553 n18553 c18553) rfl (p_assign rfl) rfl rfl ?_
  refine lpure (v := .bool e18546.2.1) rfl (p_assign rfl) rfl rfl ?_
  refine lpure (v := .int .i64 e18546.2.2) rfl (p_assign rfl) rfl rfl ?_
  refine lend (nseq (dseq (dreg ?_)))
  refine lpure (v := .int .i64 e7902.2) rfl (p_move rfl) rfl rfl ?_
  refine lpure (v := .bool (decide (e7902.2 = 0))) rfl (p_eq rfl) rfl rfl ?_
  refine lpure (v := .bool (decide (e7902.2 = 0))) rfl (p_move rfl) rfl rfl ?_
  refine lsh (τ := Bool) (σ := Unit) (fun s18556 (_ : Unit) => [(1, .pointer (some ⟨b46, 0, none⟩)), (2, .slice a7909 n7909 c7909), (4, .int .i64 e7942.1), (5, .int .i64 e7942.2.1), (7, .int .i64 e8049.1), (8, .int .i64 e8049.2), (9, .int .i64 e8169.1), (10, .int .i64 e8169.2), (11, .slice a8440 n8440 c8440), (12, .int .i64 e8433.2), (13, .bool e9980.1), (14, .int .i64 e9980.2), (15, .slice a18553 n18553 c18553), (16, .bool e18546.2.1), (17, .int .i64 e18546.2.2), (72, .bool s18556)]) (fun s18556 (_ : Unit) hh => St φ18550 h.n hh ([(ob18553, blk18553), (none, .dead), (none, .dead), (none, .dead), (some b8444, (.cells [.int .i64 2, .int .i64 4] 3 .exact)), (some b8442, (.cells [.int .i64 0] 3 .exact)), (ob8440, blk8440), (none, .dead), (some b8053, (.cells [.int .i64 0, .int .i64 2, .int .i64 4] 3 .exact)), (some b7946, (.cells [.int .i64 0, .int .i64 2, .int .i64 4] 3 .exact)), (some b7911, (.cells [.int .i64 2, .int .i64 4] 3 .exact)), (ob7909, blk7909), (none, .dead), (some b46, .cells [.int .i64 e35.Nodes, .slice a42 n42 c42, .slice a44 n44 c44] 25 .exact), (none, .dead), (none, .dead)])) 3 ?_ ?_
  · rintro s18556 _ t0 h18558 X18557
    refine lpure (v := .bool s18556) rfl (p_move rfl) rfl rfl ?_
    refine lsh (τ := Bool) (σ := Unit) (fun s18560 (_ : Unit) => [(1, .pointer (some ⟨b46, 0, none⟩)), (2, .slice a7909 n7909 c7909), (4, .int .i64 e7942.1), (5, .int .i64 e7942.2.1), (7, .int .i64 e8049.1), (9, .int .i64 e8169.1), (10, .int .i64 e8169.2), (11, .slice a8440 n8440 c8440), (12, .int .i64 e8433.2), (13, .bool e9980.1), (14, .int .i64 e9980.2), (15, .slice a18553 n18553 c18553), (16, .bool e18546.2.1), (17, .int .i64 e18546.2.2), (76, .bool s18560)]) (fun s18560 (_ : Unit) hh => St φ18550 h.n hh ([(ob18553, blk18553), (none, .dead), (none, .dead), (none, .dead), (some b8444, (.cells [.int .i64 2, .int .i64 4] 3 .exact)), (some b8442, (.cells [.int .i64 0] 3 .exact)), (ob8440, blk8440), (none, .dead), (some b8053, (.cells [.int .i64 0, .int .i64 2, .int .i64 4] 3 .exact)), (some b7946, (.cells [.int .i64 0, .int .i64 2, .int .i64 4] 3 .exact)), (some b7911, (.cells [.int .i64 2, .int .i64 4] 3 .exact)), (ob7909, blk7909), (none, .dead), (some b46, .cells [.int .i64 e35.Nodes, .slice a42 n42 c42, .slice a44 n44 c44] 25 .exact), (none, .dead), (none, .dead)])) 3 ?_ ?_
    · rintro s18560 _ t0 h18562 X18561
      refine lpure (v := .bool s18560) rfl (p_move rfl) rfl rfl ?_
      refine lsh (τ := Bool) (σ := Unit) (fun s18564 (_ : Unit) => [(1, .pointer (some ⟨b46, 0, none⟩)), (2, .slice a7909 n7909 c7909), (4, .int .i64 e7942.1), (5, .int .i64 e7942.2.1), (7, .int .i64 e8049.1), (9, .int .i64 e8169.1), (11, .slice a8440 n8440 c8440), (12, .int .i64 e8433.2), (13, .bool e9980.1), (14, .int .i64 e9980.2), (15, .slice a18553 n18553 c18553), (16, .bool e18546.2.1), (17, .int .i64 e18546.2.2), (80, .bool s18564)]) (fun s18564 (_ : Unit) hh => St φ18550 h.n hh ([(ob18553, blk18553), (none, .dead), (none, .dead), (none, .dead), (some b8444, (.cells [.int .i64 2, .int .i64 4] 3 .exact)), (some b8442, (.cells [.int .i64 0] 3 .exact)), (ob8440, blk8440), (none, .dead), (some b8053, (.cells [.int .i64 0, .int .i64 2, .int .i64 4] 3 .exact)), (some b7946, (.cells [.int .i64 0, .int .i64 2, .int .i64 4] 3 .exact)), (some b7911, (.cells [.int .i64 2, .int .i64 4] 3 .exact)), (ob7909, blk7909), (none, .dead), (some b46, .cells [.int .i64 e35.Nodes, .slice a42 n42 c42, .slice a44 n44 c44] 25 .exact), (none, .dead), (none, .dead)])) 3 ?_ ?_
      · rintro s18564 _ t0 h18566 X18565
        refine lpure (v := .bool s18564) rfl (p_move rfl) rfl rfl ?_
        refine lsh (τ := Bool) (σ := Unit) (fun s18568 (_ : Unit) => [(1, .pointer (some ⟨b46, 0, none⟩)), (2, .slice a7909 n7909 c7909), (4, .int .i64 e7942.1), (5, .int .i64 e7942.2.1), (7, .int .i64 e8049.1), (9, .int .i64 e8169.1), (11, .slice a8440 n8440 c8440), (13, .bool e9980.1), (14, .int .i64 e9980.2), (15, .slice a18553 n18553 c18553), (16, .bool e18546.2.1), (17, .int .i64 e18546.2.2), (84, .bool s18568)]) (fun s18568 (_ : Unit) hh => St φ18550 h.n hh ([(ob18553, blk18553), (none, .dead), (none, .dead), (none, .dead), (some b8444, (.cells [.int .i64 2, .int .i64 4] 3 .exact)), (some b8442, (.cells [.int .i64 0] 3 .exact)), (ob8440, blk8440), (none, .dead), (some b8053, (.cells [.int .i64 0, .int .i64 2, .int .i64 4] 3 .exact)), (some b7946, (.cells [.int .i64 0, .int .i64 2, .int .i64 4] 3 .exact)), (some b7911, (.cells [.int .i64 2, .int .i64 4] 3 .exact)), (ob7909, blk7909), (none, .dead), (some b46, .cells [.int .i64 e35.Nodes, .slice a42 n42 c42, .slice a44 n44 c44] 25 .exact), (none, .dead), (none, .dead)])) 3 ?_ ?_
        · rintro s18568 _ t0 h18570 X18569
          refine lpure (v := .bool s18568) rfl (p_move rfl) rfl rfl ?_
          refine lsh (τ := Bool) (σ := Unit) (fun s18572 (_ : Unit) => [(1, .pointer (some ⟨b46, 0, none⟩)), (2, .slice a7909 n7909 c7909), (4, .int .i64 e7942.1), (5, .int .i64 e7942.2.1), (7, .int .i64 e8049.1), (9, .int .i64 e8169.1), (11, .slice a8440 n8440 c8440), (13, .bool e9980.1), (15, .slice a18553 n18553 c18553), (16, .bool e18546.2.1), (17, .int .i64 e18546.2.2), (88, .bool s18572)]) (fun s18572 (_ : Unit) hh => St φ18550 h.n hh ([(ob18553, blk18553), (none, .dead), (none, .dead), (none, .dead), (some b8444, (.cells [.int .i64 2, .int .i64 4] 3 .exact)), (some b8442, (.cells [.int .i64 0] 3 .exact)), (ob8440, blk8440), (none, .dead), (some b8053, (.cells [.int .i64 0, .int .i64 2, .int .i64 4] 3 .exact)), (some b7946, (.cells [.int .i64 0, .int .i64 2, .int .i64 4] 3 .exact)), (some b7911, (.cells [.int .i64 2, .int .i64 4] 3 .exact)), (ob7909, blk7909), (none, .dead), (some b46, .cells [.int .i64 e35.Nodes, .slice a42 n42 c42, .slice a44 n44 c44] 25 .exact), (none, .dead), (none, .dead)])) 3 ?_ ?_
          · rintro s18572 _ t0 h18574 X18573
            refine lpure (v := .bool s18572) rfl (p_move rfl) rfl rfl ?_
            refine lsh (τ := Bool) (σ := Unit) (fun s18576 (_ : Unit) => [(1, .pointer (some ⟨b46, 0, none⟩)), (2, .slice a7909 n7909 c7909), (4, .int .i64 e7942.1), (5, .int .i64 e7942.2.1), (7, .int .i64 e8049.1), (9, .int .i64 e8169.1), (11, .slice a8440 n8440 c8440), (13, .bool e9980.1), (15, .slice a18553 n18553 c18553), (16, .bool e18546.2.1), (92, .bool s18576)]) (fun s18576 (_ : Unit) hh => St φ18550 h.n hh ([(ob18553, blk18553), (none, .dead), (none, .dead), (none, .dead), (some b8444, (.cells [.int .i64 2, .int .i64 4] 3 .exact)), (some b8442, (.cells [.int .i64 0] 3 .exact)), (ob8440, blk8440), (none, .dead), (some b8053, (.cells [.int .i64 0, .int .i64 2, .int .i64 4] 3 .exact)), (some b7946, (.cells [.int .i64 0, .int .i64 2, .int .i64 4] 3 .exact)), (some b7911, (.cells [.int .i64 2, .int .i64 4] 3 .exact)), (ob7909, blk7909), (none, .dead), (some b46, .cells [.int .i64 e35.Nodes, .slice a42 n42 c42, .slice a44 n44 c44] 25 .exact), (none, .dead), (none, .dead)])) 3 ?_ ?_
            · rintro s18576 _ t0 h18578 X18577
              refine lpure (v := .bool s18576) rfl (p_assign rfl) rfl rfl ?_
              refine lend (nseq (dseq (dreg ?_)))
              refine lpure (v := .bool s18576) rfl (p_move rfl) rfl rfl ?_
              refine lpure (v := .bool s18576) rfl (p_move rfl) rfl rfl ?_
              refine ljoinM (τ := Bool) (σ := Unit) (fun s18646 (_ : Unit) => [(1, .pointer (some ⟨b46, 0, none⟩)), (4, .int .i64 e7942.1), (5, .int .i64 e7942.2.1), (7, .int .i64 e8049.1), (9, .int .i64 e8169.1), (11, .slice a8440 n8440 c8440), (13, .bool e9980.1), (15, .slice a18553 n18553 c18553), (16, .bool e18546.2.1), (98, .bool s18646)]) (fun s18646 (_ : Unit) hh => St φ18550 h.n hh ([(ob18553, blk18553), (none, .dead), (none, .dead), (none, .dead), (some b8444, (.cells [.int .i64 2, .int .i64 4] 3 .exact)), (some b8442, (.cells [.int .i64 0] 3 .exact)), (ob8440, blk8440), (none, .dead), (some b8053, (.cells [.int .i64 0, .int .i64 2, .int .i64 4] 3 .exact)), (some b7946, (.cells [.int .i64 0, .int .i64 2, .int .i64 4] 3 .exact)), (some b7911, (.cells [.int .i64 2, .int .i64 4] 3 .exact)), (ob7909, blk7909), (none, .dead), (some b46, .cells [.int .i64 e35.Nodes, .slice a42 n42 c42, .slice a44 n44 c44] 25 .exact), (none, .dead), (none, .dead)])) 4 ?_ ?_
              · rintro s18646 _ t0 h18648 X18647
                refine lpure (v := .bool s18646) rfl (p_move rfl) rfl rfl ?_
                refine lsh (τ := Bool) (σ := Unit) (fun s18650 (_ : Unit) => [(1, .pointer (some ⟨b46, 0, none⟩)), (5, .int .i64 e7942.2.1), (7, .int .i64 e8049.1), (9, .int .i64 e8169.1), (11, .slice a8440 n8440 c8440), (13, .bool e9980.1), (15, .slice a18553 n18553 c18553), (16, .bool e18546.2.1), (102, .bool s18650)]) (fun s18650 (_ : Unit) hh => St φ18550 h.n hh ([(ob18553, blk18553), (none, .dead), (none, .dead), (none, .dead), (some b8444, (.cells [.int .i64 2, .int .i64 4] 3 .exact)), (some b8442, (.cells [.int .i64 0] 3 .exact)), (ob8440, blk8440), (none, .dead), (some b8053, (.cells [.int .i64 0, .int .i64 2, .int .i64 4] 3 .exact)), (some b7946, (.cells [.int .i64 0, .int .i64 2, .int .i64 4] 3 .exact)), (some b7911, (.cells [.int .i64 2, .int .i64 4] 3 .exact)), (ob7909, blk7909), (none, .dead), (some b46, .cells [.int .i64 e35.Nodes, .slice a42 n42 c42, .slice a44 n44 c44] 25 .exact), (none, .dead), (none, .dead)])) 3 ?_ ?_
                · rintro s18650 _ t0 h18652 X18651
                  refine lpure (v := .bool s18650) rfl (p_move rfl) rfl rfl ?_
                  refine lsh (τ := Bool) (σ := Unit) (fun s18654 (_ : Unit) => [(1, .pointer (some ⟨b46, 0, none⟩)), (7, .int .i64 e8049.1), (9, .int .i64 e8169.1), (11, .slice a8440 n8440 c8440), (13, .bool e9980.1), (15, .slice a18553 n18553 c18553), (16, .bool e18546.2.1), (106, .bool s18654)]) (fun s18654 (_ : Unit) hh => St φ18550 h.n hh ([(ob18553, blk18553), (none, .dead), (none, .dead), (none, .dead), (some b8444, (.cells [.int .i64 2, .int .i64 4] 3 .exact)), (some b8442, (.cells [.int .i64 0] 3 .exact)), (ob8440, blk8440), (none, .dead), (some b8053, (.cells [.int .i64 0, .int .i64 2, .int .i64 4] 3 .exact)), (some b7946, (.cells [.int .i64 0, .int .i64 2, .int .i64 4] 3 .exact)), (some b7911, (.cells [.int .i64 2, .int .i64 4] 3 .exact)), (ob7909, blk7909), (none, .dead), (some b46, .cells [.int .i64 e35.Nodes, .slice a42 n42 c42, .slice a44 n44 c44] 25 .exact), (none, .dead), (none, .dead)])) 3 ?_ ?_
                  · rintro s18654 _ t0 h18656 X18655
                    refine lpure (v := .bool s18654) rfl (p_move rfl) rfl rfl ?_
                    refine lsh (τ := Bool) (σ := Unit) (fun s18658 (_ : Unit) => [(1, .pointer (some ⟨b46, 0, none⟩)), (9, .int .i64 e8169.1), (11, .slice a8440 n8440 c8440), (13, .bool e9980.1), (15, .slice a18553 n18553 c18553), (16, .bool e18546.2.1), (110, .bool s18658)]) (fun s18658 (_ : Unit) hh => St φ18550 h.n hh ([(ob18553, blk18553), (none, .dead), (none, .dead), (none, .dead), (some b8444, (.cells [.int .i64 2, .int .i64 4] 3 .exact)), (some b8442, (.cells [.int .i64 0] 3 .exact)), (ob8440, blk8440), (none, .dead), (some b8053, (.cells [.int .i64 0, .int .i64 2, .int .i64 4] 3 .exact)), (some b7946, (.cells [.int .i64 0, .int .i64 2, .int .i64 4] 3 .exact)), (some b7911, (.cells [.int .i64 2, .int .i64 4] 3 .exact)), (ob7909, blk7909), (none, .dead), (some b46, .cells [.int .i64 e35.Nodes, .slice a42 n42 c42, .slice a44 n44 c44] 25 .exact), (none, .dead), (none, .dead)])) 3 ?_ ?_
                    · rintro s18658 _ t0 h18660 X18659
                      refine lpure (v := .bool s18658) rfl (p_move rfl) rfl rfl ?_
                      refine lsh (τ := Bool) (σ := Unit) (fun s18662 (_ : Unit) => [(1, .pointer (some ⟨b46, 0, none⟩)), (11, .slice a8440 n8440 c8440), (13, .bool e9980.1), (15, .slice a18553 n18553 c18553), (16, .bool e18546.2.1), (114, .bool s18662)]) (fun s18662 (_ : Unit) hh => St φ18550 h.n hh ([(ob18553, blk18553), (none, .dead), (none, .dead), (none, .dead), (some b8444, (.cells [.int .i64 2, .int .i64 4] 3 .exact)), (some b8442, (.cells [.int .i64 0] 3 .exact)), (ob8440, blk8440), (none, .dead), (some b8053, (.cells [.int .i64 0, .int .i64 2, .int .i64 4] 3 .exact)), (some b7946, (.cells [.int .i64 0, .int .i64 2, .int .i64 4] 3 .exact)), (some b7911, (.cells [.int .i64 2, .int .i64 4] 3 .exact)), (ob7909, blk7909), (none, .dead), (some b46, .cells [.int .i64 e35.Nodes, .slice a42 n42 c42, .slice a44 n44 c44] 25 .exact), (none, .dead), (none, .dead)])) 3 ?_ ?_
                      · rintro s18662 _ t0 h18664 X18663
                        refine lpure (v := .bool s18662) rfl (p_move rfl) rfl rfl ?_
                        refine ljoinM (τ := Bool) (σ := Unit) (fun s18732 (_ : Unit) => [(1, .pointer (some ⟨b46, 0, none⟩)), (13, .bool e9980.1), (15, .slice a18553 n18553 c18553), (16, .bool e18546.2.1), (119, .bool s18732)]) (fun s18732 (_ : Unit) hh => St φ18550 h.n hh ([(ob18553, blk18553), (none, .dead), (none, .dead), (none, .dead), (some b8444, (.cells [.int .i64 2, .int .i64 4] 3 .exact)), (some b8442, (.cells [.int .i64 0] 3 .exact)), (ob8440, blk8440), (none, .dead), (some b8053, (.cells [.int .i64 0, .int .i64 2, .int .i64 4] 3 .exact)), (some b7946, (.cells [.int .i64 0, .int .i64 2, .int .i64 4] 3 .exact)), (some b7911, (.cells [.int .i64 2, .int .i64 4] 3 .exact)), (ob7909, blk7909), (none, .dead), (some b46, .cells [.int .i64 e35.Nodes, .slice a42 n42 c42, .slice a44 n44 c44] 25 .exact), (none, .dead), (none, .dead)])) 4 ?_ ?_
                        · rintro s18732 _ t0 h18734 X18733
                          refine lpure (v := .bool s18732) rfl (p_move rfl) rfl rfl ?_
                          refine lsh (τ := Bool) (σ := Unit) (fun s18736 (_ : Unit) => [(1, .pointer (some ⟨b46, 0, none⟩)), (15, .slice a18553 n18553 c18553), (16, .bool e18546.2.1), (122, .bool s18736)]) (fun s18736 (_ : Unit) hh => St φ18550 h.n hh ([(ob18553, blk18553), (none, .dead), (none, .dead), (none, .dead), (some b8444, (.cells [.int .i64 2, .int .i64 4] 3 .exact)), (some b8442, (.cells [.int .i64 0] 3 .exact)), (ob8440, blk8440), (none, .dead), (some b8053, (.cells [.int .i64 0, .int .i64 2, .int .i64 4] 3 .exact)), (some b7946, (.cells [.int .i64 0, .int .i64 2, .int .i64 4] 3 .exact)), (some b7911, (.cells [.int .i64 2, .int .i64 4] 3 .exact)), (ob7909, blk7909), (none, .dead), (some b46, .cells [.int .i64 e35.Nodes, .slice a42 n42 c42, .slice a44 n44 c44] 25 .exact), (none, .dead), (none, .dead)])) 2 ?_ ?_
                          · rintro s18736 _ t0 h18738 X18737
                            refine lpure (v := .bool s18736) rfl (p_move rfl) rfl rfl ?_
                            refine ljoinM (τ := Bool) (σ := Unit) (fun s18755 (_ : Unit) => [(1, .pointer (some ⟨b46, 0, none⟩)), (16, .bool e18546.2.1), (127, .bool s18755)]) (fun s18755 (_ : Unit) hh => St φ18550 h.n hh ([(ob18553, blk18553), (none, .dead), (none, .dead), (none, .dead), (some b8444, (.cells [.int .i64 2, .int .i64 4] 3 .exact)), (some b8442, (.cells [.int .i64 0] 3 .exact)), (ob8440, blk8440), (none, .dead), (some b8053, (.cells [.int .i64 0, .int .i64 2, .int .i64 4] 3 .exact)), (some b7946, (.cells [.int .i64 0, .int .i64 2, .int .i64 4] 3 .exact)), (some b7911, (.cells [.int .i64 2, .int .i64 4] 3 .exact)), (ob7909, blk7909), (none, .dead), (some b46, .cells [.int .i64 e35.Nodes, .slice a42 n42 c42, .slice a44 n44 c44] 25 .exact), (none, .dead), (none, .dead)])) 4 ?_ ?_
                            · rintro s18755 _ t0 h18757 X18756
                              refine lpure (v := .bool s18755) rfl (p_move rfl) rfl rfl ?_
                              refine lsh (τ := Bool) (σ := Unit) (fun s18759 (_ : Unit) => [(1, .pointer (some ⟨b46, 0, none⟩)), (130, .bool s18759)]) (fun s18759 (_ : Unit) hh => St φ18550 h.n hh ([(ob18553, blk18553), (none, .dead), (none, .dead), (none, .dead), (some b8444, (.cells [.int .i64 2, .int .i64 4] 3 .exact)), (some b8442, (.cells [.int .i64 0] 3 .exact)), (ob8440, blk8440), (none, .dead), (some b8053, (.cells [.int .i64 0, .int .i64 2, .int .i64 4] 3 .exact)), (some b7946, (.cells [.int .i64 0, .int .i64 2, .int .i64 4] 3 .exact)), (some b7911, (.cells [.int .i64 2, .int .i64 4] 3 .exact)), (ob7909, blk7909), (none, .dead), (some b46, .cells [.int .i64 e35.Nodes, .slice a42 n42 c42, .slice a44 n44 c44] 25 .exact), (none, .dead), (none, .dead)])) 2 ?_ ?_
                              · rintro s18759 _ t0 h18761 X18760
                                refine lpure (v := .bool s18759) rfl (p_move rfl) rfl rfl ?_
                                refine ljoinM (τ := Bool) (σ := Unit) (fun s18774 (_ : Unit) => [(136, .bool s18774)]) (fun s18774 (_ : Unit) hh => St φ18550 h.n hh ([(ob18553, blk18553), (none, .dead), (none, .dead), (none, .dead), (some b8444, (.cells [.int .i64 2, .int .i64 4] 3 .exact)), (some b8442, (.cells [.int .i64 0] 3 .exact)), (ob8440, blk8440), (none, .dead), (some b8053, (.cells [.int .i64 0, .int .i64 2, .int .i64 4] 3 .exact)), (some b7946, (.cells [.int .i64 0, .int .i64 2, .int .i64 4] 3 .exact)), (some b7911, (.cells [.int .i64 2, .int .i64 4] 3 .exact)), (ob7909, blk7909), (none, .dead), (some b46, .cells [.int .i64 e35.Nodes, .slice a42 n42 c42, .slice a44 n44 c44] 25 .exact), (none, .dead), (none, .dead)])) 5 ?_ ?_
                                · rintro s18774 _ t0 h18776 X18775
                                  refine lpure (v := .bool s18774) rfl (p_assign rfl) rfl rfl ?_
                                  refine lend (nseq (dret ?_))
                                  exact kcut_r (res_1 resT) X18775 rfl rfl
                                intro j18777 J18778
                                refine lif (i := 131) (show _ = Value.bool s18759 from rfl) (fun k18779 => ?_) (fun k18779 => ?_)
                                · refine lread (v := .agg #[.int .i64 e35.Nodes, .slice a42 n42 c42, .slice a44 n44 c44]) rfl (q_load wd_25 rfl) (St.ld X18760 (j := 13) rfl rfl) rfl ?_
                                  obtain ⟨h18780, b18780, hv18780, X18780, O18780⟩ := OSl.lay (E := (eInt .i64)) (φ := φ18550) (cs := [.int .i64 0, .int .i64 4]) (l := [0, 4]) (len := 2) (parts := [(0, .int .i64 0), (1, .int .i64 4)]) un_27 ts_3 rfl rfl rfl tz_3 rfl rfl (show RowD (eInt .i64) φ18550 [.int .i64 0, .int .i64 4] [0, 4] from ⟨[.int .i64 0], _, rfl, rfl, ⟨[.int .i64 4], _, rfl, rfl, rfl⟩⟩) rfl rfl X18760
                                  refine lheap rfl (h_buildSlice rfl) hv18780 rfl ?_
                                  obtain ⟨φ18782, g18783, X18784, H18785⟩ := OSl.freeze X18780 (j := 0) rfl O18780
                                  refine lcall rfl rfl ca_15 rfl rfl (f15_ok X18784 e35 ([0, 4]) (H7893.mono (((((((((g7895.trans g7899).trans g7907).trans g8430).trans g8438).trans g9989).trans g9993).trans g18543).trans g18551).trans g18783)) (H7897.mono ((((((((g7899.trans g7907).trans g8430).trans g8438).trans g9989).trans g9993).trans g18543).trans g18551).trans g18783)) H18785) rfl (fun e18786 v18787 h18788 hq18789 => ?_)
                                  cases hq18789
                                  refine lpure (v := .bool (decide (e18786 = 310))) rfl (p_eq rfl) rfl rfl ?_
                                  refine lpure (v := .bool (decide (e18786 = 310))) rfl (p_pick rfl) rfl rfl ?_
                                  exact ljmpM J18778 (decide (e18786 = 310)) () (sub_cons rfl sub_nil) (St.pick X18780 (.skip _ (.keep _ (.none _ (.none _ (.none _ (.skip _ (.skip _ (.skip _ (.keep _ (.keep _ (.keep _ (.none _ (.skip _ (.keep _ (.keep _ (.keep _ (.keep _ (.none _ (.skip _ (.keep _ (.none _ (.none _ (.nil _))))))))))))))))))))))))
                                refine lskip rfl rfl ?_
                                refine lskip rfl rfl ?_
                                refine lskip rfl rfl ?_
                                refine lskip rfl rfl ?_
                                refine lpure (v := .bool false) rfl (p_pick rfl) rfl rfl ?_
                                exact ljmpM J18778 false () (sub_cons rfl sub_nil) (St.pick X18760 (.keep _ (.none _ (.none _ (.none _ (.skip _ (.skip _ (.skip _ (.keep _ (.keep _ (.keep _ (.none _ (.skip _ (.keep _ (.keep _ (.keep _ (.keep _ (.none _ (.skip _ (.keep _ (.none _ (.none _ (.nil _)))))))))))))))))))))))
                              intro j18790 J18791
                              refine lcase (i := 128) (show _ = Value.bool s18755 from rfl) (fun k18792 => ?_) (fun k18792 => ?_)
                              · refine lpure (v := .bool e18546.2.1) rfl (p_move rfl) rfl rfl ?_
                                refine lpure (v := .bool e18546.2.1) rfl (p_pick rfl) rfl rfl ?_
                                refine Sim.of_eq (congrArg j18790 (show (s18755 && e18546.2.1) = e18546.2.1 from by rw [k18792] <;> rfl)) ?_
                                exact ljmpM J18791 e18546.2.1 () (sub_cons rfl (sub_cons rfl sub_nil)) (St.pick X18756 (.keep _ (.none _ (.none _ (.none _ (.skip _ (.skip _ (.skip _ (.keep _ (.keep _ (.keep _ (.none _ (.skip _ (.keep _ (.keep _ (.keep _ (.keep _ (.none _ (.skip _ (.keep _ (.none _ (.none _ (.nil _)))))))))))))))))))))))
                              refine lskip rfl rfl ?_
                              refine lpure (v := .bool false) rfl (p_pick rfl) rfl rfl ?_
                              refine Sim.of_eq (congrArg j18790 (show (s18755 && e18546.2.1) = false from by rw [k18792] <;> rfl)) ?_
                              exact ljmpM J18791 false () (sub_cons rfl (sub_cons rfl sub_nil)) (St.pick X18756 (.keep _ (.none _ (.none _ (.none _ (.skip _ (.skip _ (.skip _ (.keep _ (.keep _ (.keep _ (.none _ (.skip _ (.keep _ (.keep _ (.keep _ (.keep _ (.none _ (.skip _ (.keep _ (.none _ (.none _ (.nil _)))))))))))))))))))))))
                            intro j18793 J18794
                            refine lif (i := 123) (show _ = Value.bool s18736 from rfl) (fun k18795 => ?_) (fun k18795 => ?_)
                            · refine lpure (v := .slice a18553 n18553 c18553) rfl (p_move rfl) rfl rfl ?_
                              obtain ⟨h18796, b18796, hv18796, X18796, O18796⟩ := OSl.lay (E := (eInt .i64)) (φ := φ18550) (cs := [.int .i64 0, .int .i64 2, .int .i64 4]) (l := [0, 2, 4]) (len := 3) (parts := [(0, .int .i64 0), (1, .int .i64 2), (2, .int .i64 4)]) un_26 ts_3 rfl rfl rfl tz_3 rfl rfl (show RowD (eInt .i64) φ18550 [.int .i64 0, .int .i64 2, .int .i64 4] [0, 2, 4] from ⟨[.int .i64 0], _, rfl, rfl, ⟨[.int .i64 2], _, rfl, rfl, ⟨[.int .i64 4], _, rfl, rfl, rfl⟩⟩⟩) rfl rfl X18737
                              refine lheap rfl (h_buildSlice rfl) hv18796 rfl ?_
                              obtain ⟨φ18798, g18799, X18800, H18801⟩ := OSl.freeze X18796 (j := 1) rfl O18553
                              obtain ⟨φ18802, g18803, X18804, H18805⟩ := OSl.freeze X18800 (j := 0) rfl (O18796.mono g18799)
                              refine lcall rfl rfl ca_17 rfl rfl (f17_ok X18804 (e18546.1) ([0, 2, 4]) (H18801.mono g18803) H18805) rfl (fun e18806 v18807 h18808 hq18809 => ?_)
                              cases hq18809
                              refine lpure (v := .bool e18806) rfl (p_pick rfl) rfl rfl ?_
                              exact ljmpM J18794 e18806 () (sub_cons rfl (sub_cons rfl (sub_cons rfl sub_nil))) (St.pick X18796 (.skip _ (.keep _ (.none _ (.none _ (.none _ (.skip _ (.skip _ (.skip _ (.keep _ (.keep _ (.keep _ (.none _ (.skip _ (.keep _ (.keep _ (.keep _ (.keep _ (.none _ (.skip _ (.keep _ (.none _ (.none _ (.nil _))))))))))))))))))))))))
                            refine lskip rfl rfl ?_
                            refine lskip rfl rfl ?_
                            refine lskip rfl rfl ?_
                            refine lpure (v := .bool false) rfl (p_pick rfl) rfl rfl ?_
                            exact ljmpM J18794 false () (sub_cons rfl (sub_cons rfl (sub_cons rfl sub_nil))) (St.pick X18737 (.keep _ (.none _ (.none _ (.none _ (.skip _ (.skip _ (.skip _ (.keep _ (.keep _ (.keep _ (.none _ (.skip _ (.keep _ (.keep _ (.keep _ (.keep _ (.none _ (.skip _ (.keep _ (.none _ (.none _ (.nil _)))))))))))))))))))))))
                          intro j18810 J18811
                          refine lcase (i := 120) (show _ = Value.bool s18732 from rfl) (fun k18812 => ?_) (fun k18812 => ?_)
                          · refine lpure (v := .bool e9980.1) rfl (p_move rfl) rfl rfl ?_
                            refine lpure (v := .bool e9980.1) rfl (p_pick rfl) rfl rfl ?_
                            refine Sim.of_eq (congrArg j18810 (show (s18732 && e9980.1) = e9980.1 from by rw [k18812] <;> rfl)) ?_
                            exact ljmpM J18811 e9980.1 () (sub_cons rfl (sub_cons rfl (sub_cons rfl (sub_cons rfl sub_nil)))) (St.pick X18733 (.keep _ (.none _ (.none _ (.none _ (.skip _ (.skip _ (.skip _ (.keep _ (.keep _ (.keep _ (.none _ (.skip _ (.keep _ (.keep _ (.keep _ (.keep _ (.none _ (.skip _ (.keep _ (.none _ (.none _ (.nil _)))))))))))))))))))))))
                          refine lskip rfl rfl ?_
                          refine lpure (v := .bool false) rfl (p_pick rfl) rfl rfl ?_
                          refine Sim.of_eq (congrArg j18810 (show (s18732 && e9980.1) = false from by rw [k18812] <;> rfl)) ?_
                          exact ljmpM J18811 false () (sub_cons rfl (sub_cons rfl (sub_cons rfl (sub_cons rfl sub_nil)))) (St.pick X18733 (.keep _ (.none _ (.none _ (.none _ (.skip _ (.skip _ (.skip _ (.keep _ (.keep _ (.keep _ (.none _ (.skip _ (.keep _ (.keep _ (.keep _ (.keep _ (.none _ (.skip _ (.keep _ (.none _ (.none _ (.nil _)))))))))))))))))))))))
                        intro j18813 J18814
                        refine lif (i := 115) (show _ = Value.bool s18662 from rfl) (fun k18815 => ?_) (fun k18815 => ?_)
                        · refine lpure (v := .slice a8440 n8440 c8440) rfl (p_move rfl) rfl rfl ?_
                          obtain ⟨h18816, b18816, hv18816, X18816, O18816⟩ := OSl.lay (E := (eInt .i64)) (φ := φ18550) (cs := [.int .i64 5, .int .i64 3, .int .i64 1]) (l := [5, 3, 1]) (len := 3) (parts := [(0, .int .i64 5), (1, .int .i64 3), (2, .int .i64 1)]) un_27 ts_3 rfl rfl rfl tz_3 rfl rfl (show RowD (eInt .i64) φ18550 [.int .i64 5, .int .i64 3, .int .i64 1] [5, 3, 1] from ⟨[.int .i64 5], _, rfl, rfl, ⟨[.int .i64 3], _, rfl, rfl, ⟨[.int .i64 1], _, rfl, rfl, rfl⟩⟩⟩) rfl rfl X18663
                          refine lheap rfl (h_buildSlice rfl) hv18816 rfl ?_
                          obtain ⟨φ18818, g18819, X18820, H18821⟩ := OSl.freeze X18816 (j := 7) rfl (O8440.mono (((g9989.trans g9993).trans g18543).trans g18551))
                          obtain ⟨φ18822, g18823, X18824, H18825⟩ := OSl.freeze X18820 (j := 0) rfl (O18816.mono g18819)
                          refine lcall rfl rfl ca_19 rfl rfl (f19_ok X18824 (e8433.1) ([5, 3, 1]) (H18821.mono g18823) H18825) rfl (fun e18826 v18827 h18828 hq18829 => ?_)
                          cases hq18829
                          refine lpure (v := .bool e18826) rfl (p_pick rfl) rfl rfl ?_
                          exact ljmpM J18814 e18826 () (sub_cons rfl (sub_cons rfl (sub_cons rfl (sub_cons rfl (sub_cons rfl sub_nil))))) (St.pick X18816 (.skip _ (.keep _ (.none _ (.none _ (.none _ (.skip _ (.skip _ (.skip _ (.keep _ (.keep _ (.keep _ (.none _ (.skip _ (.keep _ (.keep _ (.keep _ (.keep _ (.none _ (.skip _ (.keep _ (.none _ (.none _ (.nil _))))))))))))))))))))))))
                        refine lskip rfl rfl ?_
                        refine lskip rfl rfl ?_
                        refine lskip rfl rfl ?_
                        refine lpure (v := .bool false) rfl (p_pick rfl) rfl rfl ?_
                        exact ljmpM J18814 false () (sub_cons rfl (sub_cons rfl (sub_cons rfl (sub_cons rfl (sub_cons rfl sub_nil))))) (St.pick X18663 (.keep _ (.none _ (.none _ (.none _ (.skip _ (.skip _ (.skip _ (.keep _ (.keep _ (.keep _ (.none _ (.skip _ (.keep _ (.keep _ (.keep _ (.keep _ (.none _ (.skip _ (.keep _ (.none _ (.none _ (.nil _)))))))))))))))))))))))
                      intro j18830 J18831
                      refine lcase (i := 111) (show _ = Value.bool s18658 from rfl) (fun k18832 => ?_) (fun k18832 => ?_)
                      · refine lpure (v := .int .i64 e8169.1) rfl (p_move rfl) rfl rfl ?_
                        refine lpure (v := .bool (decide (e8169.1 = 9657))) rfl (p_eq rfl) rfl rfl ?_
                        refine lpure (v := .bool (decide (e8169.1 = 9657))) rfl (p_pick rfl) rfl rfl ?_
                        refine Sim.of_eq (congrArg j18830 (show (s18658 && (decide (e8169.1 = 9657))) = (decide (e8169.1 = 9657)) from by rw [k18832] <;> rfl)) ?_
                        exact ljmpM J18831 (decide (e8169.1 = 9657)) () (sub_cons rfl (sub_cons rfl (sub_cons rfl (sub_cons rfl (sub_cons rfl (sub_cons rfl sub_nil)))))) (St.pick X18659 (.keep _ (.none _ (.none _ (.none _ (.skip _ (.skip _ (.skip _ (.keep _ (.keep _ (.keep _ (.none _ (.skip _ (.keep _ (.keep _ (.keep _ (.keep _ (.none _ (.skip _ (.keep _ (.none _ (.none _ (.nil _)))))))))))))))))))))))
                      refine lskip rfl rfl ?_
                      refine lskip rfl rfl ?_
                      refine lpure (v := .bool false) rfl (p_pick rfl) rfl rfl ?_
                      refine Sim.of_eq (congrArg j18830 (show (s18658 && (decide (e8169.1 = 9657))) = false from by rw [k18832] <;> rfl)) ?_
                      exact ljmpM J18831 false () (sub_cons rfl (sub_cons rfl (sub_cons rfl (sub_cons rfl (sub_cons rfl (sub_cons rfl sub_nil)))))) (St.pick X18659 (.keep _ (.none _ (.none _ (.none _ (.skip _ (.skip _ (.skip _ (.keep _ (.keep _ (.keep _ (.none _ (.skip _ (.keep _ (.keep _ (.keep _ (.keep _ (.none _ (.skip _ (.keep _ (.none _ (.none _ (.nil _)))))))))))))))))))))))
                    intro j18833 J18834
                    refine lcase (i := 107) (show _ = Value.bool s18654 from rfl) (fun k18835 => ?_) (fun k18835 => ?_)
                    · refine lpure (v := .int .i64 e8049.1) rfl (p_move rfl) rfl rfl ?_
                      refine lpure (v := .bool (decide (e8049.1 = 57))) rfl (p_eq rfl) rfl rfl ?_
                      refine lpure (v := .bool (decide (e8049.1 = 57))) rfl (p_pick rfl) rfl rfl ?_
                      refine Sim.of_eq (congrArg j18833 (show (s18654 && (decide (e8049.1 = 57))) = (decide (e8049.1 = 57)) from by rw [k18835] <;> rfl)) ?_
                      exact ljmpM J18834 (decide (e8049.1 = 57)) () (sub_cons rfl (sub_cons rfl (sub_cons rfl (sub_cons rfl (sub_cons rfl (sub_cons rfl (sub_cons rfl sub_nil))))))) (St.pick X18655 (.keep _ (.none _ (.none _ (.none _ (.skip _ (.skip _ (.skip _ (.keep _ (.keep _ (.keep _ (.none _ (.skip _ (.keep _ (.keep _ (.keep _ (.keep _ (.none _ (.skip _ (.keep _ (.none _ (.none _ (.nil _)))))))))))))))))))))))
                    refine lskip rfl rfl ?_
                    refine lskip rfl rfl ?_
                    refine lpure (v := .bool false) rfl (p_pick rfl) rfl rfl ?_
                    refine Sim.of_eq (congrArg j18833 (show (s18654 && (decide (e8049.1 = 57))) = false from by rw [k18835] <;> rfl)) ?_
                    exact ljmpM J18834 false () (sub_cons rfl (sub_cons rfl (sub_cons rfl (sub_cons rfl (sub_cons rfl (sub_cons rfl (sub_cons rfl sub_nil))))))) (St.pick X18655 (.keep _ (.none _ (.none _ (.none _ (.skip _ (.skip _ (.skip _ (.keep _ (.keep _ (.keep _ (.none _ (.skip _ (.keep _ (.keep _ (.keep _ (.keep _ (.none _ (.skip _ (.keep _ (.none _ (.none _ (.nil _)))))))))))))))))))))))
                  intro j18836 J18837
                  refine lcase (i := 103) (show _ = Value.bool s18650 from rfl) (fun k18838 => ?_) (fun k18838 => ?_)
                  · refine lpure (v := .int .i64 e7942.2.1) rfl (p_move rfl) rfl rfl ?_
                    refine lpure (v := .bool (decide (e7942.2.1 = 3))) rfl (p_eq rfl) rfl rfl ?_
                    refine lpure (v := .bool (decide (e7942.2.1 = 3))) rfl (p_pick rfl) rfl rfl ?_
                    refine Sim.of_eq (congrArg j18836 (show (s18650 && (decide (e7942.2.1 = 3))) = (decide (e7942.2.1 = 3)) from by rw [k18838] <;> rfl)) ?_
                    exact ljmpM J18837 (decide (e7942.2.1 = 3)) () (sub_cons rfl (sub_cons rfl (sub_cons rfl (sub_cons rfl (sub_cons rfl (sub_cons rfl (sub_cons rfl (sub_cons rfl sub_nil)))))))) (St.pick X18651 (.keep _ (.none _ (.none _ (.none _ (.skip _ (.skip _ (.skip _ (.keep _ (.keep _ (.keep _ (.none _ (.skip _ (.keep _ (.keep _ (.keep _ (.keep _ (.none _ (.skip _ (.keep _ (.none _ (.none _ (.nil _)))))))))))))))))))))))
                  refine lskip rfl rfl ?_
                  refine lskip rfl rfl ?_
                  refine lpure (v := .bool false) rfl (p_pick rfl) rfl rfl ?_
                  refine Sim.of_eq (congrArg j18836 (show (s18650 && (decide (e7942.2.1 = 3))) = false from by rw [k18838] <;> rfl)) ?_
                  exact ljmpM J18837 false () (sub_cons rfl (sub_cons rfl (sub_cons rfl (sub_cons rfl (sub_cons rfl (sub_cons rfl (sub_cons rfl (sub_cons rfl sub_nil)))))))) (St.pick X18651 (.keep _ (.none _ (.none _ (.none _ (.skip _ (.skip _ (.skip _ (.keep _ (.keep _ (.keep _ (.none _ (.skip _ (.keep _ (.keep _ (.keep _ (.keep _ (.none _ (.skip _ (.keep _ (.none _ (.none _ (.nil _)))))))))))))))))))))))
                intro j18839 J18840
                refine lcase (i := 99) (show _ = Value.bool s18646 from rfl) (fun k18841 => ?_) (fun k18841 => ?_)
                · refine lpure (v := .int .i64 e7942.1) rfl (p_move rfl) rfl rfl ?_
                  refine lpure (v := .bool (decide (e7942.1 = 1))) rfl (p_eq rfl) rfl rfl ?_
                  refine lpure (v := .bool (decide (e7942.1 = 1))) rfl (p_pick rfl) rfl rfl ?_
                  refine Sim.of_eq (congrArg j18839 (show (s18646 && (decide (e7942.1 = 1))) = (decide (e7942.1 = 1)) from by rw [k18841] <;> rfl)) ?_
                  exact ljmpM J18840 (decide (e7942.1 = 1)) () (sub_cons rfl (sub_cons rfl (sub_cons rfl (sub_cons rfl (sub_cons rfl (sub_cons rfl (sub_cons rfl (sub_cons rfl (sub_cons rfl sub_nil))))))))) (St.pick X18647 (.keep _ (.none _ (.none _ (.none _ (.skip _ (.skip _ (.skip _ (.keep _ (.keep _ (.keep _ (.none _ (.skip _ (.keep _ (.keep _ (.keep _ (.keep _ (.none _ (.skip _ (.keep _ (.none _ (.none _ (.nil _)))))))))))))))))))))))
                refine lskip rfl rfl ?_
                refine lskip rfl rfl ?_
                refine lpure (v := .bool false) rfl (p_pick rfl) rfl rfl ?_
                refine Sim.of_eq (congrArg j18839 (show (s18646 && (decide (e7942.1 = 1))) = false from by rw [k18841] <;> rfl)) ?_
                exact ljmpM J18840 false () (sub_cons rfl (sub_cons rfl (sub_cons rfl (sub_cons rfl (sub_cons rfl (sub_cons rfl (sub_cons rfl (sub_cons rfl (sub_cons rfl sub_nil))))))))) (St.pick X18647 (.keep _ (.none _ (.none _ (.none _ (.skip _ (.skip _ (.skip _ (.keep _ (.keep _ (.keep _ (.none _ (.skip _ (.keep _ (.keep _ (.keep _ (.keep _ (.none _ (.skip _ (.keep _ (.none _ (.none _ (.nil _)))))))))))))))))))))))
              intro j18842 J18843
              refine lif (i := 94) (show _ = Value.bool s18576 from rfl) (fun k18844 => ?_) (fun k18844 => ?_)
              · refine lpure (v := .slice a7909 n7909 c7909) rfl (p_move rfl) rfl rfl ?_
                obtain ⟨h18845, b18845, hv18845, X18845, O18845⟩ := OSl.lay (E := (eInt .i64)) (φ := φ18550) (cs := [.int .i64 0, .int .i64 1, .int .i64 2, .int .i64 3]) (l := [0, 1, 2, 3]) (len := 4) (parts := [(0, .int .i64 0), (1, .int .i64 1), (2, .int .i64 2), (3, .int .i64 3)]) un_26 ts_3 rfl rfl rfl tz_3 rfl rfl (show RowD (eInt .i64) φ18550 [.int .i64 0, .int .i64 1, .int .i64 2, .int .i64 3] [0, 1, 2, 3] from ⟨[.int .i64 0], _, rfl, rfl, ⟨[.int .i64 1], _, rfl, rfl, ⟨[.int .i64 2], _, rfl, rfl, ⟨[.int .i64 3], _, rfl, rfl, rfl⟩⟩⟩⟩) rfl rfl X18577
                refine lheap rfl (h_buildSlice rfl) hv18845 rfl ?_
                obtain ⟨φ18847, g18848, X18849, H18850⟩ := OSl.freeze X18845 (j := 12) rfl (O7909.mono (((((g8430.trans g8438).trans g9989).trans g9993).trans g18543).trans g18551))
                obtain ⟨φ18851, g18852, X18853, H18854⟩ := OSl.freeze X18849 (j := 0) rfl (O18845.mono g18848)
                refine lcall rfl rfl ca_17 rfl rfl (f17_ok X18853 (e7902.1) ([0, 1, 2, 3]) (H18850.mono g18852) H18854) rfl (fun e18855 v18856 h18857 hq18858 => ?_)
                cases hq18858
                refine lpure (v := .bool e18855) rfl (p_pick rfl) rfl rfl ?_
                exact ljmpM J18843 e18855 () (sub_cons rfl (sub_cons rfl (sub_cons rfl (sub_cons rfl (sub_cons rfl (sub_cons rfl (sub_cons rfl (sub_cons rfl (sub_cons rfl (sub_cons rfl sub_nil)))))))))) (St.pick X18845 (.skip _ (.keep _ (.none _ (.none _ (.none _ (.skip _ (.skip _ (.skip _ (.keep _ (.keep _ (.keep _ (.none _ (.skip _ (.keep _ (.keep _ (.keep _ (.keep _ (.none _ (.skip _ (.keep _ (.none _ (.none _ (.nil _))))))))))))))))))))))))
              refine lskip rfl rfl ?_
              refine lskip rfl rfl ?_
              refine lskip rfl rfl ?_
              refine lpure (v := .bool false) rfl (p_pick rfl) rfl rfl ?_
              exact ljmpM J18843 false () (sub_cons rfl (sub_cons rfl (sub_cons rfl (sub_cons rfl (sub_cons rfl (sub_cons rfl (sub_cons rfl (sub_cons rfl (sub_cons rfl (sub_cons rfl sub_nil)))))))))) (St.pick X18577 (.keep _ (.none _ (.none _ (.none _ (.skip _ (.skip _ (.skip _ (.keep _ (.keep _ (.keep _ (.none _ (.skip _ (.keep _ (.keep _ (.keep _ (.keep _ (.none _ (.skip _ (.keep _ (.none _ (.none _ (.nil _)))))))))))))))))))))))
            intro j18859 J18860
            refine lcase (i := 89) (show _ = Value.bool s18572 from rfl) (fun k18861 => ?_) (fun k18861 => ?_)
            · refine lpure (v := .int .i64 e18546.2.2) rfl (p_move rfl) rfl rfl ?_
              refine lpure (v := .bool (decide (e18546.2.2 = 0))) rfl (p_eq rfl) rfl rfl ?_
              refine lpure (v := .bool (decide (e18546.2.2 = 0))) rfl (p_pick rfl) rfl rfl ?_
              refine Sim.of_eq (congrArg j18859 (show (s18572 && (decide (e18546.2.2 = 0))) = (decide (e18546.2.2 = 0)) from by rw [k18861] <;> rfl)) ?_
              exact ljmpM J18860 (decide (e18546.2.2 = 0)) () (sub_cons rfl (sub_cons rfl (sub_cons rfl (sub_cons rfl (sub_cons rfl (sub_cons rfl (sub_cons rfl (sub_cons rfl (sub_cons rfl (sub_cons rfl (sub_cons rfl sub_nil))))))))))) (St.pick X18573 (.keep _ (.none _ (.none _ (.none _ (.skip _ (.skip _ (.skip _ (.keep _ (.keep _ (.keep _ (.none _ (.skip _ (.keep _ (.keep _ (.keep _ (.keep _ (.none _ (.skip _ (.keep _ (.none _ (.none _ (.nil _)))))))))))))))))))))))
            refine lskip rfl rfl ?_
            refine lskip rfl rfl ?_
            refine lpure (v := .bool false) rfl (p_pick rfl) rfl rfl ?_
            refine Sim.of_eq (congrArg j18859 (show (s18572 && (decide (e18546.2.2 = 0))) = false from by rw [k18861] <;> rfl)) ?_
            exact ljmpM J18860 false () (sub_cons rfl (sub_cons rfl (sub_cons rfl (sub_cons rfl (sub_cons rfl (sub_cons rfl (sub_cons rfl (sub_cons rfl (sub_cons rfl (sub_cons rfl (sub_cons rfl sub_nil))))))))))) (St.pick X18573 (.keep _ (.none _ (.none _ (.none _ (.skip _ (.skip _ (.skip _ (.keep _ (.keep _ (.keep _ (.none _ (.skip _ (.keep _ (.keep _ (.keep _ (.keep _ (.none _ (.skip _ (.keep _ (.none _ (.none _ (.nil _)))))))))))))))))))))))
          intro j18862 J18863
          refine lcase (i := 85) (show _ = Value.bool s18568 from rfl) (fun k18864 => ?_) (fun k18864 => ?_)
          · refine lpure (v := .int .i64 e9980.2) rfl (p_move rfl) rfl rfl ?_
            refine lpure (v := .bool (decide (e9980.2 = 0))) rfl (p_eq rfl) rfl rfl ?_
            refine lpure (v := .bool (decide (e9980.2 = 0))) rfl (p_pick rfl) rfl rfl ?_
            refine Sim.of_eq (congrArg j18862 (show (s18568 && (decide (e9980.2 = 0))) = (decide (e9980.2 = 0)) from by rw [k18864] <;> rfl)) ?_
            exact ljmpM J18863 (decide (e9980.2 = 0)) () (sub_cons rfl (sub_cons rfl (sub_cons rfl (sub_cons rfl (sub_cons rfl (sub_cons rfl (sub_cons rfl (sub_cons rfl (sub_cons rfl (sub_cons rfl (sub_cons rfl (sub_cons rfl sub_nil)))))))))))) (St.pick X18569 (.keep _ (.none _ (.none _ (.none _ (.skip _ (.skip _ (.skip _ (.keep _ (.keep _ (.keep _ (.none _ (.skip _ (.keep _ (.keep _ (.keep _ (.keep _ (.none _ (.skip _ (.keep _ (.none _ (.none _ (.nil _)))))))))))))))))))))))
          refine lskip rfl rfl ?_
          refine lskip rfl rfl ?_
          refine lpure (v := .bool false) rfl (p_pick rfl) rfl rfl ?_
          refine Sim.of_eq (congrArg j18862 (show (s18568 && (decide (e9980.2 = 0))) = false from by rw [k18864] <;> rfl)) ?_
          exact ljmpM J18863 false () (sub_cons rfl (sub_cons rfl (sub_cons rfl (sub_cons rfl (sub_cons rfl (sub_cons rfl (sub_cons rfl (sub_cons rfl (sub_cons rfl (sub_cons rfl (sub_cons rfl (sub_cons rfl sub_nil)))))))))))) (St.pick X18569 (.keep _ (.none _ (.none _ (.none _ (.skip _ (.skip _ (.skip _ (.keep _ (.keep _ (.keep _ (.none _ (.skip _ (.keep _ (.keep _ (.keep _ (.keep _ (.none _ (.skip _ (.keep _ (.none _ (.none _ (.nil _)))))))))))))))))))))))
        intro j18865 J18866
        refine lcase (i := 81) (show _ = Value.bool s18564 from rfl) (fun k18867 => ?_) (fun k18867 => ?_)
        · refine lpure (v := .int .i64 e8433.2) rfl (p_move rfl) rfl rfl ?_
          refine lpure (v := .bool (decide (e8433.2 = 0))) rfl (p_eq rfl) rfl rfl ?_
          refine lpure (v := .bool (decide (e8433.2 = 0))) rfl (p_pick rfl) rfl rfl ?_
          refine Sim.of_eq (congrArg j18865 (show (s18564 && (decide (e8433.2 = 0))) = (decide (e8433.2 = 0)) from by rw [k18867] <;> rfl)) ?_
          exact ljmpM J18866 (decide (e8433.2 = 0)) () (sub_cons rfl (sub_cons rfl (sub_cons rfl (sub_cons rfl (sub_cons rfl (sub_cons rfl (sub_cons rfl (sub_cons rfl (sub_cons rfl (sub_cons rfl (sub_cons rfl (sub_cons rfl (sub_cons rfl sub_nil))))))))))))) (St.pick X18565 (.keep _ (.none _ (.none _ (.none _ (.skip _ (.skip _ (.skip _ (.keep _ (.keep _ (.keep _ (.none _ (.skip _ (.keep _ (.keep _ (.keep _ (.keep _ (.none _ (.skip _ (.keep _ (.none _ (.none _ (.nil _)))))))))))))))))))))))
        refine lskip rfl rfl ?_
        refine lskip rfl rfl ?_
        refine lpure (v := .bool false) rfl (p_pick rfl) rfl rfl ?_
        refine Sim.of_eq (congrArg j18865 (show (s18564 && (decide (e8433.2 = 0))) = false from by rw [k18867] <;> rfl)) ?_
        exact ljmpM J18866 false () (sub_cons rfl (sub_cons rfl (sub_cons rfl (sub_cons rfl (sub_cons rfl (sub_cons rfl (sub_cons rfl (sub_cons rfl (sub_cons rfl (sub_cons rfl (sub_cons rfl (sub_cons rfl (sub_cons rfl sub_nil))))))))))))) (St.pick X18565 (.keep _ (.none _ (.none _ (.none _ (.skip _ (.skip _ (.skip _ (.keep _ (.keep _ (.keep _ (.none _ (.skip _ (.keep _ (.keep _ (.keep _ (.keep _ (.none _ (.skip _ (.keep _ (.none _ (.none _ (.nil _)))))))))))))))))))))))
      intro j18868 J18869
      refine lcase (i := 77) (show _ = Value.bool s18560 from rfl) (fun k18870 => ?_) (fun k18870 => ?_)
      · refine lpure (v := .int .i64 e8169.2) rfl (p_move rfl) rfl rfl ?_
        refine lpure (v := .bool (decide (e8169.2 = 0))) rfl (p_eq rfl) rfl rfl ?_
        refine lpure (v := .bool (decide (e8169.2 = 0))) rfl (p_pick rfl) rfl rfl ?_
        refine Sim.of_eq (congrArg j18868 (show (s18560 && (decide (e8169.2 = 0))) = (decide (e8169.2 = 0)) from by rw [k18870] <;> rfl)) ?_
        exact ljmpM J18869 (decide (e8169.2 = 0)) () (sub_cons rfl (sub_cons rfl (sub_cons rfl (sub_cons rfl (sub_cons rfl (sub_cons rfl (sub_cons rfl (sub_cons rfl (sub_cons rfl (sub_cons rfl (sub_cons rfl (sub_cons rfl (sub_cons rfl (sub_cons rfl sub_nil)))))))))))))) (St.pick X18561 (.keep _ (.none _ (.none _ (.none _ (.skip _ (.skip _ (.skip _ (.keep _ (.keep _ (.keep _ (.none _ (.skip _ (.keep _ (.keep _ (.keep _ (.keep _ (.none _ (.skip _ (.keep _ (.none _ (.none _ (.nil _)))))))))))))))))))))))
      refine lskip rfl rfl ?_
      refine lskip rfl rfl ?_
      refine lpure (v := .bool false) rfl (p_pick rfl) rfl rfl ?_
      refine Sim.of_eq (congrArg j18868 (show (s18560 && (decide (e8169.2 = 0))) = false from by rw [k18870] <;> rfl)) ?_
      exact ljmpM J18869 false () (sub_cons rfl (sub_cons rfl (sub_cons rfl (sub_cons rfl (sub_cons rfl (sub_cons rfl (sub_cons rfl (sub_cons rfl (sub_cons rfl (sub_cons rfl (sub_cons rfl (sub_cons rfl (sub_cons rfl (sub_cons rfl sub_nil)))))))))))))) (St.pick X18561 (.keep _ (.none _ (.none _ (.none _ (.skip _ (.skip _ (.skip _ (.keep _ (.keep _ (.keep _ (.none _ (.skip _ (.keep _ (.keep _ (.keep _ (.keep _ (.none _ (.skip _ (.keep _ (.none _ (.none _ (.nil _)))))))))))))))))))))))
    intro j18871 J18872
    refine lcase (i := 73) (show _ = Value.bool s18556 from rfl) (fun k18873 => ?_) (fun k18873 => ?_)
    · refine lpure (v := .int .i64 e8049.2) rfl (p_move rfl) rfl rfl ?_
      refine lpure (v := .bool (decide (e8049.2 = 0))) rfl (p_eq rfl) rfl rfl ?_
      refine lpure (v := .bool (decide (e8049.2 = 0))) rfl (p_pick rfl) rfl rfl ?_
      refine Sim.of_eq (congrArg j18871 (show (s18556 && (decide (e8049.2 = 0))) = (decide (e8049.2 = 0)) from by rw [k18873] <;> rfl)) ?_
      exact ljmpM J18872 (decide (e8049.2 = 0)) () (sub_cons rfl (sub_cons rfl (sub_cons rfl (sub_cons rfl (sub_cons rfl (sub_cons rfl (sub_cons rfl (sub_cons rfl (sub_cons rfl (sub_cons rfl (sub_cons rfl (sub_cons rfl (sub_cons rfl (sub_cons rfl (sub_cons rfl sub_nil))))))))))))))) (St.pick X18557 (.keep _ (.none _ (.none _ (.none _ (.skip _ (.skip _ (.skip _ (.keep _ (.keep _ (.keep _ (.none _ (.skip _ (.keep _ (.keep _ (.keep _ (.keep _ (.none _ (.skip _ (.keep _ (.none _ (.none _ (.nil _)))))))))))))))))))))))
    refine lskip rfl rfl ?_
    refine lskip rfl rfl ?_
    refine lpure (v := .bool false) rfl (p_pick rfl) rfl rfl ?_
    refine Sim.of_eq (congrArg j18871 (show (s18556 && (decide (e8049.2 = 0))) = false from by rw [k18873] <;> rfl)) ?_
    exact ljmpM J18872 false () (sub_cons rfl (sub_cons rfl (sub_cons rfl (sub_cons rfl (sub_cons rfl (sub_cons rfl (sub_cons rfl (sub_cons rfl (sub_cons rfl (sub_cons rfl (sub_cons rfl (sub_cons rfl (sub_cons rfl (sub_cons rfl (sub_cons rfl sub_nil))))))))))))))) (St.pick X18557 (.keep _ (.none _ (.none _ (.none _ (.skip _ (.skip _ (.skip _ (.keep _ (.keep _ (.keep _ (.none _ (.skip _ (.keep _ (.keep _ (.keep _ (.keep _ (.none _ (.skip _ (.keep _ (.none _ (.none _ (.nil _)))))))))))))))))))))))
  intro j18874 J18875
  refine lcase (i := 69) (show _ = Value.bool (decide (e7902.2 = 0)) from rfl) (fun k18876 => ?_) (fun k18876 => ?_)
  · refine lpure (v := .int .i64 e7942.2.2) rfl (p_move rfl) rfl rfl ?_
    refine lpure (v := .bool (decide (e7942.2.2 = 0))) rfl (p_eq rfl) rfl rfl ?_
    refine lpure (v := .bool (decide (e7942.2.2 = 0))) rfl (p_pick rfl) rfl rfl ?_
    refine Sim.of_eq (congrArg j18874 (show ((decide (e7902.2 = 0)) && (decide (e7942.2.2 = 0))) = (decide (e7942.2.2 = 0)) from by rw [k18876] <;> rfl)) ?_
    exact ljmpM J18875 (decide (e7942.2.2 = 0)) () (sub_cons rfl (sub_cons rfl (sub_cons rfl (sub_cons rfl (sub_cons rfl (sub_cons rfl (sub_cons rfl (sub_cons rfl (sub_cons rfl (sub_cons rfl (sub_cons rfl (sub_cons rfl (sub_cons rfl (sub_cons rfl (sub_cons rfl (sub_cons rfl sub_nil)))))))))))))))) (St.pick X18552 (.keep _ (.none _ (.none _ (.none _ (.skip _ (.skip _ (.skip _ (.keep _ (.keep _ (.keep _ (.none _ (.skip _ (.keep _ (.keep _ (.keep _ (.keep _ (.none _ (.skip _ (.keep _ (.none _ (.none _ (.nil _)))))))))))))))))))))))
  refine lskip rfl rfl ?_
  refine lskip rfl rfl ?_
  refine lpure (v := .bool false) rfl (p_pick rfl) rfl rfl ?_
  refine Sim.of_eq (congrArg j18874 (show ((decide (e7902.2 = 0)) && (decide (e7942.2.2 = 0))) = false from by rw [k18876] <;> rfl)) ?_
  exact ljmpM J18875 false () (sub_cons rfl (sub_cons rfl (sub_cons rfl (sub_cons rfl (sub_cons rfl (sub_cons rfl (sub_cons rfl (sub_cons rfl (sub_cons rfl (sub_cons rfl (sub_cons rfl (sub_cons rfl (sub_cons rfl (sub_cons rfl (sub_cons rfl (sub_cons rfl sub_nil)))))))))))))))) (St.pick X18552 (.keep _ (.none _ (.none _ (.none _ (.skip _ (.skip _ (.skip _ (.keep _ (.keep _ (.keep _ (.none _ (.skip _ (.keep _ (.keep _ (.keep _ (.keep _ (.none _ (.skip _ (.keep _ (.none _ (.none _ (.nil _)))))))))))))))))))))))
/-! isochron/isochronlaw21.few -/
theorem f7_ok {n : Nat} {φ : Fz} {lo : Nat} {h : Heap} {own : OwnL}  {a18902 : Option Addr} {n18902 c18902 : Nat} {a18903 : Option Addr} {n18903 c18903 : Nat} (X : St φ lo h (own)) (p18901 : ApiTopo) (H18902 : RSl eBool φ (.slice a18902 n18902 c18902) p18901.Station) (H18903 : RSl eApiLink φ (.slice a18903 n18903 c18903) p18901.Links) (K18902 : c18902 < unk) (K18903 : c18903 < unk) : Sim ((recN Tryz.prog LL cutF (n + 1)).call 7 #[(.agg #[.int .i64 p18901.Nodes, .slice a18902 n18902 c18902, .slice a18903 n18903 c18903])] h) (m_isochronlaw21_few p18901) (fun (d : ApiTopo) p => ∃ a18920 : Option Addr, ∃ n18920 : Nat, ∃ c18920 : Nat, ∃ a18921 : Option Addr, ∃ n18921 : Nat, ∃ c18921 : Nat, p = (.agg #[.int .i64 d.Nodes, .slice a18920 n18920 c18920, .slice a18921 n18921 c18921], h) ∧ RSl eBool φ (.slice a18920 n18920 c18920) d.Station ∧ RSl eApiLink φ (.slice a18921 n18921 c18921) d.Links) := by
  refine fcut Tryz.func7 rfl rfl rfl rfl X ?_
  intro h0 X0
  refine dseq (dreg ?_)
  refine lbox rfl rfl rfl rfl rfl X0 (fun b18904 h18906 X18907 => ?_)
  refine lalloc rfl tz_25 rfl rfl rfl X18907 (fun b18908 h18910 X18911 => ?_)
  refine lend (nseq (dseq ?_))
  refine ddraw 163840 163840 10320 (by kernel_rfl) ?_
  refine spure (v := .pointer (some ⟨b18904, 1, none⟩)) rfl (p_fa fo_25_1 rfl) (lo_t (lo_own X18911 (j := 1) (o := 0) (s := none) (f := 0) rfl) rfl) rfl rfl ?_
  refine sload (v := .slice a18902 n18902 c18902) rfl rfl (q_load wd_22 rfl) (St.ld X18911 (j := 1) rfl rfl) (same_self 20 rfl) rfl ?_
  refine spure (v := .pointer (some ⟨b18904, 1, none⟩)) rfl (p_fa fo_25_1 rfl) (lo_t (lo_own X18911 (j := 1) (o := 0) (s := none) (f := 0) rfl) rfl) rfl rfl ?_
  refine sload (v := .slice a18902 n18902 c18902) rfl rfl (q_load wd_22 rfl) (St.ld X18911 (j := 1) rfl rfl) (same_self 20 rfl) rfl ?_
  refine spure (v := .int .i64 (p18901.Station.length : Int)) rfl (p_len rfl rfl rfl un_22 rfl) (lo_t (lo_sl X18911 H18902) rfl) (RSl.lenC H18902) rfl ?_
  refine spure (v := .int .i64 (min (p18901.Station.length : Int) 20)) rfl (p_min rfl rfl rfl) (lo_t rfl (lo_c rfl)) rfl rfl ?_
  refine Sim.mustM fun k18912 => ?_
  have k18912 := of_decide_eq_true k18912
  obtain ⟨a18912, n18912, c18912, hv18912, H18912, K18912⟩ := RSl.sliceC H18902 K18902 (m := 1) rfl bnd_none (bnd_int (show (0 : Int) ≤ (min (p18901.Station.length : Int) 20) from by omega)) (by omega) (by omega)
  refine spure rfl (p_slice rs_22 rfl (evo_ok rfl) (evo_ok rfl) (evo_ok rfl)) (lo_t (lo_sl X18911 H18902) (lo_t rfl rfl)) hv18912 rfl ?_
  refine spure (v := .pointer (some ⟨b18904, 2, none⟩)) rfl (p_fa fo_25_2 rfl) (lo_t (lo_own X18911 (j := 1) (o := 0) (s := none) (f := 0) rfl) rfl) rfl rfl ?_
  refine sload (v := .slice a18903 n18903 c18903) rfl rfl (q_load wd_23 rfl) (St.ld X18911 (j := 1) rfl rfl) (same_self 20 rfl) rfl ?_
  refine spure (v := .pointer (some ⟨b18904, 2, none⟩)) rfl (p_fa fo_25_2 rfl) (lo_t (lo_own X18911 (j := 1) (o := 0) (s := none) (f := 0) rfl) rfl) rfl rfl ?_
  refine sload (v := .slice a18903 n18903 c18903) rfl rfl (q_load wd_23 rfl) (St.ld X18911 (j := 1) rfl rfl) (same_self 20 rfl) rfl ?_
  refine spure (v := .int .i64 (p18901.Links.length : Int)) rfl (p_len rfl rfl rfl un_23 rfl) (lo_t (lo_sl X18911 H18903) rfl) (RSl.lenC H18903) rfl ?_
  refine spure (v := .int .i64 (min (p18901.Links.length : Int) 30)) rfl (p_min rfl rfl rfl) (lo_t rfl (lo_c rfl)) rfl rfl ?_
  refine Sim.mustM fun k18913 => ?_
  have k18913 := of_decide_eq_true k18913
  obtain ⟨a18913, n18913, c18913, hv18913, H18913, K18913⟩ := RSl.sliceC H18903 K18903 (m := 4) rfl bnd_none (bnd_int (show (0 : Int) ≤ (min (p18901.Links.length : Int) 30) from by omega)) (by omega) (by omega)
  refine spure rfl (p_slice rs_23 rfl (evo_ok rfl) (evo_ok rfl) (evo_ok rfl)) (lo_t (lo_sl X18911 H18903) (lo_t rfl rfl)) hv18913 rfl ?_
  refine spure (v := .pointer (some ⟨b18904, 1, none⟩)) rfl (p_fa fo_25_1 rfl) (lo_t (lo_own X18911 (j := 1) (o := 0) (s := none) (f := 0) rfl) rfl) rfl rfl ?_
  refine sstore rfl rfl ts_22 rfl rfl (j := 1) rfl rfl rfl rfl rfl rfl X18911 (fun h18914 X18915 => ?_)
  refine spure (v := .pointer (some ⟨b18904, 2, none⟩)) rfl (p_fa fo_25_2 rfl) (lo_t (lo_own X18915 (j := 1) (o := 0) (s := none) (f := 0) rfl) rfl) rfl rfl ?_
  refine sstore rfl rfl ts_23 rfl rfl (j := 1) rfl rfl rfl rfl rfl rfl X18915 (fun h18916 X18917 => ?_)
  refine send ?_
  refine nseq (dseq (dreg ?_))
  refine lread (v := .agg #[.int .i64 p18901.Nodes, .slice a18912 n18912 c18912, .slice a18913 n18913 c18913]) rfl (q_load wd_25 rfl) (St.ld X18917 (j := 1) rfl rfl) rfl ?_
  refine lstore rfl ts_25 rfl rfl (j := 0) rfl rfl rfl rfl rfl rfl X18917 (fun h18918 X18919 => ?_)
  refine lend (nseq (dret ?_))
  exact kcut_r (res_1 (resC wd_25 (St.ld X18919 (j := 0) rfl rfl))) X18919 (lo_agg (all_cons rfl (all_cons (lo_slF X.fzlt H18912) (all_cons (lo_slF X.fzlt H18913) all_nil)))) ⟨a18912, n18912, c18912, a18913, n18913, c18913, rfl, H18912, H18913⟩
/-! isochron/isochronlaw21.cut -/
theorem f8_ok {n : Nat} {φ : Fz} {lo : Nat} {h : Heap} {own : OwnL}  {a18937 : Option Addr} {n18937 c18937 : Nat} (X : St φ lo h (own)) (p18936 : (List Int)) (H18937 : RSl (eInt .i64) φ (.slice a18937 n18937 c18937) p18936) : Sim ((recN Tryz.prog LL cutF (n + 1)).call 8 #[(.slice a18937 n18937 c18937)] h) (m_isochronlaw21_cut p18936) (fun (d : (List Int)) p => ∃ φ2 : Fz, ∃ a18942 : Option Addr, ∃ n18942 : Nat, ∃ c18942 : Nat, ∃ ob18942 : Option Nat, ∃ blk18942 : Blk, Fz.le φ φ2 ∧ St φ2 lo p.2 ((ob18942, blk18942) :: own) ∧ p.1 = .slice a18942 n18942 c18942 ∧ OSl (eInt .i64) φ2 3 ob18942 blk18942 (.slice a18942 n18942 c18942) d) := by
  refine fopen Tryz.func8 rfl rfl rfl rfl ?_
  refine dseq (dreg ?_)
  refine lpure (v := .slice none 0 0) rfl (p_assign rfl) rfl rfl ?_
  refine lend (nseq (dseq (dreg ?_)))
  obtain ⟨h18938, b18938, hv18938, X18938, O18938⟩ := OSl.lay (E := (eInt .i64)) (φ := φ) (cs := []) (l := ([] : List Int)) (len := 0) (parts := []) un_27 ts_3 rfl rfl rfl tz_3 rfl rfl (show RowD (eInt .i64) φ [] ([] : List Int) from rfl) rfl rfl X
  refine lheap rfl (h_buildSlice rfl) hv18938 rfl ?_
  refine lpure (v := .slice a18937 n18937 c18937) rfl (p_move rfl) rfl rfl ?_
  refine lpure (v := .slice a18937 n18937 c18937) rfl (p_move rfl) rfl rfl ?_
  refine lpure (v := .int .i64 (p18936.length : Int)) rfl (p_len rfl rfl rfl un_27 rfl) (RSl.lenC H18937) rfl ?_
  refine lpure (v := .int .i64 (min (p18936.length : Int) 12)) rfl (p_min rfl rfl rfl) rfl rfl ?_
  refine Sim.mustM fun k18940 => ?_
  have k18940 := of_decide_eq_true k18940
  obtain ⟨a18940, n18940, c18940, hv18940, H18940⟩ := RSl.slice H18937 X18938 un_27 ts_3 rfl bnd_none (bnd_int (show (0 : Int) ≤ (min (p18936.length : Int) 12) from by omega)) (by omega) (by omega)
  refine lread rfl (q_slice rfl (evo_ok rfl) (evo_ok rfl) (evo_ok rfl)) hv18940 rfl ?_
  obtain ⟨ws18941, hw18941⟩ := RSl.read H18940 X18938 (n := 1) rfl
  refine Sim.mustM fun k18941 => ?_
  obtain ⟨h18941, a18941, c18941, ob18941, blk18941, hv18941, X18941, O18941⟩ := OSl.append O18938 X18938 (j := 0) rfl hw18941 k18941 (ts := #[27, 27]) rfl un_27 (argOk_of ax_27_27) ts_3 rfl rfl tb_3 rfl tz_3 rfl
  refine lheap rfl (h_builtin rfl rfl) hv18941 rfl ?_
  refine lpure (v := .slice a18941 (([] : List Int).length + (p18936.take ((min (p18936.length : Int) 12)).toNat).length) c18941) rfl (p_assign rfl) rfl rfl ?_
  refine lend (nseq (dret ?_))
  exact kopen_r (res_1 resT) ⟨φ, a18941, ((([] : List Int).length + (p18936.take ((min (p18936.length : Int) 12)).toNat).length)), c18941, ob18941, blk18941, (Fz.le_refl _), St.pick X18941 (.keep _ (.refl _)), rfl, O18941⟩
/-! isochron/isochronref16.node -/
theorem f83_ok {n : Nat} {φ : Fz} {lo : Nat} {h : Heap} {own : OwnL}  {a19046 : Option Addr} {n19046 c19046 : Nat} {a19047 : Option Addr} {n19047 c19047 : Nat} (X : St φ lo h (own)) (p19045 : ApiTopo) (p19048 : Int) (H19046 : RSl eBool φ (.slice a19046 n19046 c19046) p19045.Station) (H19047 : RSl eApiLink φ (.slice a19047 n19047 c19047) p19045.Links) : Sim ((recN Tryz.prog LL cutF (n + 1)).call 83 #[(.agg #[.int .i64 p19045.Nodes, .slice a19046 n19046 c19046, .slice a19047 n19047 c19047]), (.int .i64 p19048)] h) (m_isochronref16_node p19045 p19048) (fun (d : Bool) p => p = (.bool d, h)) := by
  refine fcut Tryz.func83 rfl rfl rfl rfl X ?_
  intro h0 X0
  refine dseq (dreg ?_)
  refine lbox rfl rfl rfl rfl rfl X0 (fun b19049 h19051 X19052 => ?_)
  refine lpure (v := .bool false) rfl (p_assign rfl) rfl rfl ?_
  refine lend (nseq (dseq (dreg ?_)))
  refine lpure (v := .int .i64 p19048) rfl (p_move rfl) rfl rfl ?_
  refine lpure (v := .bool (decide (0 ≤ p19048))) rfl (p_ge rfl) rfl rfl ?_
  refine lpure (v := .bool (decide (0 ≤ p19048))) rfl (p_move rfl) rfl rfl ?_
  refine lsh (τ := Bool) (σ := Unit) (fun s19054 (_ : Unit) => [(12, .bool s19054)]) (fun s19054 (_ : Unit) hh => St φ h.n hh ([(some b19049, .cells [.int .i64 p19045.Nodes, .slice a19046 n19046 c19046, .slice a19047 n19047 c19047] 25 .exact)])) 5 ?_ ?_
  · rintro s19054 _ t0 h19056 X19055
    refine lpure (v := .bool s19054) rfl (p_assign rfl) rfl rfl ?_
    refine lend (nseq (dret ?_))
    exact kcut_r (res_1 resT) X19055 rfl rfl
  intro j19057 J19058
  refine lcase (i := 7) (show _ = Value.bool (decide (0 ≤ p19048)) from rfl) (fun k19059 => ?_) (fun k19059 => ?_)
  · refine lpure (v := .int .i64 p19048) rfl (p_move rfl) rfl rfl ?_
    refine lpure (v := .pointer (some ⟨b19049, 0, none⟩)) rfl (p_fa fo_25_0 rfl) rfl rfl ?_
    refine lread (v := .int .i64 p19045.Nodes) rfl (q_load wd_3 rfl) (St.ld X19052 (j := 0) rfl rfl) rfl ?_
    refine lpure (v := .bool (decide (p19048 < p19045.Nodes))) rfl (p_lt rfl) rfl rfl ?_
    refine lpure (v := .bool (decide (p19048 < p19045.Nodes))) rfl (p_pick rfl) rfl rfl ?_
    refine Sim.of_eq (congrArg j19057 (show ((decide (0 ≤ p19048)) && (decide (p19048 < p19045.Nodes))) = (decide (p19048 < p19045.Nodes)) from by rw [k19059] <;> rfl)) ?_
    exact ljmpM J19058 (decide (p19048 < p19045.Nodes)) () (sub_cons rfl sub_nil) X19052
  refine lskip rfl rfl ?_
  refine lskip rfl rfl ?_
  refine lskip rfl rfl ?_
  refine lskip rfl rfl ?_
  refine lpure (v := .bool false) rfl (p_pick rfl) rfl rfl ?_
  refine Sim.of_eq (congrArg j19057 (show ((decide (0 ≤ p19048)) && (decide (p19048 < p19045.Nodes))) = false from by rw [k19059] <;> rfl)) ?_
  exact ljmpM J19058 false () (sub_cons rfl sub_nil) X19052
/-! isochron/isochronref16.link -/
theorem f63_ok {n : Nat} {φ : Fz} {lo : Nat} {h : Heap} {own : OwnL}  {a19034 : Option Addr} {n19034 c19034 : Nat} {a19035 : Option Addr} {n19035 c19035 : Nat} (X : St φ lo h (own)) (p19033 : ApiTopo) (p19036 : ApiLink) (H19034 : RSl eBool φ (.slice a19034 n19034 c19034) p19033.Station) (H19035 : RSl eApiLink φ (.slice a19035 n19035 c19035) p19033.Links) : Sim ((recN Tryz.prog LL cutF (n + 2)).call 63 #[(.agg #[.int .i64 p19033.Nodes, .slice a19034 n19034 c19034, .slice a19035 n19035 c19035]), (.agg #[.int .i64 p19036.A, .int .i64 p19036.B, .int .i64 p19036.Per, .int .i64 p19036.Delay])] h) (m_isochronref16_link p19033 p19036) (fun (d : Bool) p => p = (.bool d, h)) := by
  refine fcut Tryz.func63 rfl rfl rfl rfl X ?_
  intro h0 X0
  refine dseq (dreg ?_)
  refine lbox rfl rfl rfl rfl rfl X0 (fun b19037 h19039 X19040 => ?_)
  refine lbox rfl rfl rfl rfl rfl X19040 (fun b19041 h19043 X19044 => ?_)
  refine lpure (v := .bool false) rfl (p_assign rfl) rfl rfl ?_
  refine lend (nseq (dseq (dseq (dreg ?_))))
  refine lread (v := .agg #[.int .i64 p19033.Nodes, .slice a19034 n19034 c19034, .slice a19035 n19035 c19035]) rfl (q_load wd_25 rfl) (St.ld X19044 (j := 1) rfl rfl) rfl ?_
  refine lpure (v := .pointer (some ⟨b19041, 0, none⟩)) rfl (p_fa fo_65_0 rfl) rfl rfl ?_
  refine lread (v := .int .i64 p19036.A) rfl (q_load wd_3 rfl) (St.ld X19044 (j := 0) rfl rfl) rfl ?_
  refine lcall rfl rfl ca_83 rfl rfl (f83_ok X19044 p19033 (p19036.A) H19034 H19035) rfl (fun e19060 v19061 h19062 hq19063 => ?_)
  cases hq19063
  refine lpure (v := .bool (!e19060)) rfl (p_not rfl) rfl rfl ?_
  refine lpure (v := .bool (!e19060)) rfl (p_move rfl) rfl rfl ?_
  refine ljoinM (τ := Bool) (σ := Unit) (fun s19070 (_ : Unit) => [(2, .pointer (some ⟨b19037, 0, none⟩)), (3, .pointer (some ⟨b19041, 0, none⟩)), (16, .bool s19070)]) (fun s19070 (_ : Unit) hh => St φ h.n hh ([(some b19041, .cells [.int .i64 p19036.A, .int .i64 p19036.B, .int .i64 p19036.Per, .int .i64 p19036.Delay] 65 .exact), (some b19037, .cells [.int .i64 p19033.Nodes, .slice a19034 n19034 c19034, .slice a19035 n19035 c19035] 25 .exact)])) 6 ?_ ?_
  · rintro s19070 _ t0 h19072 X19071
    refine lpure (v := .bool s19070) rfl (p_move rfl) rfl rfl ?_
    refine lsh (τ := Bool) (σ := Unit) (fun s19074 (_ : Unit) => [(2, .pointer (some ⟨b19037, 0, none⟩)), (3, .pointer (some ⟨b19041, 0, none⟩)), (23, .bool s19074)]) (fun s19074 (_ : Unit) hh => St φ h.n hh ([(some b19041, .cells [.int .i64 p19036.A, .int .i64 p19036.B, .int .i64 p19036.Per, .int .i64 p19036.Delay] 65 .exact), (some b19037, .cells [.int .i64 p19033.Nodes, .slice a19034 n19034 c19034, .slice a19035 n19035 c19035] 25 .exact)])) 6 ?_ ?_
    · rintro s19074 _ t0 h19076 X19075
      refine lpure (v := .bool s19074) rfl (p_move rfl) rfl rfl ?_
      refine ljoinM (τ := Bool) (σ := Unit) (fun s19086 (_ : Unit) => [(3, .pointer (some ⟨b19041, 0, none⟩)), (39, .bool s19086)]) (fun s19086 (_ : Unit) hh => St φ h.n hh ([(some b19041, .cells [.int .i64 p19036.A, .int .i64 p19036.B, .int .i64 p19036.Per, .int .i64 p19036.Delay] 65 .exact), (some b19037, .cells [.int .i64 p19033.Nodes, .slice a19034 n19034 c19034, .slice a19035 n19035 c19035] 25 .exact)])) 15 ?_ ?_
      · rintro s19086 _ t0 h19088 X19087
        refine lend (nseq ?_)
        refine dcond rfl rfl (fun k19089 => ?_) (fun k19089 => ?_)
        · refine dseq (dreg ?_)
          refine lpure (v := .bool false) rfl (p_assign rfl) rfl rfl ?_
          refine lend (nseq (dret (rseq ?_)))
          exact kcut_r (res_1 resT) X19087 rfl rfl
        refine dskip (nseq (dseq (dreg ?_)))
        refine lpure (v := .pointer (some ⟨b19041, 2, none⟩)) rfl (p_fa fo_65_2 rfl) rfl rfl ?_
        refine lread (v := .int .i64 p19036.Per) rfl (q_load wd_3 rfl) (St.ld X19087 (j := 0) rfl rfl) rfl ?_
        refine lpure (v := .bool (decide (1 ≤ p19036.Per))) rfl (p_ge rfl) rfl rfl ?_
        refine lpure (v := .bool (decide (1 ≤ p19036.Per))) rfl (p_move rfl) rfl rfl ?_
        refine lsh (τ := Bool) (σ := Unit) (fun s19091 (_ : Unit) => [(3, .pointer (some ⟨b19041, 0, none⟩)), (47, .bool s19091)]) (fun s19091 (_ : Unit) hh => St φ h.n hh ([(some b19041, .cells [.int .i64 p19036.A, .int .i64 p19036.B, .int .i64 p19036.Per, .int .i64 p19036.Delay] 65 .exact), (some b19037, .cells [.int .i64 p19033.Nodes, .slice a19034 n19034 c19034, .slice a19035 n19035 c19035] 25 .exact)])) 4 ?_ ?_
        · rintro s19091 _ t0 h19093 X19092
          refine lpure (v := .bool s19091) rfl (p_move rfl) rfl rfl ?_
          refine lsh (τ := Bool) (σ := Unit) (fun s19095 (_ : Unit) => [(3, .pointer (some ⟨b19041, 0, none⟩)), (52, .bool s19095)]) (fun s19095 (_ : Unit) hh => St φ h.n hh ([(some b19041, .cells [.int .i64 p19036.A, .int .i64 p19036.B, .int .i64 p19036.Per, .int .i64 p19036.Delay] 65 .exact), (some b19037, .cells [.int .i64 p19033.Nodes, .slice a19034 n19034 c19034, .slice a19035 n19035 c19035] 25 .exact)])) 4 ?_ ?_
          · rintro s19095 _ t0 h19097 X19096
            refine lpure (v := .bool s19095) rfl (p_move rfl) rfl rfl ?_
            refine lsh (τ := Bool) (σ := Unit) (fun s19099 (_ : Unit) => [(57, .bool s19099)]) (fun s19099 (_ : Unit) hh => St φ h.n hh ([(some b19041, .cells [.int .i64 p19036.A, .int .i64 p19036.B, .int .i64 p19036.Per, .int .i64 p19036.Delay] 65 .exact), (some b19037, .cells [.int .i64 p19033.Nodes, .slice a19034 n19034 c19034, .slice a19035 n19035 c19035] 25 .exact)])) 4 ?_ ?_
            · rintro s19099 _ t0 h19101 X19100
              refine lpure (v := .bool s19099) rfl (p_assign rfl) rfl rfl ?_
              refine lend (nseq (dret ?_))
              exact kcut_r (res_1 resT) X19100 rfl rfl
            intro j19102 J19103
            refine lcase (i := 53) (show _ = Value.bool s19095 from rfl) (fun k19104 => ?_) (fun k19104 => ?_)
            · refine lpure (v := .pointer (some ⟨b19041, 3, none⟩)) rfl (p_fa fo_65_3 rfl) rfl rfl ?_
              refine lread (v := .int .i64 p19036.Delay) rfl (q_load wd_3 rfl) (St.ld X19096 (j := 0) rfl rfl) rfl ?_
              refine lpure (v := .bool (decide (p19036.Delay ≤ 10000))) rfl (p_le rfl) rfl rfl ?_
              refine lpure (v := .bool (decide (p19036.Delay ≤ 10000))) rfl (p_pick rfl) rfl rfl ?_
              refine Sim.of_eq (congrArg j19102 (show (s19095 && (decide (p19036.Delay ≤ 10000))) = (decide (p19036.Delay ≤ 10000)) from by rw [k19104] <;> rfl)) ?_
              exact ljmpM J19103 (decide (p19036.Delay ≤ 10000)) () (sub_cons rfl sub_nil) X19096
            refine lskip rfl rfl ?_
            refine lskip rfl rfl ?_
            refine lskip rfl rfl ?_
            refine lpure (v := .bool false) rfl (p_pick rfl) rfl rfl ?_
            refine Sim.of_eq (congrArg j19102 (show (s19095 && (decide (p19036.Delay ≤ 10000))) = false from by rw [k19104] <;> rfl)) ?_
            exact ljmpM J19103 false () (sub_cons rfl sub_nil) X19096
          intro j19105 J19106
          refine lcase (i := 48) (show _ = Value.bool s19091 from rfl) (fun k19107 => ?_) (fun k19107 => ?_)
          · refine lpure (v := .pointer (some ⟨b19041, 3, none⟩)) rfl (p_fa fo_65_3 rfl) rfl rfl ?_
            refine lread (v := .int .i64 p19036.Delay) rfl (q_load wd_3 rfl) (St.ld X19092 (j := 0) rfl rfl) rfl ?_
            refine lpure (v := .bool (decide (0 ≤ p19036.Delay))) rfl (p_ge rfl) rfl rfl ?_
            refine lpure (v := .bool (decide (0 ≤ p19036.Delay))) rfl (p_pick rfl) rfl rfl ?_
            refine Sim.of_eq (congrArg j19105 (show (s19091 && (decide (0 ≤ p19036.Delay))) = (decide (0 ≤ p19036.Delay)) from by rw [k19107] <;> rfl)) ?_
            exact ljmpM J19106 (decide (0 ≤ p19036.Delay)) () (sub_cons rfl (sub_cons rfl sub_nil)) X19092
          refine lskip rfl rfl ?_
          refine lskip rfl rfl ?_
          refine lskip rfl rfl ?_
          refine lpure (v := .bool false) rfl (p_pick rfl) rfl rfl ?_
          refine Sim.of_eq (congrArg j19105 (show (s19091 && (decide (0 ≤ p19036.Delay))) = false from by rw [k19107] <;> rfl)) ?_
          exact ljmpM J19106 false () (sub_cons rfl (sub_cons rfl sub_nil)) X19092
        intro j19108 J19109
        refine lcase (i := 43) (show _ = Value.bool (decide (1 ≤ p19036.Per)) from rfl) (fun k19110 => ?_) (fun k19110 => ?_)
        · refine lpure (v := .pointer (some ⟨b19041, 2, none⟩)) rfl (p_fa fo_65_2 rfl) rfl rfl ?_
          refine lread (v := .int .i64 p19036.Per) rfl (q_load wd_3 rfl) (St.ld X19087 (j := 0) rfl rfl) rfl ?_
          refine lpure (v := .bool (decide (p19036.Per ≤ 1000))) rfl (p_le rfl) rfl rfl ?_
          refine lpure (v := .bool (decide (p19036.Per ≤ 1000))) rfl (p_pick rfl) rfl rfl ?_
          refine Sim.of_eq (congrArg j19108 (show ((decide (1 ≤ p19036.Per)) && (decide (p19036.Per ≤ 1000))) = (decide (p19036.Per ≤ 1000)) from by rw [k19110] <;> rfl)) ?_
          exact ljmpM J19109 (decide (p19036.Per ≤ 1000)) () (sub_cons rfl (sub_cons rfl sub_nil)) X19087
        refine lskip rfl rfl ?_
        refine lskip rfl rfl ?_
        refine lskip rfl rfl ?_
        refine lpure (v := .bool false) rfl (p_pick rfl) rfl rfl ?_
        refine Sim.of_eq (congrArg j19108 (show ((decide (1 ≤ p19036.Per)) && (decide (p19036.Per ≤ 1000))) = false from by rw [k19110] <;> rfl)) ?_
        exact ljmpM J19109 false () (sub_cons rfl (sub_cons rfl sub_nil)) X19087
      intro j19111 J19112
      refine lif (i := 24) (show _ = Value.bool s19074 from rfl) (fun k19113 => ?_) (fun k19113 => ?_)
      · refine lskip rfl rfl ?_
        refine lskip rfl rfl ?_
        refine lskip rfl rfl ?_
        refine lskip rfl rfl ?_
        refine lskip rfl rfl ?_
        refine lskip rfl rfl ?_
        refine lskip rfl rfl ?_
        refine lskip rfl rfl ?_
        refine lskip rfl rfl ?_
        refine lskip rfl rfl ?_
        refine lskip rfl rfl ?_
        refine lskip rfl rfl ?_
        refine lskip rfl rfl ?_
        refine lskip rfl rfl ?_
        refine lpure (v := .bool true) rfl (p_pick rfl) rfl rfl ?_
        exact ljmpM J19112 true () (sub_cons rfl (sub_cons rfl sub_nil)) X19075
      refine lpure (v := .pointer (some ⟨b19037, 1, none⟩)) rfl (p_fa fo_25_1 rfl) rfl rfl ?_
      refine lread (v := .slice a19034 n19034 c19034) rfl (q_load wd_22 rfl) (St.ld X19075 (j := 1) rfl rfl) rfl ?_
      refine lpure (v := .pointer (some ⟨b19041, 0, none⟩)) rfl (p_fa fo_65_0 rfl) rfl rfl ?_
      refine lread (v := .int .i64 p19036.A) rfl (q_load wd_3 rfl) (St.ld X19075 (j := 0) rfl rfl) rfl ?_
      refine Sim.bindM fun e19114 he19115 => ?_
      obtain ⟨p19116, cs19116, hp19116, hF19116, hR19116⟩ := RSl.ia H19034 he19115 (kd := .i64) (n := 1) rfl
      have hR19116 : _ = [(.bool e19114 : Value)] := hR19116
      subst hR19116
      refine lpure (v := p19116) rfl (p_ia rs_22 rfl) hp19116 rfl ?_
      refine lread (v := .bool e19114) rfl (q_load wd_4 rfl) (FP.ld X19075 hF19116) rfl ?_
      refine lpure (v := .bool e19114) rfl (p_move rfl) rfl rfl ?_
      refine lif (i := 31) (show _ = Value.bool e19114 from rfl) (fun k19117 => ?_) (fun k19117 => ?_)
      · refine lpure (v := .pointer (some ⟨b19037, 1, none⟩)) rfl (p_fa fo_25_1 rfl) rfl rfl ?_
        refine lread (v := .slice a19034 n19034 c19034) rfl (q_load wd_22 rfl) (St.ld X19075 (j := 1) rfl rfl) rfl ?_
        refine lpure (v := .pointer (some ⟨b19041, 1, none⟩)) rfl (p_fa fo_65_1 rfl) rfl rfl ?_
        refine lread (v := .int .i64 p19036.B) rfl (q_load wd_3 rfl) (St.ld X19075 (j := 0) rfl rfl) rfl ?_
        refine Sim.bindM fun e19118 he19119 => ?_
        obtain ⟨p19120, cs19120, hp19120, hF19120, hR19120⟩ := RSl.ia H19034 he19119 (kd := .i64) (n := 1) rfl
        have hR19120 : _ = [(.bool e19118 : Value)] := hR19120
        subst hR19120
        refine lpure (v := p19120) rfl (p_ia rs_22 rfl) hp19120 rfl ?_
        refine lread (v := .bool e19118) rfl (q_load wd_4 rfl) (FP.ld X19075 hF19120) rfl ?_
        refine lpure (v := .bool e19118) rfl (p_pick rfl) rfl rfl ?_
        refine lpure (v := .bool e19118) rfl (p_pick rfl) rfl rfl ?_
        exact ljmpM J19112 e19118 () (sub_cons rfl (sub_cons rfl sub_nil)) X19075
      refine lskip rfl rfl ?_
      refine lskip rfl rfl ?_
      refine lskip rfl rfl ?_
      refine lskip rfl rfl ?_
      refine lskip rfl rfl ?_
      refine lskip rfl rfl ?_
      refine lpure (v := .bool false) rfl (p_pick rfl) rfl rfl ?_
      refine lpure (v := .bool false) rfl (p_pick rfl) rfl rfl ?_
      exact ljmpM J19112 false () (sub_cons rfl (sub_cons rfl sub_nil)) X19075
    intro j19121 J19122
    refine lcase (i := 17) (show _ = Value.bool s19070 from rfl) (fun k19123 => ?_) (fun k19123 => ?_)
    · refine lskip rfl rfl ?_
      refine lskip rfl rfl ?_
      refine lskip rfl rfl ?_
      refine lskip rfl rfl ?_
      refine lskip rfl rfl ?_
      refine lpure (v := .bool true) rfl (p_pick rfl) rfl rfl ?_
      refine Sim.of_eq (congrArg j19121 (show (s19070 || (decide (p19036.A = p19036.B))) = true from by rw [k19123] <;> rfl)) ?_
      exact ljmpM J19122 true () (sub_cons rfl (sub_cons rfl (sub_cons rfl sub_nil))) X19071
    refine lpure (v := .pointer (some ⟨b19041, 0, none⟩)) rfl (p_fa fo_65_0 rfl) rfl rfl ?_
    refine lread (v := .int .i64 p19036.A) rfl (q_load wd_3 rfl) (St.ld X19071 (j := 0) rfl rfl) rfl ?_
    refine lpure (v := .pointer (some ⟨b19041, 1, none⟩)) rfl (p_fa fo_65_1 rfl) rfl rfl ?_
    refine lread (v := .int .i64 p19036.B) rfl (q_load wd_3 rfl) (St.ld X19071 (j := 0) rfl rfl) rfl ?_
    refine lpure (v := .bool (decide (p19036.A = p19036.B))) rfl (p_eq rfl) rfl rfl ?_
    refine lpure (v := .bool (decide (p19036.A = p19036.B))) rfl (p_pick rfl) rfl rfl ?_
    refine Sim.of_eq (congrArg j19121 (show (s19070 || (decide (p19036.A = p19036.B))) = (decide (p19036.A = p19036.B)) from by rw [k19123] <;> rfl)) ?_
    exact ljmpM J19122 (decide (p19036.A = p19036.B)) () (sub_cons rfl (sub_cons rfl (sub_cons rfl sub_nil))) X19071
  intro j19124 J19125
  refine lif (i := 10) (show _ = Value.bool (!e19060) from rfl) (fun k19126 => ?_) (fun k19126 => ?_)
  · refine lskip rfl rfl ?_
    refine lskip rfl rfl ?_
    refine lskip rfl rfl ?_
    refine lskip rfl rfl ?_
    refine lskip rfl rfl ?_
    refine lpure (v := .bool true) rfl (p_pick rfl) rfl rfl ?_
    exact ljmpM J19125 true () (sub_cons rfl (sub_cons rfl (sub_cons rfl sub_nil))) X19044
  refine lread (v := .agg #[.int .i64 p19033.Nodes, .slice a19034 n19034 c19034, .slice a19035 n19035 c19035]) rfl (q_load wd_25 rfl) (St.ld X19044 (j := 1) rfl rfl) rfl ?_
  refine lpure (v := .pointer (some ⟨b19041, 1, none⟩)) rfl (p_fa fo_65_1 rfl) rfl rfl ?_
  refine lread (v := .int .i64 p19036.B) rfl (q_load wd_3 rfl) (St.ld X19044 (j := 0) rfl rfl) rfl ?_
  refine lcall rfl rfl ca_83 rfl rfl (f83_ok X19044 p19033 (p19036.B) H19034 H19035) rfl (fun e19127 v19128 h19129 hq19130 => ?_)
  cases hq19130
  refine lpure (v := .bool (!e19127)) rfl (p_not rfl) rfl rfl ?_
  refine lpure (v := .bool (!e19127)) rfl (p_pick rfl) rfl rfl ?_
  exact ljmpM J19125 (!e19127) () (sub_cons rfl (sub_cons rfl (sub_cons rfl sub_nil))) X19044
/-! isochron/isochronref16.In -/
theorem f67_ok {n : Nat} {φ : Fz} {lo : Nat} {h : Heap} {own : OwnL}  {a19237 : Option Addr} {n19237 c19237 : Nat} (X : St φ lo h (own)) (p19236 : (List Int)) (p19238 : Int) (H19237 : RSl (eInt .i64) φ (.slice a19237 n19237 c19237) p19236) : Sim ((recN Tryz.prog LL cutF (n + 1)).call 67 #[(.slice a19237 n19237 c19237), (.int .i64 p19238)] h) (m_isochronref16_In p19236 p19238) (fun (d : Bool) p => p = (.bool d, h)) := by
  refine fcut Tryz.func67 rfl rfl rfl rfl X ?_
  intro h0 X0
  refine dseq (dreg ?_)
  refine lpure (v := .bool false) rfl (p_assign rfl) rfl rfl ?_
  refine lend (nseq (dseq (dseq (dreg ?_))))
  refine lpure (v := .int .i64 0) rfl (p_assign rfl) rfl rfl ?_
  refine lend (nseq (dblock ?_))
  refine dloopM (τ := Int) (σ := Unit) (fun s19255 (_ : Unit) => [(0, .slice a19237 n19237 c19237), (1, .int .i64 p19238), (5, .int .i64 s19255)]) (fun s19255 (_ : Unit) hh => St φ h.n hh ([])) 0 () (sub_cons rfl (sub_cons rfl (sub_cons rfl sub_nil))) X0 ?_
  rintro n19265 ih19264 s19255 _ t0 h19267 X19266
  refine dseq (dseq (dreg ?_))
  refine lpure (v := .int .i64 s19255) rfl (p_move rfl) rfl rfl ?_
  refine lpure (v := .slice a19237 n19237 c19237) rfl (p_move rfl) rfl rfl ?_
  refine lpure (v := .int .i64 (p19236.length : Int)) rfl (p_len rfl rfl rfl un_26 rfl) (RSl.lenC H19237) rfl ?_
  refine lpure (v := .bool (decide (s19255 < (p19236.length : Int)))) rfl (p_lt rfl) rfl rfl ?_
  refine lend (nseq ?_)
  refine dcond rfl rfl (fun k19268 => ?_) (fun k19268 => ?_)
  · refine dskip (nseq (dseq (dblock (dseq (dreg ?_)))))
    refine lpure (v := .slice a19237 n19237 c19237) rfl (p_move rfl) rfl rfl ?_
    refine lpure (v := .int .i64 s19255) rfl (p_move rfl) rfl rfl ?_
    refine Sim.bindM fun e19269 he19270 => ?_
    obtain ⟨p19271, cs19271, hp19271, hF19271, hR19271⟩ := RSl.ia H19237 he19270 (kd := .i64) (n := 1) rfl
    have hR19271 : _ = [(.int .i64 e19269 : Value)] := hR19271
    subst hR19271
    refine lpure (v := p19271) rfl (p_ia rs_26 rfl) hp19271 rfl ?_
    refine lread (v := .int .i64 e19269) rfl (q_load wd_3 rfl) (FP.ld X19266 hF19271) rfl ?_
    refine lpure (v := .int .i64 p19238) rfl (p_move rfl) rfl rfl ?_
    refine lpure (v := .bool (decide (e19269 = p19238))) rfl (p_eq rfl) rfl rfl ?_
    refine lend (nseq ?_)
    refine dcond rfl rfl (fun k19272 => ?_) (fun k19272 => ?_)
    · refine dseq (dreg ?_)
      refine lpure (v := .bool true) rfl (p_assign rfl) rfl rfl ?_
      refine lend (nseq (dret (rblock (rseq (rloop (rblock (rseq ?_)))))))
      exact kcut_r (res_1 resT) X19266 rfl rfl
    refine dskip (nblock (nseq (dreg ?_)))
    refine lpure (v := .int .i64 s19255) rfl (p_move rfl) rfl rfl ?_
    refine lpure (v := .int .i64 (w64 (s19255 + 1))) rfl (p_add rfl) rfl rfl ?_
    refine lpure (v := .int .i64 (w64 (s19255 + 1))) rfl (p_assign rfl) rfl rfl ?_
    refine lend ?_
    exact kbackM ih19264 (w64 (s19255 + 1)) () (sub_cons rfl (sub_cons rfl (sub_cons rfl sub_nil))) X19266
  refine dexit (eseq (eloop (xblock (nseq (dseq (dreg ?_))))))
  refine lpure (v := .bool false) rfl (p_assign rfl) rfl rfl ?_
  refine lend (nseq (dret ?_))
  exact kcut_r (res_1 resT) X19266 rfl rfl
/-! isochron/isochronref16.Reach -/
theorem f65_ok {n : Nat} {φ : Fz} {lo : Nat} {h : Heap} {own : OwnL}  {a20428 : Option Addr} {n20428 c20428 : Nat} {a20429 : Option Addr} {n20429 c20429 : Nat} {a20432 : Option Addr} {n20432 c20432 : Nat} (X : St φ lo h (own)) (p20427 : ApiTopo) (p20430 : Int) (p20431 : (List Int)) (H20428 : RSl eBool φ (.slice a20428 n20428 c20428) p20427.Station) (H20429 : RSl eApiLink φ (.slice a20429 n20429 c20429) p20427.Links) (H20432 : RSl (eInt .i64) φ (.slice a20432 n20432 c20432) p20431) : Sim ((recN Tryz.prog LL cutF (n + 2)).call 65 #[(.agg #[.int .i64 p20427.Nodes, .slice a20428 n20428 c20428, .slice a20429 n20429 c20429]), (.int .i64 p20430), (.slice a20432 n20432 c20432)] h) (m_isochronref16_Reach p20427 p20430 p20431) (fun (d : (List Bool)) p => ∃ φ2 : Fz, ∃ a21616 : Option Addr, ∃ n21616 : Nat, ∃ c21616 : Nat, ∃ ob21616 : Option Nat, ∃ blk21616 : Blk, Fz.le φ φ2 ∧ St φ2 lo p.2 ((ob21616, blk21616) :: own) ∧ p.1 = .slice a21616 n21616 c21616 ∧ OSl eBool φ2 4 ob21616 blk21616 (.slice a21616 n21616 c21616) d) := by
  refine fopen Tryz.func65 rfl rfl rfl rfl ?_
  refine dseq (dreg ?_)
  refine lbox rfl rfl rfl rfl rfl X (fun b20433 h20435 X20436 => ?_)
  refine lpure (v := .slice none 0 0) rfl (p_assign rfl) rfl rfl ?_
  refine lend (nseq (dseq (dreg ?_)))
  refine lpure (v := .pointer (some ⟨b20433, 0, none⟩)) rfl (p_fa fo_25_0 rfl) rfl rfl ?_
  refine lread (v := .int .i64 p20427.Nodes) rfl (q_load wd_3 rfl) (St.ld X20436 (j := 0) rfl rfl) rfl ?_
  refine Sim.mustM fun k20437 => ?_
  have k20437 := of_decide_eq_true k20437
  obtain ⟨h20437, b20437, vs20437, hv20437, X20437, O20437⟩ := OSl.mk (E := eBool) (φ := φ) (a0 := false) (k := .i64) (k' := .i64) (l := p20427.Nodes) (c := p20427.Nodes) un_22 tb_4 rfl ts_4 rfl rfl tz_4 rfl rfl rfl (by omega) (by omega) (by omega) X20436
  refine lheap rfl (h_makeSlice rfl) hv20437 rfl ?_
  refine lpure (v := .slice (some ⟨b20437, 0, none⟩) (p20427.Nodes).toNat (p20427.Nodes).toNat) rfl (p_assign rfl) rfl rfl ?_
  refine lend (nseq (dseq (dreg ?_)))
  refine lpure (v := .slice (some ⟨b20437, 0, none⟩) (p20427.Nodes).toNat (p20427.Nodes).toNat) rfl (p_move rfl) rfl rfl ?_
  refine lpure (v := .int .i64 p20430) rfl (p_move rfl) rfl rfl ?_
  refine Sim.bindM fun e20439 he20440 => ?_
  obtain ⟨off20441, cs20441, hp20441, hc20441, hR20441, hl20441, hm20441, hs20441⟩ := OSl.iaC O20437 he20440 (kd := .i64) (n := 1) rfl
  have hR20441 : _ = [(.bool e20439 : Value)] := hR20441
  subst hR20441
  refine lpure (v := .pointer (some ⟨b20437, off20441, none⟩)) rfl (p_ia rs_22 rfl) hp20441 rfl ?_
  have O20444 := hs20441 [.bool true] (true) rfl
  refine lstore rfl ts_4 rfl rfl (j := 0) rfl hm20441 rfl rfl (ble_iff.2 hl20441) rfl X20437 (fun h20442 X20443 => ?_)
  refine lend (nseq (dseq (dseq (dreg ?_))))
  refine lpure (v := .int .i64 0) rfl (p_assign rfl) rfl rfl ?_
  refine lend (nseq (dblock ?_))
  refine dloopM (τ := (List Bool) × Int) (σ := Blk) (fun s21029 blk21030 => [(2, .slice a20432 n20432 c20432), (3, .pointer (some ⟨b20433, 0, none⟩)), (7, .slice (some ⟨b20437, 0, none⟩) (p20427.Nodes).toNat (p20427.Nodes).toNat), (8, .int .i64 s21029.2)]) (fun s21029 blk21030 hh => St φ lo hh ((some b20437, blk21030) :: (some b20433, .cells [.int .i64 p20427.Nodes, .slice a20428 n20428 c20428, .slice a20429 n20429 c20429] 25 .exact) :: own) ∧ OSl eBool φ 4 (some b20437) blk21030 (.slice (some ⟨b20437, 0, none⟩) (p20427.Nodes).toNat (p20427.Nodes).toNat) s21029.1) (((List.replicate (p20427.Nodes).toNat false).set (p20430).toNat true), 0) ((.cells (setAt vs20437 off20441 [.bool true]) 4 .exact)) (sub_cons rfl (sub_cons rfl (sub_cons rfl (sub_cons rfl sub_nil)))) ⟨X20443, O20444⟩ ?_
  rintro n21324 ih21323 s21029 blk21030 t0 h21326 ⟨X21325, O21030⟩
  refine dseq (dseq (dreg ?_))
  refine lpure (v := .int .i64 s21029.2) rfl (p_move rfl) rfl rfl ?_
  refine lpure (v := .pointer (some ⟨b20433, 0, none⟩)) rfl (p_fa fo_25_0 rfl) rfl rfl ?_
  refine lread (v := .int .i64 p20427.Nodes) rfl (q_load wd_3 rfl) (St.ld X21325 (j := 1) rfl rfl) rfl ?_
  refine lpure (v := .bool (decide (s21029.2 < p20427.Nodes))) rfl (p_lt rfl) rfl rfl ?_
  refine lend (nseq ?_)
  refine dcond rfl rfl (fun k21327 => ?_) (fun k21327 => ?_)
  · refine dskip (nseq (dseq (dblock (dseq (dreg ?_)))))
    refine lpure (v := .int .i64 0) rfl (p_assign rfl) rfl rfl ?_
    refine lend (nseq (dblock ?_))
    refine dloopM (τ := (List Bool) × Int) (σ := Blk) (fun s21471 blk21472 => [(2, .slice a20432 n20432 c20432), (3, .pointer (some ⟨b20433, 0, none⟩)), (7, .slice (some ⟨b20437, 0, none⟩) (p20427.Nodes).toNat (p20427.Nodes).toNat), (8, .int .i64 s21029.2), (9, .int .i64 s21471.2)]) (fun s21471 blk21472 hh => St φ lo hh ((some b20437, blk21472) :: (some b20433, .cells [.int .i64 p20427.Nodes, .slice a20428 n20428 c20428, .slice a20429 n20429 c20429] 25 .exact) :: own) ∧ OSl eBool φ 4 (some b20437) blk21472 (.slice (some ⟨b20437, 0, none⟩) (p20427.Nodes).toNat (p20427.Nodes).toNat) s21471.1) (s21029.1, 0) blk21030 (sub_cons rfl (sub_cons rfl (sub_cons rfl (sub_cons rfl (sub_cons rfl sub_nil))))) ⟨X21325, O21030⟩ ?_
    rintro n21545 ih21544 s21471 blk21472 t0 h21547 ⟨X21546, O21472⟩
    refine dseq (dseq (dreg ?_))
    refine lpure (v := .int .i64 s21471.2) rfl (p_move rfl) rfl rfl ?_
    refine lpure (v := .pointer (some ⟨b20433, 2, none⟩)) rfl (p_fa fo_25_2 rfl) rfl rfl ?_
    refine lread (v := .slice a20429 n20429 c20429) rfl (q_load wd_23 rfl) (St.ld X21546 (j := 1) rfl rfl) rfl ?_
    refine lpure (v := .int .i64 (p20427.Links.length : Int)) rfl (p_len rfl rfl rfl un_23 rfl) (RSl.lenC H20429) rfl ?_
    refine lpure (v := .bool (decide (s21471.2 < (p20427.Links.length : Int)))) rfl (p_lt rfl) rfl rfl ?_
    refine lend (nseq ?_)
    refine dcond rfl rfl (fun k21548 => ?_) (fun k21548 => ?_)
    · refine dskip (nseq (dseq (dblock (dseq (dreg ?_)))))
      refine lpure (v := .pointer (some ⟨b20433, 2, none⟩)) rfl (p_fa fo_25_2 rfl) rfl rfl ?_
      refine lread (v := .slice a20429 n20429 c20429) rfl (q_load wd_23 rfl) (St.ld X21546 (j := 1) rfl rfl) rfl ?_
      refine lpure (v := .int .i64 s21471.2) rfl (p_move rfl) rfl rfl ?_
      refine Sim.bindM fun e21549 he21550 => ?_
      obtain ⟨p21551, cs21551, hp21551, hF21551, hR21551⟩ := RSl.ia H20429 he21550 (kd := .i64) (n := 4) rfl
      obtain rfl := eApiLink_el hR21551
      refine lpure (v := p21551) rfl (p_ia rs_23 rfl) hp21551 rfl ?_
      refine lread (v := .agg #[.int .i64 e21549.A, .int .i64 e21549.B, .int .i64 e21549.Per, .int .i64 e21549.Delay]) rfl (q_load wd_65 rfl) (FP.ldw X21546 hF21551 rfl rfl) rfl ?_
      refine lalloc rfl tz_65 rfl rfl rfl X21546 (fun b21552 h21554 X21555 => ?_)
      refine lstore rfl ts_65 rfl rfl (j := 0) rfl rfl rfl rfl rfl rfl X21555 (fun h21556 X21557 => ?_)
      refine lend (nseq (dseq (dreg ?_)))
      refine lpure (v := .slice a20432 n20432 c20432) rfl (p_move rfl) rfl rfl ?_
      refine lpure (v := .int .i64 s21471.2) rfl (p_move rfl) rfl rfl ?_
      refine lcall rfl rfl ca_67 rfl rfl (f67_ok X21557 p20431 (s21471.2) H20432) rfl (fun e21558 v21559 h21560 hq21561 => ?_)
      cases hq21561
      refine lpure (v := .bool (!e21558)) rfl (p_not rfl) rfl rfl ?_
      refine lpure (v := .bool (!e21558)) rfl (p_move rfl) rfl rfl ?_
      refine ljoinM (τ := (List Bool) × Bool) (σ := Blk) (fun s21571 blk21572 => [(2, .slice a20432 n20432 c20432), (3, .pointer (some ⟨b20433, 0, none⟩)), (7, .slice (some ⟨b20437, 0, none⟩) (p20427.Nodes).toNat (p20427.Nodes).toNat), (8, .int .i64 s21029.2), (9, .int .i64 s21471.2), (10, .pointer (some ⟨b21552, 0, none⟩)), (52, .bool s21571.2)]) (fun s21571 blk21572 hh => St φ lo hh ((some b21552, .cells [.int .i64 e21549.A, .int .i64 e21549.B, .int .i64 e21549.Per, .int .i64 e21549.Delay] 65 .exact) :: (some b20437, blk21572) :: (some b20433, .cells [.int .i64 p20427.Nodes, .slice a20428 n20428 c20428, .slice a20429 n20429 c20429] 25 .exact) :: own) ∧ OSl eBool φ 4 (some b20437) blk21572 (.slice (some ⟨b20437, 0, none⟩) (p20427.Nodes).toNat (p20427.Nodes).toNat) s21571.1) 13 ?_ ?_
      · rintro s21571 blk21572 t0 h21574 ⟨X21573, O21572⟩
        refine lend (nseq ?_)
        refine djoinM (τ := (List Bool)) (σ := Blk) (fun s21588 blk21589 => [(2, .slice a20432 n20432 c20432), (3, .pointer (some ⟨b20433, 0, none⟩)), (7, .slice (some ⟨b20437, 0, none⟩) (p20427.Nodes).toNat (p20427.Nodes).toNat), (8, .int .i64 s21029.2), (9, .int .i64 s21471.2)]) (fun s21588 blk21589 hh => St φ lo hh ((some b21552, .cells [.int .i64 e21549.A, .int .i64 e21549.B, .int .i64 e21549.Per, .int .i64 e21549.Delay] 65 .exact) :: (some b20437, blk21589) :: (some b20433, .cells [.int .i64 p20427.Nodes, .slice a20428 n20428 c20428, .slice a20429 n20429 c20429] 25 .exact) :: own) ∧ OSl eBool φ 4 (some b20437) blk21589 (.slice (some ⟨b20437, 0, none⟩) (p20427.Nodes).toNat (p20427.Nodes).toNat) s21588) ?_ ?_
        · rintro s21588 blk21589 t0 h21591 ⟨X21590, O21589⟩
          refine nblock (nseq (dreg ?_))
          refine lpure (v := .int .i64 s21471.2) rfl (p_move rfl) rfl rfl ?_
          refine lpure (v := .int .i64 (w64 (s21471.2 + 1))) rfl (p_add rfl) rfl rfl ?_
          refine lpure (v := .int .i64 (w64 (s21471.2 + 1))) rfl (p_assign rfl) rfl rfl ?_
          refine lend ?_
          exact kbackM ih21544 (s21588, (w64 (s21471.2 + 1))) blk21589 (sub_cons rfl (sub_cons rfl (sub_cons rfl (sub_cons rfl (sub_cons rfl sub_nil))))) ⟨(St.pick X21590 (.skip _ (.keep _ (.keep _ (.refl _))))), O21589⟩
        intro j21592 J21593
        refine dcond rfl rfl (fun k21575 => ?_) (fun k21575 => ?_)
        · refine dseq (dreg ?_)
          refine lpure (v := .slice (some ⟨b20437, 0, none⟩) (p20427.Nodes).toNat (p20427.Nodes).toNat) rfl (p_move rfl) rfl rfl ?_
          refine lpure (v := .pointer (some ⟨b21552, 0, none⟩)) rfl (p_fa fo_65_0 rfl) rfl rfl ?_
          refine lread (v := .int .i64 e21549.A) rfl (q_load wd_3 rfl) (St.ld X21573 (j := 0) rfl rfl) rfl ?_
          refine Sim.bindM fun e21594 he21595 => ?_
          obtain ⟨vs21596, m21596, off21596, cs21596, rfl, hp21596, hc21596, hR21596, hl21596, hm21596, hs21596⟩ := OSl.iaB O21572 he21595 (kd := .i64) (n := 1) rfl
          have hR21596 : _ = [(.bool e21594 : Value)] := hR21596
          subst hR21596
          refine lpure (v := .pointer (some ⟨b20437, off21596, none⟩)) rfl (p_ia rs_22 rfl) hp21596 rfl ?_
          have O21599 := hs21596 [.bool true] (true) rfl
          refine lstore rfl ts_4 rfl rfl (j := 1) rfl hm21596 rfl rfl (ble_iff.2 hl21596) rfl X21573 (fun h21597 X21598 => ?_)
          refine lend (nseq (dreg ?_))
          refine lpure (v := .slice (some ⟨b20437, 0, none⟩) (p20427.Nodes).toNat (p20427.Nodes).toNat) rfl (p_move rfl) rfl rfl ?_
          refine lpure (v := .pointer (some ⟨b21552, 1, none⟩)) rfl (p_fa fo_65_1 rfl) rfl rfl ?_
          refine lread (v := .int .i64 e21549.B) rfl (q_load wd_3 rfl) (St.ld X21598 (j := 0) rfl rfl) rfl ?_
          refine Sim.bindM fun e21600 he21601 => ?_
          obtain ⟨off21602, cs21602, hp21602, hc21602, hR21602, hl21602, hm21602, hs21602⟩ := OSl.iaC O21599 he21601 (kd := .i64) (n := 1) rfl
          have hR21602 : _ = [(.bool e21600 : Value)] := hR21602
          subst hR21602
          refine lpure (v := .pointer (some ⟨b20437, off21602, none⟩)) rfl (p_ia rs_22 rfl) hp21602 rfl ?_
          have O21605 := hs21602 [.bool true] (true) rfl
          refine lstore rfl ts_4 rfl rfl (j := 1) rfl hm21602 rfl rfl (ble_iff.2 hl21602) rfl X21598 (fun h21603 X21604 => ?_)
          refine lend ?_
          exact jmpM J21593 ((s21571.1.set (e21549.A).toNat true).set (e21549.B).toNat true) ((.cells (setAt (setAt vs21596 off21596 [.bool true]) off21602 [.bool true]) 4 m21596)) (sub_cons rfl (sub_cons rfl (sub_cons rfl (sub_cons rfl (sub_cons rfl sub_nil))))) ⟨X21604, O21605⟩
        refine dskip ?_
        exact jmpM J21593 s21571.1 blk21572 (sub_cons rfl (sub_cons rfl (sub_cons rfl (sub_cons rfl (sub_cons rfl sub_nil))))) ⟨X21573, O21572⟩
      intro j21606 J21607
      refine lif (i := 39) (show _ = Value.bool (!e21558) from rfl) (fun k21608 => ?_) (fun k21608 => ?_)
      · refine lpure (v := .slice (some ⟨b20437, 0, none⟩) (p20427.Nodes).toNat (p20427.Nodes).toNat) rfl (p_move rfl) rfl rfl ?_
        refine lpure (v := .pointer (some ⟨b21552, 0, none⟩)) rfl (p_fa fo_65_0 rfl) rfl rfl ?_
        refine lread (v := .int .i64 e21549.A) rfl (q_load wd_3 rfl) (St.ld X21557 (j := 0) rfl rfl) rfl ?_
        refine Sim.bindM fun e21609 he21610 => ?_
        obtain ⟨vs21611, m21611, off21611, cs21611, rfl, hp21611, hc21611, hR21611, hl21611, hm21611, hs21611⟩ := OSl.iaB O21472 he21610 (kd := .i64) (n := 1) rfl
        have hR21611 : _ = [(.bool e21609 : Value)] := hR21611
        subst hR21611
        refine lpure (v := .pointer (some ⟨b20437, off21611, none⟩)) rfl (p_ia rs_22 rfl) hp21611 rfl ?_
        refine lread (v := .bool e21609) rfl (q_load wd_4 rfl) (St.ld X21557 (j := 1) rfl (rdE1 hc21611 (k := 0) rfl rfl)) rfl ?_
        refine lpure (v := .bool e21609) rfl (p_move rfl) rfl rfl ?_
        refine lif (i := 45) (show _ = Value.bool e21609 from rfl) (fun k21612 => ?_) (fun k21612 => ?_)
        · refine lskip rfl rfl ?_
          refine lskip rfl rfl ?_
          refine lskip rfl rfl ?_
          refine lskip rfl rfl ?_
          refine lskip rfl rfl ?_
          refine lpure (v := .bool true) rfl (p_pick rfl) rfl rfl ?_
          refine lpure (v := .bool true) rfl (p_pick rfl) rfl rfl ?_
          exact ljmpM J21607 (s21471.1, true) (.cells vs21611 4 m21611) (sub_cons rfl (sub_cons rfl (sub_cons rfl (sub_cons rfl (sub_cons rfl (sub_cons rfl (sub_cons rfl sub_nil))))))) ⟨X21557, O21472⟩
        refine lpure (v := .slice (some ⟨b20437, 0, none⟩) (p20427.Nodes).toNat (p20427.Nodes).toNat) rfl (p_move rfl) rfl rfl ?_
        refine lpure (v := .pointer (some ⟨b21552, 1, none⟩)) rfl (p_fa fo_65_1 rfl) rfl rfl ?_
        refine lread (v := .int .i64 e21549.B) rfl (q_load wd_3 rfl) (St.ld X21557 (j := 0) rfl rfl) rfl ?_
        refine Sim.bindM fun e21613 he21614 => ?_
        obtain ⟨off21615, cs21615, hp21615, hc21615, hR21615, hl21615, hm21615, hs21615⟩ := OSl.iaC O21472 he21614 (kd := .i64) (n := 1) rfl
        have hR21615 : _ = [(.bool e21613 : Value)] := hR21615
        subst hR21615
        refine lpure (v := .pointer (some ⟨b20437, off21615, none⟩)) rfl (p_ia rs_22 rfl) hp21615 rfl ?_
        refine lread (v := .bool e21613) rfl (q_load wd_4 rfl) (St.ld X21557 (j := 1) rfl (rdE1 hc21615 (k := 0) rfl rfl)) rfl ?_
        refine lpure (v := .bool e21613) rfl (p_pick rfl) rfl rfl ?_
        refine lpure (v := .bool e21613) rfl (p_pick rfl) rfl rfl ?_
        exact ljmpM J21607 (s21471.1, e21613) (.cells vs21611 4 m21611) (sub_cons rfl (sub_cons rfl (sub_cons rfl (sub_cons rfl (sub_cons rfl (sub_cons rfl (sub_cons rfl sub_nil))))))) ⟨X21557, O21472⟩
      refine lskip rfl rfl ?_
      refine lskip rfl rfl ?_
      refine lskip rfl rfl ?_
      refine lskip rfl rfl ?_
      refine lskip rfl rfl ?_
      refine lskip rfl rfl ?_
      refine lskip rfl rfl ?_
      refine lskip rfl rfl ?_
      refine lskip rfl rfl ?_
      refine lskip rfl rfl ?_
      refine lskip rfl rfl ?_
      refine lskip rfl rfl ?_
      refine lpure (v := .bool false) rfl (p_pick rfl) rfl rfl ?_
      exact ljmpM J21607 (s21471.1, false) blk21472 (sub_cons rfl (sub_cons rfl (sub_cons rfl (sub_cons rfl (sub_cons rfl (sub_cons rfl (sub_cons rfl sub_nil))))))) ⟨X21557, O21472⟩
    refine dexit (eseq (eloop (xblock (nblock (nseq (dreg ?_))))))
    refine lpure (v := .int .i64 s21029.2) rfl (p_move rfl) rfl rfl ?_
    refine lpure (v := .int .i64 (w64 (s21029.2 + 1))) rfl (p_add rfl) rfl rfl ?_
    refine lpure (v := .int .i64 (w64 (s21029.2 + 1))) rfl (p_assign rfl) rfl rfl ?_
    refine lend ?_
    exact kbackM ih21323 (s21471.1, (w64 (s21029.2 + 1))) blk21472 (sub_cons rfl (sub_cons rfl (sub_cons rfl (sub_cons rfl sub_nil)))) ⟨X21546, O21472⟩
  refine dexit (eseq (eloop (xblock (nseq (dseq (dreg ?_))))))
  refine lpure (v := .slice (some ⟨b20437, 0, none⟩) (p20427.Nodes).toNat (p20427.Nodes).toNat) rfl (p_move rfl) rfl rfl ?_
  refine lpure (v := .slice (some ⟨b20437, 0, none⟩) (p20427.Nodes).toNat (p20427.Nodes).toNat) rfl (p_assign rfl) rfl rfl ?_
  refine lend (nseq (dret ?_))
  exact kopen_r (res_1 resT) ⟨φ, ((some ⟨b20437, 0, none⟩)), ((p20427.Nodes).toNat), ((p20427.Nodes).toNat), (some b20437), blk21030, (Fz.le_refl _), St.pick X21325 (.keep _ (.skip _ (.refl _))), rfl, O21030⟩
/-! isochron/isochronref16.Joins -/
theorem f64_ok {n : Nat} {φ : Fz} {lo : Nat} {h : Heap} {own : OwnL}  (X : St φ lo h (own)) (p21806 : ApiLink) (p21807 : Int) (p21808 : Int) : Sim ((recN Tryz.prog LL cutF (n + 1)).call 64 #[(.agg #[.int .i64 p21806.A, .int .i64 p21806.B, .int .i64 p21806.Per, .int .i64 p21806.Delay]), (.int .i64 p21807), (.int .i64 p21808)] h) (m_isochronref16_Joins p21806 p21807 p21808) (fun (d : Bool) p => p = (.bool d, h)) := by
  refine fcut Tryz.func64 rfl rfl rfl rfl X ?_
  intro h0 X0
  refine dseq (dreg ?_)
  refine lbox rfl rfl rfl rfl rfl X0 (fun b21809 h21811 X21812 => ?_)
  refine lpure (v := .bool false) rfl (p_assign rfl) rfl rfl ?_
  refine lend (nseq (dseq (dreg ?_)))
  refine lpure (v := .pointer (some ⟨b21809, 0, none⟩)) rfl (p_fa fo_65_0 rfl) rfl rfl ?_
  refine lread (v := .int .i64 p21806.A) rfl (q_load wd_3 rfl) (St.ld X21812 (j := 0) rfl rfl) rfl ?_
  refine lpure (v := .int .i64 p21807) rfl (p_move rfl) rfl rfl ?_
  refine lpure (v := .bool (decide (p21806.A = p21807))) rfl (p_eq rfl) rfl rfl ?_
  refine lpure (v := .bool (decide (p21806.A = p21807))) rfl (p_move rfl) rfl rfl ?_
  refine lsh (τ := Bool) (σ := Unit) (fun s21814 (_ : Unit) => [(1, .int .i64 p21807), (2, .int .i64 p21808), (3, .pointer (some ⟨b21809, 0, none⟩)), (16, .bool s21814)]) (fun s21814 (_ : Unit) hh => St φ h.n hh ([(some b21809, .cells [.int .i64 p21806.A, .int .i64 p21806.B, .int .i64 p21806.Per, .int .i64 p21806.Delay] 65 .exact)])) 5 ?_ ?_
  · rintro s21814 _ t0 h21816 X21815
    refine lpure (v := .bool s21814) rfl (p_move rfl) rfl rfl ?_
    refine lsh (τ := Bool) (σ := Unit) (fun s21818 (_ : Unit) => [(28, .bool s21818)]) (fun s21818 (_ : Unit) hh => St φ h.n hh ([(some b21809, .cells [.int .i64 p21806.A, .int .i64 p21806.B, .int .i64 p21806.Per, .int .i64 p21806.Delay] 65 .exact)])) 11 ?_ ?_
    · rintro s21818 _ t0 h21820 X21819
      refine lpure (v := .bool s21818) rfl (p_assign rfl) rfl rfl ?_
      refine lend (nseq (dret ?_))
      exact kcut_r (res_1 resT) X21819 rfl rfl
    intro j21821 J21822
    refine lcase (i := 17) (show _ = Value.bool s21814 from rfl) (fun k21823 => ?_) (fun k21823 => ?_)
    · refine lskip rfl rfl ?_
      refine lskip rfl rfl ?_
      refine lskip rfl rfl ?_
      refine lskip rfl rfl ?_
      refine lskip rfl rfl ?_
      refine lskip rfl rfl ?_
      refine lskip rfl rfl ?_
      refine lskip rfl rfl ?_
      refine lskip rfl rfl ?_
      refine lskip rfl rfl ?_
      refine lpure (v := .bool true) rfl (p_pick rfl) rfl rfl ?_
      refine Sim.of_eq (congrArg j21821 (show (s21814 || ((decide (p21806.A = p21808)) && (decide (p21806.B = p21807)))) = true from by rw [k21823] <;> rfl)) ?_
      exact ljmpM J21822 true () (sub_cons rfl sub_nil) X21815
    refine lpure (v := .pointer (some ⟨b21809, 0, none⟩)) rfl (p_fa fo_65_0 rfl) rfl rfl ?_
    refine lread (v := .int .i64 p21806.A) rfl (q_load wd_3 rfl) (St.ld X21815 (j := 0) rfl rfl) rfl ?_
    refine lpure (v := .int .i64 p21808) rfl (p_move rfl) rfl rfl ?_
    refine lpure (v := .bool (decide (p21806.A = p21808))) rfl (p_eq rfl) rfl rfl ?_
    refine lpure (v := .bool (decide (p21806.A = p21808))) rfl (p_move rfl) rfl rfl ?_
    refine lcase (i := 22) (show _ = Value.bool (decide (p21806.A = p21808)) from rfl) (fun k21824 => ?_) (fun k21824 => ?_)
    · refine lpure (v := .pointer (some ⟨b21809, 1, none⟩)) rfl (p_fa fo_65_1 rfl) rfl rfl ?_
      refine lread (v := .int .i64 p21806.B) rfl (q_load wd_3 rfl) (St.ld X21815 (j := 0) rfl rfl) rfl ?_
      refine lpure (v := .int .i64 p21807) rfl (p_move rfl) rfl rfl ?_
      refine lpure (v := .bool (decide (p21806.B = p21807))) rfl (p_eq rfl) rfl rfl ?_
      refine lpure (v := .bool (decide (p21806.B = p21807))) rfl (p_pick rfl) rfl rfl ?_
      refine lpure (v := .bool (decide (p21806.B = p21807))) rfl (p_pick rfl) rfl rfl ?_
      refine Sim.of_eq (congrArg j21821 (show (s21814 || ((decide (p21806.A = p21808)) && (decide (p21806.B = p21807)))) = (decide (p21806.B = p21807)) from by rw [k21823, k21824] <;> rfl)) ?_
      exact ljmpM J21822 (decide (p21806.B = p21807)) () (sub_cons rfl sub_nil) X21815
    refine lskip rfl rfl ?_
    refine lskip rfl rfl ?_
    refine lskip rfl rfl ?_
    refine lskip rfl rfl ?_
    refine lpure (v := .bool false) rfl (p_pick rfl) rfl rfl ?_
    refine lpure (v := .bool false) rfl (p_pick rfl) rfl rfl ?_
    refine Sim.of_eq (congrArg j21821 (show (s21814 || ((decide (p21806.A = p21808)) && (decide (p21806.B = p21807)))) = false from by rw [k21823, k21824] <;> rfl)) ?_
    exact ljmpM J21822 false () (sub_cons rfl sub_nil) X21815
  intro j21825 J21826
  refine lcase (i := 11) (show _ = Value.bool (decide (p21806.A = p21807)) from rfl) (fun k21827 => ?_) (fun k21827 => ?_)
  · refine lpure (v := .pointer (some ⟨b21809, 1, none⟩)) rfl (p_fa fo_65_1 rfl) rfl rfl ?_
    refine lread (v := .int .i64 p21806.B) rfl (q_load wd_3 rfl) (St.ld X21812 (j := 0) rfl rfl) rfl ?_
    refine lpure (v := .int .i64 p21808) rfl (p_move rfl) rfl rfl ?_
    refine lpure (v := .bool (decide (p21806.B = p21808))) rfl (p_eq rfl) rfl rfl ?_
    refine lpure (v := .bool (decide (p21806.B = p21808))) rfl (p_pick rfl) rfl rfl ?_
    refine Sim.of_eq (congrArg j21825 (show ((decide (p21806.A = p21807)) && (decide (p21806.B = p21808))) = (decide (p21806.B = p21808)) from by rw [k21827] <;> rfl)) ?_
    exact ljmpM J21826 (decide (p21806.B = p21808)) () (sub_cons rfl (sub_cons rfl (sub_cons rfl (sub_cons rfl sub_nil)))) X21812
  refine lskip rfl rfl ?_
  refine lskip rfl rfl ?_
  refine lskip rfl rfl ?_
  refine lskip rfl rfl ?_
  refine lpure (v := .bool false) rfl (p_pick rfl) rfl rfl ?_
  refine Sim.of_eq (congrArg j21825 (show ((decide (p21806.A = p21807)) && (decide (p21806.B = p21808))) = false from by rw [k21827] <;> rfl)) ?_
  exact ljmpM J21826 false () (sub_cons rfl (sub_cons rfl (sub_cons rfl (sub_cons rfl sub_nil)))) X21812
end Go.AM
