/- Printed: functions of the given program as functions over plain data, and that the machine does what they say; no claim of its own; no condition. -/
import Derived.Test.YtlkddekecegfdaaGuOk1
set_option maxRecDepth 100000
set_option maxHeartbeats 4000000
set_option linter.unusedVariables false
set_option linter.unusedSimpArgs false
namespace Go.AM
open Go Go.Proofs

/-! isochron/route.Time -/
theorem f19_ok {n : Nat} {φ : Fz} {lo : Nat} {h : Heap} {own : OwnL}  {a8057 : Option Addr} {n8057 c8057 : Nat} {a8058 : Option Addr} {n8058 c8058 : Nat} {a8060 : Option Addr} {n8060 c8060 : Nat} (X : St φ lo h (own)) (p8056 : ApiTopo) (p8059 : (List Int)) (p8061 : Int) (H8057 : RSl eBool φ (.slice a8057 n8057 c8057) p8056.Station) (H8058 : RSl eApiLink φ (.slice a8058 n8058 c8058) p8056.Links) (H8060 : RSl (eInt .i64) φ (.slice a8060 n8060 c8060) p8059) : Sim ((recN Try.prog LL cutF (n + 16)).call 19 #[(.agg #[.int .i64 p8056.Nodes, .slice a8057 n8057 c8057, .slice a8058 n8058 c8058]), (.slice a8060 n8060 c8060), (.int .i64 p8061)] h) (m_route_Time p8056 p8059 p8061) (fun (d : (Int × Int)) p => p = (.tuple #[.int .i64 d.1, .int .i64 d.2], h)) := by
  refine fcut Try.func19 rfl rfl rfl rfl X ?_
  intro h0 X0
  refine dseq (dreg ?_)
  refine lbox rfl rfl rfl rfl rfl X0 (fun b8062 h8064 X8065 => ?_)
  refine lbox rfl rfl rfl rfl rfl X8065 (fun b8066 h8068 X8069 => ?_)
  refine lpure (v := .int .i64 0) rfl (p_assign rfl) rfl rfl ?_
  refine lpure (v := .int .i64 0) rfl (p_assign rfl) rfl rfl ?_
  refine lend (nseq (dseq (dseq (dreg ?_))))
  refine lread (v := .agg #[.int .i64 p8056.Nodes, .slice a8057 n8057 c8057, .slice a8058 n8058 c8058]) rfl (q_load wd_29 rfl) (St.ld X8069 (j := 1) rfl rfl) rfl ?_
  refine lpure (v := .slice a8060 n8060 c8060) rfl (p_move rfl) rfl rfl ?_
  refine lcall rfl rfl ca_18 rfl rfl (f18_ok X8069 p8056 p8059 H8057 H8058 H8060) rfl (fun e8070 v8071 h8072 hq8073 => ?_)
  cases hq8073
  refine lpure (v := .int .i64 e8070) rfl (p_assign rfl) rfl rfl ?_
  refine lend (nseq (dseq (dreg ?_)))
  refine lpure (v := .int .i64 e8070) rfl (p_move rfl) rfl rfl ?_
  refine lpure (v := .bool (decide (e8070 ≠ 0))) rfl (p_ne rfl) rfl rfl ?_
  refine lend (nseq ?_)
  refine dcond rfl rfl (fun k8074 => ?_) (fun k8074 => ?_)
  · refine dseq (dreg ?_)
    refine lpure (v := .int .i64 e8070) rfl (p_move rfl) rfl rfl ?_
    refine lpure (v := .int .i64 0) rfl (p_assign rfl) rfl rfl ?_
    refine lpure (v := .int .i64 e8070) rfl (p_assign rfl) rfl rfl ?_
    refine lend (nseq (dret (rseq ?_)))
    exact kcut_r (res_2 resT resT) X8069 rfl rfl
  refine dskip (nseq (dseq (dseq (dreg ?_))))
  refine lread (v := .int .i64 p8061) rfl (q_load wd_3 rfl) (St.ld X8069 (j := 0) rfl rfl) rfl ?_
  refine lpure (v := .bool (decide (p8061 < 84))) rfl (p_lt rfl) rfl rfl ?_
  refine lpure (v := .bool (decide (p8061 < 84))) rfl (p_move rfl) rfl rfl ?_
  refine lsh (τ := Bool) (σ := Unit) (fun s8076 (_ : Unit) => [(1, .slice a8060 n8060 c8060), (3, .pointer (some ⟨b8062, 0, none⟩)), (5, .pointer (some ⟨b8066, 0, none⟩)), (20, .bool s8076)]) (fun s8076 (_ : Unit) hh => St φ h.n hh ([(some b8066, .cells [.int .i64 p8061] 3 .exact), (some b8062, .cells [.int .i64 p8056.Nodes, .slice a8057 n8057 c8057, .slice a8058 n8058 c8058] 29 .exact)])) 3 ?_ ?_
  · rintro s8076 _ t0 h8078 X8077
    refine lend (nseq ?_)
    refine dcond rfl rfl (fun k8079 => ?_) (fun k8079 => ?_)
    · refine dseq (dreg ?_)
      refine lpure (v := .int .i64 0) rfl (p_assign rfl) rfl rfl ?_
      refine lpure (v := .int .i64 2) rfl (p_assign rfl) rfl rfl ?_
      refine lend (nseq (dret (rseq ?_)))
      exact kcut_r (res_2 resT resT) X8077 rfl rfl
    refine dskip (nseq (dseq (dreg ?_)))
    refine lread (v := .agg #[.int .i64 p8056.Nodes, .slice a8057 n8057 c8057, .slice a8058 n8058 c8058]) rfl (q_load wd_29 rfl) (St.ld X8077 (j := 1) rfl rfl) rfl ?_
    refine lpure (v := .slice a8060 n8060 c8060) rfl (p_move rfl) rfl rfl ?_
    refine lpure (v := .func (.func 54) #[] #[.pointer (some ⟨b8066, 0, none⟩)]) rfl (p_makeFunc rfl) rfl rfl ?_
    refine linl rfl rfl rfl rfl ca_53 rfl Try.func53 rfl rfl rfl rfl rfl ?_
    refine dseq (dreg ?_)
    refine lbox rfl rfl rfl rfl rfl X8077 (fun b8080 h8082 X8083 => ?_)
    refine lbox rfl rfl rfl rfl rfl X8083 (fun b8084 h8086 X8087 => ?_)
    refine lbox rfl rfl rfl rfl rfl X8087 (fun b8088 h8090 X8091 => ?_)
    refine lpure (v := .int .i64 0) rfl (p_assign rfl) rfl rfl ?_
    refine lpure (v := .int .i64 0) rfl (p_assign rfl) rfl rfl ?_
    refine lend (nseq (dseq (dreg ?_)))
    refine lread (v := .agg #[.int .i64 p8056.Nodes, .slice a8057 n8057 c8057, .slice a8058 n8058 c8058]) rfl (q_load wd_29 rfl) (St.ld X8091 (j := 2) rfl rfl) rfl ?_
    refine lread (v := .slice a8060 n8060 c8060) rfl (q_load wd_42 rfl) (St.ld X8091 (j := 1) rfl rfl) rfl ?_
    refine lpure (v := .func (.func 100) #[] #[.pointer (some ⟨b8084, 0, none⟩), .pointer (some ⟨b8088, 0, none⟩)]) rfl (p_makeFunc rfl) rfl rfl ?_
    refine linl rfl rfl rfl rfl ca_99 rfl Try.func99 rfl rfl rfl rfl rfl ?_
    refine dseq (dreg ?_)
    refine lbox rfl rfl rfl rfl rfl X8091 (fun b8092 h8094 X8095 => ?_)
    refine lpure (v := .int .i64 0) rfl (p_assign rfl) rfl rfl ?_
    refine lpure (v := .int .i64 0) rfl (p_assign rfl) rfl rfl ?_
    refine lend (nseq (dseq (dseq (dreg ?_))))
    refine lread (v := .agg #[.int .i64 p8056.Nodes, .slice a8057 n8057 c8057, .slice a8058 n8058 c8058]) rfl (q_load wd_29 rfl) (St.ld X8095 (j := 0) rfl rfl) rfl ?_
    refine lpure (v := .slice a8060 n8060 c8060) rfl (p_move rfl) rfl rfl ?_
    refine lcall rfl rfl ca_18 rfl rfl (f18_ok X8095 p8056 p8059 H8057 H8058 H8060) rfl (fun e8096 v8097 h8098 hq8099 => ?_)
    cases hq8099
    refine lpure (v := .int .i64 e8096) rfl (p_assign rfl) rfl rfl ?_
    refine lend (nseq (dseq (dreg ?_)))
    refine lpure (v := .int .i64 e8096) rfl (p_move rfl) rfl rfl ?_
    refine lpure (v := .bool (decide (e8096 ≠ 0))) rfl (p_ne rfl) rfl rfl ?_
    refine lend (nseq ?_)
    refine dcond rfl rfl (fun k8100 => ?_) (fun k8100 => ?_)
    · refine dseq (dreg ?_)
      refine lpure (v := .int .i64 0) rfl (p_assign rfl) rfl rfl ?_
      refine lend (nseq (dseq (dreg ?_)))
      refine lpure (v := .int .i64 0) rfl (p_move rfl) rfl rfl ?_
      refine lpure (v := .int .i64 e8096) rfl (p_move rfl) rfl rfl ?_
      refine lpure (v := .int .i64 0) rfl (p_assign rfl) rfl rfl ?_
      refine lpure (v := .int .i64 e8096) rfl (p_assign rfl) rfl rfl ?_
      refine lend (nseq (dret (rseq ?_)))
      refine kin_r (res_2 resT resT) ?_
      refine lpure (v := .int .i64 0) rfl (p_extract rfl) rfl rfl ?_
      refine lpure (v := .int .i64 e8096) rfl (p_extract rfl) rfl rfl ?_
      refine lpure (v := .int .i64 0) rfl (p_assign rfl) rfl rfl ?_
      refine lpure (v := .int .i64 e8096) rfl (p_assign rfl) rfl rfl ?_
      refine lend (nseq (dret ?_))
      refine kin_r (res_2 resT resT) ?_
      refine lpure (v := .int .i64 0) rfl (p_extract rfl) rfl rfl ?_
      refine lpure (v := .int .i64 e8096) rfl (p_extract rfl) rfl rfl ?_
      refine lpure (v := .int .i64 0) rfl (p_assign rfl) rfl rfl ?_
      refine lpure (v := .int .i64 e8096) rfl (p_assign rfl) rfl rfl ?_
      refine lend (nseq (dret ?_))
      exact kcut_r (res_2 resT resT) X8095 rfl rfl
    refine dskip (nseq (dseq (dreg ?_)))
    refine lpure (v := .func (.func 100) #[] #[.pointer (some ⟨b8084, 0, none⟩), .pointer (some ⟨b8088, 0, none⟩)]) rfl (p_move rfl) rfl rfl ?_
    refine lread (v := .agg #[.int .i64 p8056.Nodes, .slice a8057 n8057 c8057, .slice a8058 n8058 c8058]) rfl (q_load wd_29 rfl) (St.ld X8095 (j := 0) rfl rfl) rfl ?_
    refine lpure (v := .agg #[.int .i64 p8056.Nodes, .slice a8057 n8057 c8057, .slice a8058 n8058 c8058]) rfl (p_build rfl) (build_st' tz_87 pl_87 rfl) rfl ?_
    refine linl rfl rfl rfl rfl ca_100 rfl Try.func100 rfl rfl rfl rfl rfl ?_
    refine dseq (dreg ?_)
    refine lbox rfl rfl rfl rfl rfl X8095 (fun b8101 h8103 X8104 => ?_)
    refine lpure (v := .int .i64 0) rfl (p_assign rfl) rfl rfl ?_
    refine lend (nseq (dseq (dreg ?_)))
    refine lpure (v := .int .i64 0) rfl (p_assign rfl) rfl rfl ?_
    refine lend (nseq (dseq (dseq (dreg ?_))))
    refine lread (v := .slice a8060 n8060 c8060) rfl (q_load wd_42 rfl) (St.ld X8104 (j := 3) rfl rfl) rfl ?_
    refine lpure (v := .int .i64 (p8059.length : Int)) rfl (p_len rfl rfl rfl un_42 rfl) (RSl.lenC H8060) rfl ?_
    refine lpure (v := .int .i64 0) rfl (p_move rfl) rfl rfl ?_
    refine lend (nseq (dblock ?_))
    refine dloopM (τ := Int × Int) (σ := Unit) (fun s8133 (_ : Unit) => [(2, .pointer (some ⟨b8088, 0, none⟩)), (3, .pointer (some ⟨b8101, 0, none⟩)), (5, .int .i64 s8133.1), (8, .slice a8060 n8060 c8060), (9, .int .i64 (p8059.length : Int)), (10, .int .i64 s8133.2)]) (fun s8133 (_ : Unit) hh => St φ h.n hh ([(some b8101, .cells [.int .i64 p8056.Nodes, .slice a8057 n8057 c8057, .slice a8058 n8058 c8058] 87 .exact), (some b8092, .cells [.int .i64 p8056.Nodes, .slice a8057 n8057 c8057, .slice a8058 n8058 c8058] 29 .exact), (some b8088, .cells [.func (.func 54) #[] #[.pointer (some ⟨b8066, 0, none⟩)]] 90 .exact), (some b8084, .cells [.slice a8060 n8060 c8060] 42 .exact), (some b8080, .cells [.int .i64 p8056.Nodes, .slice a8057 n8057 c8057, .slice a8058 n8058 c8058] 29 .exact), (some b8066, .cells [.int .i64 p8061] 3 .exact), (some b8062, .cells [.int .i64 p8056.Nodes, .slice a8057 n8057 c8057, .slice a8058 n8058 c8058] 29 .exact)])) (0, 0) () (sub_cons rfl (sub_cons rfl (sub_cons rfl (sub_cons rfl (sub_cons rfl (sub_cons rfl sub_nil)))))) X8104 ?_
    rintro n8149 ih8148 s8133 _ t0 h8151 X8150
    refine dseq (dreg ?_)
    refine lpure (v := .bool (decide (s8133.2 < (p8059.length : Int)))) rfl (p_lt rfl) rfl rfl ?_
    refine lend (nseq (dseq ?_))
    refine dcond rfl rfl (fun k8152 => ?_) (fun k8152 => ?_)
    · refine dskip (nseq (dseq (dblock (dseq (dreg ?_)))))
      refine Sim.bindM fun e8153 he8154 => ?_
      obtain ⟨p8155, cs8155, hp8155, hF8155, hR8155⟩ := RSl.ia H8060 he8154 (kd := .i64) (n := 1) rfl
      have hR8155 : _ = [(.int .i64 e8153 : Value)] := hR8155
      subst hR8155
      refine lpure (v := p8155) rfl (p_ia rs_42 rfl) hp8155 rfl ?_
      refine lread (v := .int .i64 e8153) rfl (q_load wd_3 rfl) (FP.ld X8150 hF8155) rfl ?_
      refine lpure (v := .int .i64 e8153) rfl (p_assign rfl) rfl rfl ?_
      refine lend (nseq ?_)
      refine dgo_start (n := 12) rfl (by kernel_rfl) ?_
      refine gpure (v := .int .i64 s8133.1) rfl (p_move rfl) (lo_t rfl rfl) rfl rfl ?_
      refine gload (v := .func (.func 54) #[] #[.pointer (some ⟨b8066, 0, none⟩)]) rfl (q_load wd_90 rfl) (St.ld X8150 (j := 2) rfl rfl) rfl ?_
      refine gpure (v := .pointer (some ⟨b8101, 0, none⟩)) rfl (p_fa fo_87_0 rfl) (lo_t (lo_own X8150 (j := 0) (o := 0) (s := none) (f := 0) rfl) rfl) rfl rfl ?_
      refine gpure (v := .pointer (some ⟨b8101, 2, none⟩)) rfl (p_fa fo_29_2 rfl) (lo_t (lo_own X8150 (j := 0) (o := 0) (s := none) (f := 0) rfl) rfl) rfl rfl ?_
      refine gload (v := .slice a8058 n8058 c8058) rfl (q_load wd_27 rfl) (St.ld X8150 (j := 0) rfl rfl) rfl ?_
      refine gpure (v := .int .i64 e8153) rfl (p_move rfl) (lo_t rfl rfl) rfl rfl ?_
      refine gpure (v := .int .i64 (w64 (Int.tdiv e8153 2))) rfl (p_quo rfl) (lo_t rfl (lo_c rfl)) rfl rfl ?_
      refine Sim.bindM fun e8156 he8157 => ?_
      obtain ⟨p8158, cs8158, hp8158, hF8158, hR8158⟩ := RSl.ia H8058 he8157 (kd := .i64) (n := 4) rfl
      obtain rfl := eApiLink_el hR8158
      refine gpure (v := p8158) rfl (p_ia rs_27 rfl) (lo_t (lo_sl X8150 H8058) (lo_t rfl rfl)) hp8158 rfl ?_
      refine gload (v := .agg #[.int .i64 e8156.A, .int .i64 e8156.B, .int .i64 e8156.Per, .int .i64 e8156.Delay]) rfl (q_load wd_75 rfl) (FP.ldw X8150 hF8158 rfl rfl) rfl ?_
      refine gwait rfl (still_act rfl).1 rfl ?_
      refine dgo_skip ?_
      refine dgo_skip ?_
      refine ginl (m := 11) [false, false, false] (rk_cons (q_load wd_75 rfl) (FP.ldw X8150 hF8158 rfl rfl) (same_self 20 rfl) (rk_cons (q_load wd_27 rfl) (St.ld X8150 (j := 0) rfl rfl) (same_self 20 rfl) (rk_cons (q_load wd_90 rfl) (St.ld X8150 (j := 2) rfl rfl) (same_self 20 rfl) rk_nil))) rfl rfl rfl rfl rfl rfl rfl ca_54 rfl Try.func54 rfl rfl rfl rfl rfl ?_
      refine dseq (dreg ?_)
      refine lbox rfl rfl rfl rfl rfl X8150 (fun b8159 h8161 X8162 => ?_)
      refine lpure (v := .int .i64 0) rfl (p_assign rfl) rfl rfl ?_
      refine lend (nseq (dseq (dreg ?_)))
      refine lread (v := .int .i64 p8061) rfl (q_load wd_3 rfl) (St.ld X8162 (j := 6) rfl rfl) rfl ?_
      refine lpure (v := .pointer (some ⟨b8159, 2, none⟩)) rfl (p_fa fo_75_2 rfl) rfl rfl ?_
      refine lread (v := .int .i64 e8156.Per) rfl (q_load wd_3 rfl) (St.ld X8162 (j := 0) rfl rfl) rfl ?_
      refine lpure (v := .int .i64 (w64 (p8061 * e8156.Per))) rfl (p_mul rfl) rfl rfl ?_
      refine lpure (v := .pointer (some ⟨b8159, 3, none⟩)) rfl (p_fa fo_75_3 rfl) rfl rfl ?_
      refine lread (v := .int .i64 e8156.Delay) rfl (q_load wd_3 rfl) (St.ld X8162 (j := 0) rfl rfl) rfl ?_
      refine lpure (v := .int .i64 (w64 ((w64 (p8061 * e8156.Per)) + e8156.Delay))) rfl (p_add rfl) rfl rfl ?_
      refine lpure (v := .int .i64 (w64 ((w64 (p8061 * e8156.Per)) + e8156.Delay))) rfl (p_assign rfl) rfl rfl ?_
      refine lend (nseq (dret ?_))
      refine kin_r (res_1 resT) ?_
      refine dgo_skip ?_
      refine dgo_skip ?_
      refine dgo_skip ?_
      refine dgo_skip ?_
      refine dgo_skip ?_
      refine dgo_skip ?_
      refine dgo_skip ?_
      refine dgo_skip ?_
      refine dgo_skip ?_
      refine dgo_skip ?_
      refine gpure (v := .int .i64 (w64 (s8133.1 + (w64 ((w64 (p8061 * e8156.Per)) + e8156.Delay))))) rfl (p_add rfl) (lo_t rfl (lo_t rfl rfl)) rfl rfl ?_
      refine gpure (v := .int .i64 (w64 (s8133.1 + (w64 ((w64 (p8061 * e8156.Per)) + e8156.Delay))))) rfl (p_assign rfl) (lo_t rfl rfl) rfl rfl ?_
      refine gend rk_nil ?_
      refine nblock (nseq (dreg ?_))
      refine lpure (v := .int .i64 (w64 (s8133.2 + 1))) rfl (p_add rfl) rfl rfl ?_
      refine lpure (v := .int .i64 (w64 (s8133.2 + 1))) rfl (p_move rfl) rfl rfl ?_
      refine lend ?_
      exact kbackM ih8148 ((w64 (s8133.1 + (w64 ((w64 (p8061 * e8156.Per)) + e8156.Delay)))), (w64 (s8133.2 + 1))) () (sub_cons rfl (sub_cons rfl (sub_cons rfl (sub_cons rfl (sub_cons rfl (sub_cons rfl sub_nil)))))) (St.pick X8162 (.skip _ (.keep _ (.keep _ (.keep _ (.keep _ (.keep _ (.keep _ (.keep _ (.nil _))))))))))
    refine dexit (eseq (eloop (xblock (nseq (dseq (dreg ?_))))))
    refine lpure (v := .int .i64 s8133.1) rfl (p_move rfl) rfl rfl ?_
    refine lpure (v := .int .i64 s8133.1) rfl (p_assign rfl) rfl rfl ?_
    refine lend (nseq (dret ?_))
    refine kin_r (res_1 resT) ?_
    refine lpure (v := .int .i64 s8133.1) rfl (p_assign rfl) rfl rfl ?_
    refine lpure (v := .int .i64 0) rfl (p_assign rfl) rfl rfl ?_
    refine lend (nseq (dret ?_))
    refine kin_r (res_2 resT resT) ?_
    refine lpure (v := .int .i64 s8133.1) rfl (p_extract rfl) rfl rfl ?_
    refine lpure (v := .int .i64 0) rfl (p_extract rfl) rfl rfl ?_
    refine lpure (v := .int .i64 s8133.1) rfl (p_assign rfl) rfl rfl ?_
    refine lpure (v := .int .i64 0) rfl (p_assign rfl) rfl rfl ?_
    refine lend (nseq (dret ?_))
    refine kin_r (res_2 resT resT) ?_
    refine lpure (v := .int .i64 s8133.1) rfl (p_extract rfl) rfl rfl ?_
    refine lpure (v := .int .i64 0) rfl (p_extract rfl) rfl rfl ?_
    refine lpure (v := .int .i64 s8133.1) rfl (p_assign rfl) rfl rfl ?_
    refine lpure (v := .int .i64 0) rfl (p_assign rfl) rfl rfl ?_
    refine lend (nseq (dret ?_))
    exact kcut_r (res_2 resT resT) X8150 rfl rfl
  intro j8163 J8164
  refine lcase (i := 17) (show _ = Value.bool (decide (p8061 < 84)) from rfl) (fun k8165 => ?_) (fun k8165 => ?_)
  · refine lskip rfl rfl ?_
    refine lskip rfl rfl ?_
    refine lpure (v := .bool true) rfl (p_pick rfl) rfl rfl ?_
    refine Sim.of_eq (congrArg j8163 (show ((decide (p8061 < 84)) || (decide (1542 < p8061))) = true from by rw [k8165] <;> rfl)) ?_
    exact ljmpM J8164 true () (sub_cons rfl (sub_cons rfl (sub_cons rfl (sub_cons rfl sub_nil)))) X8069
  refine lread (v := .int .i64 p8061) rfl (q_load wd_3 rfl) (St.ld X8069 (j := 0) rfl rfl) rfl ?_
  refine lpure (v := .bool (decide (1542 < p8061))) rfl (p_gt rfl) rfl rfl ?_
  refine lpure (v := .bool (decide (1542 < p8061))) rfl (p_pick rfl) rfl rfl ?_
  refine Sim.of_eq (congrArg j8163 (show ((decide (p8061 < 84)) || (decide (1542 < p8061))) = (decide (1542 < p8061)) from by rw [k8165] <;> rfl)) ?_
  exact ljmpM J8164 (decide (1542 < p8061)) () (sub_cons rfl (sub_cons rfl (sub_cons rfl (sub_cons rfl sub_nil)))) X8069
/-! isochron/route.Back -/
theorem f23_ok {n : Nat} {φ : Fz} {lo : Nat} {h : Heap} {own : OwnL}  {a8303 : Option Addr} {n8303 c8303 : Nat} {a8304 : Option Addr} {n8304 c8304 : Nat} {a8306 : Option Addr} {n8306 c8306 : Nat} (X : St φ lo h (own)) (p8302 : ApiTopo) (p8305 : (List Int)) (H8303 : RSl eBool φ (.slice a8303 n8303 c8303) p8302.Station) (H8304 : RSl eApiLink φ (.slice a8304 n8304 c8304) p8302.Links) (H8306 : RSl (eInt .i64) φ (.slice a8306 n8306 c8306) p8305) : Sim ((recN Try.prog LL cutF (n + 15)).call 23 #[(.agg #[.int .i64 p8302.Nodes, .slice a8303 n8303 c8303, .slice a8304 n8304 c8304]), (.slice a8306 n8306 c8306)] h) (m_route_Back p8302 p8305) (fun (d : ((List Int) × Int)) p => ∃ φ2 : Fz, ∃ a8428 : Option Addr, ∃ n8428 : Nat, ∃ c8428 : Nat, ∃ ob8428 : Option Nat, ∃ blk8428 : Blk, Fz.le φ φ2 ∧ St φ2 lo p.2 ((ob8428, blk8428) :: own) ∧ p.1 = .tuple #[.slice a8428 n8428 c8428, .int .i64 d.2] ∧ OSl (eInt .i64) φ2 3 ob8428 blk8428 (.slice a8428 n8428 c8428) d.1) := by
  refine fopen Try.func23 rfl rfl rfl rfl ?_
  refine dseq (dreg ?_)
  refine lbox rfl rfl rfl rfl rfl X (fun b8307 h8309 X8310 => ?_)
  refine lbox rfl rfl rfl rfl rfl X8310 (fun b8311 h8313 X8314 => ?_)
  refine lpure (v := .slice none 0 0) rfl (p_assign rfl) rfl rfl ?_
  refine lpure (v := .int .i64 0) rfl (p_assign rfl) rfl rfl ?_
  refine lend (nseq (dseq (dreg ?_)))
  refine lread (v := .agg #[.int .i64 p8302.Nodes, .slice a8303 n8303 c8303, .slice a8304 n8304 c8304]) rfl (q_load wd_29 rfl) (St.ld X8314 (j := 1) rfl rfl) rfl ?_
  refine lread (v := .slice a8306 n8306 c8306) rfl (q_load wd_42 rfl) (St.ld X8314 (j := 0) rfl rfl) rfl ?_
  refine lpure (v := .func (.func 62) #[] #[.pointer (some ⟨b8311, 0, none⟩)]) rfl (p_makeFunc rfl) rfl rfl ?_
  refine linl rfl rfl rfl rfl ca_61 rfl Try.func61 rfl rfl rfl rfl rfl ?_
  refine dseq (dreg ?_)
  refine lbox rfl rfl rfl rfl rfl X8314 (fun b8315 h8317 X8318 => ?_)
  refine lpure (v := .slice none 0 0) rfl (p_assign rfl) rfl rfl ?_
  refine lpure (v := .int .i64 0) rfl (p_assign rfl) rfl rfl ?_
  refine lend (nseq (dseq (dseq (dreg ?_))))
  refine lread (v := .agg #[.int .i64 p8302.Nodes, .slice a8303 n8303 c8303, .slice a8304 n8304 c8304]) rfl (q_load wd_29 rfl) (St.ld X8318 (j := 0) rfl rfl) rfl ?_
  refine lpure (v := .slice a8306 n8306 c8306) rfl (p_move rfl) rfl rfl ?_
  refine lcall rfl rfl ca_18 rfl rfl (f18_ok X8318 p8302 p8305 H8303 H8304 H8306) rfl (fun e8319 v8320 h8321 hq8322 => ?_)
  cases hq8322
  refine lpure (v := .int .i64 e8319) rfl (p_assign rfl) rfl rfl ?_
  refine lend (nseq (dseq (dreg ?_)))
  refine lpure (v := .int .i64 e8319) rfl (p_move rfl) rfl rfl ?_
  refine lpure (v := .bool (decide (e8319 ≠ 0))) rfl (p_ne rfl) rfl rfl ?_
  refine lend (nseq ?_)
  refine dcond rfl rfl (fun k8323 => ?_) (fun k8323 => ?_)
  · refine dseq (dreg ?_)
    refine lpure (v := .slice none 0 0) rfl (p_assign rfl) rfl rfl ?_
    refine lend (nseq (dseq (dreg ?_)))
    refine lpure (v := .slice none 0 0) rfl (p_move rfl) rfl rfl ?_
    refine lpure (v := .int .i64 e8319) rfl (p_move rfl) rfl rfl ?_
    refine lpure (v := .slice none 0 0) rfl (p_assign rfl) rfl rfl ?_
    refine lpure (v := .int .i64 e8319) rfl (p_assign rfl) rfl rfl ?_
    refine lend (nseq (dret (rseq ?_)))
    refine kin_r (res_2 resT resT) ?_
    refine lpure (v := .slice none 0 0) rfl (p_extract rfl) rfl rfl ?_
    refine lpure (v := .int .i64 e8319) rfl (p_extract rfl) rfl rfl ?_
    refine lpure (v := .slice none 0 0) rfl (p_assign rfl) rfl rfl ?_
    refine lpure (v := .int .i64 e8319) rfl (p_assign rfl) rfl rfl ?_
    refine lend (nseq (dret ?_))
    exact kopen_r (res_2 resT resT) ⟨φ, none, 0, 0, none, (.dead), (Fz.le_refl _), St.pick X8318 (.none _ (.skip _ (.skip _ (.skip _ (.refl _))))), rfl, OSl.nil⟩
  refine dskip (nseq (dseq (dreg ?_)))
  refine lpure (v := .func (.func 62) #[] #[.pointer (some ⟨b8311, 0, none⟩)]) rfl (p_move rfl) rfl rfl ?_
  refine lread (v := .agg #[.int .i64 p8302.Nodes, .slice a8303 n8303 c8303, .slice a8304 n8304 c8304]) rfl (q_load wd_29 rfl) (St.ld X8318 (j := 0) rfl rfl) rfl ?_
  refine lpure (v := .agg #[.int .i64 p8302.Nodes, .slice a8303 n8303 c8303, .slice a8304 n8304 c8304]) rfl (p_build rfl) (build_st' tz_87 pl_87 rfl) rfl ?_
  refine linl rfl rfl rfl rfl ca_62 rfl Try.func62 rfl rfl rfl rfl rfl ?_
  refine dseq (dreg ?_)
  refine lbox rfl rfl rfl rfl rfl X8318 (fun b8324 h8326 X8327 => ?_)
  refine lpure (v := .slice none 0 0) rfl (p_assign rfl) rfl rfl ?_
  refine lend (nseq (dseq (dreg ?_)))
  refine lalloc rfl tz_42 rfl rfl rfl X8327 (fun b8328 h8330 X8331 => ?_)
  refine lend (nseq (dseq (dseq (dreg ?_))))
  refine lread (v := .slice a8306 n8306 c8306) rfl (q_load wd_42 rfl) (St.ld X8331 (j := 3) rfl rfl) rfl ?_
  refine linl rfl rfl rfl rfl ca_63 rfl Try.func63 rfl rfl rfl rfl rfl ?_
  refine dseq (dreg ?_)
  refine lbox rfl rfl rfl rfl rfl X8331 (fun b8332 h8334 X8335 => ?_)
  refine lpure (v := .nilFunc) rfl (p_assign rfl) rfl rfl ?_
  refine lend (nseq (dseq (dreg ?_)))
  refine lpure (v := .func (.func 103) #[] #[.pointer (some ⟨b8332, 0, none⟩)]) rfl (p_makeFunc rfl) rfl rfl ?_
  refine lpure (v := .func (.func 103) #[] #[.pointer (some ⟨b8332, 0, none⟩)]) rfl (p_assign rfl) rfl rfl ?_
  refine lend (nseq (dret ?_))
  refine kin_r (res_1 resT) ?_
  refine lend (nseq (dblock ?_))
  refine drange rfl rfl ca_103 Try.func103 rfl rfl X8335 (fun _ => rfl) ?_
  intro l8336 q8337 df8338 h8340 Q8339 X8341
  refine dseq (dreg ?_)
  refine lread (v := .slice a8306 n8306 c8306) rfl (q_load wd_42 rfl) (St.ld X8341 (j := 2) rfl rfl) rfl ?_
  refine lpure (v := .int .i64 (p8305.length : Int)) rfl (p_len rfl rfl rfl un_42 rfl) (RSl.lenC H8306) rfl ?_
  refine lpure (v := .int .i64 (w64 ((p8305.length : Int) - 1))) rfl (p_sub rfl) rfl rfl ?_
  refine lpure (v := .int .i64 (w64 ((p8305.length : Int) - 1))) rfl (p_assign rfl) rfl rfl ?_
  refine lend (nseq (dblock ?_))
  refine dloopM (τ := Int × (List Int)) (σ := Option Addr × Nat × Nat × Option Nat × Blk) (fun s8386 (a8388, n8388, c8388, ob8388, blk8388) => [(0, .func (.yield l8336) #[] #[]), (1, .pointer (some ⟨b8332, 0, none⟩)), (3, .int .i64 s8386.1)]) (fun s8386 (a8388, n8388, c8388, ob8388, blk8388) hh => St φ lo hh ((ob8388, blk8388) :: (some l8336, rdy q8337) :: (none, .dead) :: (some b8332, .cells [.slice a8306 n8306 c8306] 42 .exact) :: (some b8328, .cells [.slice a8388 n8388 c8388] 42 .exact) :: (some b8324, .cells [.int .i64 p8302.Nodes, .slice a8303 n8303 c8303, .slice a8304 n8304 c8304] 87 .exact) :: (some b8315, .cells [.int .i64 p8302.Nodes, .slice a8303 n8303 c8303, .slice a8304 n8304 c8304] 29 .exact) :: (some b8311, .cells [.slice a8306 n8306 c8306] 42 .exact) :: (some b8307, .cells [.int .i64 p8302.Nodes, .slice a8303 n8303 c8303, .slice a8304 n8304 c8304] 29 .exact) :: own) ∧ OSl (eInt .i64) φ 3 ob8388 blk8388 (.slice a8388 n8388 c8388) s8386.2) ((w64 ((p8305.length : Int) - 1)), []) (none, 0, 0, none, .dead) (sub_cons rfl (sub_cons rfl (sub_cons rfl sub_nil))) ⟨(St.pick X8341 (.none _ (.keep _ (.none _ (.skip _ (.keep _ (.keep _ (.keep _ (.keep _ (.keep _ (.keep _ (.refl _)))))))))))), OSl.nil⟩ ?_
  rintro n8409 ih8408 s8386 ⟨a8388, n8388, c8388, ob8388, blk8388⟩ t0 h8411 ⟨X8410, O8388⟩
  refine dseq (dseq (dreg ?_))
  refine lpure (v := .int .i64 s8386.1) rfl (p_move rfl) rfl rfl ?_
  refine lpure (v := .bool (decide (0 ≤ s8386.1))) rfl (p_ge rfl) rfl rfl ?_
  refine lend (nseq ?_)
  refine dcond rfl rfl (fun k8412 => ?_) (fun k8412 => ?_)
  · refine dskip (nseq (dseq (dblock (dseq (dreg ?_)))))
    refine lpure (v := .func (.yield l8336) #[] #[]) rfl (p_move rfl) rfl rfl ?_
    refine lpure (v := .int .i64 s8386.1) rfl (p_move rfl) rfl rfl ?_
    refine lread (v := .slice a8306 n8306 c8306) rfl (q_load wd_42 rfl) (St.ld X8410 (j := 3) rfl rfl) rfl ?_
    refine lpure (v := .int .i64 s8386.1) rfl (p_move rfl) rfl rfl ?_
    refine Sim.bindM fun e8413 he8414 => ?_
    obtain ⟨p8415, cs8415, hp8415, hF8415, hR8415⟩ := RSl.ia H8306 he8414 (kd := .i64) (n := 1) rfl
    have hR8415 : _ = [(.int .i64 e8413 : Value)] := hR8415
    subst hR8415
    refine lpure (v := p8415) rfl (p_ia rs_42 rfl) hp8415 rfl ?_
    refine lread (v := .int .i64 e8413) rfl (q_load wd_3 rfl) (FP.ld X8410 hF8415) rfl ?_
    refine lround rfl rfl rfl rfl rfl rfl X8410 (j := 1) rfl Q8339 rfl rfl rfl rfl rfl (fun t8416 => ?_)
    refine dreg ?_
    refine lpure (v := .int .i64 e8413) rfl (p_assign rfl) rfl rfl ?_
    refine lend ?_
    refine basg X8410 (j := 1) rfl (fun h8417 X8418 => ?_)
    refine dblock (dreg ?_)
    refine lread (v := .slice a8388 n8388 c8388) rfl (q_load wd_42 rfl) (St.ld X8418 (j := 4) rfl rfl) rfl ?_
    refine lpure (v := .int .i64 e8413) rfl (p_move rfl) rfl rfl ?_
    refine lpure (v := .int .i64 (bitXor .i64 e8413 1)) rfl (p_bin rfl) bin_xor rfl ?_
    obtain ⟨h8419, b8419, hv8419, X8419, O8419⟩ := OSl.lay (E := (eInt .i64)) (φ := φ) (cs := [.int .i64 (bitXor .i64 e8413 1)]) (l := [(bitXor .i64 e8413 1)]) (len := 1) (parts := [(0, .int .i64 (bitXor .i64 e8413 1))]) un_42 ts_3 rfl rfl rfl tz_3 rfl rfl (show RowD (eInt .i64) φ [.int .i64 (bitXor .i64 e8413 1)] [(bitXor .i64 e8413 1)] from ⟨[.int .i64 (bitXor .i64 e8413 1)], _, rfl, rfl, rfl⟩) rfl rfl X8418
    refine lheap rfl (h_buildSlice rfl) hv8419 rfl ?_
    obtain ⟨ws8421, hw8421⟩ := OSl.read O8419 X8419 (k := 0) rfl (n := 1) rfl
    refine Sim.mustM fun k8421 => ?_
    obtain ⟨h8421, a8421, c8421, ob8421, blk8421, hv8421, X8421, O8421⟩ := OSl.append O8388 X8419 (j := 1) rfl hw8421 k8421 (ts := #[42, 42]) rfl un_42 (argOk_of ax_42_42) ts_3 rfl rfl tb_3 rfl tz_3 rfl
    refine lheap rfl (h_builtin rfl rfl) hv8421 rfl ?_
    refine lstore rfl ts_42 rfl rfl (j := 5) rfl rfl rfl rfl rfl rfl X8421 (fun h8422 X8423 => ?_)
    refine lend (nblock ?_)
    refine nrnd X8423 (j := 2) rfl (fun h8424 X8425 => ?_)
    refine lpure (v := .bool false) rfl (p_not rfl) rfl rfl ?_
    refine lend (nseq (dcondF rfl rfl (dskip (nblock (nseq (dreg ?_))))))
    refine lpure (v := .int .i64 s8386.1) rfl (p_move rfl) rfl rfl ?_
    refine lpure (v := .int .i64 (w64 (s8386.1 - 1))) rfl (p_sub rfl) rfl rfl ?_
    refine lpure (v := .int .i64 (w64 (s8386.1 - 1))) rfl (p_assign rfl) rfl rfl ?_
    refine lend ?_
    exact kbackM ih8408 ((w64 (s8386.1 - 1)), (s8386.2 ++ ([(bitXor .i64 e8413 1)]))) (a8421, (s8386.2.length + ([(bitXor .i64 e8413 1)]).length), c8421, ob8421, blk8421) (sub_cons rfl (sub_cons rfl (sub_cons rfl sub_nil))) ⟨(St.pick X8425 (.skip _ (.keep _ (.keep _ (.none _ (.skip _ (.keep _ (.keep _ (.keep _ (.keep _ (.keep _ (.keep _ (.refl _))))))))))))), O8421⟩
  refine dexit (eseq (eloop (xblock ?_)))
  refine kin_n res_0 ?_
  refine rend_n X8410 (j := 1) rfl (fun h8426 X8427 => ?_)
  refine nblock (nseq (dseq (dreg ?_)))
  refine lread (v := .slice a8388 n8388 c8388) rfl (q_load wd_42 rfl) (St.ld X8427 (j := 4) rfl rfl) rfl ?_
  refine lpure (v := .slice a8388 n8388 c8388) rfl (p_assign rfl) rfl rfl ?_
  refine lend (nseq (dret ?_))
  refine kin_r (res_1 resT) ?_
  refine lpure (v := .slice a8388 n8388 c8388) rfl (p_assign rfl) rfl rfl ?_
  refine lpure (v := .int .i64 0) rfl (p_assign rfl) rfl rfl ?_
  refine lend (nseq (dret ?_))
  refine kin_r (res_2 resT resT) ?_
  refine lpure (v := .slice a8388 n8388 c8388) rfl (p_extract rfl) rfl rfl ?_
  refine lpure (v := .int .i64 0) rfl (p_extract rfl) rfl rfl ?_
  refine lpure (v := .slice a8388 n8388 c8388) rfl (p_assign rfl) rfl rfl ?_
  refine lpure (v := .int .i64 0) rfl (p_assign rfl) rfl rfl ?_
  refine lend (nseq (dret ?_))
  exact kopen_r (res_2 resT resT) ⟨φ, a8388, n8388, c8388, ob8388, blk8388, (Fz.le_refl _), St.pick X8427 (.keep _ (.skip _ (.skip _ (.skip _ (.skip _ (.skip _ (.skip _ (.skip _ (.skip _ (.refl _)))))))))), rfl, O8388⟩
/-! isochron/route.inner -/
theorem f60_ok {n : Nat} {φ : Fz} {lo : Nat} {h : Heap} {own : OwnL}  {a8534 : Option Addr} {n8534 c8534 : Nat} (X : St φ lo h (own)) (p8533 : (List Int)) (H8534 : RSl (eInt .i64) φ (.slice a8534 n8534 c8534) p8533) : Sim ((recN Try.prog LL cutF (n + 1)).call 60 #[(.slice a8534 n8534 c8534)] h) (m_route_inner p8533) (fun (d : (List Int)) p => ∃ a8536 : Option Addr, ∃ n8536 : Nat, ∃ c8536 : Nat, p = (.slice a8536 n8536 c8536, h) ∧ RSl (eInt .i64) φ (.slice a8536 n8536 c8536) d) := by
  refine fcut Try.func60 rfl rfl rfl rfl X ?_
  intro h0 X0
  refine dseq (dreg ?_)
  refine lpure (v := .slice none 0 0) rfl (p_assign rfl) rfl rfl ?_
  refine lend (nseq (dseq (dreg ?_)))
  refine lpure (v := .slice a8534 n8534 c8534) rfl (p_move rfl) rfl rfl ?_
  refine lpure (v := .slice a8534 n8534 c8534) rfl (p_move rfl) rfl rfl ?_
  refine lpure (v := .int .i64 (p8533.length : Int)) rfl (p_len rfl rfl rfl un_33 rfl) (RSl.lenC H8534) rfl ?_
  refine lpure (v := .int .i64 (w64 ((p8533.length : Int) - 1))) rfl (p_sub rfl) rfl rfl ?_
  refine lpure (v := .slice a8534 n8534 c8534) rfl (p_move rfl) rfl rfl ?_
  refine lpure (v := .int .i64 (p8533.length : Int)) rfl (p_len rfl rfl rfl un_33 rfl) (RSl.lenC H8534) rfl ?_
  refine lpure (v := .int .i64 (w64 ((p8533.length : Int) - 1))) rfl (p_sub rfl) rfl rfl ?_
  refine Sim.mustM fun k8535 => ?_
  have k8535 := of_decide_eq_true k8535
  obtain ⟨a8535, n8535, c8535, hv8535, H8535, K8535⟩ := RSl.slice3 (mx := .int .i64 (w64 ((p8533.length : Int) - 1))) H8534 un_33 ts_3 rfl (bnd_int (show (0 : Int) ≤ 1 from by omega)) ⟨.i64, (w64 ((p8533.length : Int) - 1)), rfl, by omega, rfl⟩ ⟨.i64, (w64 ((p8533.length : Int) - 1)), rfl, by omega, rfl⟩ (by omega) (by omega) (by omega) (by omega) (by unfold unk; omega)
  refine lpure rfl (p_slice3 ⟨_, _, _, rfl⟩ rfl (evo_ok rfl) (evo_ok rfl) rfl) hv8535 rfl ?_
  refine lpure (v := .slice a8535 n8535 c8535) rfl (p_assign rfl) rfl rfl ?_
  refine lend (nseq (dret ?_))
  exact kcut_r (res_1 resT) X0 (lo_slF X.fzlt H8535) ⟨a8535, n8535, c8535, rfl, H8535⟩
/-! isochron/route.meet -/
theorem f59_ok {n : Nat} {φ : Fz} {lo : Nat} {h : Heap} {own : OwnL}  {a8547 : Option Addr} {n8547 c8547 : Nat} {a8549 : Option Addr} {n8549 c8549 : Nat} (X : St φ lo h (own)) (p8546 : (List Int)) (p8548 : (List Int)) (H8547 : RSl (eInt .i64) φ (.slice a8547 n8547 c8547) p8546) (H8549 : RSl (eInt .i64) φ (.slice a8549 n8549 c8549) p8548) : Sim ((recN Try.prog LL cutF (n + 6)).call 59 #[(.slice a8547 n8547 c8547), (.slice a8549 n8549 c8549)] h) (m_route_meet p8546 p8548) (fun (d : Bool) p => p = (.bool d, h)) := by
  refine fcut Try.func59 rfl rfl rfl rfl X ?_
  intro h0 X0
  refine dseq (dreg ?_)
  refine lbox rfl rfl rfl rfl rfl X0 (fun b8550 h8552 X8553 => ?_)
  refine lpure (v := .bool false) rfl (p_assign rfl) rfl rfl ?_
  refine lend (nseq (dseq (dreg ?_)))
  refine lpure (v := .slice a8547 n8547 c8547) rfl (p_move rfl) rfl rfl ?_
  refine lpure (v := .func (.func 102) #[] #[.pointer (some ⟨b8550, 0, none⟩)]) rfl (p_makeFunc rfl) rfl rfl ?_
  refine linl rfl rfl rfl rfl ca_73 rfl Try.func73 rfl rfl rfl rfl rfl ?_
  refine dseq (dreg ?_)
  refine lpure (v := .bool false) rfl (p_assign rfl) rfl rfl ?_
  refine lend (nseq (dseq (dreg ?_)))
  refine lpure (v := .slice a8547 n8547 c8547) rfl (p_move rfl) rfl rfl ?_
  refine lpure (v := .func (.func 102) #[] #[.pointer (some ⟨b8550, 0, none⟩)]) rfl (p_move rfl) rfl rfl ?_
  refine linl rfl rfl rfl rfl ca_106 rfl Try.func106 rfl rfl rfl rfl rfl ?_
  refine dseq (dreg ?_)
  refine lpure (v := .int .i64 0) rfl (p_assign rfl) rfl rfl ?_
  refine lend (nseq (dseq (dseq (dreg ?_))))
  refine lpure (v := .slice a8547 n8547 c8547) rfl (p_move rfl) rfl rfl ?_
  refine lpure (v := .int .i64 (p8546.length : Int)) rfl (p_len rfl rfl rfl un_33 rfl) (RSl.lenC H8547) rfl ?_
  refine lpure (v := .int .i64 0) rfl (p_move rfl) rfl rfl ?_
  refine lend (nseq (dblock ?_))
  refine dloopM (τ := Int) (σ := Unit) (fun s8578 (_ : Unit) => [(0, .slice a8547 n8547 c8547), (1, .func (.func 102) #[] #[.pointer (some ⟨b8550, 0, none⟩)]), (7, .int .i64 (p8546.length : Int)), (8, .int .i64 s8578)]) (fun s8578 (_ : Unit) hh => St φ h.n hh ([(some b8550, .cells [.slice a8549 n8549 c8549] 33 .exact)])) 0 () (sub_cons rfl (sub_cons rfl (sub_cons rfl (sub_cons rfl sub_nil)))) X8553 ?_
  rintro n8592 ih8591 s8578 _ t0 h8594 X8593
  refine dseq (dreg ?_)
  refine lpure (v := .bool (decide (s8578 < (p8546.length : Int)))) rfl (p_lt rfl) rfl rfl ?_
  refine lend (nseq (dseq ?_))
  refine dcond rfl rfl (fun k8595 => ?_) (fun k8595 => ?_)
  · refine dskip (nseq (dseq (dblock (dseq (dreg ?_)))))
    refine lpure (v := .int .i64 s8578) rfl (p_move rfl) rfl rfl ?_
    refine lpure (v := .int .i64 s8578) rfl (p_assign rfl) rfl rfl ?_
    refine lend (nseq (dseq (dreg ?_)))
    refine lpure (v := .func (.func 102) #[] #[.pointer (some ⟨b8550, 0, none⟩)]) rfl (p_move rfl) rfl rfl ?_
    refine lpure (v := .slice a8547 n8547 c8547) rfl (p_move rfl) rfl rfl ?_
    refine lpure (v := .int .i64 s8578) rfl (p_move rfl) rfl rfl ?_
    refine Sim.bindM fun e8596 he8597 => ?_
    obtain ⟨p8598, cs8598, hp8598, hF8598, hR8598⟩ := RSl.ia H8547 he8597 (kd := .i64) (n := 1) rfl
    have hR8598 : _ = [(.int .i64 e8596 : Value)] := hR8598
    subst hR8598
    refine lpure (v := p8598) rfl (p_ia rs_33 rfl) hp8598 rfl ?_
    refine lread (v := .int .i64 e8596) rfl (q_load wd_3 rfl) (FP.ld X8593 hF8598) rfl ?_
    refine linl rfl rfl rfl rfl ca_102 rfl Try.func102 rfl rfl rfl rfl rfl ?_
    refine dseq (dreg ?_)
    refine lpure (v := .bool false) rfl (p_assign rfl) rfl rfl ?_
    refine lend (nseq (dseq (dreg ?_)))
    refine lread (v := .slice a8549 n8549 c8549) rfl (q_load wd_33 rfl) (St.ld X8593 (j := 0) rfl rfl) rfl ?_
    refine lpure (v := .int .i64 e8596) rfl (p_move rfl) rfl rfl ?_
    refine lcall rfl rfl ca_68 rfl rfl (f68_ok X8593 p8548 e8596 H8549) rfl (fun e8599 v8600 h8601 hq8602 => ?_)
    cases hq8602
    refine lpure (v := .bool e8599) rfl (p_assign rfl) rfl rfl ?_
    refine lend (nseq (dret ?_))
    refine kin_r (res_1 resT) ?_
    refine lend (nseq ?_)
    refine dcond rfl rfl (fun k8603 => ?_) (fun k8603 => ?_)
    · refine dseq (dreg ?_)
      refine lpure (v := .int .i64 s8578) rfl (p_move rfl) rfl rfl ?_
      refine lpure (v := .int .i64 s8578) rfl (p_assign rfl) rfl rfl ?_
      refine lend (nseq (dret (rblock (rseq (rloop (rblock (rseq ?_)))))))
      refine kin_r (res_1 resT) ?_
      refine lpure (v := .bool (decide (0 ≤ s8578))) rfl (p_ge rfl) rfl rfl ?_
      refine lpure (v := .bool (decide (0 ≤ s8578))) rfl (p_assign rfl) rfl rfl ?_
      refine lend (nseq (dret ?_))
      refine kin_r (res_1 resT) ?_
      refine lpure (v := .bool (decide (0 ≤ s8578))) rfl (p_assign rfl) rfl rfl ?_
      refine lend (nseq (dret ?_))
      exact kcut_r (res_1 resT) X8593 rfl rfl
    refine dskip (nblock (nseq (dreg ?_)))
    refine lpure (v := .int .i64 (w64 (s8578 + 1))) rfl (p_add rfl) rfl rfl ?_
    refine lpure (v := .int .i64 (w64 (s8578 + 1))) rfl (p_move rfl) rfl rfl ?_
    refine lend ?_
    exact kbackM ih8591 (w64 (s8578 + 1)) () (sub_cons rfl (sub_cons rfl (sub_cons rfl (sub_cons rfl sub_nil)))) X8593
  refine dexit (eseq (eloop (xblock (nseq (dseq (dreg ?_))))))
  refine lpure (v := .int .i64 (-1)) rfl (p_assign rfl) rfl rfl ?_
  refine lend (nseq (dret ?_))
  refine kin_r (res_1 resT) ?_
  refine lpure (v := .bool false) rfl (p_ge rfl) rfl rfl ?_
  refine lpure (v := .bool false) rfl (p_assign rfl) rfl rfl ?_
  refine lend (nseq (dret ?_))
  refine kin_r (res_1 resT) ?_
  refine lpure (v := .bool false) rfl (p_assign rfl) rfl rfl ?_
  refine lend (nseq (dret ?_))
  exact kcut_r (res_1 resT) X8593 rfl rfl
/-! isochron/route.Apart -/
theorem f22_ok {n : Nat} {φ : Fz} {lo : Nat} {h : Heap} {own : OwnL}  {a8448 : Option Addr} {n8448 c8448 : Nat} {a8449 : Option Addr} {n8449 c8449 : Nat} {a8451 : Option Addr} {n8451 c8451 : Nat} {a8453 : Option Addr} {n8453 c8453 : Nat} (X : St φ lo h (own)) (p8447 : ApiTopo) (p8450 : (List Int)) (p8452 : (List Int)) (H8448 : RSl eBool φ (.slice a8448 n8448 c8448) p8447.Station) (H8449 : RSl eApiLink φ (.slice a8449 n8449 c8449) p8447.Links) (H8451 : RSl (eInt .i64) φ (.slice a8451 n8451 c8451) p8450) (H8453 : RSl (eInt .i64) φ (.slice a8453 n8453 c8453) p8452) : Sim ((recN Try.prog LL cutF (n + 17)).call 22 #[(.agg #[.int .i64 p8447.Nodes, .slice a8448 n8448 c8448, .slice a8449 n8449 c8449]), (.slice a8451 n8451 c8451), (.slice a8453 n8453 c8453)] h) (m_route_Apart p8447 p8450 p8452) (fun (d : (Bool × Int)) p => p = (.tuple #[.bool d.1, .int .i64 d.2], h)) := by
  refine fcut Try.func22 rfl rfl rfl rfl X ?_
  intro h0 X0
  refine dseq (dreg ?_)
  refine lbox rfl rfl rfl rfl rfl X0 (fun b8454 h8456 X8457 => ?_)
  refine lbox rfl rfl rfl rfl rfl X8457 (fun b8458 h8460 X8461 => ?_)
  refine lpure (v := .bool false) rfl (p_assign rfl) rfl rfl ?_
  refine lpure (v := .int .i64 0) rfl (p_assign rfl) rfl rfl ?_
  refine lend (nseq (dseq (dreg ?_)))
  refine lread (v := .agg #[.int .i64 p8447.Nodes, .slice a8448 n8448 c8448, .slice a8449 n8449 c8449]) rfl (q_load wd_29 rfl) (St.ld X8461 (j := 1) rfl rfl) rfl ?_
  refine lpure (v := .slice a8451 n8451 c8451) rfl (p_move rfl) rfl rfl ?_
  refine lcall rfl rfl ca_24 rfl rfl (f24_ok X8461 p8447 p8450 H8448 H8449 H8451) rfl ?_
  rintro e8462 _ h8464 ⟨φ8466, a8469, n8469, c8469, ob8469, blk8469, g8467, X8468, rfl, O8469⟩
  refine lpure (v := .tuple #[.slice a8469 n8469 c8469, .int .i64 e8462.2]) rfl (p_move rfl) rfl rfl ?_
  refine lpure (v := .slice a8469 n8469 c8469) rfl (p_extract rfl) rfl rfl ?_
  refine lpure (v := .int .i64 e8462.2) rfl (p_extract rfl) rfl rfl ?_
  refine lpure (v := .slice a8469 n8469 c8469) rfl (p_assign rfl) rfl rfl ?_
  refine lpure (v := .int .i64 e8462.2) rfl (p_assign rfl) rfl rfl ?_
  refine lend (nseq (dseq (dseq (dreg ?_))))
  refine lpure (v := .int .i64 e8462.2) rfl (p_move rfl) rfl rfl ?_
  refine lpure (v := .bool (decide (e8462.2 ≠ 0))) rfl (p_ne rfl) rfl rfl ?_
  refine lend (nseq ?_)
  refine dcond rfl rfl (fun k8471 => ?_) (fun k8471 => ?_)
  · refine dseq (dreg ?_)
    refine lpure (v := .int .i64 e8462.2) rfl (p_move rfl) rfl rfl ?_
    refine lpure (v := .bool false) rfl (p_assign rfl) rfl rfl ?_
    refine lpure (v := .int .i64 e8462.2) rfl (p_assign rfl) rfl rfl ?_
    refine lend (nseq (dret (rseq ?_)))
    exact kcut_r (res_2 resT resT) X8468 rfl rfl
  refine dskip (nseq (dseq (dreg ?_)))
  refine lread (v := .agg #[.int .i64 p8447.Nodes, .slice a8448 n8448 c8448, .slice a8449 n8449 c8449]) rfl (q_load wd_29 rfl) (St.ld X8468 (j := 2) rfl rfl) rfl ?_
  refine lread (v := .slice a8453 n8453 c8453) rfl (q_load wd_42 rfl) (St.ld X8468 (j := 1) rfl rfl) rfl ?_
  refine lcall rfl rfl ca_24 rfl rfl (f24_ok X8468 p8447 p8452 (H8448.mono g8467) (H8449.mono g8467) (H8453.mono g8467)) rfl ?_
  rintro e8472 _ h8474 ⟨φ8476, a8479, n8479, c8479, ob8479, blk8479, g8477, X8478, rfl, O8479⟩
  refine lpure (v := .tuple #[.slice a8479 n8479 c8479, .int .i64 e8472.2]) rfl (p_move rfl) rfl rfl ?_
  refine lpure (v := .slice a8479 n8479 c8479) rfl (p_extract rfl) rfl rfl ?_
  refine lpure (v := .int .i64 e8472.2) rfl (p_extract rfl) rfl rfl ?_
  refine lpure (v := .slice a8479 n8479 c8479) rfl (p_assign rfl) rfl rfl ?_
  refine lpure (v := .int .i64 e8472.2) rfl (p_assign rfl) rfl rfl ?_
  refine lend (nseq (dseq (dseq (dreg ?_))))
  refine lpure (v := .int .i64 e8472.2) rfl (p_move rfl) rfl rfl ?_
  refine lpure (v := .bool (decide (e8472.2 ≠ 0))) rfl (p_ne rfl) rfl rfl ?_
  refine lend (nseq ?_)
  refine dcond rfl rfl (fun k8481 => ?_) (fun k8481 => ?_)
  · refine dseq (dreg ?_)
    refine lpure (v := .int .i64 e8472.2) rfl (p_move rfl) rfl rfl ?_
    refine lpure (v := .bool false) rfl (p_assign rfl) rfl rfl ?_
    refine lpure (v := .int .i64 e8472.2) rfl (p_assign rfl) rfl rfl ?_
    refine lend (nseq (dret (rseq ?_)))
    exact kcut_r (res_2 resT resT) X8478 rfl rfl
  refine dskip (nseq (dseq (dreg ?_)))
  refine lpure (v := .slice a8451 n8451 c8451) rfl (p_move rfl) rfl rfl ?_
  refine lpure (v := .func (.func 57) #[] #[.pointer (some ⟨b8458, 0, none⟩)]) rfl (p_makeFunc rfl) rfl rfl ?_
  refine linl rfl rfl rfl rfl ca_56 rfl Try.func56 rfl rfl rfl rfl rfl ?_
  refine dseq (dreg ?_)
  refine lpure (v := .bool false) rfl (p_assign rfl) rfl rfl ?_
  refine lend (nseq (dseq (dreg ?_)))
  refine lpure (v := .slice a8451 n8451 c8451) rfl (p_move rfl) rfl rfl ?_
  refine lpure (v := .func (.func 57) #[] #[.pointer (some ⟨b8458, 0, none⟩)]) rfl (p_move rfl) rfl rfl ?_
  refine linl rfl rfl rfl rfl ca_101 rfl Try.func101 rfl rfl rfl rfl rfl ?_
  refine dseq (dreg ?_)
  refine lpure (v := .int .i64 0) rfl (p_assign rfl) rfl rfl ?_
  refine lend (nseq (dseq (dseq (dreg ?_))))
  refine lpure (v := .slice a8451 n8451 c8451) rfl (p_move rfl) rfl rfl ?_
  refine lpure (v := .int .i64 (p8450.length : Int)) rfl (p_len rfl rfl rfl un_42 rfl) (RSl.lenC (H8451.mono (g8467.trans g8477))) rfl ?_
  refine lpure (v := .int .i64 0) rfl (p_move rfl) rfl rfl ?_
  refine lend (nseq (dblock ?_))
  refine dloopM (τ := Int) (σ := Unit) (fun s9089 (_ : Unit) => [(0, .slice a8451 n8451 c8451), (1, .func (.func 57) #[] #[.pointer (some ⟨b8458, 0, none⟩)]), (7, .int .i64 (p8450.length : Int)), (8, .int .i64 s9089)]) (fun s9089 (_ : Unit) hh => St φ8476 h.n hh ([(ob8479, blk8479), (ob8469, blk8469), (some b8458, .cells [.slice a8453 n8453 c8453] 42 .exact), (some b8454, .cells [.int .i64 p8447.Nodes, .slice a8448 n8448 c8448, .slice a8449 n8449 c8449] 29 .exact)])) 0 () (sub_cons rfl (sub_cons rfl (sub_cons rfl (sub_cons rfl sub_nil)))) X8478 ?_
  rintro n9532 ih9531 s9089 _ t0 h9534 X9533
  refine dseq (dreg ?_)
  refine lpure (v := .bool (decide (s9089 < (p8450.length : Int)))) rfl (p_lt rfl) rfl rfl ?_
  refine lend (nseq (dseq ?_))
  refine dcond rfl rfl (fun k9535 => ?_) (fun k9535 => ?_)
  · refine dskip (nseq (dseq (dblock (dseq (dreg ?_)))))
    refine lpure (v := .int .i64 s9089) rfl (p_move rfl) rfl rfl ?_
    refine lpure (v := .int .i64 s9089) rfl (p_assign rfl) rfl rfl ?_
    refine lend (nseq (dseq (dreg ?_)))
    refine lpure (v := .func (.func 57) #[] #[.pointer (some ⟨b8458, 0, none⟩)]) rfl (p_move rfl) rfl rfl ?_
    refine lpure (v := .slice a8451 n8451 c8451) rfl (p_move rfl) rfl rfl ?_
    refine lpure (v := .int .i64 s9089) rfl (p_move rfl) rfl rfl ?_
    refine Sim.bindM fun e9536 he9537 => ?_
    obtain ⟨p9538, cs9538, hp9538, hF9538, hR9538⟩ := RSl.ia (H8451.mono (g8467.trans g8477)) he9537 (kd := .i64) (n := 1) rfl
    have hR9538 : _ = [(.int .i64 e9536 : Value)] := hR9538
    subst hR9538
    refine lpure (v := p9538) rfl (p_ia rs_42 rfl) hp9538 rfl ?_
    refine lread (v := .int .i64 e9536) rfl (q_load wd_3 rfl) (FP.ld X9533 hF9538) rfl ?_
    refine linl rfl rfl rfl rfl ca_57 rfl Try.func57 rfl rfl rfl rfl rfl ?_
    refine dseq (dreg ?_)
    refine lbox rfl rfl rfl rfl rfl X9533 (fun b9539 h9541 X9542 => ?_)
    refine lpure (v := .bool false) rfl (p_assign rfl) rfl rfl ?_
    refine lend (nseq (dseq (dreg ?_)))
    refine lread (v := .slice a8453 n8453 c8453) rfl (q_load wd_42 rfl) (St.ld X9542 (j := 3) rfl rfl) rfl ?_
    refine lpure (v := .func (.func 58) #[] #[.pointer (some ⟨b9539, 0, none⟩)]) rfl (p_makeFunc rfl) rfl rfl ?_
    refine linl rfl rfl rfl rfl ca_56 rfl Try.func56 rfl rfl rfl rfl rfl ?_
    refine dseq (dreg ?_)
    refine lpure (v := .bool false) rfl (p_assign rfl) rfl rfl ?_
    refine lend (nseq (dseq (dreg ?_)))
    refine lpure (v := .slice a8453 n8453 c8453) rfl (p_move rfl) rfl rfl ?_
    refine lpure (v := .func (.func 58) #[] #[.pointer (some ⟨b9539, 0, none⟩)]) rfl (p_move rfl) rfl rfl ?_
    refine linl rfl rfl rfl rfl ca_101 rfl Try.func101 rfl rfl rfl rfl rfl ?_
    refine dseq (dreg ?_)
    refine lpure (v := .int .i64 0) rfl (p_assign rfl) rfl rfl ?_
    refine lend (nseq (dseq (dseq (dreg ?_))))
    refine lpure (v := .slice a8453 n8453 c8453) rfl (p_move rfl) rfl rfl ?_
    refine lpure (v := .int .i64 (p8452.length : Int)) rfl (p_len rfl rfl rfl un_42 rfl) (RSl.lenC (H8453.mono (g8467.trans g8477))) rfl ?_
    refine lpure (v := .int .i64 0) rfl (p_move rfl) rfl rfl ?_
    refine lend (nseq (dblock ?_))
    refine dloopM (τ := Int) (σ := Unit) (fun s9730 (_ : Unit) => [(0, .slice a8453 n8453 c8453), (1, .func (.func 58) #[] #[.pointer (some ⟨b9539, 0, none⟩)]), (7, .int .i64 (p8452.length : Int)), (8, .int .i64 s9730)]) (fun s9730 (_ : Unit) hh => St φ8476 h.n hh ([(some b9539, .cells [.int .i64 e9536] 3 .exact), (ob8479, blk8479), (ob8469, blk8469), (some b8458, .cells [.slice a8453 n8453 c8453] 42 .exact), (some b8454, .cells [.int .i64 p8447.Nodes, .slice a8448 n8448 c8448, .slice a8449 n8449 c8449] 29 .exact)])) 0 () (sub_cons rfl (sub_cons rfl (sub_cons rfl (sub_cons rfl sub_nil)))) X9542 ?_
    rintro n9826 ih9825 s9730 _ t0 h9828 X9827
    refine dseq (dreg ?_)
    refine lpure (v := .bool (decide (s9730 < (p8452.length : Int)))) rfl (p_lt rfl) rfl rfl ?_
    refine lend (nseq (dseq ?_))
    refine dcond rfl rfl (fun k9829 => ?_) (fun k9829 => ?_)
    · refine dskip (nseq (dseq (dblock (dseq (dreg ?_)))))
      refine lpure (v := .int .i64 s9730) rfl (p_move rfl) rfl rfl ?_
      refine lpure (v := .int .i64 s9730) rfl (p_assign rfl) rfl rfl ?_
      refine lend (nseq (dseq (dreg ?_)))
      refine lpure (v := .func (.func 58) #[] #[.pointer (some ⟨b9539, 0, none⟩)]) rfl (p_move rfl) rfl rfl ?_
      refine lpure (v := .slice a8453 n8453 c8453) rfl (p_move rfl) rfl rfl ?_
      refine lpure (v := .int .i64 s9730) rfl (p_move rfl) rfl rfl ?_
      refine Sim.bindM fun e9830 he9831 => ?_
      obtain ⟨p9832, cs9832, hp9832, hF9832, hR9832⟩ := RSl.ia (H8453.mono (g8467.trans g8477)) he9831 (kd := .i64) (n := 1) rfl
      have hR9832 : _ = [(.int .i64 e9830 : Value)] := hR9832
      subst hR9832
      refine lpure (v := p9832) rfl (p_ia rs_42 rfl) hp9832 rfl ?_
      refine lread (v := .int .i64 e9830) rfl (q_load wd_3 rfl) (FP.ld X9827 hF9832) rfl ?_
      refine linl rfl rfl rfl rfl ca_58 rfl Try.func58 rfl rfl rfl rfl rfl ?_
      refine dseq (dreg ?_)
      refine lpure (v := .bool false) rfl (p_assign rfl) rfl rfl ?_
      refine lend (nseq (dseq (dreg ?_)))
      refine lread (v := .int .i64 e9536) rfl (q_load wd_3 rfl) (St.ld X9827 (j := 0) rfl rfl) rfl ?_
      refine lpure (v := .int .i64 (w64 (Int.tdiv e9536 2))) rfl (p_quo rfl) rfl rfl ?_
      refine lpure (v := .int .i64 e9830) rfl (p_move rfl) rfl rfl ?_
      refine lpure (v := .int .i64 (w64 (Int.tdiv e9830 2))) rfl (p_quo rfl) rfl rfl ?_
      refine lpure (v := .bool (decide ((w64 (Int.tdiv e9536 2)) = (w64 (Int.tdiv e9830 2))))) rfl (p_eq rfl) rfl rfl ?_
      refine lpure (v := .bool (decide ((w64 (Int.tdiv e9536 2)) = (w64 (Int.tdiv e9830 2))))) rfl (p_assign rfl) rfl rfl ?_
      refine lend (nseq (dret ?_))
      refine kin_r (res_1 resT) ?_
      refine lend (nseq ?_)
      refine dcond rfl rfl (fun k9833 => ?_) (fun k9833 => ?_)
      · refine dseq (dreg ?_)
        refine lpure (v := .int .i64 s9730) rfl (p_move rfl) rfl rfl ?_
        refine lpure (v := .int .i64 s9730) rfl (p_assign rfl) rfl rfl ?_
        refine lend (nseq (dret (rblock (rseq (rloop (rblock (rseq ?_)))))))
        refine kin_r (res_1 resT) ?_
        refine lpure (v := .bool (decide (0 ≤ s9730))) rfl (p_ge rfl) rfl rfl ?_
        refine lpure (v := .bool (decide (0 ≤ s9730))) rfl (p_assign rfl) rfl rfl ?_
        refine lend (nseq (dret ?_))
        refine kin_r (res_1 resT) ?_
        refine lpure (v := .bool (decide (0 ≤ s9730))) rfl (p_assign rfl) rfl rfl ?_
        refine lend (nseq (dret ?_))
        refine kin_r (res_1 resT) ?_
        refine lend (nseq ?_)
        refine dcond rfl rfl (fun k9834 => ?_) (fun k9834 => ?_)
        · refine dseq (dreg ?_)
          refine lpure (v := .int .i64 s9089) rfl (p_move rfl) rfl rfl ?_
          refine lpure (v := .int .i64 s9089) rfl (p_assign rfl) rfl rfl ?_
          refine lend (nseq (dret (rblock (rseq (rloop (rblock (rseq ?_)))))))
          refine kin_r (res_1 resT) ?_
          refine lpure (v := .bool (decide (0 ≤ s9089))) rfl (p_ge rfl) rfl rfl ?_
          refine lpure (v := .bool (decide (0 ≤ s9089))) rfl (p_assign rfl) rfl rfl ?_
          refine lend (nseq (dret ?_))
          refine kin_r (res_1 resT) ?_
          refine lpure (v := .bool (decide (0 ≤ s9089))) rfl (p_assign rfl) rfl rfl ?_
          refine lend (nseq (dseq (dreg ?_)))
          refine lpure (v := .bool (decide (0 ≤ s9089))) rfl (p_move rfl) rfl rfl ?_
          refine lpure (v := .bool (!(decide (0 ≤ s9089)))) rfl (p_not rfl) rfl rfl ?_
          refine lpure (v := .bool (!(decide (0 ≤ s9089)))) rfl (p_move rfl) rfl rfl ?_
          refine ljoinM (τ := (List Int) × Bool) (σ := Fz × Option Addr × Nat × Nat) (fun s9854 (φ9856, a9855, n9855, c9855) => [(8, .slice a9855 n9855 c9855), (10, .slice a8479 n8479 c8479), (41, .bool s9854.2)]) (fun s9854 (φ9856, a9855, n9855, c9855) hh => St φ9856 h.n hh ([(some b9539, .cells [.int .i64 e9536] 3 .exact), (ob8479, blk8479), (none, .dead), (some b8458, .cells [.slice a8453 n8453 c8453] 42 .exact), (some b8454, .cells [.int .i64 p8447.Nodes, .slice a8448 n8448 c8448, .slice a8449 n8449 c8449] 29 .exact)]) ∧ Fz.le φ8476 φ9856 ∧ RSl (eInt .i64) φ9856 (.slice a9855 n9855 c9855) s9854.1) 6 ?_ ?_
          · rintro s9854 ⟨φ9856, a9855, n9855, c9855⟩ t0 h9859 ⟨X9858, g9857, H9855⟩
            refine lpure (v := .bool s9854.2) rfl (p_move rfl) rfl rfl ?_
            refine ljoinM (τ := Bool) (σ := Fz) (fun s9875 φ9876 => [(48, .bool s9875)]) (fun s9875 φ9876 hh => St φ9876 h.n hh ([(some b9539, .cells [.int .i64 e9536] 3 .exact), (none, .dead), (none, .dead), (some b8458, .cells [.slice a8453 n8453 c8453] 42 .exact), (some b8454, .cells [.int .i64 p8447.Nodes, .slice a8448 n8448 c8448, .slice a8449 n8449 c8449] 29 .exact)]) ∧ Fz.le φ9856 φ9876) 6 ?_ ?_
            · rintro s9875 φ9876 t0 h9879 ⟨X9878, g9877⟩
              refine lpure (v := .bool s9875) rfl (p_assign rfl) rfl rfl ?_
              refine lpure (v := .int .i64 0) rfl (p_assign rfl) rfl rfl ?_
              refine lend (nseq (dret ?_))
              exact kcut_r (res_2 resT resT) X9878 rfl rfl
            intro j9880 J9881
            refine lif (i := 42) (show _ = Value.bool s9854.2 from rfl) (fun k9882 => ?_) (fun k9882 => ?_)
            · refine lpure (v := .slice a8479 n8479 c8479) rfl (p_move rfl) rfl rfl ?_
              obtain ⟨φ9883, g9884, X9885, H9886⟩ := OSl.freeze X9858 (j := 1) rfl (O8479.mono g9857)
              refine lcall rfl rfl ca_60 rfl rfl (f60_ok X9885 (e8472.1) H9886) rfl ?_
              rintro e9887 _ _ ⟨a9891, n9891, c9891, hq, H9891⟩
              cases hq
              refine lpure (v := .slice a9855 n9855 c9855) rfl (p_move rfl) rfl rfl ?_
              refine lcall rfl rfl ca_59 rfl rfl (f59_ok X9885 e9887 (s9854.1) H9891 (H9855.mono g9884)) rfl (fun e9892 v9893 h9894 hq9895 => ?_)
              cases hq9895
              refine lpure (v := .bool (!e9892)) rfl (p_not rfl) rfl rfl ?_
              refine lpure (v := .bool (!e9892)) rfl (p_pick rfl) rfl rfl ?_
              exact ljmpM J9881 (!e9892) φ9883 (sub_cons rfl sub_nil) ⟨(St.pick X9885 (.keep _ (.none _ (.none _ (.skip _ (.skip _ (.keep _ (.keep _ (.nil _))))))))), g9884⟩
            refine lskip rfl rfl ?_
            refine lskip rfl rfl ?_
            refine lskip rfl rfl ?_
            refine lskip rfl rfl ?_
            refine lskip rfl rfl ?_
            refine lpure (v := .bool false) rfl (p_pick rfl) rfl rfl ?_
            exact ljmpM J9881 false φ9856 (sub_cons rfl sub_nil) ⟨(St.pick X9858 (.keep _ (.none _ (.none _ (.skip _ (.skip _ (.keep _ (.keep _ (.nil _))))))))), (Fz.le_refl _)⟩
          intro j9896 J9897
          refine lif (i := 35) (show _ = Value.bool (!(decide (0 ≤ s9089))) from rfl) (fun k9898 => ?_) (fun k9898 => ?_)
          · refine lpure (v := .slice a8469 n8469 c8469) rfl (p_move rfl) rfl rfl ?_
            obtain ⟨φ9899, g9900, X9901, H9902⟩ := OSl.freeze X9827 (j := 2) rfl (O8469.mono g8477)
            refine lcall rfl rfl ca_60 rfl rfl (f60_ok X9901 (e8462.1) H9902) rfl ?_
            rintro e9903 _ _ ⟨a9907, n9907, c9907, hq, H9907⟩
            cases hq
            refine lpure (v := .slice a8479 n8479 c8479) rfl (p_move rfl) rfl rfl ?_
            obtain ⟨φ9908, g9909, X9910, H9911⟩ := OSl.freeze X9901 (j := 1) rfl (O8479.mono g9900)
            refine lcall rfl rfl ca_59 rfl rfl (f59_ok X9910 e9903 (e8472.1) (H9907.mono g9909) H9911) rfl (fun e9912 v9913 h9914 hq9915 => ?_)
            cases hq9915
            refine lpure (v := .bool (!e9912)) rfl (p_not rfl) rfl rfl ?_
            refine lpure (v := .bool (!e9912)) rfl (p_pick rfl) rfl rfl ?_
            exact ljmpM J9897 (e8462.1, (!e9912)) (φ9899, a8469, n8469, c8469) (sub_cons rfl (sub_cons rfl (sub_cons rfl sub_nil))) ⟨(St.pick X9901 (.keep _ (.keep _ (.none _ (.skip _ (.keep _ (.keep _ (.nil _)))))))), g9900, H9902⟩
          refine lskip rfl rfl ?_
          refine lskip rfl rfl ?_
          refine lskip rfl rfl ?_
          refine lskip rfl rfl ?_
          refine lskip rfl rfl ?_
          refine lpure (v := .bool false) rfl (p_pick rfl) rfl rfl ?_
          obtain ⟨φ9916, g9917, X9918, H9919⟩ := OSl.freeze X9827 (j := 2) rfl (O8469.mono g8477)
          exact ljmpM J9897 (e8462.1, false) (φ9916, a8469, n8469, c8469) (sub_cons rfl (sub_cons rfl (sub_cons rfl sub_nil))) ⟨(St.pick X9918 (.keep _ (.keep _ (.none _ (.skip _ (.keep _ (.keep _ (.nil _)))))))), g9917, H9919⟩
        refine dskip (nblock (nseq (dreg ?_)))
        refine lpure (v := .int .i64 (w64 (s9089 + 1))) rfl (p_add rfl) rfl rfl ?_
        refine lpure (v := .int .i64 (w64 (s9089 + 1))) rfl (p_move rfl) rfl rfl ?_
        refine lend ?_
        exact kbackM ih9531 (w64 (s9089 + 1)) () (sub_cons rfl (sub_cons rfl (sub_cons rfl (sub_cons rfl sub_nil)))) (St.pick X9827 (.skip _ (.keep _ (.keep _ (.keep _ (.keep _ (.nil _)))))))
      refine dskip (nblock (nseq (dreg ?_)))
      refine lpure (v := .int .i64 (w64 (s9730 + 1))) rfl (p_add rfl) rfl rfl ?_
      refine lpure (v := .int .i64 (w64 (s9730 + 1))) rfl (p_move rfl) rfl rfl ?_
      refine lend ?_
      exact kbackM ih9825 (w64 (s9730 + 1)) () (sub_cons rfl (sub_cons rfl (sub_cons rfl (sub_cons rfl sub_nil)))) X9827
    refine dexit (eseq (eloop (xblock (nseq (dseq (dreg ?_))))))
    refine lpure (v := .int .i64 (-1)) rfl (p_assign rfl) rfl rfl ?_
    refine lend (nseq (dret ?_))
    refine kin_r (res_1 resT) ?_
    refine lpure (v := .bool false) rfl (p_ge rfl) rfl rfl ?_
    refine lpure (v := .bool false) rfl (p_assign rfl) rfl rfl ?_
    refine lend (nseq (dret ?_))
    refine kin_r (res_1 resT) ?_
    refine lpure (v := .bool false) rfl (p_assign rfl) rfl rfl ?_
    refine lend (nseq (dret ?_))
    refine kin_r (res_1 resT) ?_
    refine lend (nseq (dcondF rfl rfl (dskip (nblock (nseq (dreg ?_))))))
    refine lpure (v := .int .i64 (w64 (s9089 + 1))) rfl (p_add rfl) rfl rfl ?_
    refine lpure (v := .int .i64 (w64 (s9089 + 1))) rfl (p_move rfl) rfl rfl ?_
    refine lend ?_
    exact kbackM ih9531 (w64 (s9089 + 1)) () (sub_cons rfl (sub_cons rfl (sub_cons rfl (sub_cons rfl sub_nil)))) (St.pick X9827 (.skip _ (.keep _ (.keep _ (.keep _ (.keep _ (.nil _)))))))
  refine dexit (eseq (eloop (xblock (nseq (dseq (dreg ?_))))))
  refine lpure (v := .int .i64 (-1)) rfl (p_assign rfl) rfl rfl ?_
  refine lend (nseq (dret ?_))
  refine kin_r (res_1 resT) ?_
  refine lpure (v := .bool false) rfl (p_ge rfl) rfl rfl ?_
  refine lpure (v := .bool false) rfl (p_assign rfl) rfl rfl ?_
  refine lend (nseq (dret ?_))
  refine kin_r (res_1 resT) ?_
  refine lpure (v := .bool false) rfl (p_assign rfl) rfl rfl ?_
  refine lend (nseq (dseq (dreg ?_)))
  refine lpure (v := .bool false) rfl (p_move rfl) rfl rfl ?_
  refine lpure (v := .bool true) rfl (p_not rfl) rfl rfl ?_
  refine lpure (v := .bool true) rfl (p_move rfl) rfl rfl ?_
  refine lpure (v := .slice a8469 n8469 c8469) rfl (p_move rfl) rfl rfl ?_
  obtain ⟨φ9920, g9921, X9922, H9923⟩ := OSl.freeze X9533 (j := 1) rfl (O8469.mono g8477)
  refine lcall rfl rfl ca_60 rfl rfl (f60_ok X9922 (e8462.1) H9923) rfl ?_
  rintro e9924 _ _ ⟨a9928, n9928, c9928, hq, H9928⟩
  cases hq
  refine lpure (v := .slice a8479 n8479 c8479) rfl (p_move rfl) rfl rfl ?_
  obtain ⟨φ9929, g9930, X9931, H9932⟩ := OSl.freeze X9922 (j := 0) rfl (O8479.mono g9921)
  refine lcall rfl rfl ca_59 rfl rfl (f59_ok X9931 e9924 (e8472.1) (H9928.mono g9930) H9932) rfl (fun e9933 v9934 h9935 hq9936 => ?_)
  cases hq9936
  refine lpure (v := .bool (!e9933)) rfl (p_not rfl) rfl rfl ?_
  refine lpure (v := .bool (!e9933)) rfl (p_pick rfl) rfl rfl ?_
  refine lpure (v := .bool (!e9933)) rfl (p_move rfl) rfl rfl ?_
  refine ljoinM (τ := Bool) (σ := Fz) (fun s9952 φ9953 => [(48, .bool s9952)]) (fun s9952 φ9953 hh => St φ9953 h.n hh ([(none, .dead), (none, .dead), (some b8458, .cells [.slice a8453 n8453 c8453] 42 .exact), (some b8454, .cells [.int .i64 p8447.Nodes, .slice a8448 n8448 c8448, .slice a8449 n8449 c8449] 29 .exact)]) ∧ Fz.le φ9920 φ9953) 6 ?_ ?_
  · rintro s9952 φ9953 t0 h9956 ⟨X9955, g9954⟩
    refine lpure (v := .bool s9952) rfl (p_assign rfl) rfl rfl ?_
    refine lpure (v := .int .i64 0) rfl (p_assign rfl) rfl rfl ?_
    refine lend (nseq (dret ?_))
    exact kcut_r (res_2 resT resT) X9955 rfl rfl
  intro j9957 J9958
  refine lif (i := 42) (show _ = Value.bool (!e9933) from rfl) (fun k9959 => ?_) (fun k9959 => ?_)
  · refine lpure (v := .slice a8479 n8479 c8479) rfl (p_move rfl) rfl rfl ?_
    obtain ⟨φ9960, g9961, X9962, H9963⟩ := OSl.freeze X9922 (j := 0) rfl (O8479.mono g9921)
    refine lcall rfl rfl ca_60 rfl rfl (f60_ok X9962 (e8472.1) H9963) rfl ?_
    rintro e9964 _ _ ⟨a9968, n9968, c9968, hq, H9968⟩
    cases hq
    refine lpure (v := .slice a8469 n8469 c8469) rfl (p_move rfl) rfl rfl ?_
    refine lcall rfl rfl ca_59 rfl rfl (f59_ok X9962 e9964 (e8462.1) H9968 (H9923.mono g9961)) rfl (fun e9969 v9970 h9971 hq9972 => ?_)
    cases hq9972
    refine lpure (v := .bool (!e9969)) rfl (p_not rfl) rfl rfl ?_
    refine lpure (v := .bool (!e9969)) rfl (p_pick rfl) rfl rfl ?_
    exact ljmpM J9958 (!e9969) φ9960 (sub_cons rfl sub_nil) ⟨(St.pick X9962 (.none _ (.none _ (.skip _ (.skip _ (.keep _ (.keep _ (.nil _)))))))), g9961⟩
  refine lskip rfl rfl ?_
  refine lskip rfl rfl ?_
  refine lskip rfl rfl ?_
  refine lskip rfl rfl ?_
  refine lskip rfl rfl ?_
  refine lpure (v := .bool false) rfl (p_pick rfl) rfl rfl ?_
  exact ljmpM J9958 false φ9920 (sub_cons rfl sub_nil) ⟨(St.pick X9922 (.none _ (.none _ (.skip _ (.skip _ (.keep _ (.keep _ (.nil _)))))))), (Fz.le_refl _)⟩
/-! isochron/route.Tree -/
theorem f27_ok {n : Nat} {φ : Fz} {lo : Nat} {h : Heap} {own : OwnL}  {a14277 : Option Addr} {n14277 c14277 : Nat} {a14278 : Option Addr} {n14278 c14278 : Nat} {a14280 : Option Addr} {n14280 c14280 : Nat} (X : St φ lo h (own)) (p14276 : ApiTopo) (p14279 : (List (List Int))) (H14277 : RSl eBool φ (.slice a14277 n14277 c14277) p14276.Station) (H14278 : RSl eApiLink φ (.slice a14278 n14278 c14278) p14276.Links) (H14280 : RSl (eSl (eInt .i64)) φ (.slice a14280 n14280 c14280) p14279) : Sim ((recN Try.prog LL cutF (n + 13)).call 27 #[(.agg #[.int .i64 p14276.Nodes, .slice a14277 n14277 c14277, .slice a14278 n14278 c14278]), (.slice a14280 n14280 c14280)] h) (m_route_Tree p14276 p14279) (fun (d : ((List Int) × Bool × Int)) p => ∃ φ2 : Fz, ∃ a18541 : Option Addr, ∃ n18541 : Nat, ∃ c18541 : Nat, ∃ ob18541 : Option Nat, ∃ blk18541 : Blk, Fz.le φ φ2 ∧ St φ2 lo p.2 ((ob18541, blk18541) :: own) ∧ p.1 = .tuple #[.slice a18541 n18541 c18541, .bool d.2.1, .int .i64 d.2.2] ∧ OSl (eInt .i64) φ2 3 ob18541 blk18541 (.slice a18541 n18541 c18541) d.1) := by
  refine fopen Try.func27 rfl rfl rfl rfl ?_
  refine dseq (dreg ?_)
  refine lbox rfl rfl rfl rfl rfl X (fun b14281 h14283 X14284 => ?_)
  refine lpure (v := .slice none 0 0) rfl (p_assign rfl) rfl rfl ?_
  refine lpure (v := .bool false) rfl (p_assign rfl) rfl rfl ?_
  refine lpure (v := .int .i64 0) rfl (p_assign rfl) rfl rfl ?_
  refine lend (nseq (dseq (dseq (dreg ?_))))
  refine lread (v := .agg #[.int .i64 p14276.Nodes, .slice a14277 n14277 c14277, .slice a14278 n14278 c14278]) rfl (q_load wd_29 rfl) (St.ld X14284 (j := 0) rfl rfl) rfl ?_
  refine lcall rfl rfl ca_9 rfl rfl (f9_ok X14284 p14276 H14277 H14278) rfl (fun e14285 v14286 h14287 hq14288 => ?_)
  cases hq14288
  refine lpure (v := .int .i64 e14285) rfl (p_assign rfl) rfl rfl ?_
  refine lend (nseq (dseq (dreg ?_)))
  refine lpure (v := .int .i64 e14285) rfl (p_move rfl) rfl rfl ?_
  refine lpure (v := .bool (decide (e14285 ≠ 0))) rfl (p_ne rfl) rfl rfl ?_
  refine lend (nseq ?_)
  refine dcond rfl rfl (fun k14289 => ?_) (fun k14289 => ?_)
  · refine dseq (dreg ?_)
    refine lpure (v := .int .i64 e14285) rfl (p_move rfl) rfl rfl ?_
    refine lpure (v := .slice none 0 0) rfl (p_assign rfl) rfl rfl ?_
    refine lpure (v := .bool false) rfl (p_assign rfl) rfl rfl ?_
    refine lpure (v := .int .i64 e14285) rfl (p_assign rfl) rfl rfl ?_
    refine lend (nseq (dret (rseq ?_)))
    exact kopen_r (res_3 resT resT resT) ⟨φ, none, 0, 0, none, (.dead), (Fz.le_refl _), St.pick X14284 (.none _ (.skip _ (.refl _))), rfl, OSl.nil⟩
  refine dskip (nseq (dseq (dreg ?_)))
  refine lread (v := .agg #[.int .i64 p14276.Nodes, .slice a14277 n14277 c14277, .slice a14278 n14278 c14278]) rfl (q_load wd_29 rfl) (St.ld X14284 (j := 0) rfl rfl) rfl ?_
  refine lpure (v := .agg #[.int .i64 p14276.Nodes, .slice a14277 n14277 c14277, .slice a14278 n14278 c14278]) rfl (p_build rfl) (build_st' tz_87 pl_87 rfl) rfl ?_
  refine lalloc rfl tz_87 rfl rfl rfl X14284 (fun b14290 h14292 X14293 => ?_)
  refine lstore rfl ts_87 rfl rfl (j := 0) rfl rfl rfl rfl rfl rfl X14293 (fun h14294 X14295 => ?_)
  refine lend (nseq (dseq (dreg ?_)))
  refine lpure (v := .slice none 0 0) rfl (p_assign rfl) rfl rfl ?_
  refine lend (nseq (dseq (dseq (dreg ?_))))
  refine lpure (v := .slice a14280 n14280 c14280) rfl (p_move rfl) rfl rfl ?_
  refine lpure (v := .int .i64 (p14279.length : Int)) rfl (p_len rfl rfl rfl un_59 rfl) (RSl.lenC H14280) rfl ?_
  refine lpure (v := .int .i64 0) rfl (p_move rfl) rfl rfl ?_
  refine lend (nseq (dblock ?_))
  refine dloopM (τ := (List Int) × Int) (σ := Option Addr × Nat × Nat × Option Nat × Blk) (fun s16419 (a16421, n16421, c16421, ob16421, blk16421) => [(1, .slice a14280 n14280 c14280), (8, .pointer (some ⟨b14290, 0, none⟩)), (9, .slice a16421 n16421 c16421), (25, .slice a14280 n14280 c14280), (26, .int .i64 (p14279.length : Int)), (27, .int .i64 s16419.2)]) (fun s16419 (a16421, n16421, c16421, ob16421, blk16421) hh => St φ lo hh ((ob16421, blk16421) :: (some b14290, .cells [.int .i64 p14276.Nodes, .slice a14277 n14277 c14277, .slice a14278 n14278 c14278] 87 .exact) :: (some b14281, .cells [.int .i64 p14276.Nodes, .slice a14277 n14277 c14277, .slice a14278 n14278 c14278] 29 .exact) :: own) ∧ OSl (eInt .i64) φ 3 ob16421 blk16421 (.slice a16421 n16421 c16421) s16419.1) ([], 0) (none, 0, 0, none, .dead) (sub_cons rfl (sub_cons rfl (sub_cons rfl (sub_cons rfl (sub_cons rfl (sub_cons rfl sub_nil)))))) ⟨(St.pick X14295 (.none _ (.keep _ (.keep _ (.refl _))))), OSl.nil⟩ ?_
  rintro n17482 ih17481 s16419 ⟨a16421, n16421, c16421, ob16421, blk16421⟩ t0 h17484 ⟨X17483, O16421⟩
  refine dseq (dreg ?_)
  refine lpure (v := .bool (decide (s16419.2 < (p14279.length : Int)))) rfl (p_lt rfl) rfl rfl ?_
  refine lend (nseq (dseq ?_))
  refine dcond rfl rfl (fun k17485 => ?_) (fun k17485 => ?_)
  · refine dskip (nseq (dseq (dblock (dseq (dreg ?_)))))
    refine Sim.bindM fun e17486 he17487 => ?_
    obtain ⟨p17489, cs17489, hp17489, hF17489, hR17489⟩ := RSl.ia H14280 he17487 (kd := .i64) (n := 1) rfl
    obtain ⟨a17488, n17488, c17488, rfl, H17488⟩ := hR17489
    refine lpure (v := p17489) rfl (p_ia rs_59 rfl) hp17489 rfl ?_
    refine lread (v := .slice a17488 n17488 c17488) rfl (q_load wd_42 rfl) (FP.ld X17483 hF17489) rfl ?_
    refine lpure (v := .slice a17488 n17488 c17488) rfl (p_assign rfl) rfl rfl ?_
    refine lend (nseq (dseq (dseq (dreg ?_))))
    refine lread (v := .agg #[.int .i64 p14276.Nodes, .slice a14277 n14277 c14277, .slice a14278 n14278 c14278]) rfl (q_load wd_87 rfl) (St.ld X17483 (j := 1) rfl rfl) rfl ?_
    refine lpure (v := .slice a17488 n17488 c17488) rfl (p_move rfl) rfl rfl ?_
    refine lcall rfl rfl ca_52 rfl rfl (f52_ok X17483 ((RouteWalk.mk p14276)) e17486 H14277 H14278 H17488) rfl (fun e17490 v17491 h17492 hq17493 => ?_)
    cases hq17493
    refine lpure (v := .bool (!e17490)) rfl (p_not rfl) rfl rfl ?_
    refine lend (nseq ?_)
    refine dcond rfl rfl (fun k17494 => ?_) (fun k17494 => ?_)
    · refine dseq (dreg ?_)
      refine lpure (v := .slice none 0 0) rfl (p_assign rfl) rfl rfl ?_
      refine lpure (v := .bool false) rfl (p_assign rfl) rfl rfl ?_
      refine lpure (v := .int .i64 310) rfl (p_assign rfl) rfl rfl ?_
      refine lend (nseq (dret (rseq (rblock (rseq (rloop (rblock (rseq ?_))))))))
      exact kopen_r (res_3 resT resT resT) ⟨φ, none, 0, 0, none, (.dead), (Fz.le_refl _), St.pick X17483 (.none _ (.skip _ (.skip _ (.skip _ (.refl _))))), rfl, OSl.nil⟩
    refine dskip (nseq (dreg ?_))
    refine lpure (v := .slice a16421 n16421 c16421) rfl (p_move rfl) rfl rfl ?_
    refine lpure (v := .slice a17488 n17488 c17488) rfl (p_move rfl) rfl rfl ?_
    obtain ⟨ws17495, hw17495⟩ := RSl.read H17488 X17483 (n := 1) rfl
    refine Sim.mustM fun k17495 => ?_
    obtain ⟨h17495, a17495, c17495, ob17495, blk17495, hv17495, X17495, O17495⟩ := OSl.append O16421 X17483 (j := 0) rfl hw17495 k17495 (ts := #[33, 42]) rfl un_33 (argOk_of ax_33_42) ts_3 rfl rfl tb_3 rfl tz_3 rfl
    refine lheap rfl (h_builtin rfl rfl) hv17495 rfl ?_
    refine lpure (v := .slice a17495 (s16419.1.length + e17486.length) c17495) rfl (p_assign rfl) rfl rfl ?_
    refine lend (nblock (nseq (dreg ?_)))
    refine lpure (v := .int .i64 (w64 (s16419.2 + 1))) rfl (p_add rfl) rfl rfl ?_
    refine lpure (v := .int .i64 (w64 (s16419.2 + 1))) rfl (p_move rfl) rfl rfl ?_
    refine lend ?_
    exact kbackM ih17481 ((s16419.1 ++ e17486), (w64 (s16419.2 + 1))) (a17495, (s16419.1.length + e17486.length), c17495, ob17495, blk17495) (sub_cons rfl (sub_cons rfl (sub_cons rfl (sub_cons rfl (sub_cons rfl (sub_cons rfl sub_nil)))))) ⟨X17495, O17495⟩
  refine dexit (eseq (eloop (xblock (nseq (dseq (dreg ?_))))))
  refine lpure (v := .slice a16421 n16421 c16421) rfl (p_move rfl) rfl rfl ?_
  refine lcall rfl rfl ca_15 rfl rfl (sort_ok (f := 15) rfl X17483 (s16419.1) O16421) rfl ?_
  rintro e17496 _ h17498 ⟨φ17500, blk17503, g17501, X17502, rfl, O17503⟩
  refine lend (nseq (dseq (dreg ?_)))
  refine lpure (v := .slice a16421 n16421 c16421) rfl (p_move rfl) rfl rfl ?_
  refine lcall rfl rfl ca_67 rfl rfl (compact_ok (f := 67) rfl X17502 e17496 O17503) rfl ?_
  rintro e17504 _ h17506 ⟨φ17508, a17511, n17511, c17511, ob17511, blk17511, g17509, X17510, rfl, O17511⟩
  refine lpure (v := .slice a17511 n17511 c17511) rfl (p_assign rfl) rfl rfl ?_
  refine lend (nseq (dseq (dreg ?_)))
  refine lpure (v := .bool true) rfl (p_assign rfl) rfl rfl ?_
  refine lend (nseq (dseq (dreg ?_)))
  refine lpure (v := .slice none 0 0) rfl (p_assign rfl) rfl rfl ?_
  refine lend (nseq (dseq (dseq (dreg ?_))))
  refine lpure (v := .slice a17511 n17511 c17511) rfl (p_move rfl) rfl rfl ?_
  refine lpure (v := .int .i64 (e17504.length : Int)) rfl (p_len rfl rfl rfl un_33 rfl) (OSl.len O17511) rfl ?_
  refine lpure (v := .int .i64 0) rfl (p_move rfl) rfl rfl ?_
  refine lend (nseq (dblock ?_))
  refine dloopM (τ := (List Int) × Bool × (List Int) × Int) (σ := Blk × Option Addr × Nat × Nat × Option Nat × Blk) (fun s18000 (blk18001, a18003, n18003, c18003, ob18003, blk18003) => [(1, .slice a14280 n14280 c14280), (8, .pointer (some ⟨b14290, 0, none⟩)), (9, .slice a17511 n17511 c17511), (12, .bool s18000.2.1), (13, .slice a18003 n18003 c18003), (43, .slice a17511 n17511 c17511), (44, .int .i64 (e17504.length : Int)), (45, .int .i64 s18000.2.2.2)]) (fun s18000 (blk18001, a18003, n18003, c18003, ob18003, blk18003) hh => St φ17508 lo hh ((ob18003, blk18003) :: (ob17511, blk18001) :: (some b14290, .cells [.int .i64 p14276.Nodes, .slice a14277 n14277 c14277, .slice a14278 n14278 c14278] 87 .exact) :: (some b14281, .cells [.int .i64 p14276.Nodes, .slice a14277 n14277 c14277, .slice a14278 n14278 c14278] 29 .exact) :: own) ∧ OSl (eInt .i64) φ17508 3 ob17511 blk18001 (.slice a17511 n17511 c17511) s18000.1 ∧ OSl (eInt .i64) φ17508 3 ob18003 blk18003 (.slice a18003 n18003 c18003) s18000.2.2.1) (e17504, true, [], 0) (blk17511, none, 0, 0, none, .dead) (sub_cons rfl (sub_cons rfl (sub_cons rfl (sub_cons rfl (sub_cons rfl (sub_cons rfl (sub_cons rfl (sub_cons rfl sub_nil)))))))) ⟨(St.pick X17510 (.none _ (.keep _ (.keep _ (.keep _ (.refl _)))))), O17511, OSl.nil⟩ ?_
  rintro n18273 ih18272 s18000 ⟨blk18001, a18003, n18003, c18003, ob18003, blk18003⟩ t0 h18275 ⟨X18274, O18001, O18003⟩
  refine dseq (dreg ?_)
  refine lpure (v := .bool (decide (s18000.2.2.2 < (e17504.length : Int)))) rfl (p_lt rfl) rfl rfl ?_
  refine lend (nseq (dseq ?_))
  refine dcond rfl rfl (fun k18276 => ?_) (fun k18276 => ?_)
  · refine dskip (nseq (dseq (dblock (dseq (dreg ?_)))))
    refine Sim.bindM fun e18277 he18278 => ?_
    obtain ⟨b18279, vs18279, m18279, off18279, cs18279, rfl, rfl, hp18279, hc18279, hR18279, hl18279, hm18279, hs18279⟩ := OSl.ia O18001 he18278 (kd := .i64) (n := 1) rfl
    have hR18279 : _ = [(.int .i64 e18277 : Value)] := hR18279
    subst hR18279
    refine lpure (v := .pointer (some ⟨b18279, off18279, none⟩)) rfl (p_ia rs_33 rfl) hp18279 rfl ?_
    refine lread (v := .int .i64 e18277) rfl (q_load wd_3 rfl) (St.ld X18274 (j := 1) rfl (rdE1 hc18279 (k := 0) rfl rfl)) rfl ?_
    refine lpure (v := .int .i64 e18277) rfl (p_assign rfl) rfl rfl ?_
    refine lend (nseq (dseq (dreg ?_)))
    refine lpure (v := .bool s18000.2.1) rfl (p_move rfl) rfl rfl ?_
    refine lpure (v := .bool s18000.2.1) rfl (p_move rfl) rfl rfl ?_
    refine ljoinM (τ := Bool) (σ := Unit) (fun s18298 (_ : Unit) => [(1, .slice a14280 n14280 c14280), (8, .pointer (some ⟨b14290, 0, none⟩)), (9, .slice a17511 n17511 c17511), (13, .slice a18003 n18003 c18003), (15, .int .i64 e18277), (43, .slice a17511 n17511 c17511), (44, .int .i64 (e17504.length : Int)), (45, .int .i64 s18000.2.2.2), (57, .bool s18298)]) (fun s18298 (_ : Unit) hh => St φ17508 lo hh ((ob18003, blk18003) :: (some b18279, .cells vs18279 3 m18279) :: (some b14290, .cells [.int .i64 p14276.Nodes, .slice a14277 n14277 c14277, .slice a14278 n14278 c14278] 87 .exact) :: (some b14281, .cells [.int .i64 p14276.Nodes, .slice a14277 n14277 c14277, .slice a14278 n14278 c14278] 29 .exact) :: own)) 7 ?_ ?_
    · rintro s18298 _ t0 h18300 X18299
      refine lpure (v := .bool s18298) rfl (p_assign rfl) rfl rfl ?_
      refine lend (nseq (dreg ?_))
      refine lpure (v := .slice a18003 n18003 c18003) rfl (p_move rfl) rfl rfl ?_
      refine lread (v := .agg #[.int .i64 p14276.Nodes, .slice a14277 n14277 c14277, .slice a14278 n14278 c14278]) rfl (q_load wd_87 rfl) (St.ld X18299 (j := 2) rfl rfl) rfl ?_
      refine lpure (v := .int .i64 e18277) rfl (p_move rfl) rfl rfl ?_
      refine linl rfl rfl rfl rfl ca_69 rfl Try.func69 rfl rfl rfl rfl rfl ?_
      refine dseq (dreg ?_)
      refine lbox rfl rfl rfl rfl rfl X18299 (fun b18301 h18303 X18304 => ?_)
      refine lpure (v := .int .i64 0) rfl (p_assign rfl) rfl rfl ?_
      refine lend (nseq (dseq (dreg ?_)))
      refine lpure (v := .pointer (some ⟨b18301, 0, none⟩)) rfl (p_fa fo_87_0 rfl) rfl rfl ?_
      refine lread (v := .agg #[.int .i64 p14276.Nodes, .slice a14277 n14277 c14277, .slice a14278 n14278 c14278]) rfl (q_load wd_29 rfl) (St.ld X18304 (j := 0) rfl rfl) rfl ?_
      refine lpure (v := .int .i64 e18277) rfl (p_move rfl) rfl rfl ?_
      refine lcall rfl rfl ca_12 rfl rfl (f12_ok X18304 p14276 e18277 (H14277.mono (g17501.trans g17509)) (H14278.mono (g17501.trans g17509))) rfl (fun e18305 v18306 h18307 hq18308 => ?_)
      cases hq18308
      refine lpure (v := .tuple #[.int .i64 e18305.1, .int .i64 e18305.2]) rfl (p_move rfl) rfl rfl ?_
      refine lpure (v := .int .i64 e18305.1) rfl (p_extract rfl) rfl rfl ?_
      refine lpure (v := .int .i64 e18305.2) rfl (p_extract rfl) rfl rfl ?_
      refine lpure (v := .int .i64 e18305.1) rfl (p_assign rfl) rfl rfl ?_
      refine lpure (v := .int .i64 e18305.2) rfl (p_assign rfl) rfl rfl ?_
      refine lend (nseq (dseq (dreg ?_)))
      refine lpure (v := .int .i64 e18305.1) rfl (p_move rfl) rfl rfl ?_
      refine lpure (v := .int .i64 e18305.1) rfl (p_assign rfl) rfl rfl ?_
      refine lend (nseq (dret ?_))
      refine kin_r (res_1 resT) ?_
      obtain ⟨h18309, b18309, hv18309, X18309, O18309⟩ := OSl.lay (E := (eInt .i64)) (φ := φ17508) (cs := [.int .i64 e18305.1]) (l := [e18305.1]) (len := 1) (parts := [(0, .int .i64 e18305.1)]) un_33 ts_3 rfl rfl rfl tz_3 rfl rfl (show RowD (eInt .i64) φ17508 [.int .i64 e18305.1] [e18305.1] from ⟨[.int .i64 e18305.1], _, rfl, rfl, rfl⟩) rfl rfl X18304
      refine lheap rfl (h_buildSlice rfl) hv18309 rfl ?_
      obtain ⟨ws18311, hw18311⟩ := OSl.read O18309 X18309 (k := 0) rfl (n := 1) rfl
      refine Sim.mustM fun k18311 => ?_
      obtain ⟨h18311, a18311, c18311, ob18311, blk18311, hv18311, X18311, O18311⟩ := OSl.append O18003 X18309 (j := 2) rfl hw18311 k18311 (ts := #[33, 33]) rfl un_33 (argOk_of ax_33_33) ts_3 rfl rfl tb_3 rfl tz_3 rfl
      refine lheap rfl (h_builtin rfl rfl) hv18311 rfl ?_
      refine lpure (v := .slice a18311 (s18000.2.2.1.length + ([e18305.1]).length) c18311) rfl (p_assign rfl) rfl rfl ?_
      refine lend (nblock (nseq (dreg ?_)))
      refine lpure (v := .int .i64 (w64 (s18000.2.2.2 + 1))) rfl (p_add rfl) rfl rfl ?_
      refine lpure (v := .int .i64 (w64 (s18000.2.2.2 + 1))) rfl (p_move rfl) rfl rfl ?_
      refine lend ?_
      exact kbackM ih18272 (s18000.1, s18298, (s18000.2.2.1 ++ ([e18305.1])), (w64 (s18000.2.2.2 + 1))) ((.cells vs18279 3 m18279), a18311, (s18000.2.2.1.length + ([e18305.1]).length), c18311, ob18311, blk18311) (sub_cons rfl (sub_cons rfl (sub_cons rfl (sub_cons rfl (sub_cons rfl (sub_cons rfl (sub_cons rfl (sub_cons rfl sub_nil)))))))) ⟨(St.pick X18311 (.skip _ (.skip _ (.keep _ (.keep _ (.keep _ (.keep _ (.refl _)))))))), O18001, O18311⟩
    intro j18312 J18313
    refine lif (i := 50) (show _ = Value.bool s18000.2.1 from rfl) (fun k18314 => ?_) (fun k18314 => ?_)
    · refine lpure (v := .slice a18003 n18003 c18003) rfl (p_move rfl) rfl rfl ?_
      refine lread (v := .agg #[.int .i64 p14276.Nodes, .slice a14277 n14277 c14277, .slice a14278 n14278 c14278]) rfl (q_load wd_87 rfl) (St.ld X18274 (j := 2) rfl rfl) rfl ?_
      refine lpure (v := .int .i64 e18277) rfl (p_move rfl) rfl rfl ?_
      refine linl rfl rfl rfl rfl ca_69 rfl Try.func69 rfl rfl rfl rfl rfl ?_
      refine dseq (dreg ?_)
      refine lbox rfl rfl rfl rfl rfl X18274 (fun b18315 h18317 X18318 => ?_)
      refine lpure (v := .int .i64 0) rfl (p_assign rfl) rfl rfl ?_
      refine lend (nseq (dseq (dreg ?_)))
      refine lpure (v := .pointer (some ⟨b18315, 0, none⟩)) rfl (p_fa fo_87_0 rfl) rfl rfl ?_
      refine lread (v := .agg #[.int .i64 p14276.Nodes, .slice a14277 n14277 c14277, .slice a14278 n14278 c14278]) rfl (q_load wd_29 rfl) (St.ld X18318 (j := 0) rfl rfl) rfl ?_
      refine lpure (v := .int .i64 e18277) rfl (p_move rfl) rfl rfl ?_
      refine lcall rfl rfl ca_12 rfl rfl (f12_ok X18318 p14276 e18277 (H14277.mono (g17501.trans g17509)) (H14278.mono (g17501.trans g17509))) rfl (fun e18319 v18320 h18321 hq18322 => ?_)
      cases hq18322
      refine lpure (v := .tuple #[.int .i64 e18319.1, .int .i64 e18319.2]) rfl (p_move rfl) rfl rfl ?_
      refine lpure (v := .int .i64 e18319.1) rfl (p_extract rfl) rfl rfl ?_
      refine lpure (v := .int .i64 e18319.2) rfl (p_extract rfl) rfl rfl ?_
      refine lpure (v := .int .i64 e18319.1) rfl (p_assign rfl) rfl rfl ?_
      refine lpure (v := .int .i64 e18319.2) rfl (p_assign rfl) rfl rfl ?_
      refine lend (nseq (dseq (dreg ?_)))
      refine lpure (v := .int .i64 e18319.1) rfl (p_move rfl) rfl rfl ?_
      refine lpure (v := .int .i64 e18319.1) rfl (p_assign rfl) rfl rfl ?_
      refine lend (nseq (dret ?_))
      refine kin_r (res_1 resT) ?_
      obtain ⟨φ18323, g18324, X18325, H18326⟩ := OSl.freeze X18318 (j := 1) rfl O18003
      refine lcall rfl rfl ca_68 rfl rfl (f68_ok X18325 (s18000.2.2.1) (e18319.1) H18326) rfl (fun e18327 v18328 h18329 hq18330 => ?_)
      cases hq18330
      refine lpure (v := .bool (!e18327)) rfl (p_not rfl) rfl rfl ?_
      refine lpure (v := .bool (!e18327)) rfl (p_pick rfl) rfl rfl ?_
      exact ljmpM J18313 (!e18327) () (sub_cons rfl (sub_cons rfl (sub_cons rfl (sub_cons rfl (sub_cons rfl (sub_cons rfl (sub_cons rfl (sub_cons rfl (sub_cons rfl sub_nil))))))))) (St.pick X18318 (.skip _ (.keep _ (.keep _ (.keep _ (.keep _ (.refl _)))))))
    refine lskip rfl rfl ?_
    refine lskip rfl rfl ?_
    refine lskip rfl rfl ?_
    refine lskip rfl rfl ?_
    refine lskip rfl rfl ?_
    refine lskip rfl rfl ?_
    refine lpure (v := .bool false) rfl (p_pick rfl) rfl rfl ?_
    exact ljmpM J18313 false () (sub_cons rfl (sub_cons rfl (sub_cons rfl (sub_cons rfl (sub_cons rfl (sub_cons rfl (sub_cons rfl (sub_cons rfl (sub_cons rfl sub_nil))))))))) X18274
  refine dexit (eseq (eloop (xblock (nseq (dseq (dseq (dreg ?_)))))))
  refine lpure (v := .slice a14280 n14280 c14280) rfl (p_move rfl) rfl rfl ?_
  refine lpure (v := .int .i64 (p14279.length : Int)) rfl (p_len rfl rfl rfl un_59 rfl) (RSl.lenC (H14280.mono (g17501.trans g17509))) rfl ?_
  refine lpure (v := .int .i64 0) rfl (p_move rfl) rfl rfl ?_
  refine lend (nseq (dblock ?_))
  refine dloopM (τ := Bool × Int) (σ := Unit) (fun s18435 (_ : Unit) => [(1, .slice a14280 n14280 c14280), (8, .pointer (some ⟨b14290, 0, none⟩)), (9, .slice a17511 n17511 c17511), (12, .bool s18435.1), (65, .slice a14280 n14280 c14280), (66, .int .i64 (p14279.length : Int)), (67, .int .i64 s18435.2)]) (fun s18435 (_ : Unit) hh => St φ17508 lo hh ((ob18003, blk18003) :: (ob17511, blk18001) :: (some b14290, .cells [.int .i64 p14276.Nodes, .slice a14277 n14277 c14277, .slice a14278 n14278 c14278] 87 .exact) :: (some b14281, .cells [.int .i64 p14276.Nodes, .slice a14277 n14277 c14277, .slice a14278 n14278 c14278] 29 .exact) :: own)) (s18000.2.1, 0) () (sub_cons rfl (sub_cons rfl (sub_cons rfl (sub_cons rfl (sub_cons rfl (sub_cons rfl (sub_cons rfl sub_nil))))))) X18274 ?_
  rintro n18489 ih18488 s18435 _ t0 h18491 X18490
  refine dseq (dreg ?_)
  refine lpure (v := .bool (decide (s18435.2 < (p14279.length : Int)))) rfl (p_lt rfl) rfl rfl ?_
  refine lend (nseq (dseq ?_))
  refine dcond rfl rfl (fun k18492 => ?_) (fun k18492 => ?_)
  · refine dskip (nseq (dseq (dblock (dseq (dreg ?_)))))
    refine Sim.bindM fun e18493 he18494 => ?_
    obtain ⟨p18496, cs18496, hp18496, hF18496, hR18496⟩ := RSl.ia (H14280.mono (g17501.trans g17509)) he18494 (kd := .i64) (n := 1) rfl
    obtain ⟨a18495, n18495, c18495, rfl, H18495⟩ := hR18496
    refine lpure (v := p18496) rfl (p_ia rs_59 rfl) hp18496 rfl ?_
    refine lread (v := .slice a18495 n18495 c18495) rfl (q_load wd_42 rfl) (FP.ld X18490 hF18496) rfl ?_
    refine lpure (v := .slice a18495 n18495 c18495) rfl (p_assign rfl) rfl rfl ?_
    refine lend (nseq ?_)
    refine ddraw 0 0 0 (by kernel_rfl) ?_
    refine spure (v := .bool s18435.1) rfl (p_move rfl) (lo_t rfl rfl) rfl rfl ?_
    refine spure (v := .bool s18435.1) rfl (p_move rfl) (lo_t rfl rfl) rfl rfl ?_
    refine sjoinM (τ := Bool) (σ := Unit) (fun s18517 (_ : Unit) => [(1, .slice a14280 n14280 c14280), (8, .pointer (some ⟨b14290, 0, none⟩)), (9, .slice a17511 n17511 c17511), (65, .slice a14280 n14280 c14280), (66, .int .i64 (p14279.length : Int)), (67, .int .i64 s18435.2), (86, .bool s18517)]) (fun s18517 (_ : Unit) hh => St φ17508 lo hh ((ob18003, blk18003) :: (ob17511, blk18001) :: (some b14290, .cells [.int .i64 p14276.Nodes, .slice a14277 n14277 c14277, .slice a14278 n14278 c14278] 87 .exact) :: (some b14281, .cells [.int .i64 p14276.Nodes, .slice a14277 n14277 c14277, .slice a14278 n14278 c14278] 29 .exact) :: own)) 14 16 ?_ ?_
    · rintro s18517 _ t0 h18519 X18518
      refine spure (v := .bool s18517) rfl (p_assign rfl) (lo_t rfl rfl) rfl rfl ?_
      refine send ?_
      refine nblock (nseq (dreg ?_))
      refine lpure (v := .int .i64 (w64 (s18435.2 + 1))) rfl (p_add rfl) rfl rfl ?_
      refine lpure (v := .int .i64 (w64 (s18435.2 + 1))) rfl (p_move rfl) rfl rfl ?_
      refine lend ?_
      exact kbackM ih18488 (s18517, (w64 (s18435.2 + 1))) () (sub_cons rfl (sub_cons rfl (sub_cons rfl (sub_cons rfl (sub_cons rfl (sub_cons rfl (sub_cons rfl sub_nil))))))) X18518
    intro j18520 J18521
    refine sif (j := 72) (show _ = Value.bool s18435.1 from rfl) (fun k18522 => ?_) (fun k18522 => ?_)
    · refine sload (v := .agg #[.int .i64 p14276.Nodes, .slice a14277 n14277 c14277, .slice a14278 n14278 c14278]) rfl rfl (q_load wd_87 rfl) (St.ld X18490 (j := 2) rfl rfl) (same_self 20 rfl) rfl ?_
      refine spure (v := .slice a18495 n18495 c18495) rfl (p_move rfl) (lo_t (lo_sl X18490 H18495) rfl) rfl rfl ?_
      refine Sim.bindM fun e18523 he18524 => ?_
      obtain ⟨p18525, cs18525, hp18525, hF18525, hR18525⟩ := RSl.ia H18495 he18524 (kd := .i64) (n := 1) rfl
      have hR18525 : _ = [(.int .i64 e18523 : Value)] := hR18525
      subst hR18525
      refine spure (v := p18525) rfl (p_ia rs_42 rfl) (lo_t (lo_sl X18490 H18495) (lo_c rfl)) hp18525 rfl ?_
      refine sload (v := .int .i64 e18523) rfl rfl (q_load wd_3 rfl) (FP.ld X18490 hF18525) (same_self 20 rfl) rfl ?_
      refine scall (en := fun d => (.int .i64 d)) rfl rfl ca_70 rfl rfl (f70_ok X18490 ((RouteWalk.mk p14276)) e18523 (H14277.mono (g17501.trans g17509)) (H14278.mono (g17501.trans g17509))) rfl (fun e18526 => ?_)
      refine sload (v := .agg #[.int .i64 p14276.Nodes, .slice a14277 n14277 c14277, .slice a14278 n14278 c14278]) rfl rfl (q_load wd_87 rfl) (St.ld X18490 (j := 2) rfl rfl) (same_self 20 rfl) rfl ?_
      refine spure (v := .slice a14280 n14280 c14280) rfl (p_move rfl) (lo_t (lo_sl X18490 (H14280.mono (g17501.trans g17509))) rfl) rfl rfl ?_
      refine Sim.bindM fun e18530 he18531 => ?_
      obtain ⟨p18533, cs18533, hp18533, hF18533, hR18533⟩ := RSl.ia (H14280.mono (g17501.trans g17509)) he18531 (kd := .i64) (n := 1) rfl
      obtain ⟨a18532, n18532, c18532, rfl, H18532⟩ := hR18533
      refine spure (v := p18533) rfl (p_ia rs_59 rfl) (lo_t (lo_sl X18490 (H14280.mono (g17501.trans g17509))) (lo_c rfl)) hp18533 rfl ?_
      refine sload (v := .slice a18532 n18532 c18532) rfl rfl (q_load wd_42 rfl) (FP.ld X18490 hF18533) (same_self 20 rfl) rfl ?_
      refine Sim.bindM fun e18534 he18535 => ?_
      obtain ⟨p18536, cs18536, hp18536, hF18536, hR18536⟩ := RSl.ia H18532 he18535 (kd := .i64) (n := 1) rfl
      have hR18536 : _ = [(.int .i64 e18534 : Value)] := hR18536
      subst hR18536
      refine spure (v := p18536) rfl (p_ia rs_42 rfl) (lo_t (lo_sl X18490 H18532) (lo_c rfl)) hp18536 rfl ?_
      refine sload (v := .int .i64 e18534) rfl rfl (q_load wd_3 rfl) (FP.ld X18490 hF18536) (same_self 20 rfl) rfl ?_
      refine scall (en := fun d => (.int .i64 d)) rfl rfl ca_70 rfl rfl (f70_ok X18490 ((RouteWalk.mk p14276)) e18534 (H14277.mono (g17501.trans g17509)) (H14278.mono (g17501.trans g17509))) rfl (fun e18537 => ?_)
      refine spure (v := .bool (decide (e18526 = e18537))) rfl (p_eq rfl) (lo_t rfl (lo_t rfl rfl)) rfl rfl ?_
      refine spure (v := .bool (decide (e18526 = e18537))) rfl (p_pick rfl) (lo_t rfl (lo_t rfl (lo_c rfl))) rfl rfl ?_
      exact sjmpM J18521 (decide (e18526 = e18537)) () (sub_cons rfl (sub_cons rfl (sub_cons rfl (sub_cons rfl (sub_cons rfl (sub_cons rfl (sub_cons rfl sub_nil))))))) X18490
    refine sskip rfl rfl ?_
    refine sskip rfl rfl ?_
    refine sskip rfl rfl ?_
    refine sskip rfl rfl ?_
    refine sskip rfl rfl ?_
    refine sskip rfl rfl ?_
    refine sskip rfl rfl ?_
    refine sskip rfl rfl ?_
    refine sskip rfl rfl ?_
    refine sskip rfl rfl ?_
    refine sskip rfl rfl ?_
    refine sskip rfl rfl ?_
    refine sskip rfl rfl ?_
    refine spure (v := .bool false) rfl (p_pick rfl) (lo_t rfl (lo_t rfl (lo_c rfl))) rfl rfl ?_
    exact sjmpM J18521 false () (sub_cons rfl (sub_cons rfl (sub_cons rfl (sub_cons rfl (sub_cons rfl (sub_cons rfl (sub_cons rfl sub_nil))))))) X18490
  refine dexit (eseq (eloop (xblock (nseq (dseq (dreg ?_))))))
  refine lpure (v := .slice a17511 n17511 c17511) rfl (p_move rfl) rfl rfl ?_
  refine lpure (v := .bool s18435.1) rfl (p_move rfl) rfl rfl ?_
  refine lpure (v := .slice a17511 n17511 c17511) rfl (p_assign rfl) rfl rfl ?_
  refine lpure (v := .bool s18435.1) rfl (p_assign rfl) rfl rfl ?_
  refine lpure (v := .int .i64 0) rfl (p_assign rfl) rfl rfl ?_
  refine lend (nseq (dret ?_))
  exact kopen_r (res_3 resT resT resT) ⟨φ17508, a17511, n17511, c17511, ob17511, blk18001, (g17501.trans g17509), St.pick (St.front X18490 (j := 1) rfl) (.keep _ (.skip _ (.skip _ (.skip _ (.refl _))))), rfl, O18001⟩
/-! slices.Equal[[]int,int] -/
theorem f28_ok {n : Nat} {φ : Fz} {lo : Nat} {h : Heap} {own : OwnL}  {a18585 : Option Addr} {n18585 c18585 : Nat} {a18587 : Option Addr} {n18587 c18587 : Nat} (X : St φ lo h (own)) (p18584 : (List Int)) (p18586 : (List Int)) (H18585 : RSl (eInt .i64) φ (.slice a18585 n18585 c18585) p18584) (H18587 : RSl (eInt .i64) φ (.slice a18587 n18587 c18587) p18586) : Sim ((recN Try.prog LL cutF (n + 1)).call 28 #[(.slice a18585 n18585 c18585), (.slice a18587 n18587 c18587)] h) (m_slices_Equal_int_int p18584 p18586) (fun (d : Bool) p => p = (.bool d, h)) := by
  refine fcut Try.func28 rfl rfl rfl rfl X ?_
  intro h0 X0
  refine dseq (dreg ?_)
  refine lpure (v := .bool false) rfl (p_assign rfl) rfl rfl ?_
  refine lend (nseq (dseq (dseq (dreg ?_))))
  refine lpure (v := .slice a18585 n18585 c18585) rfl (p_move rfl) rfl rfl ?_
  refine lpure (v := .int .i64 (p18584.length : Int)) rfl (p_len rfl rfl rfl un_33 rfl) (RSl.lenC H18585) rfl ?_
  refine lpure (v := .slice a18587 n18587 c18587) rfl (p_move rfl) rfl rfl ?_
  refine lpure (v := .int .i64 (p18586.length : Int)) rfl (p_len rfl rfl rfl un_33 rfl) (RSl.lenC H18587) rfl ?_
  refine lpure (v := .bool (decide ((p18584.length : Int) ≠ (p18586.length : Int)))) rfl (p_ne rfl) rfl rfl ?_
  refine lend (nseq ?_)
  refine dcond rfl rfl (fun k18588 => ?_) (fun k18588 => ?_)
  · refine dseq (dreg ?_)
    refine lpure (v := .bool false) rfl (p_assign rfl) rfl rfl ?_
    refine lend (nseq (dret (rseq ?_)))
    exact kcut_r (res_1 resT) X0 rfl rfl
  refine dskip (nseq (dseq (dseq (dreg ?_))))
  refine lpure (v := .slice a18585 n18585 c18585) rfl (p_move rfl) rfl rfl ?_
  refine lpure (v := .int .i64 (p18584.length : Int)) rfl (p_len rfl rfl rfl un_33 rfl) (RSl.lenC H18585) rfl ?_
  refine lpure (v := .int .i64 0) rfl (p_move rfl) rfl rfl ?_
  refine lend (nseq (dblock ?_))
  refine dloopM (τ := Int) (σ := Unit) (fun s18611 (_ : Unit) => [(0, .slice a18585 n18585 c18585), (1, .slice a18587 n18587 c18587), (12, .int .i64 (p18584.length : Int)), (13, .int .i64 s18611)]) (fun s18611 (_ : Unit) hh => St φ h.n hh ([])) 0 () (sub_cons rfl (sub_cons rfl (sub_cons rfl (sub_cons rfl sub_nil)))) X0 ?_
  rintro n18624 ih18623 s18611 _ t0 h18626 X18625
  refine dseq (dreg ?_)
  refine lpure (v := .bool (decide (s18611 < (p18584.length : Int)))) rfl (p_lt rfl) rfl rfl ?_
  refine lend (nseq (dseq ?_))
  refine dcond rfl rfl (fun k18627 => ?_) (fun k18627 => ?_)
  · refine dskip (nseq (dseq (dblock (dseq (dreg ?_)))))
    refine lpure (v := .int .i64 s18611) rfl (p_move rfl) rfl rfl ?_
    refine lpure (v := .int .i64 s18611) rfl (p_assign rfl) rfl rfl ?_
    refine lend (nseq (dseq ?_))
    refine ddraw 0 0 0 (by kernel_rfl) ?_
    refine spure (v := .slice a18585 n18585 c18585) rfl (p_move rfl) (lo_t (lo_sl X18625 H18585) rfl) rfl rfl ?_
    refine spure (v := .int .i64 s18611) rfl (p_move rfl) (lo_t rfl rfl) rfl rfl ?_
    refine Sim.bindM fun e18628 he18629 => ?_
    obtain ⟨p18630, cs18630, hp18630, hF18630, hR18630⟩ := RSl.ia H18585 he18629 (kd := .i64) (n := 1) rfl
    have hR18630 : _ = [(.int .i64 e18628 : Value)] := hR18630
    subst hR18630
    refine spure (v := p18630) rfl (p_ia rs_33 rfl) (lo_t (lo_sl X18625 H18585) (lo_t rfl rfl)) hp18630 rfl ?_
    refine sload (v := .int .i64 e18628) rfl rfl (q_load wd_3 rfl) (FP.ld X18625 hF18630) (same_self 20 rfl) rfl ?_
    refine spure (v := .slice a18587 n18587 c18587) rfl (p_move rfl) (lo_t (lo_sl X18625 H18587) rfl) rfl rfl ?_
    refine spure (v := .int .i64 s18611) rfl (p_move rfl) (lo_t rfl rfl) rfl rfl ?_
    refine Sim.bindM fun e18631 he18632 => ?_
    obtain ⟨p18633, cs18633, hp18633, hF18633, hR18633⟩ := RSl.ia H18587 he18632 (kd := .i64) (n := 1) rfl
    have hR18633 : _ = [(.int .i64 e18631 : Value)] := hR18633
    subst hR18633
    refine spure (v := p18633) rfl (p_ia rs_33 rfl) (lo_t (lo_sl X18625 H18587) (lo_t rfl rfl)) hp18633 rfl ?_
    refine sload (v := .int .i64 e18631) rfl rfl (q_load wd_3 rfl) (FP.ld X18625 hF18633) (same_self 20 rfl) rfl ?_
    refine spure (v := .bool (decide (e18628 ≠ e18631))) rfl (p_ne rfl) (lo_t rfl (lo_t rfl rfl)) rfl rfl ?_
    refine send ?_
    refine nseq ?_
    refine dcond rfl rfl (fun k18634 => ?_) (fun k18634 => ?_)
    · refine dseq (dreg ?_)
      refine lpure (v := .bool false) rfl (p_assign rfl) rfl rfl ?_
      refine lend (nseq (dret (rblock (rseq (rloop (rblock (rseq ?_)))))))
      exact kcut_r (res_1 resT) X18625 rfl rfl
    refine dskip (nblock (nseq (dreg ?_)))
    refine lpure (v := .int .i64 (w64 (s18611 + 1))) rfl (p_add rfl) rfl rfl ?_
    refine lpure (v := .int .i64 (w64 (s18611 + 1))) rfl (p_move rfl) rfl rfl ?_
    refine lend ?_
    exact kbackM ih18623 (w64 (s18611 + 1)) () (sub_cons rfl (sub_cons rfl (sub_cons rfl (sub_cons rfl sub_nil)))) X18625
  refine dexit (eseq (eloop (xblock (nseq (dseq (dreg ?_))))))
  refine lpure (v := .bool true) rfl (p_assign rfl) rfl rfl ?_
  refine lend (nseq (dret ?_))
  exact kcut_r (res_1 resT) X18625 rfl rfl
/-! slices.Equal[isochron/api.Route,int] -/
theorem f25_ok {n : Nat} {φ : Fz} {lo : Nat} {h : Heap} {own : OwnL}  {a18671 : Option Addr} {n18671 c18671 : Nat} {a18673 : Option Addr} {n18673 c18673 : Nat} (X : St φ lo h (own)) (p18670 : (List Int)) (p18672 : (List Int)) (H18671 : RSl (eInt .i64) φ (.slice a18671 n18671 c18671) p18670) (H18673 : RSl (eInt .i64) φ (.slice a18673 n18673 c18673) p18672) : Sim ((recN Try.prog LL cutF (n + 1)).call 25 #[(.slice a18671 n18671 c18671), (.slice a18673 n18673 c18673)] h) (m_slices_Equal_api_Route_int p18670 p18672) (fun (d : Bool) p => p = (.bool d, h)) := by
  refine fcut Try.func25 rfl rfl rfl rfl X ?_
  intro h0 X0
  refine dseq (dreg ?_)
  refine lpure (v := .bool false) rfl (p_assign rfl) rfl rfl ?_
  refine lend (nseq (dseq (dseq (dreg ?_))))
  refine lpure (v := .slice a18671 n18671 c18671) rfl (p_move rfl) rfl rfl ?_
  refine lpure (v := .int .i64 (p18670.length : Int)) rfl (p_len rfl rfl rfl un_42 rfl) (RSl.lenC H18671) rfl ?_
  refine lpure (v := .slice a18673 n18673 c18673) rfl (p_move rfl) rfl rfl ?_
  refine lpure (v := .int .i64 (p18672.length : Int)) rfl (p_len rfl rfl rfl un_42 rfl) (RSl.lenC H18673) rfl ?_
  refine lpure (v := .bool (decide ((p18670.length : Int) ≠ (p18672.length : Int)))) rfl (p_ne rfl) rfl rfl ?_
  refine lend (nseq ?_)
  refine dcond rfl rfl (fun k18674 => ?_) (fun k18674 => ?_)
  · refine dseq (dreg ?_)
    refine lpure (v := .bool false) rfl (p_assign rfl) rfl rfl ?_
    refine lend (nseq (dret (rseq ?_)))
    exact kcut_r (res_1 resT) X0 rfl rfl
  refine dskip (nseq (dseq (dseq (dreg ?_))))
  refine lpure (v := .slice a18671 n18671 c18671) rfl (p_move rfl) rfl rfl ?_
  refine lpure (v := .int .i64 (p18670.length : Int)) rfl (p_len rfl rfl rfl un_42 rfl) (RSl.lenC H18671) rfl ?_
  refine lpure (v := .int .i64 0) rfl (p_move rfl) rfl rfl ?_
  refine lend (nseq (dblock ?_))
  refine dloopM (τ := Int) (σ := Unit) (fun s18697 (_ : Unit) => [(0, .slice a18671 n18671 c18671), (1, .slice a18673 n18673 c18673), (12, .int .i64 (p18670.length : Int)), (13, .int .i64 s18697)]) (fun s18697 (_ : Unit) hh => St φ h.n hh ([])) 0 () (sub_cons rfl (sub_cons rfl (sub_cons rfl (sub_cons rfl sub_nil)))) X0 ?_
  rintro n18710 ih18709 s18697 _ t0 h18712 X18711
  refine dseq (dreg ?_)
  refine lpure (v := .bool (decide (s18697 < (p18670.length : Int)))) rfl (p_lt rfl) rfl rfl ?_
  refine lend (nseq (dseq ?_))
  refine dcond rfl rfl (fun k18713 => ?_) (fun k18713 => ?_)
  · refine dskip (nseq (dseq (dblock (dseq (dreg ?_)))))
    refine lpure (v := .int .i64 s18697) rfl (p_move rfl) rfl rfl ?_
    refine lpure (v := .int .i64 s18697) rfl (p_assign rfl) rfl rfl ?_
    refine lend (nseq (dseq ?_))
    refine ddraw 0 0 0 (by kernel_rfl) ?_
    refine spure (v := .slice a18671 n18671 c18671) rfl (p_move rfl) (lo_t (lo_sl X18711 H18671) rfl) rfl rfl ?_
    refine spure (v := .int .i64 s18697) rfl (p_move rfl) (lo_t rfl rfl) rfl rfl ?_
    refine Sim.bindM fun e18714 he18715 => ?_
    obtain ⟨p18716, cs18716, hp18716, hF18716, hR18716⟩ := RSl.ia H18671 he18715 (kd := .i64) (n := 1) rfl
    have hR18716 : _ = [(.int .i64 e18714 : Value)] := hR18716
    subst hR18716
    refine spure (v := p18716) rfl (p_ia rs_42 rfl) (lo_t (lo_sl X18711 H18671) (lo_t rfl rfl)) hp18716 rfl ?_
    refine sload (v := .int .i64 e18714) rfl rfl (q_load wd_3 rfl) (FP.ld X18711 hF18716) (same_self 20 rfl) rfl ?_
    refine spure (v := .slice a18673 n18673 c18673) rfl (p_move rfl) (lo_t (lo_sl X18711 H18673) rfl) rfl rfl ?_
    refine spure (v := .int .i64 s18697) rfl (p_move rfl) (lo_t rfl rfl) rfl rfl ?_
    refine Sim.bindM fun e18717 he18718 => ?_
    obtain ⟨p18719, cs18719, hp18719, hF18719, hR18719⟩ := RSl.ia H18673 he18718 (kd := .i64) (n := 1) rfl
    have hR18719 : _ = [(.int .i64 e18717 : Value)] := hR18719
    subst hR18719
    refine spure (v := p18719) rfl (p_ia rs_42 rfl) (lo_t (lo_sl X18711 H18673) (lo_t rfl rfl)) hp18719 rfl ?_
    refine sload (v := .int .i64 e18717) rfl rfl (q_load wd_3 rfl) (FP.ld X18711 hF18719) (same_self 20 rfl) rfl ?_
    refine spure (v := .bool (decide (e18714 ≠ e18717))) rfl (p_ne rfl) (lo_t rfl (lo_t rfl rfl)) rfl rfl ?_
    refine send ?_
    refine nseq ?_
    refine dcond rfl rfl (fun k18720 => ?_) (fun k18720 => ?_)
    · refine dseq (dreg ?_)
      refine lpure (v := .bool false) rfl (p_assign rfl) rfl rfl ?_
      refine lend (nseq (dret (rblock (rseq (rloop (rblock (rseq ?_)))))))
      exact kcut_r (res_1 resT) X18711 rfl rfl
    refine dskip (nblock (nseq (dreg ?_)))
    refine lpure (v := .int .i64 (w64 (s18697 + 1))) rfl (p_add rfl) rfl rfl ?_
    refine lpure (v := .int .i64 (w64 (s18697 + 1))) rfl (p_move rfl) rfl rfl ?_
    refine lend ?_
    exact kbackM ih18709 (w64 (s18697 + 1)) () (sub_cons rfl (sub_cons rfl (sub_cons rfl (sub_cons rfl sub_nil)))) X18711
  refine dexit (eseq (eloop (xblock (nseq (dseq (dreg ?_))))))
  refine lpure (v := .bool true) rfl (p_assign rfl) rfl rfl ?_
  refine lend (nseq (dret ?_))
  exact kcut_r (res_1 resT) X18711 rfl rfl
/-! isochron/isochronlaw21.wakes -/
theorem f16_ok {n : Nat} {φ : Fz} {lo : Nat} {h : Heap} {own : OwnL}  (X : St φ lo h (own)) : Sim ((recN Try.prog LL cutF (n + 18)).call 16 #[] h) (m_isochronlaw21_wakes) (fun (d : Bool) p => p = (.bool d, h)) := by
  refine fcut Try.func16 rfl rfl rfl rfl X ?_
  intro h0 X0
  refine dseq (dreg ?_)
  refine lpure (v := .bool false) rfl (p_assign rfl) rfl rfl ?_
  refine lend (nseq (dseq (dreg ?_)))
  refine lcall rfl rfl ca_48 rfl rfl (f48_ok X0) rfl ?_
  rintro e36 _ h38 ⟨φ40, a43, n43, c43, ob43, blk43, a45, n45, c45, ob45, blk45, g41, X42, rfl, O43, O45⟩
  refine lalloc rfl tz_29 rfl rfl rfl X42 (fun b47 h49 X50 => ?_)
  refine lstore rfl ts_29 rfl rfl (j := 0) rfl rfl rfl rfl rfl rfl X50 (fun h51 X52 => ?_)
  refine lend (nseq (dseq (dreg ?_)))
  refine lread (v := .agg #[.int .i64 e36.Nodes, .slice a43 n43 c43, .slice a45 n45 c45]) rfl (q_load wd_29 rfl) (St.ld X52 (j := 0) rfl rfl) rfl ?_
  obtain ⟨h53, b53, hv53, X53, O53⟩ := OSl.lay (E := (eInt .i64)) (φ := φ40) (cs := [.int .i64 0, .int .i64 2, .int .i64 4]) (l := [0, 2, 4]) (len := 3) (parts := [(0, .int .i64 0), (1, .int .i64 2), (2, .int .i64 4)]) un_42 ts_3 rfl rfl rfl tz_3 rfl rfl (show RowD (eInt .i64) φ40 [.int .i64 0, .int .i64 2, .int .i64 4] [0, 2, 4] from ⟨[.int .i64 0], _, rfl, rfl, ⟨[.int .i64 2], _, rfl, rfl, ⟨[.int .i64 4], _, rfl, rfl, rfl⟩⟩⟩) rfl rfl X52
  refine lheap rfl (h_buildSlice rfl) hv53 rfl ?_
  obtain ⟨φ7891, g7892, X7893, H7894⟩ := OSl.freeze X53 (j := 2) rfl O43
  obtain ⟨φ7895, g7896, X7897, H7898⟩ := OSl.freeze X7893 (j := 3) rfl (O45.mono g7892)
  obtain ⟨φ7899, g7900, X7901, H7902⟩ := OSl.freeze X7897 (j := 0) rfl (O53.mono (g7892.trans g7896))
  refine lcall rfl rfl ca_24 rfl rfl (f24_ok X7901 e36 ([0, 2, 4]) (H7894.mono (g7896.trans g7900)) (H7898.mono g7900) H7902) rfl ?_
  rintro e7903 _ h7905 ⟨φ7907, a7910, n7910, c7910, ob7910, blk7910, g7908, X7909, rfl, O7910⟩
  refine lpure (v := .tuple #[.slice a7910 n7910 c7910, .int .i64 e7903.2]) rfl (p_move rfl) rfl rfl ?_
  refine lpure (v := .slice a7910 n7910 c7910) rfl (p_extract rfl) rfl rfl ?_
  refine lpure (v := .int .i64 e7903.2) rfl (p_extract rfl) rfl rfl ?_
  refine lpure (v := .slice a7910 n7910 c7910) rfl (p_assign rfl) rfl rfl ?_
  refine lpure (v := .int .i64 e7903.2) rfl (p_assign rfl) rfl rfl ?_
  refine lend (nseq (dseq (dreg ?_)))
  refine lread (v := .agg #[.int .i64 e36.Nodes, .slice a43 n43 c43, .slice a45 n45 c45]) rfl (q_load wd_29 rfl) (St.ld X7909 (j := 2) rfl rfl) rfl ?_
  obtain ⟨h7912, b7912, hv7912, X7912, O7912⟩ := OSl.lay (E := (eInt .i64)) (φ := φ7907) (cs := [.int .i64 2, .int .i64 4]) (l := [2, 4]) (len := 2) (parts := [(0, .int .i64 2), (1, .int .i64 4)]) un_42 ts_3 rfl rfl rfl tz_3 rfl rfl (show RowD (eInt .i64) φ7907 [.int .i64 2, .int .i64 4] [2, 4] from ⟨[.int .i64 2], _, rfl, rfl, ⟨[.int .i64 4], _, rfl, rfl, rfl⟩⟩) rfl rfl X7909
  refine lheap rfl (h_buildSlice rfl) hv7912 rfl ?_
  obtain ⟨φ7939, g7940, X7941, H7942⟩ := OSl.freeze X7912 (j := 0) rfl O7912
  refine lcall rfl rfl ca_21 rfl rfl (f21_ok X7941 e36 ([2, 4]) (H7894.mono (((g7896.trans g7900).trans g7908).trans g7940)) (H7898.mono ((g7900.trans g7908).trans g7940)) H7942) rfl (fun e7943 v7944 h7945 hq7946 => ?_)
  cases hq7946
  refine lpure (v := .tuple #[.int .i64 e7943.1, .int .i64 e7943.2.1, .int .i64 e7943.2.2]) rfl (p_move rfl) rfl rfl ?_
  refine lpure (v := .int .i64 e7943.1) rfl (p_extract rfl) rfl rfl ?_
  refine lpure (v := .int .i64 e7943.2.1) rfl (p_extract rfl) rfl rfl ?_
  refine lpure (v := .int .i64 e7943.2.2) rfl (p_extract rfl) rfl rfl ?_
  refine lpure (v := .int .i64 e7943.1) rfl (p_assign rfl) rfl rfl ?_
  refine lpure (v := .int .i64 e7943.2.1) rfl (p_assign rfl) rfl rfl ?_
  refine lpure (v := .int .i64 e7943.2.2) rfl (p_assign rfl) rfl rfl ?_
  refine lend (nseq (dseq (dreg ?_)))
  refine lread (v := .agg #[.int .i64 e36.Nodes, .slice a43 n43 c43, .slice a45 n45 c45]) rfl (q_load wd_29 rfl) (St.ld X7912 (j := 3) rfl rfl) rfl ?_
  obtain ⟨h7947, b7947, hv7947, X7947, O7947⟩ := OSl.lay (E := (eInt .i64)) (φ := φ7907) (cs := [.int .i64 0, .int .i64 2, .int .i64 4]) (l := [0, 2, 4]) (len := 3) (parts := [(0, .int .i64 0), (1, .int .i64 2), (2, .int .i64 4)]) un_42 ts_3 rfl rfl rfl tz_3 rfl rfl (show RowD (eInt .i64) φ7907 [.int .i64 0, .int .i64 2, .int .i64 4] [0, 2, 4] from ⟨[.int .i64 0], _, rfl, rfl, ⟨[.int .i64 2], _, rfl, rfl, ⟨[.int .i64 4], _, rfl, rfl, rfl⟩⟩⟩) rfl rfl X7912
  refine lheap rfl (h_buildSlice rfl) hv7947 rfl ?_
  obtain ⟨φ8046, g8047, X8048, H8049⟩ := OSl.freeze X7947 (j := 0) rfl O7947
  refine lcall rfl rfl ca_20 rfl rfl (f20_ok X8048 e36 ([0, 2, 4]) (H7894.mono (((g7896.trans g7900).trans g7908).trans g8047)) (H7898.mono ((g7900.trans g7908).trans g8047)) H8049) rfl (fun e8050 v8051 h8052 hq8053 => ?_)
  cases hq8053
  refine lpure (v := .tuple #[.int .i64 e8050.1, .int .i64 e8050.2]) rfl (p_move rfl) rfl rfl ?_
  refine lpure (v := .int .i64 e8050.1) rfl (p_extract rfl) rfl rfl ?_
  refine lpure (v := .int .i64 e8050.2) rfl (p_extract rfl) rfl rfl ?_
  refine lpure (v := .int .i64 e8050.1) rfl (p_assign rfl) rfl rfl ?_
  refine lpure (v := .int .i64 e8050.2) rfl (p_assign rfl) rfl rfl ?_
  refine lend (nseq (dseq (dreg ?_)))
  refine lread (v := .agg #[.int .i64 e36.Nodes, .slice a43 n43 c43, .slice a45 n45 c45]) rfl (q_load wd_29 rfl) (St.ld X7947 (j := 4) rfl rfl) rfl ?_
  obtain ⟨h8054, b8054, hv8054, X8054, O8054⟩ := OSl.lay (E := (eInt .i64)) (φ := φ7907) (cs := [.int .i64 0, .int .i64 2, .int .i64 4]) (l := [0, 2, 4]) (len := 3) (parts := [(0, .int .i64 0), (1, .int .i64 2), (2, .int .i64 4)]) un_42 ts_3 rfl rfl rfl tz_3 rfl rfl (show RowD (eInt .i64) φ7907 [.int .i64 0, .int .i64 2, .int .i64 4] [0, 2, 4] from ⟨[.int .i64 0], _, rfl, rfl, ⟨[.int .i64 2], _, rfl, rfl, ⟨[.int .i64 4], _, rfl, rfl, rfl⟩⟩⟩) rfl rfl X7947
  refine lheap rfl (h_buildSlice rfl) hv8054 rfl ?_
  obtain ⟨φ8166, g8167, X8168, H8169⟩ := OSl.freeze X8054 (j := 0) rfl O8054
  refine lcall rfl rfl ca_19 rfl rfl (f19_ok X8168 e36 ([0, 2, 4]) 100 (H7894.mono (((g7896.trans g7900).trans g7908).trans g8167)) (H7898.mono ((g7900.trans g7908).trans g8167)) H8169) rfl (fun e8170 v8171 h8172 hq8173 => ?_)
  cases hq8173
  refine lpure (v := .tuple #[.int .i64 e8170.1, .int .i64 e8170.2]) rfl (p_move rfl) rfl rfl ?_
  refine lpure (v := .int .i64 e8170.1) rfl (p_extract rfl) rfl rfl ?_
  refine lpure (v := .int .i64 e8170.2) rfl (p_extract rfl) rfl rfl ?_
  refine lpure (v := .int .i64 e8170.1) rfl (p_assign rfl) rfl rfl ?_
  refine lpure (v := .int .i64 e8170.2) rfl (p_assign rfl) rfl rfl ?_
  refine lend (nseq (dseq (dreg ?_)))
  refine lread (v := .agg #[.int .i64 e36.Nodes, .slice a43 n43 c43, .slice a45 n45 c45]) rfl (q_load wd_29 rfl) (St.ld X8054 (j := 5) rfl rfl) rfl ?_
  obtain ⟨h8174, b8174, hv8174, X8174, O8174⟩ := OSl.lay (E := (eInt .i64)) (φ := φ7907) (cs := [.int .i64 0, .int .i64 2, .int .i64 4]) (l := [0, 2, 4]) (len := 3) (parts := [(0, .int .i64 0), (1, .int .i64 2), (2, .int .i64 4)]) un_42 ts_3 rfl rfl rfl tz_3 rfl rfl (show RowD (eInt .i64) φ7907 [.int .i64 0, .int .i64 2, .int .i64 4] [0, 2, 4] from ⟨[.int .i64 0], _, rfl, rfl, ⟨[.int .i64 2], _, rfl, rfl, ⟨[.int .i64 4], _, rfl, rfl, rfl⟩⟩⟩) rfl rfl X8054
  refine lheap rfl (h_buildSlice rfl) hv8174 rfl ?_
  obtain ⟨φ8430, g8431, X8432, H8433⟩ := OSl.freeze X8174 (j := 0) rfl O8174
  refine lcall rfl rfl ca_23 rfl rfl (f23_ok X8432 e36 ([0, 2, 4]) (H7894.mono (((g7896.trans g7900).trans g7908).trans g8431)) (H7898.mono ((g7900.trans g7908).trans g8431)) H8433) rfl ?_
  rintro e8434 _ h8436 ⟨φ8438, a8441, n8441, c8441, ob8441, blk8441, g8439, X8440, rfl, O8441⟩
  refine lpure (v := .tuple #[.slice a8441 n8441 c8441, .int .i64 e8434.2]) rfl (p_move rfl) rfl rfl ?_
  refine lpure (v := .slice a8441 n8441 c8441) rfl (p_extract rfl) rfl rfl ?_
  refine lpure (v := .int .i64 e8434.2) rfl (p_extract rfl) rfl rfl ?_
  refine lpure (v := .slice a8441 n8441 c8441) rfl (p_assign rfl) rfl rfl ?_
  refine lpure (v := .int .i64 e8434.2) rfl (p_assign rfl) rfl rfl ?_
  refine lend (nseq (dseq (dreg ?_)))
  refine lread (v := .agg #[.int .i64 e36.Nodes, .slice a43 n43 c43, .slice a45 n45 c45]) rfl (q_load wd_29 rfl) (St.ld X8440 (j := 7) rfl rfl) rfl ?_
  obtain ⟨h8443, b8443, hv8443, X8443, O8443⟩ := OSl.lay (E := (eInt .i64)) (φ := φ8438) (cs := [.int .i64 0]) (l := [0]) (len := 1) (parts := [(0, .int .i64 0)]) un_42 ts_3 rfl rfl rfl tz_3 rfl rfl (show RowD (eInt .i64) φ8438 [.int .i64 0] [0] from ⟨[.int .i64 0], _, rfl, rfl, rfl⟩) rfl rfl X8440
  refine lheap rfl (h_buildSlice rfl) hv8443 rfl ?_
  obtain ⟨h8445, b8445, hv8445, X8445, O8445⟩ := OSl.lay (E := (eInt .i64)) (φ := φ8438) (cs := [.int .i64 2, .int .i64 4]) (l := [2, 4]) (len := 2) (parts := [(0, .int .i64 2), (1, .int .i64 4)]) un_42 ts_3 rfl rfl rfl tz_3 rfl rfl (show RowD (eInt .i64) φ8438 [.int .i64 2, .int .i64 4] [2, 4] from ⟨[.int .i64 2], _, rfl, rfl, ⟨[.int .i64 4], _, rfl, rfl, rfl⟩⟩) rfl rfl X8443
  refine lheap rfl (h_buildSlice rfl) hv8445 rfl ?_
  obtain ⟨φ9973, g9974, X9975, H9976⟩ := OSl.freeze X8445 (j := 1) rfl O8443
  obtain ⟨φ9977, g9978, X9979, H9980⟩ := OSl.freeze X9975 (j := 0) rfl (O8445.mono g9974)
  refine lcall rfl rfl ca_22 rfl rfl (f22_ok X9979 e36 ([0]) ([2, 4]) (H7894.mono ((((((g7896.trans g7900).trans g7908).trans g8431).trans g8439).trans g9974).trans g9978)) (H7898.mono (((((g7900.trans g7908).trans g8431).trans g8439).trans g9974).trans g9978)) (H9976.mono g9978) H9980) rfl (fun e9981 v9982 h9983 hq9984 => ?_)
  cases hq9984
  refine lpure (v := .tuple #[.bool e9981.1, .int .i64 e9981.2]) rfl (p_move rfl) rfl rfl ?_
  refine lpure (v := .bool e9981.1) rfl (p_extract rfl) rfl rfl ?_
  refine lpure (v := .int .i64 e9981.2) rfl (p_extract rfl) rfl rfl ?_
  refine lpure (v := .bool e9981.1) rfl (p_assign rfl) rfl rfl ?_
  refine lpure (v := .int .i64 e9981.2) rfl (p_assign rfl) rfl rfl ?_
  refine lend (nseq (dseq (dreg ?_)))
  refine lread (v := .agg #[.int .i64 e36.Nodes, .slice a43 n43 c43, .slice a45 n45 c45]) rfl (q_load wd_29 rfl) (St.ld X8445 (j := 9) rfl rfl) rfl ?_
  obtain ⟨h9985, b9985, hv9985, X9985, O9985⟩ := OSl.lay (E := (eInt .i64)) (φ := φ8438) (cs := [.int .i64 0, .int .i64 2]) (l := [0, 2]) (len := 2) (parts := [(0, .int .i64 0), (1, .int .i64 2)]) un_42 ts_3 rfl rfl rfl tz_3 rfl rfl (show RowD (eInt .i64) φ8438 [.int .i64 0, .int .i64 2] [0, 2] from ⟨[.int .i64 0], _, rfl, rfl, ⟨[.int .i64 2], _, rfl, rfl, rfl⟩⟩) rfl rfl X8445
  refine lheap rfl (h_buildSlice rfl) hv9985 rfl ?_
  obtain ⟨h9987, b9987, hv9987, X9987, O9987⟩ := OSl.lay (E := (eInt .i64)) (φ := φ8438) (cs := [.int .i64 0, .int .i64 2, .int .i64 4]) (l := [0, 2, 4]) (len := 3) (parts := [(0, .int .i64 0), (1, .int .i64 2), (2, .int .i64 4)]) un_42 ts_3 rfl rfl rfl tz_3 rfl rfl (show RowD (eInt .i64) φ8438 [.int .i64 0, .int .i64 2, .int .i64 4] [0, 2, 4] from ⟨[.int .i64 0], _, rfl, rfl, ⟨[.int .i64 2], _, rfl, rfl, ⟨[.int .i64 4], _, rfl, rfl, rfl⟩⟩⟩) rfl rfl X9985
  refine lheap rfl (h_buildSlice rfl) hv9987 rfl ?_
  obtain ⟨φ9989, g9990, X9991, H9992⟩ := OSl.freeze X9987 (j := 1) rfl O9985
  obtain ⟨φ9993, g9994, X9995, H9996⟩ := OSl.freeze X9991 (j := 0) rfl (O9987.mono g9990)
  obtain ⟨h9997, b9997, hv9997, X9997, O9997⟩ := OSl.lay (E := (eSl (eInt .i64))) (φ := φ9993) (cs := [.slice (some ⟨b9985, 0, none⟩) 2 2, .slice (some ⟨b9987, 0, none⟩) 3 3]) (l := [[0, 2], [0, 2, 4]]) (len := 2) (parts := [(0, .slice (some ⟨b9985, 0, none⟩) 2 2), (1, .slice (some ⟨b9987, 0, none⟩) 3 3)]) un_59 ts_42 rfl rfl rfl tz_42 rfl rfl (show RowD (eSl (eInt .i64)) φ9993 [.slice (some ⟨b9985, 0, none⟩) 2 2, .slice (some ⟨b9987, 0, none⟩) 3 3] [[0, 2], [0, 2, 4]] from ⟨[.slice (some ⟨b9985, 0, none⟩) 2 2], _, rfl, ⟨_, _, _, rfl, (H9992.mono g9994)⟩, ⟨[.slice (some ⟨b9987, 0, none⟩) 3 3], _, rfl, ⟨_, _, _, rfl, H9996⟩, rfl⟩⟩) rfl rfl X9995
  refine lheap rfl (h_buildSlice rfl) hv9997 rfl ?_
  obtain ⟨φ18543, g18544, X18545, H18546⟩ := OSl.freeze X9997 (j := 0) rfl O9997
  refine lcall rfl rfl ca_27 rfl rfl (f27_ok X18545 e36 ([[0, 2], [0, 2, 4]]) (H7894.mono (((((((g7896.trans g7900).trans g7908).trans g8431).trans g8439).trans g9990).trans g9994).trans g18544)) (H7898.mono ((((((g7900.trans g7908).trans g8431).trans g8439).trans g9990).trans g9994).trans g18544)) H18546) rfl ?_
  rintro e18547 _ h18549 ⟨φ18551, a18554, n18554, c18554, ob18554, blk18554, g18552, X18553, rfl, O18554⟩
  refine lpure (v := .tuple #[.slice a18554 n18554 c18554, .bool e18547.2.1, .int .i64 e18547.2.2]) rfl (p_move rfl) rfl rfl ?_
  refine lpure (v := .slice a18554 n18554 c18554) rfl (p_extract rfl) rfl rfl ?_
  refine lpure (v := .bool e18547.2.1) rfl (p_extract rfl) rfl rfl ?_
  refine lpure (v := .int .i64 e18547.2.2) rfl (p_extract rfl) rfl rfl ?_
  refine lpure (v := .slice a18554 n18554 c18554) rfl (p_assign rfl) rfl rfl ?_
  refine lpure (v := .bool e18547.2.1) rfl (p_assign rfl) rfl rfl ?_
  refine lpure (v := .int .i64 e18547.2.2) rfl (p_assign rfl) rfl rfl ?_
  refine lend (nseq (dseq (dreg ?_)))
  refine lpure (v := .int .i64 e7903.2) rfl (p_move rfl) rfl rfl ?_
  refine lpure (v := .bool (decide (e7903.2 = 0))) rfl (p_eq rfl) rfl rfl ?_
  refine lpure (v := .bool (decide (e7903.2 = 0))) rfl (p_move rfl) rfl rfl ?_
  refine lsh (τ := Bool) (σ := Unit) (fun s18557 (_ : Unit) => [(1, .pointer (some ⟨b47, 0, none⟩)), (2, .slice a7910 n7910 c7910), (4, .int .i64 e7943.1), (5, .int .i64 e7943.2.1), (7, .int .i64 e8050.1), (8, .int .i64 e8050.2), (9, .int .i64 e8170.1), (10, .int .i64 e8170.2), (11, .slice a8441 n8441 c8441), (12, .int .i64 e8434.2), (13, .bool e9981.1), (14, .int .i64 e9981.2), (15, .slice a18554 n18554 c18554), (16, .bool e18547.2.1), (17, .int .i64 e18547.2.2), (72, .bool s18557)]) (fun s18557 (_ : Unit) hh => St φ18551 h.n hh ([(ob18554, blk18554), (none, .dead), (none, .dead), (none, .dead), (some b8445, (.cells [.int .i64 2, .int .i64 4] 3 .exact)), (some b8443, (.cells [.int .i64 0] 3 .exact)), (ob8441, blk8441), (none, .dead), (some b8054, (.cells [.int .i64 0, .int .i64 2, .int .i64 4] 3 .exact)), (some b7947, (.cells [.int .i64 0, .int .i64 2, .int .i64 4] 3 .exact)), (some b7912, (.cells [.int .i64 2, .int .i64 4] 3 .exact)), (ob7910, blk7910), (none, .dead), (some b47, .cells [.int .i64 e36.Nodes, .slice a43 n43 c43, .slice a45 n45 c45] 29 .exact), (none, .dead), (none, .dead)])) 3 ?_ ?_
  · rintro s18557 _ t0 h18559 X18558
    refine lpure (v := .bool s18557) rfl (p_move rfl) rfl rfl ?_
    refine lsh (τ := Bool) (σ := Unit) (fun s18561 (_ : Unit) => [(1, .pointer (some ⟨b47, 0, none⟩)), (2, .slice a7910 n7910 c7910), (4, .int .i64 e7943.1), (5, .int .i64 e7943.2.1), (7, .int .i64 e8050.1), (9, .int .i64 e8170.1), (10, .int .i64 e8170.2), (11, .slice a8441 n8441 c8441), (12, .int .i64 e8434.2), (13, .bool e9981.1), (14, .int .i64 e9981.2), (15, .slice a18554 n18554 c18554), (16, .bool e18547.2.1), (17, .int .i64 e18547.2.2), (76, .bool s18561)]) (fun s18561 (_ : Unit) hh => St φ18551 h.n hh ([(ob18554, blk18554), (none, .dead), (none, .dead), (none, .dead), (some b8445, (.cells [.int .i64 2, .int .i64 4] 3 .exact)), (some b8443, (.cells [.int .i64 0] 3 .exact)), (ob8441, blk8441), (none, .dead), (some b8054, (.cells [.int .i64 0, .int .i64 2, .int .i64 4] 3 .exact)), (some b7947, (.cells [.int .i64 0, .int .i64 2, .int .i64 4] 3 .exact)), (some b7912, (.cells [.int .i64 2, .int .i64 4] 3 .exact)), (ob7910, blk7910), (none, .dead), (some b47, .cells [.int .i64 e36.Nodes, .slice a43 n43 c43, .slice a45 n45 c45] 29 .exact), (none, .dead), (none, .dead)])) 3 ?_ ?_
    · rintro s18561 _ t0 h18563 X18562
      refine lpure (v := .bool s18561) rfl (p_move rfl) rfl rfl ?_
      refine lsh (τ := Bool) (σ := Unit) (fun s18565 (_ : Unit) => [(1, .pointer (some ⟨b47, 0, none⟩)), (2, .slice a7910 n7910 c7910), (4, .int .i64 e7943.1), (5, .int .i64 e7943.2.1), (7, .int .i64 e8050.1), (9, .int .i64 e8170.1), (11, .slice a8441 n8441 c8441), (12, .int .i64 e8434.2), (13, .bool e9981.1), (14, .int .i64 e9981.2), (15, .slice a18554 n18554 c18554), (16, .bool e18547.2.1), (17, .int .i64 e18547.2.2), (80, .bool s18565)]) (fun s18565 (_ : Unit) hh => St φ18551 h.n hh ([(ob18554, blk18554), (none, .dead), (none, .dead), (none, .dead), (some b8445, (.cells [.int .i64 2, .int .i64 4] 3 .exact)), (some b8443, (.cells [.int .i64 0] 3 .exact)), (ob8441, blk8441), (none, .dead), (some b8054, (.cells [.int .i64 0, .int .i64 2, .int .i64 4] 3 .exact)), (some b7947, (.cells [.int .i64 0, .int .i64 2, .int .i64 4] 3 .exact)), (some b7912, (.cells [.int .i64 2, .int .i64 4] 3 .exact)), (ob7910, blk7910), (none, .dead), (some b47, .cells [.int .i64 e36.Nodes, .slice a43 n43 c43, .slice a45 n45 c45] 29 .exact), (none, .dead), (none, .dead)])) 3 ?_ ?_
      · rintro s18565 _ t0 h18567 X18566
        refine lpure (v := .bool s18565) rfl (p_move rfl) rfl rfl ?_
        refine lsh (τ := Bool) (σ := Unit) (fun s18569 (_ : Unit) => [(1, .pointer (some ⟨b47, 0, none⟩)), (2, .slice a7910 n7910 c7910), (4, .int .i64 e7943.1), (5, .int .i64 e7943.2.1), (7, .int .i64 e8050.1), (9, .int .i64 e8170.1), (11, .slice a8441 n8441 c8441), (13, .bool e9981.1), (14, .int .i64 e9981.2), (15, .slice a18554 n18554 c18554), (16, .bool e18547.2.1), (17, .int .i64 e18547.2.2), (84, .bool s18569)]) (fun s18569 (_ : Unit) hh => St φ18551 h.n hh ([(ob18554, blk18554), (none, .dead), (none, .dead), (none, .dead), (some b8445, (.cells [.int .i64 2, .int .i64 4] 3 .exact)), (some b8443, (.cells [.int .i64 0] 3 .exact)), (ob8441, blk8441), (none, .dead), (some b8054, (.cells [.int .i64 0, .int .i64 2, .int .i64 4] 3 .exact)), (some b7947, (.cells [.int .i64 0, .int .i64 2, .int .i64 4] 3 .exact)), (some b7912, (.cells [.int .i64 2, .int .i64 4] 3 .exact)), (ob7910, blk7910), (none, .dead), (some b47, .cells [.int .i64 e36.Nodes, .slice a43 n43 c43, .slice a45 n45 c45] 29 .exact), (none, .dead), (none, .dead)])) 3 ?_ ?_
        · rintro s18569 _ t0 h18571 X18570
          refine lpure (v := .bool s18569) rfl (p_move rfl) rfl rfl ?_
          refine lsh (τ := Bool) (σ := Unit) (fun s18573 (_ : Unit) => [(1, .pointer (some ⟨b47, 0, none⟩)), (2, .slice a7910 n7910 c7910), (4, .int .i64 e7943.1), (5, .int .i64 e7943.2.1), (7, .int .i64 e8050.1), (9, .int .i64 e8170.1), (11, .slice a8441 n8441 c8441), (13, .bool e9981.1), (15, .slice a18554 n18554 c18554), (16, .bool e18547.2.1), (17, .int .i64 e18547.2.2), (88, .bool s18573)]) (fun s18573 (_ : Unit) hh => St φ18551 h.n hh ([(ob18554, blk18554), (none, .dead), (none, .dead), (none, .dead), (some b8445, (.cells [.int .i64 2, .int .i64 4] 3 .exact)), (some b8443, (.cells [.int .i64 0] 3 .exact)), (ob8441, blk8441), (none, .dead), (some b8054, (.cells [.int .i64 0, .int .i64 2, .int .i64 4] 3 .exact)), (some b7947, (.cells [.int .i64 0, .int .i64 2, .int .i64 4] 3 .exact)), (some b7912, (.cells [.int .i64 2, .int .i64 4] 3 .exact)), (ob7910, blk7910), (none, .dead), (some b47, .cells [.int .i64 e36.Nodes, .slice a43 n43 c43, .slice a45 n45 c45] 29 .exact), (none, .dead), (none, .dead)])) 3 ?_ ?_
          · rintro s18573 _ t0 h18575 X18574
            refine lpure (v := .bool s18573) rfl (p_move rfl) rfl rfl ?_
            refine lsh (τ := Bool) (σ := Unit) (fun s18577 (_ : Unit) => [(1, .pointer (some ⟨b47, 0, none⟩)), (2, .slice a7910 n7910 c7910), (4, .int .i64 e7943.1), (5, .int .i64 e7943.2.1), (7, .int .i64 e8050.1), (9, .int .i64 e8170.1), (11, .slice a8441 n8441 c8441), (13, .bool e9981.1), (15, .slice a18554 n18554 c18554), (16, .bool e18547.2.1), (92, .bool s18577)]) (fun s18577 (_ : Unit) hh => St φ18551 h.n hh ([(ob18554, blk18554), (none, .dead), (none, .dead), (none, .dead), (some b8445, (.cells [.int .i64 2, .int .i64 4] 3 .exact)), (some b8443, (.cells [.int .i64 0] 3 .exact)), (ob8441, blk8441), (none, .dead), (some b8054, (.cells [.int .i64 0, .int .i64 2, .int .i64 4] 3 .exact)), (some b7947, (.cells [.int .i64 0, .int .i64 2, .int .i64 4] 3 .exact)), (some b7912, (.cells [.int .i64 2, .int .i64 4] 3 .exact)), (ob7910, blk7910), (none, .dead), (some b47, .cells [.int .i64 e36.Nodes, .slice a43 n43 c43, .slice a45 n45 c45] 29 .exact), (none, .dead), (none, .dead)])) 3 ?_ ?_
            · rintro s18577 _ t0 h18579 X18578
              refine lpure (v := .bool s18577) rfl (p_assign rfl) rfl rfl ?_
              refine lend (nseq (dseq (dreg ?_)))
              refine lpure (v := .bool s18577) rfl (p_move rfl) rfl rfl ?_
              refine lpure (v := .bool s18577) rfl (p_move rfl) rfl rfl ?_
              refine ljoinM (τ := Bool) (σ := Unit) (fun s18647 (_ : Unit) => [(1, .pointer (some ⟨b47, 0, none⟩)), (4, .int .i64 e7943.1), (5, .int .i64 e7943.2.1), (7, .int .i64 e8050.1), (9, .int .i64 e8170.1), (11, .slice a8441 n8441 c8441), (13, .bool e9981.1), (15, .slice a18554 n18554 c18554), (16, .bool e18547.2.1), (98, .bool s18647)]) (fun s18647 (_ : Unit) hh => St φ18551 h.n hh ([(ob18554, blk18554), (none, .dead), (none, .dead), (none, .dead), (some b8445, (.cells [.int .i64 2, .int .i64 4] 3 .exact)), (some b8443, (.cells [.int .i64 0] 3 .exact)), (ob8441, blk8441), (none, .dead), (some b8054, (.cells [.int .i64 0, .int .i64 2, .int .i64 4] 3 .exact)), (some b7947, (.cells [.int .i64 0, .int .i64 2, .int .i64 4] 3 .exact)), (some b7912, (.cells [.int .i64 2, .int .i64 4] 3 .exact)), (ob7910, blk7910), (none, .dead), (some b47, .cells [.int .i64 e36.Nodes, .slice a43 n43 c43, .slice a45 n45 c45] 29 .exact), (none, .dead), (none, .dead)])) 4 ?_ ?_
              · rintro s18647 _ t0 h18649 X18648
                refine lpure (v := .bool s18647) rfl (p_move rfl) rfl rfl ?_
                refine lsh (τ := Bool) (σ := Unit) (fun s18651 (_ : Unit) => [(1, .pointer (some ⟨b47, 0, none⟩)), (5, .int .i64 e7943.2.1), (7, .int .i64 e8050.1), (9, .int .i64 e8170.1), (11, .slice a8441 n8441 c8441), (13, .bool e9981.1), (15, .slice a18554 n18554 c18554), (16, .bool e18547.2.1), (102, .bool s18651)]) (fun s18651 (_ : Unit) hh => St φ18551 h.n hh ([(ob18554, blk18554), (none, .dead), (none, .dead), (none, .dead), (some b8445, (.cells [.int .i64 2, .int .i64 4] 3 .exact)), (some b8443, (.cells [.int .i64 0] 3 .exact)), (ob8441, blk8441), (none, .dead), (some b8054, (.cells [.int .i64 0, .int .i64 2, .int .i64 4] 3 .exact)), (some b7947, (.cells [.int .i64 0, .int .i64 2, .int .i64 4] 3 .exact)), (some b7912, (.cells [.int .i64 2, .int .i64 4] 3 .exact)), (ob7910, blk7910), (none, .dead), (some b47, .cells [.int .i64 e36.Nodes, .slice a43 n43 c43, .slice a45 n45 c45] 29 .exact), (none, .dead), (none, .dead)])) 3 ?_ ?_
                · rintro s18651 _ t0 h18653 X18652
                  refine lpure (v := .bool s18651) rfl (p_move rfl) rfl rfl ?_
                  refine lsh (τ := Bool) (σ := Unit) (fun s18655 (_ : Unit) => [(1, .pointer (some ⟨b47, 0, none⟩)), (7, .int .i64 e8050.1), (9, .int .i64 e8170.1), (11, .slice a8441 n8441 c8441), (13, .bool e9981.1), (15, .slice a18554 n18554 c18554), (16, .bool e18547.2.1), (106, .bool s18655)]) (fun s18655 (_ : Unit) hh => St φ18551 h.n hh ([(ob18554, blk18554), (none, .dead), (none, .dead), (none, .dead), (some b8445, (.cells [.int .i64 2, .int .i64 4] 3 .exact)), (some b8443, (.cells [.int .i64 0] 3 .exact)), (ob8441, blk8441), (none, .dead), (some b8054, (.cells [.int .i64 0, .int .i64 2, .int .i64 4] 3 .exact)), (some b7947, (.cells [.int .i64 0, .int .i64 2, .int .i64 4] 3 .exact)), (some b7912, (.cells [.int .i64 2, .int .i64 4] 3 .exact)), (ob7910, blk7910), (none, .dead), (some b47, .cells [.int .i64 e36.Nodes, .slice a43 n43 c43, .slice a45 n45 c45] 29 .exact), (none, .dead), (none, .dead)])) 3 ?_ ?_
                  · rintro s18655 _ t0 h18657 X18656
                    refine lpure (v := .bool s18655) rfl (p_move rfl) rfl rfl ?_
                    refine lsh (τ := Bool) (σ := Unit) (fun s18659 (_ : Unit) => [(1, .pointer (some ⟨b47, 0, none⟩)), (9, .int .i64 e8170.1), (11, .slice a8441 n8441 c8441), (13, .bool e9981.1), (15, .slice a18554 n18554 c18554), (16, .bool e18547.2.1), (110, .bool s18659)]) (fun s18659 (_ : Unit) hh => St φ18551 h.n hh ([(ob18554, blk18554), (none, .dead), (none, .dead), (none, .dead), (some b8445, (.cells [.int .i64 2, .int .i64 4] 3 .exact)), (some b8443, (.cells [.int .i64 0] 3 .exact)), (ob8441, blk8441), (none, .dead), (some b8054, (.cells [.int .i64 0, .int .i64 2, .int .i64 4] 3 .exact)), (some b7947, (.cells [.int .i64 0, .int .i64 2, .int .i64 4] 3 .exact)), (some b7912, (.cells [.int .i64 2, .int .i64 4] 3 .exact)), (ob7910, blk7910), (none, .dead), (some b47, .cells [.int .i64 e36.Nodes, .slice a43 n43 c43, .slice a45 n45 c45] 29 .exact), (none, .dead), (none, .dead)])) 3 ?_ ?_
                    · rintro s18659 _ t0 h18661 X18660
                      refine lpure (v := .bool s18659) rfl (p_move rfl) rfl rfl ?_
                      refine lsh (τ := Bool) (σ := Unit) (fun s18663 (_ : Unit) => [(1, .pointer (some ⟨b47, 0, none⟩)), (11, .slice a8441 n8441 c8441), (13, .bool e9981.1), (15, .slice a18554 n18554 c18554), (16, .bool e18547.2.1), (114, .bool s18663)]) (fun s18663 (_ : Unit) hh => St φ18551 h.n hh ([(ob18554, blk18554), (none, .dead), (none, .dead), (none, .dead), (some b8445, (.cells [.int .i64 2, .int .i64 4] 3 .exact)), (some b8443, (.cells [.int .i64 0] 3 .exact)), (ob8441, blk8441), (none, .dead), (some b8054, (.cells [.int .i64 0, .int .i64 2, .int .i64 4] 3 .exact)), (some b7947, (.cells [.int .i64 0, .int .i64 2, .int .i64 4] 3 .exact)), (some b7912, (.cells [.int .i64 2, .int .i64 4] 3 .exact)), (ob7910, blk7910), (none, .dead), (some b47, .cells [.int .i64 e36.Nodes, .slice a43 n43 c43, .slice a45 n45 c45] 29 .exact), (none, .dead), (none, .dead)])) 3 ?_ ?_
                      · rintro s18663 _ t0 h18665 X18664
                        refine lpure (v := .bool s18663) rfl (p_move rfl) rfl rfl ?_
                        refine ljoinM (τ := Bool) (σ := Unit) (fun s18733 (_ : Unit) => [(1, .pointer (some ⟨b47, 0, none⟩)), (13, .bool e9981.1), (15, .slice a18554 n18554 c18554), (16, .bool e18547.2.1), (119, .bool s18733)]) (fun s18733 (_ : Unit) hh => St φ18551 h.n hh ([(ob18554, blk18554), (none, .dead), (none, .dead), (none, .dead), (some b8445, (.cells [.int .i64 2, .int .i64 4] 3 .exact)), (some b8443, (.cells [.int .i64 0] 3 .exact)), (ob8441, blk8441), (none, .dead), (some b8054, (.cells [.int .i64 0, .int .i64 2, .int .i64 4] 3 .exact)), (some b7947, (.cells [.int .i64 0, .int .i64 2, .int .i64 4] 3 .exact)), (some b7912, (.cells [.int .i64 2, .int .i64 4] 3 .exact)), (ob7910, blk7910), (none, .dead), (some b47, .cells [.int .i64 e36.Nodes, .slice a43 n43 c43, .slice a45 n45 c45] 29 .exact), (none, .dead), (none, .dead)])) 4 ?_ ?_
                        · rintro s18733 _ t0 h18735 X18734
                          refine lpure (v := .bool s18733) rfl (p_move rfl) rfl rfl ?_
                          refine lsh (τ := Bool) (σ := Unit) (fun s18737 (_ : Unit) => [(1, .pointer (some ⟨b47, 0, none⟩)), (15, .slice a18554 n18554 c18554), (16, .bool e18547.2.1), (122, .bool s18737)]) (fun s18737 (_ : Unit) hh => St φ18551 h.n hh ([(ob18554, blk18554), (none, .dead), (none, .dead), (none, .dead), (some b8445, (.cells [.int .i64 2, .int .i64 4] 3 .exact)), (some b8443, (.cells [.int .i64 0] 3 .exact)), (ob8441, blk8441), (none, .dead), (some b8054, (.cells [.int .i64 0, .int .i64 2, .int .i64 4] 3 .exact)), (some b7947, (.cells [.int .i64 0, .int .i64 2, .int .i64 4] 3 .exact)), (some b7912, (.cells [.int .i64 2, .int .i64 4] 3 .exact)), (ob7910, blk7910), (none, .dead), (some b47, .cells [.int .i64 e36.Nodes, .slice a43 n43 c43, .slice a45 n45 c45] 29 .exact), (none, .dead), (none, .dead)])) 2 ?_ ?_
                          · rintro s18737 _ t0 h18739 X18738
                            refine lpure (v := .bool s18737) rfl (p_move rfl) rfl rfl ?_
                            refine ljoinM (τ := Bool) (σ := Unit) (fun s18756 (_ : Unit) => [(1, .pointer (some ⟨b47, 0, none⟩)), (16, .bool e18547.2.1), (127, .bool s18756)]) (fun s18756 (_ : Unit) hh => St φ18551 h.n hh ([(ob18554, blk18554), (none, .dead), (none, .dead), (none, .dead), (some b8445, (.cells [.int .i64 2, .int .i64 4] 3 .exact)), (some b8443, (.cells [.int .i64 0] 3 .exact)), (ob8441, blk8441), (none, .dead), (some b8054, (.cells [.int .i64 0, .int .i64 2, .int .i64 4] 3 .exact)), (some b7947, (.cells [.int .i64 0, .int .i64 2, .int .i64 4] 3 .exact)), (some b7912, (.cells [.int .i64 2, .int .i64 4] 3 .exact)), (ob7910, blk7910), (none, .dead), (some b47, .cells [.int .i64 e36.Nodes, .slice a43 n43 c43, .slice a45 n45 c45] 29 .exact), (none, .dead), (none, .dead)])) 4 ?_ ?_
                            · rintro s18756 _ t0 h18758 X18757
                              refine lpure (v := .bool s18756) rfl (p_move rfl) rfl rfl ?_
                              refine lsh (τ := Bool) (σ := Unit) (fun s18760 (_ : Unit) => [(1, .pointer (some ⟨b47, 0, none⟩)), (130, .bool s18760)]) (fun s18760 (_ : Unit) hh => St φ18551 h.n hh ([(ob18554, blk18554), (none, .dead), (none, .dead), (none, .dead), (some b8445, (.cells [.int .i64 2, .int .i64 4] 3 .exact)), (some b8443, (.cells [.int .i64 0] 3 .exact)), (ob8441, blk8441), (none, .dead), (some b8054, (.cells [.int .i64 0, .int .i64 2, .int .i64 4] 3 .exact)), (some b7947, (.cells [.int .i64 0, .int .i64 2, .int .i64 4] 3 .exact)), (some b7912, (.cells [.int .i64 2, .int .i64 4] 3 .exact)), (ob7910, blk7910), (none, .dead), (some b47, .cells [.int .i64 e36.Nodes, .slice a43 n43 c43, .slice a45 n45 c45] 29 .exact), (none, .dead), (none, .dead)])) 2 ?_ ?_
                              · rintro s18760 _ t0 h18762 X18761
                                refine lpure (v := .bool s18760) rfl (p_move rfl) rfl rfl ?_
                                refine ljoinM (τ := Bool) (σ := Unit) (fun s18775 (_ : Unit) => [(136, .bool s18775)]) (fun s18775 (_ : Unit) hh => St φ18551 h.n hh ([(ob18554, blk18554), (none, .dead), (none, .dead), (none, .dead), (some b8445, (.cells [.int .i64 2, .int .i64 4] 3 .exact)), (some b8443, (.cells [.int .i64 0] 3 .exact)), (ob8441, blk8441), (none, .dead), (some b8054, (.cells [.int .i64 0, .int .i64 2, .int .i64 4] 3 .exact)), (some b7947, (.cells [.int .i64 0, .int .i64 2, .int .i64 4] 3 .exact)), (some b7912, (.cells [.int .i64 2, .int .i64 4] 3 .exact)), (ob7910, blk7910), (none, .dead), (some b47, .cells [.int .i64 e36.Nodes, .slice a43 n43 c43, .slice a45 n45 c45] 29 .exact), (none, .dead), (none, .dead)])) 5 ?_ ?_
                                · rintro s18775 _ t0 h18777 X18776
                                  refine lpure (v := .bool s18775) rfl (p_assign rfl) rfl rfl ?_
                                  refine lend (nseq (dret ?_))
                                  exact kcut_r (res_1 resT) X18776 rfl rfl
                                intro j18778 J18779
                                refine lif (i := 131) (show _ = Value.bool s18760 from rfl) (fun k18780 => ?_) (fun k18780 => ?_)
                                · refine lread (v := .agg #[.int .i64 e36.Nodes, .slice a43 n43 c43, .slice a45 n45 c45]) rfl (q_load wd_29 rfl) (St.ld X18761 (j := 13) rfl rfl) rfl ?_
                                  obtain ⟨h18781, b18781, hv18781, X18781, O18781⟩ := OSl.lay (E := (eInt .i64)) (φ := φ18551) (cs := [.int .i64 0, .int .i64 4]) (l := [0, 4]) (len := 2) (parts := [(0, .int .i64 0), (1, .int .i64 4)]) un_42 ts_3 rfl rfl rfl tz_3 rfl rfl (show RowD (eInt .i64) φ18551 [.int .i64 0, .int .i64 4] [0, 4] from ⟨[.int .i64 0], _, rfl, rfl, ⟨[.int .i64 4], _, rfl, rfl, rfl⟩⟩) rfl rfl X18761
                                  refine lheap rfl (h_buildSlice rfl) hv18781 rfl ?_
                                  obtain ⟨φ18783, g18784, X18785, H18786⟩ := OSl.freeze X18781 (j := 0) rfl O18781
                                  refine lcall rfl rfl ca_18 rfl rfl (f18_ok X18785 e36 ([0, 4]) (H7894.mono (((((((((g7896.trans g7900).trans g7908).trans g8431).trans g8439).trans g9990).trans g9994).trans g18544).trans g18552).trans g18784)) (H7898.mono ((((((((g7900.trans g7908).trans g8431).trans g8439).trans g9990).trans g9994).trans g18544).trans g18552).trans g18784)) H18786) rfl (fun e18787 v18788 h18789 hq18790 => ?_)
                                  cases hq18790
                                  refine lpure (v := .bool (decide (e18787 = 310))) rfl (p_eq rfl) rfl rfl ?_
                                  refine lpure (v := .bool (decide (e18787 = 310))) rfl (p_pick rfl) rfl rfl ?_
                                  exact ljmpM J18779 (decide (e18787 = 310)) () (sub_cons rfl sub_nil) (St.pick X18781 (.skip _ (.keep _ (.none _ (.none _ (.none _ (.skip _ (.skip _ (.skip _ (.keep _ (.keep _ (.keep _ (.none _ (.skip _ (.keep _ (.keep _ (.keep _ (.keep _ (.none _ (.skip _ (.keep _ (.none _ (.none _ (.nil _))))))))))))))))))))))))
                                refine lskip rfl rfl ?_
                                refine lskip rfl rfl ?_
                                refine lskip rfl rfl ?_
                                refine lskip rfl rfl ?_
                                refine lpure (v := .bool false) rfl (p_pick rfl) rfl rfl ?_
                                exact ljmpM J18779 false () (sub_cons rfl sub_nil) (St.pick X18761 (.keep _ (.none _ (.none _ (.none _ (.skip _ (.skip _ (.skip _ (.keep _ (.keep _ (.keep _ (.none _ (.skip _ (.keep _ (.keep _ (.keep _ (.keep _ (.none _ (.skip _ (.keep _ (.none _ (.none _ (.nil _)))))))))))))))))))))))
                              intro j18791 J18792
                              refine lcase (i := 128) (show _ = Value.bool s18756 from rfl) (fun k18793 => ?_) (fun k18793 => ?_)
                              · refine lpure (v := .bool e18547.2.1) rfl (p_move rfl) rfl rfl ?_
                                refine lpure (v := .bool e18547.2.1) rfl (p_pick rfl) rfl rfl ?_
                                refine Sim.of_eq (congrArg j18791 (show (s18756 && e18547.2.1) = e18547.2.1 from by rw [k18793] <;> rfl)) ?_
                                exact ljmpM J18792 e18547.2.1 () (sub_cons rfl (sub_cons rfl sub_nil)) (St.pick X18757 (.keep _ (.none _ (.none _ (.none _ (.skip _ (.skip _ (.skip _ (.keep _ (.keep _ (.keep _ (.none _ (.skip _ (.keep _ (.keep _ (.keep _ (.keep _ (.none _ (.skip _ (.keep _ (.none _ (.none _ (.nil _)))))))))))))))))))))))
                              refine lskip rfl rfl ?_
                              refine lpure (v := .bool false) rfl (p_pick rfl) rfl rfl ?_
                              refine Sim.of_eq (congrArg j18791 (show (s18756 && e18547.2.1) = false from by rw [k18793] <;> rfl)) ?_
                              exact ljmpM J18792 false () (sub_cons rfl (sub_cons rfl sub_nil)) (St.pick X18757 (.keep _ (.none _ (.none _ (.none _ (.skip _ (.skip _ (.skip _ (.keep _ (.keep _ (.keep _ (.none _ (.skip _ (.keep _ (.keep _ (.keep _ (.keep _ (.none _ (.skip _ (.keep _ (.none _ (.none _ (.nil _)))))))))))))))))))))))
                            intro j18794 J18795
                            refine lif (i := 123) (show _ = Value.bool s18737 from rfl) (fun k18796 => ?_) (fun k18796 => ?_)
                            · refine lpure (v := .slice a18554 n18554 c18554) rfl (p_move rfl) rfl rfl ?_
                              obtain ⟨h18797, b18797, hv18797, X18797, O18797⟩ := OSl.lay (E := (eInt .i64)) (φ := φ18551) (cs := [.int .i64 0, .int .i64 2, .int .i64 4]) (l := [0, 2, 4]) (len := 3) (parts := [(0, .int .i64 0), (1, .int .i64 2), (2, .int .i64 4)]) un_33 ts_3 rfl rfl rfl tz_3 rfl rfl (show RowD (eInt .i64) φ18551 [.int .i64 0, .int .i64 2, .int .i64 4] [0, 2, 4] from ⟨[.int .i64 0], _, rfl, rfl, ⟨[.int .i64 2], _, rfl, rfl, ⟨[.int .i64 4], _, rfl, rfl, rfl⟩⟩⟩) rfl rfl X18738
                              refine lheap rfl (h_buildSlice rfl) hv18797 rfl ?_
                              obtain ⟨φ18799, g18800, X18801, H18802⟩ := OSl.freeze X18797 (j := 1) rfl O18554
                              obtain ⟨φ18803, g18804, X18805, H18806⟩ := OSl.freeze X18801 (j := 0) rfl (O18797.mono g18800)
                              refine lcall rfl rfl ca_28 rfl rfl (f28_ok X18805 (e18547.1) ([0, 2, 4]) (H18802.mono g18804) H18806) rfl (fun e18807 v18808 h18809 hq18810 => ?_)
                              cases hq18810
                              refine lpure (v := .bool e18807) rfl (p_pick rfl) rfl rfl ?_
                              exact ljmpM J18795 e18807 () (sub_cons rfl (sub_cons rfl (sub_cons rfl sub_nil))) (St.pick X18797 (.skip _ (.keep _ (.none _ (.none _ (.none _ (.skip _ (.skip _ (.skip _ (.keep _ (.keep _ (.keep _ (.none _ (.skip _ (.keep _ (.keep _ (.keep _ (.keep _ (.none _ (.skip _ (.keep _ (.none _ (.none _ (.nil _))))))))))))))))))))))))
                            refine lskip rfl rfl ?_
                            refine lskip rfl rfl ?_
                            refine lskip rfl rfl ?_
                            refine lpure (v := .bool false) rfl (p_pick rfl) rfl rfl ?_
                            exact ljmpM J18795 false () (sub_cons rfl (sub_cons rfl (sub_cons rfl sub_nil))) (St.pick X18738 (.keep _ (.none _ (.none _ (.none _ (.skip _ (.skip _ (.skip _ (.keep _ (.keep _ (.keep _ (.none _ (.skip _ (.keep _ (.keep _ (.keep _ (.keep _ (.none _ (.skip _ (.keep _ (.none _ (.none _ (.nil _)))))))))))))))))))))))
                          intro j18811 J18812
                          refine lcase (i := 120) (show _ = Value.bool s18733 from rfl) (fun k18813 => ?_) (fun k18813 => ?_)
                          · refine lpure (v := .bool e9981.1) rfl (p_move rfl) rfl rfl ?_
                            refine lpure (v := .bool e9981.1) rfl (p_pick rfl) rfl rfl ?_
                            refine Sim.of_eq (congrArg j18811 (show (s18733 && e9981.1) = e9981.1 from by rw [k18813] <;> rfl)) ?_
                            exact ljmpM J18812 e9981.1 () (sub_cons rfl (sub_cons rfl (sub_cons rfl (sub_cons rfl sub_nil)))) (St.pick X18734 (.keep _ (.none _ (.none _ (.none _ (.skip _ (.skip _ (.skip _ (.keep _ (.keep _ (.keep _ (.none _ (.skip _ (.keep _ (.keep _ (.keep _ (.keep _ (.none _ (.skip _ (.keep _ (.none _ (.none _ (.nil _)))))))))))))))))))))))
                          refine lskip rfl rfl ?_
                          refine lpure (v := .bool false) rfl (p_pick rfl) rfl rfl ?_
                          refine Sim.of_eq (congrArg j18811 (show (s18733 && e9981.1) = false from by rw [k18813] <;> rfl)) ?_
                          exact ljmpM J18812 false () (sub_cons rfl (sub_cons rfl (sub_cons rfl (sub_cons rfl sub_nil)))) (St.pick X18734 (.keep _ (.none _ (.none _ (.none _ (.skip _ (.skip _ (.skip _ (.keep _ (.keep _ (.keep _ (.none _ (.skip _ (.keep _ (.keep _ (.keep _ (.keep _ (.none _ (.skip _ (.keep _ (.none _ (.none _ (.nil _)))))))))))))))))))))))
                        intro j18814 J18815
                        refine lif (i := 115) (show _ = Value.bool s18663 from rfl) (fun k18816 => ?_) (fun k18816 => ?_)
                        · refine lpure (v := .slice a8441 n8441 c8441) rfl (p_move rfl) rfl rfl ?_
                          obtain ⟨h18817, b18817, hv18817, X18817, O18817⟩ := OSl.lay (E := (eInt .i64)) (φ := φ18551) (cs := [.int .i64 5, .int .i64 3, .int .i64 1]) (l := [5, 3, 1]) (len := 3) (parts := [(0, .int .i64 5), (1, .int .i64 3), (2, .int .i64 1)]) un_42 ts_3 rfl rfl rfl tz_3 rfl rfl (show RowD (eInt .i64) φ18551 [.int .i64 5, .int .i64 3, .int .i64 1] [5, 3, 1] from ⟨[.int .i64 5], _, rfl, rfl, ⟨[.int .i64 3], _, rfl, rfl, ⟨[.int .i64 1], _, rfl, rfl, rfl⟩⟩⟩) rfl rfl X18664
                          refine lheap rfl (h_buildSlice rfl) hv18817 rfl ?_
                          obtain ⟨φ18819, g18820, X18821, H18822⟩ := OSl.freeze X18817 (j := 7) rfl (O8441.mono (((g9990.trans g9994).trans g18544).trans g18552))
                          obtain ⟨φ18823, g18824, X18825, H18826⟩ := OSl.freeze X18821 (j := 0) rfl (O18817.mono g18820)
                          refine lcall rfl rfl ca_25 rfl rfl (f25_ok X18825 (e8434.1) ([5, 3, 1]) (H18822.mono g18824) H18826) rfl (fun e18827 v18828 h18829 hq18830 => ?_)
                          cases hq18830
                          refine lpure (v := .bool e18827) rfl (p_pick rfl) rfl rfl ?_
                          exact ljmpM J18815 e18827 () (sub_cons rfl (sub_cons rfl (sub_cons rfl (sub_cons rfl (sub_cons rfl sub_nil))))) (St.pick X18817 (.skip _ (.keep _ (.none _ (.none _ (.none _ (.skip _ (.skip _ (.skip _ (.keep _ (.keep _ (.keep _ (.none _ (.skip _ (.keep _ (.keep _ (.keep _ (.keep _ (.none _ (.skip _ (.keep _ (.none _ (.none _ (.nil _))))))))))))))))))))))))
                        refine lskip rfl rfl ?_
                        refine lskip rfl rfl ?_
                        refine lskip rfl rfl ?_
                        refine lpure (v := .bool false) rfl (p_pick rfl) rfl rfl ?_
                        exact ljmpM J18815 false () (sub_cons rfl (sub_cons rfl (sub_cons rfl (sub_cons rfl (sub_cons rfl sub_nil))))) (St.pick X18664 (.keep _ (.none _ (.none _ (.none _ (.skip _ (.skip _ (.skip _ (.keep _ (.keep _ (.keep _ (.none _ (.skip _ (.keep _ (.keep _ (.keep _ (.keep _ (.none _ (.skip _ (.keep _ (.none _ (.none _ (.nil _)))))))))))))))))))))))
                      intro j18831 J18832
                      refine lcase (i := 111) (show _ = Value.bool s18659 from rfl) (fun k18833 => ?_) (fun k18833 => ?_)
                      · refine lpure (v := .int .i64 e8170.1) rfl (p_move rfl) rfl rfl ?_
                        refine lpure (v := .bool (decide (e8170.1 = 9657))) rfl (p_eq rfl) rfl rfl ?_
                        refine lpure (v := .bool (decide (e8170.1 = 9657))) rfl (p_pick rfl) rfl rfl ?_
                        refine Sim.of_eq (congrArg j18831 (show (s18659 && (decide (e8170.1 = 9657))) = (decide (e8170.1 = 9657)) from by rw [k18833] <;> rfl)) ?_
                        exact ljmpM J18832 (decide (e8170.1 = 9657)) () (sub_cons rfl (sub_cons rfl (sub_cons rfl (sub_cons rfl (sub_cons rfl (sub_cons rfl sub_nil)))))) (St.pick X18660 (.keep _ (.none _ (.none _ (.none _ (.skip _ (.skip _ (.skip _ (.keep _ (.keep _ (.keep _ (.none _ (.skip _ (.keep _ (.keep _ (.keep _ (.keep _ (.none _ (.skip _ (.keep _ (.none _ (.none _ (.nil _)))))))))))))))))))))))
                      refine lskip rfl rfl ?_
                      refine lskip rfl rfl ?_
                      refine lpure (v := .bool false) rfl (p_pick rfl) rfl rfl ?_
                      refine Sim.of_eq (congrArg j18831 (show (s18659 && (decide (e8170.1 = 9657))) = false from by rw [k18833] <;> rfl)) ?_
                      exact ljmpM J18832 false () (sub_cons rfl (sub_cons rfl (sub_cons rfl (sub_cons rfl (sub_cons rfl (sub_cons rfl sub_nil)))))) (St.pick X18660 (.keep _ (.none _ (.none _ (.none _ (.skip _ (.skip _ (.skip _ (.keep _ (.keep _ (.keep _ (.none _ (.skip _ (.keep _ (.keep _ (.keep _ (.keep _ (.none _ (.skip _ (.keep _ (.none _ (.none _ (.nil _)))))))))))))))))))))))
                    intro j18834 J18835
                    refine lcase (i := 107) (show _ = Value.bool s18655 from rfl) (fun k18836 => ?_) (fun k18836 => ?_)
                    · refine lpure (v := .int .i64 e8050.1) rfl (p_move rfl) rfl rfl ?_
                      refine lpure (v := .bool (decide (e8050.1 = 57))) rfl (p_eq rfl) rfl rfl ?_
                      refine lpure (v := .bool (decide (e8050.1 = 57))) rfl (p_pick rfl) rfl rfl ?_
                      refine Sim.of_eq (congrArg j18834 (show (s18655 && (decide (e8050.1 = 57))) = (decide (e8050.1 = 57)) from by rw [k18836] <;> rfl)) ?_
                      exact ljmpM J18835 (decide (e8050.1 = 57)) () (sub_cons rfl (sub_cons rfl (sub_cons rfl (sub_cons rfl (sub_cons rfl (sub_cons rfl (sub_cons rfl sub_nil))))))) (St.pick X18656 (.keep _ (.none _ (.none _ (.none _ (.skip _ (.skip _ (.skip _ (.keep _ (.keep _ (.keep _ (.none _ (.skip _ (.keep _ (.keep _ (.keep _ (.keep _ (.none _ (.skip _ (.keep _ (.none _ (.none _ (.nil _)))))))))))))))))))))))
                    refine lskip rfl rfl ?_
                    refine lskip rfl rfl ?_
                    refine lpure (v := .bool false) rfl (p_pick rfl) rfl rfl ?_
                    refine Sim.of_eq (congrArg j18834 (show (s18655 && (decide (e8050.1 = 57))) = false from by rw [k18836] <;> rfl)) ?_
                    exact ljmpM J18835 false () (sub_cons rfl (sub_cons rfl (sub_cons rfl (sub_cons rfl (sub_cons rfl (sub_cons rfl (sub_cons rfl sub_nil))))))) (St.pick X18656 (.keep _ (.none _ (.none _ (.none _ (.skip _ (.skip _ (.skip _ (.keep _ (.keep _ (.keep _ (.none _ (.skip _ (.keep _ (.keep _ (.keep _ (.keep _ (.none _ (.skip _ (.keep _ (.none _ (.none _ (.nil _)))))))))))))))))))))))
                  intro j18837 J18838
                  refine lcase (i := 103) (show _ = Value.bool s18651 from rfl) (fun k18839 => ?_) (fun k18839 => ?_)
                  · refine lpure (v := .int .i64 e7943.2.1) rfl (p_move rfl) rfl rfl ?_
                    refine lpure (v := .bool (decide (e7943.2.1 = 3))) rfl (p_eq rfl) rfl rfl ?_
                    refine lpure (v := .bool (decide (e7943.2.1 = 3))) rfl (p_pick rfl) rfl rfl ?_
                    refine Sim.of_eq (congrArg j18837 (show (s18651 && (decide (e7943.2.1 = 3))) = (decide (e7943.2.1 = 3)) from by rw [k18839] <;> rfl)) ?_
                    exact ljmpM J18838 (decide (e7943.2.1 = 3)) () (sub_cons rfl (sub_cons rfl (sub_cons rfl (sub_cons rfl (sub_cons rfl (sub_cons rfl (sub_cons rfl (sub_cons rfl sub_nil)))))))) (St.pick X18652 (.keep _ (.none _ (.none _ (.none _ (.skip _ (.skip _ (.skip _ (.keep _ (.keep _ (.keep _ (.none _ (.skip _ (.keep _ (.keep _ (.keep _ (.keep _ (.none _ (.skip _ (.keep _ (.none _ (.none _ (.nil _)))))))))))))))))))))))
                  refine lskip rfl rfl ?_
                  refine lskip rfl rfl ?_
                  refine lpure (v := .bool false) rfl (p_pick rfl) rfl rfl ?_
                  refine Sim.of_eq (congrArg j18837 (show (s18651 && (decide (e7943.2.1 = 3))) = false from by rw [k18839] <;> rfl)) ?_
                  exact ljmpM J18838 false () (sub_cons rfl (sub_cons rfl (sub_cons rfl (sub_cons rfl (sub_cons rfl (sub_cons rfl (sub_cons rfl (sub_cons rfl sub_nil)))))))) (St.pick X18652 (.keep _ (.none _ (.none _ (.none _ (.skip _ (.skip _ (.skip _ (.keep _ (.keep _ (.keep _ (.none _ (.skip _ (.keep _ (.keep _ (.keep _ (.keep _ (.none _ (.skip _ (.keep _ (.none _ (.none _ (.nil _)))))))))))))))))))))))
                intro j18840 J18841
                refine lcase (i := 99) (show _ = Value.bool s18647 from rfl) (fun k18842 => ?_) (fun k18842 => ?_)
                · refine lpure (v := .int .i64 e7943.1) rfl (p_move rfl) rfl rfl ?_
                  refine lpure (v := .bool (decide (e7943.1 = 1))) rfl (p_eq rfl) rfl rfl ?_
                  refine lpure (v := .bool (decide (e7943.1 = 1))) rfl (p_pick rfl) rfl rfl ?_
                  refine Sim.of_eq (congrArg j18840 (show (s18647 && (decide (e7943.1 = 1))) = (decide (e7943.1 = 1)) from by rw [k18842] <;> rfl)) ?_
                  exact ljmpM J18841 (decide (e7943.1 = 1)) () (sub_cons rfl (sub_cons rfl (sub_cons rfl (sub_cons rfl (sub_cons rfl (sub_cons rfl (sub_cons rfl (sub_cons rfl (sub_cons rfl sub_nil))))))))) (St.pick X18648 (.keep _ (.none _ (.none _ (.none _ (.skip _ (.skip _ (.skip _ (.keep _ (.keep _ (.keep _ (.none _ (.skip _ (.keep _ (.keep _ (.keep _ (.keep _ (.none _ (.skip _ (.keep _ (.none _ (.none _ (.nil _)))))))))))))))))))))))
                refine lskip rfl rfl ?_
                refine lskip rfl rfl ?_
                refine lpure (v := .bool false) rfl (p_pick rfl) rfl rfl ?_
                refine Sim.of_eq (congrArg j18840 (show (s18647 && (decide (e7943.1 = 1))) = false from by rw [k18842] <;> rfl)) ?_
                exact ljmpM J18841 false () (sub_cons rfl (sub_cons rfl (sub_cons rfl (sub_cons rfl (sub_cons rfl (sub_cons rfl (sub_cons rfl (sub_cons rfl (sub_cons rfl sub_nil))))))))) (St.pick X18648 (.keep _ (.none _ (.none _ (.none _ (.skip _ (.skip _ (.skip _ (.keep _ (.keep _ (.keep _ (.none _ (.skip _ (.keep _ (.keep _ (.keep _ (.keep _ (.none _ (.skip _ (.keep _ (.none _ (.none _ (.nil _)))))))))))))))))))))))
              intro j18843 J18844
              refine lif (i := 94) (show _ = Value.bool s18577 from rfl) (fun k18845 => ?_) (fun k18845 => ?_)
              · refine lpure (v := .slice a7910 n7910 c7910) rfl (p_move rfl) rfl rfl ?_
                obtain ⟨h18846, b18846, hv18846, X18846, O18846⟩ := OSl.lay (E := (eInt .i64)) (φ := φ18551) (cs := [.int .i64 0, .int .i64 1, .int .i64 2, .int .i64 3]) (l := [0, 1, 2, 3]) (len := 4) (parts := [(0, .int .i64 0), (1, .int .i64 1), (2, .int .i64 2), (3, .int .i64 3)]) un_33 ts_3 rfl rfl rfl tz_3 rfl rfl (show RowD (eInt .i64) φ18551 [.int .i64 0, .int .i64 1, .int .i64 2, .int .i64 3] [0, 1, 2, 3] from ⟨[.int .i64 0], _, rfl, rfl, ⟨[.int .i64 1], _, rfl, rfl, ⟨[.int .i64 2], _, rfl, rfl, ⟨[.int .i64 3], _, rfl, rfl, rfl⟩⟩⟩⟩) rfl rfl X18578
                refine lheap rfl (h_buildSlice rfl) hv18846 rfl ?_
                obtain ⟨φ18848, g18849, X18850, H18851⟩ := OSl.freeze X18846 (j := 12) rfl (O7910.mono (((((g8431.trans g8439).trans g9990).trans g9994).trans g18544).trans g18552))
                obtain ⟨φ18852, g18853, X18854, H18855⟩ := OSl.freeze X18850 (j := 0) rfl (O18846.mono g18849)
                refine lcall rfl rfl ca_28 rfl rfl (f28_ok X18854 (e7903.1) ([0, 1, 2, 3]) (H18851.mono g18853) H18855) rfl (fun e18856 v18857 h18858 hq18859 => ?_)
                cases hq18859
                refine lpure (v := .bool e18856) rfl (p_pick rfl) rfl rfl ?_
                exact ljmpM J18844 e18856 () (sub_cons rfl (sub_cons rfl (sub_cons rfl (sub_cons rfl (sub_cons rfl (sub_cons rfl (sub_cons rfl (sub_cons rfl (sub_cons rfl (sub_cons rfl sub_nil)))))))))) (St.pick X18846 (.skip _ (.keep _ (.none _ (.none _ (.none _ (.skip _ (.skip _ (.skip _ (.keep _ (.keep _ (.keep _ (.none _ (.skip _ (.keep _ (.keep _ (.keep _ (.keep _ (.none _ (.skip _ (.keep _ (.none _ (.none _ (.nil _))))))))))))))))))))))))
              refine lskip rfl rfl ?_
              refine lskip rfl rfl ?_
              refine lskip rfl rfl ?_
              refine lpure (v := .bool false) rfl (p_pick rfl) rfl rfl ?_
              exact ljmpM J18844 false () (sub_cons rfl (sub_cons rfl (sub_cons rfl (sub_cons rfl (sub_cons rfl (sub_cons rfl (sub_cons rfl (sub_cons rfl (sub_cons rfl (sub_cons rfl sub_nil)))))))))) (St.pick X18578 (.keep _ (.none _ (.none _ (.none _ (.skip _ (.skip _ (.skip _ (.keep _ (.keep _ (.keep _ (.none _ (.skip _ (.keep _ (.keep _ (.keep _ (.keep _ (.none _ (.skip _ (.keep _ (.none _ (.none _ (.nil _)))))))))))))))))))))))
            intro j18860 J18861
            refine lcase (i := 89) (show _ = Value.bool s18573 from rfl) (fun k18862 => ?_) (fun k18862 => ?_)
            · refine lpure (v := .int .i64 e18547.2.2) rfl (p_move rfl) rfl rfl ?_
              refine lpure (v := .bool (decide (e18547.2.2 = 0))) rfl (p_eq rfl) rfl rfl ?_
              refine lpure (v := .bool (decide (e18547.2.2 = 0))) rfl (p_pick rfl) rfl rfl ?_
              refine Sim.of_eq (congrArg j18860 (show (s18573 && (decide (e18547.2.2 = 0))) = (decide (e18547.2.2 = 0)) from by rw [k18862] <;> rfl)) ?_
              exact ljmpM J18861 (decide (e18547.2.2 = 0)) () (sub_cons rfl (sub_cons rfl (sub_cons rfl (sub_cons rfl (sub_cons rfl (sub_cons rfl (sub_cons rfl (sub_cons rfl (sub_cons rfl (sub_cons rfl (sub_cons rfl sub_nil))))))))))) (St.pick X18574 (.keep _ (.none _ (.none _ (.none _ (.skip _ (.skip _ (.skip _ (.keep _ (.keep _ (.keep _ (.none _ (.skip _ (.keep _ (.keep _ (.keep _ (.keep _ (.none _ (.skip _ (.keep _ (.none _ (.none _ (.nil _)))))))))))))))))))))))
            refine lskip rfl rfl ?_
            refine lskip rfl rfl ?_
            refine lpure (v := .bool false) rfl (p_pick rfl) rfl rfl ?_
            refine Sim.of_eq (congrArg j18860 (show (s18573 && (decide (e18547.2.2 = 0))) = false from by rw [k18862] <;> rfl)) ?_
            exact ljmpM J18861 false () (sub_cons rfl (sub_cons rfl (sub_cons rfl (sub_cons rfl (sub_cons rfl (sub_cons rfl (sub_cons rfl (sub_cons rfl (sub_cons rfl (sub_cons rfl (sub_cons rfl sub_nil))))))))))) (St.pick X18574 (.keep _ (.none _ (.none _ (.none _ (.skip _ (.skip _ (.skip _ (.keep _ (.keep _ (.keep _ (.none _ (.skip _ (.keep _ (.keep _ (.keep _ (.keep _ (.none _ (.skip _ (.keep _ (.none _ (.none _ (.nil _)))))))))))))))))))))))
          intro j18863 J18864
          refine lcase (i := 85) (show _ = Value.bool s18569 from rfl) (fun k18865 => ?_) (fun k18865 => ?_)
          · refine lpure (v := .int .i64 e9981.2) rfl (p_move rfl) rfl rfl ?_
            refine lpure (v := .bool (decide (e9981.2 = 0))) rfl (p_eq rfl) rfl rfl ?_
            refine lpure (v := .bool (decide (e9981.2 = 0))) rfl (p_pick rfl) rfl rfl ?_
            refine Sim.of_eq (congrArg j18863 (show (s18569 && (decide (e9981.2 = 0))) = (decide (e9981.2 = 0)) from by rw [k18865] <;> rfl)) ?_
            exact ljmpM J18864 (decide (e9981.2 = 0)) () (sub_cons rfl (sub_cons rfl (sub_cons rfl (sub_cons rfl (sub_cons rfl (sub_cons rfl (sub_cons rfl (sub_cons rfl (sub_cons rfl (sub_cons rfl (sub_cons rfl (sub_cons rfl sub_nil)))))))))))) (St.pick X18570 (.keep _ (.none _ (.none _ (.none _ (.skip _ (.skip _ (.skip _ (.keep _ (.keep _ (.keep _ (.none _ (.skip _ (.keep _ (.keep _ (.keep _ (.keep _ (.none _ (.skip _ (.keep _ (.none _ (.none _ (.nil _)))))))))))))))))))))))
          refine lskip rfl rfl ?_
          refine lskip rfl rfl ?_
          refine lpure (v := .bool false) rfl (p_pick rfl) rfl rfl ?_
          refine Sim.of_eq (congrArg j18863 (show (s18569 && (decide (e9981.2 = 0))) = false from by rw [k18865] <;> rfl)) ?_
          exact ljmpM J18864 false () (sub_cons rfl (sub_cons rfl (sub_cons rfl (sub_cons rfl (sub_cons rfl (sub_cons rfl (sub_cons rfl (sub_cons rfl (sub_cons rfl (sub_cons rfl (sub_cons rfl (sub_cons rfl sub_nil)))))))))))) (St.pick X18570 (.keep _ (.none _ (.none _ (.none _ (.skip _ (.skip _ (.skip _ (.keep _ (.keep _ (.keep _ (.none _ (.skip _ (.keep _ (.keep _ (.keep _ (.keep _ (.none _ (.skip _ (.keep _ (.none _ (.none _ (.nil _)))))))))))))))))))))))
        intro j18866 J18867
        refine lcase (i := 81) (show _ = Value.bool s18565 from rfl) (fun k18868 => ?_) (fun k18868 => ?_)
        · refine lpure (v := .int .i64 e8434.2) rfl (p_move rfl) rfl rfl ?_
          refine lpure (v := .bool (decide (e8434.2 = 0))) rfl (p_eq rfl) rfl rfl ?_
          refine lpure (v := .bool (decide (e8434.2 = 0))) rfl (p_pick rfl) rfl rfl ?_
          refine Sim.of_eq (congrArg j18866 (show (s18565 && (decide (e8434.2 = 0))) = (decide (e8434.2 = 0)) from by rw [k18868] <;> rfl)) ?_
          exact ljmpM J18867 (decide (e8434.2 = 0)) () (sub_cons rfl (sub_cons rfl (sub_cons rfl (sub_cons rfl (sub_cons rfl (sub_cons rfl (sub_cons rfl (sub_cons rfl (sub_cons rfl (sub_cons rfl (sub_cons rfl (sub_cons rfl (sub_cons rfl sub_nil))))))))))))) (St.pick X18566 (.keep _ (.none _ (.none _ (.none _ (.skip _ (.skip _ (.skip _ (.keep _ (.keep _ (.keep _ (.none _ (.skip _ (.keep _ (.keep _ (.keep _ (.keep _ (.none _ (.skip _ (.keep _ (.none _ (.none _ (.nil _)))))))))))))))))))))))
        refine lskip rfl rfl ?_
        refine lskip rfl rfl ?_
        refine lpure (v := .bool false) rfl (p_pick rfl) rfl rfl ?_
        refine Sim.of_eq (congrArg j18866 (show (s18565 && (decide (e8434.2 = 0))) = false from by rw [k18868] <;> rfl)) ?_
        exact ljmpM J18867 false () (sub_cons rfl (sub_cons rfl (sub_cons rfl (sub_cons rfl (sub_cons rfl (sub_cons rfl (sub_cons rfl (sub_cons rfl (sub_cons rfl (sub_cons rfl (sub_cons rfl (sub_cons rfl (sub_cons rfl sub_nil))))))))))))) (St.pick X18566 (.keep _ (.none _ (.none _ (.none _ (.skip _ (.skip _ (.skip _ (.keep _ (.keep _ (.keep _ (.none _ (.skip _ (.keep _ (.keep _ (.keep _ (.keep _ (.none _ (.skip _ (.keep _ (.none _ (.none _ (.nil _)))))))))))))))))))))))
      intro j18869 J18870
      refine lcase (i := 77) (show _ = Value.bool s18561 from rfl) (fun k18871 => ?_) (fun k18871 => ?_)
      · refine lpure (v := .int .i64 e8170.2) rfl (p_move rfl) rfl rfl ?_
        refine lpure (v := .bool (decide (e8170.2 = 0))) rfl (p_eq rfl) rfl rfl ?_
        refine lpure (v := .bool (decide (e8170.2 = 0))) rfl (p_pick rfl) rfl rfl ?_
        refine Sim.of_eq (congrArg j18869 (show (s18561 && (decide (e8170.2 = 0))) = (decide (e8170.2 = 0)) from by rw [k18871] <;> rfl)) ?_
        exact ljmpM J18870 (decide (e8170.2 = 0)) () (sub_cons rfl (sub_cons rfl (sub_cons rfl (sub_cons rfl (sub_cons rfl (sub_cons rfl (sub_cons rfl (sub_cons rfl (sub_cons rfl (sub_cons rfl (sub_cons rfl (sub_cons rfl (sub_cons rfl (sub_cons rfl sub_nil)))))))))))))) (St.pick X18562 (.keep _ (.none _ (.none _ (.none _ (.skip _ (.skip _ (.skip _ (.keep _ (.keep _ (.keep _ (.none _ (.skip _ (.keep _ (.keep _ (.keep _ (.keep _ (.none _ (.skip _ (.keep _ (.none _ (.none _ (.nil _)))))))))))))))))))))))
      refine lskip rfl rfl ?_
      refine lskip rfl rfl ?_
      refine lpure (v := .bool false) rfl (p_pick rfl) rfl rfl ?_
      refine Sim.of_eq (congrArg j18869 (show (s18561 && (decide (e8170.2 = 0))) = false from by rw [k18871] <;> rfl)) ?_
      exact ljmpM J18870 false () (sub_cons rfl (sub_cons rfl (sub_cons rfl (sub_cons rfl (sub_cons rfl (sub_cons rfl (sub_cons rfl (sub_cons rfl (sub_cons rfl (sub_cons rfl (sub_cons rfl (sub_cons rfl (sub_cons rfl (sub_cons rfl sub_nil)))))))))))))) (St.pick X18562 (.keep _ (.none _ (.none _ (.none _ (.skip _ (.skip _ (.skip _ (.keep _ (.keep _ (.keep _ (.none _ (.skip _ (.keep _ (.keep _ (.keep _ (.keep _ (.none _ (.skip _ (.keep _ (.none _ (.none _ (.nil _)))))))))))))))))))))))
    intro j18872 J18873
    refine lcase (i := 73) (show _ = Value.bool s18557 from rfl) (fun k18874 => ?_) (fun k18874 => ?_)
    · refine lpure (v := .int .i64 e8050.2) rfl (p_move rfl) rfl rfl ?_
      refine lpure (v := .bool (decide (e8050.2 = 0))) rfl (p_eq rfl) rfl rfl ?_
      refine lpure (v := .bool (decide (e8050.2 = 0))) rfl (p_pick rfl) rfl rfl ?_
      refine Sim.of_eq (congrArg j18872 (show (s18557 && (decide (e8050.2 = 0))) = (decide (e8050.2 = 0)) from by rw [k18874] <;> rfl)) ?_
      exact ljmpM J18873 (decide (e8050.2 = 0)) () (sub_cons rfl (sub_cons rfl (sub_cons rfl (sub_cons rfl (sub_cons rfl (sub_cons rfl (sub_cons rfl (sub_cons rfl (sub_cons rfl (sub_cons rfl (sub_cons rfl (sub_cons rfl (sub_cons rfl (sub_cons rfl (sub_cons rfl sub_nil))))))))))))))) (St.pick X18558 (.keep _ (.none _ (.none _ (.none _ (.skip _ (.skip _ (.skip _ (.keep _ (.keep _ (.keep _ (.none _ (.skip _ (.keep _ (.keep _ (.keep _ (.keep _ (.none _ (.skip _ (.keep _ (.none _ (.none _ (.nil _)))))))))))))))))))))))
    refine lskip rfl rfl ?_
    refine lskip rfl rfl ?_
    refine lpure (v := .bool false) rfl (p_pick rfl) rfl rfl ?_
    refine Sim.of_eq (congrArg j18872 (show (s18557 && (decide (e8050.2 = 0))) = false from by rw [k18874] <;> rfl)) ?_
    exact ljmpM J18873 false () (sub_cons rfl (sub_cons rfl (sub_cons rfl (sub_cons rfl (sub_cons rfl (sub_cons rfl (sub_cons rfl (sub_cons rfl (sub_cons rfl (sub_cons rfl (sub_cons rfl (sub_cons rfl (sub_cons rfl (sub_cons rfl (sub_cons rfl sub_nil))))))))))))))) (St.pick X18558 (.keep _ (.none _ (.none _ (.none _ (.skip _ (.skip _ (.skip _ (.keep _ (.keep _ (.keep _ (.none _ (.skip _ (.keep _ (.keep _ (.keep _ (.keep _ (.none _ (.skip _ (.keep _ (.none _ (.none _ (.nil _)))))))))))))))))))))))
  intro j18875 J18876
  refine lcase (i := 69) (show _ = Value.bool (decide (e7903.2 = 0)) from rfl) (fun k18877 => ?_) (fun k18877 => ?_)
  · refine lpure (v := .int .i64 e7943.2.2) rfl (p_move rfl) rfl rfl ?_
    refine lpure (v := .bool (decide (e7943.2.2 = 0))) rfl (p_eq rfl) rfl rfl ?_
    refine lpure (v := .bool (decide (e7943.2.2 = 0))) rfl (p_pick rfl) rfl rfl ?_
    refine Sim.of_eq (congrArg j18875 (show ((decide (e7903.2 = 0)) && (decide (e7943.2.2 = 0))) = (decide (e7943.2.2 = 0)) from by rw [k18877] <;> rfl)) ?_
    exact ljmpM J18876 (decide (e7943.2.2 = 0)) () (sub_cons rfl (sub_cons rfl (sub_cons rfl (sub_cons rfl (sub_cons rfl (sub_cons rfl (sub_cons rfl (sub_cons rfl (sub_cons rfl (sub_cons rfl (sub_cons rfl (sub_cons rfl (sub_cons rfl (sub_cons rfl (sub_cons rfl (sub_cons rfl sub_nil)))))))))))))))) (St.pick X18553 (.keep _ (.none _ (.none _ (.none _ (.skip _ (.skip _ (.skip _ (.keep _ (.keep _ (.keep _ (.none _ (.skip _ (.keep _ (.keep _ (.keep _ (.keep _ (.none _ (.skip _ (.keep _ (.none _ (.none _ (.nil _)))))))))))))))))))))))
  refine lskip rfl rfl ?_
  refine lskip rfl rfl ?_
  refine lpure (v := .bool false) rfl (p_pick rfl) rfl rfl ?_
  refine Sim.of_eq (congrArg j18875 (show ((decide (e7903.2 = 0)) && (decide (e7943.2.2 = 0))) = false from by rw [k18877] <;> rfl)) ?_
  exact ljmpM J18876 false () (sub_cons rfl (sub_cons rfl (sub_cons rfl (sub_cons rfl (sub_cons rfl (sub_cons rfl (sub_cons rfl (sub_cons rfl (sub_cons rfl (sub_cons rfl (sub_cons rfl (sub_cons rfl (sub_cons rfl (sub_cons rfl (sub_cons rfl (sub_cons rfl sub_nil)))))))))))))))) (St.pick X18553 (.keep _ (.none _ (.none _ (.none _ (.skip _ (.skip _ (.skip _ (.keep _ (.keep _ (.keep _ (.none _ (.skip _ (.keep _ (.keep _ (.keep _ (.keep _ (.none _ (.skip _ (.keep _ (.none _ (.none _ (.nil _)))))))))))))))))))))))
/-! isochron/isochronref16.pick -/
theorem f35_ok {n : Nat} {φ : Fz} {lo : Nat} {h : Heap} {own : OwnL}  {a18940 : Option Addr} {n18940 c18940 : Nat} (X : St φ lo h (own)) (p18939 : (List Int)) (p18941 : Int) (H18940 : RSl (eInt .u8) φ (.slice a18940 n18940 c18940) p18939) : Sim ((recN Try.prog LL cutF (n + 1)).call 35 #[(.slice a18940 n18940 c18940), (.int .i64 p18941)] h) (m_isochronref16_pick p18939 p18941) (fun (d : Int) p => p = (.int .i64 d, h)) := by
  refine fcut Try.func35 rfl rfl rfl rfl X ?_
  intro h0 X0
  refine dseq (dreg ?_)
  refine lpure (v := .int .i64 0) rfl (p_assign rfl) rfl rfl ?_
  refine lend (nseq (dseq (dseq (dreg ?_))))
  refine lpure (v := .int .i64 p18941) rfl (p_move rfl) rfl rfl ?_
  refine lpure (v := .slice a18940 n18940 c18940) rfl (p_move rfl) rfl rfl ?_
  refine lpure (v := .int .i64 (p18939.length : Int)) rfl (p_len rfl rfl rfl un_22 rfl) (RSl.lenC H18940) rfl ?_
  refine lpure (v := .bool (decide (p18941 < (p18939.length : Int)))) rfl (p_lt rfl) rfl rfl ?_
  refine lend (nseq ?_)
  refine dcond rfl rfl (fun k18942 => ?_) (fun k18942 => ?_)
  · refine dseq (dreg ?_)
    refine lpure (v := .slice a18940 n18940 c18940) rfl (p_move rfl) rfl rfl ?_
    refine lpure (v := .int .i64 p18941) rfl (p_move rfl) rfl rfl ?_
    refine Sim.bindM fun e18943 he18944 => ?_
    obtain ⟨p18945, cs18945, hp18945, hF18945, hR18945⟩ := RSl.ia H18940 he18944 (kd := .i64) (n := 1) rfl
    have hR18945 : _ = [(.int .u8 e18943 : Value)] := hR18945
    subst hR18945
    refine lpure (v := p18945) rfl (p_ia rs_22 rfl) hp18945 rfl ?_
    refine lread (v := .int .u8 e18943) rfl (q_load wd_5 rfl) (FP.ld X0 hF18945) rfl ?_
    refine lpure (v := .int .i64 (w64 e18943)) rfl (p_conv un_5 un_3 rfl) rfl rfl ?_
    refine lpure (v := .int .i64 (w64 e18943)) rfl (p_assign rfl) rfl rfl ?_
    refine lend (nseq (dret (rseq ?_)))
    exact kcut_r (res_1 resT) X0 rfl rfl
  refine dskip (nseq (dseq (dreg ?_)))
  refine lpure (v := .int .i64 0) rfl (p_assign rfl) rfl rfl ?_
  refine lend (nseq (dret ?_))
  exact kcut_r (res_1 resT) X0 rfl rfl
/-! isochron/isochronref16.node -/
theorem f107_ok {n : Nat} {φ : Fz} {lo : Nat} {h : Heap} {own : OwnL}  {a18976 : Option Addr} {n18976 c18976 : Nat} {a18977 : Option Addr} {n18977 c18977 : Nat} (X : St φ lo h (own)) (p18975 : ApiTopo) (p18978 : Int) (H18976 : RSl eBool φ (.slice a18976 n18976 c18976) p18975.Station) (H18977 : RSl eApiLink φ (.slice a18977 n18977 c18977) p18975.Links) : Sim ((recN Try.prog LL cutF (n + 1)).call 107 #[(.agg #[.int .i64 p18975.Nodes, .slice a18976 n18976 c18976, .slice a18977 n18977 c18977]), (.int .i64 p18978)] h) (m_isochronref16_node p18975 p18978) (fun (d : Bool) p => p = (.bool d, h)) := by
  refine fcut Try.func107 rfl rfl rfl rfl X ?_
  intro h0 X0
  refine dseq (dreg ?_)
  refine lbox rfl rfl rfl rfl rfl X0 (fun b18979 h18981 X18982 => ?_)
  refine lpure (v := .bool false) rfl (p_assign rfl) rfl rfl ?_
  refine lend (nseq (dseq (dreg ?_)))
  refine lpure (v := .int .i64 p18978) rfl (p_move rfl) rfl rfl ?_
  refine lpure (v := .bool (decide (0 ≤ p18978))) rfl (p_ge rfl) rfl rfl ?_
  refine lpure (v := .bool (decide (0 ≤ p18978))) rfl (p_move rfl) rfl rfl ?_
  refine lsh (τ := Bool) (σ := Unit) (fun s18984 (_ : Unit) => [(12, .bool s18984)]) (fun s18984 (_ : Unit) hh => St φ h.n hh ([(some b18979, .cells [.int .i64 p18975.Nodes, .slice a18976 n18976 c18976, .slice a18977 n18977 c18977] 29 .exact)])) 5 ?_ ?_
  · rintro s18984 _ t0 h18986 X18985
    refine lpure (v := .bool s18984) rfl (p_assign rfl) rfl rfl ?_
    refine lend (nseq (dret ?_))
    exact kcut_r (res_1 resT) X18985 rfl rfl
  intro j18987 J18988
  refine lcase (i := 7) (show _ = Value.bool (decide (0 ≤ p18978)) from rfl) (fun k18989 => ?_) (fun k18989 => ?_)
  · refine lpure (v := .int .i64 p18978) rfl (p_move rfl) rfl rfl ?_
    refine lpure (v := .pointer (some ⟨b18979, 0, none⟩)) rfl (p_fa fo_29_0 rfl) rfl rfl ?_
    refine lread (v := .int .i64 p18975.Nodes) rfl (q_load wd_3 rfl) (St.ld X18982 (j := 0) rfl rfl) rfl ?_
    refine lpure (v := .bool (decide (p18978 < p18975.Nodes))) rfl (p_lt rfl) rfl rfl ?_
    refine lpure (v := .bool (decide (p18978 < p18975.Nodes))) rfl (p_pick rfl) rfl rfl ?_
    refine Sim.of_eq (congrArg j18987 (show ((decide (0 ≤ p18978)) && (decide (p18978 < p18975.Nodes))) = (decide (p18978 < p18975.Nodes)) from by rw [k18989] <;> rfl)) ?_
    exact ljmpM J18988 (decide (p18978 < p18975.Nodes)) () (sub_cons rfl sub_nil) X18982
  refine lskip rfl rfl ?_
  refine lskip rfl rfl ?_
  refine lskip rfl rfl ?_
  refine lskip rfl rfl ?_
  refine lpure (v := .bool false) rfl (p_pick rfl) rfl rfl ?_
  refine Sim.of_eq (congrArg j18987 (show ((decide (0 ≤ p18978)) && (decide (p18978 < p18975.Nodes))) = false from by rw [k18989] <;> rfl)) ?_
  exact ljmpM J18988 false () (sub_cons rfl sub_nil) X18982
/-! isochron/isochronref16.link -/
theorem f75_ok {n : Nat} {φ : Fz} {lo : Nat} {h : Heap} {own : OwnL}  {a18964 : Option Addr} {n18964 c18964 : Nat} {a18965 : Option Addr} {n18965 c18965 : Nat} (X : St φ lo h (own)) (p18963 : ApiTopo) (p18966 : ApiLink) (H18964 : RSl eBool φ (.slice a18964 n18964 c18964) p18963.Station) (H18965 : RSl eApiLink φ (.slice a18965 n18965 c18965) p18963.Links) : Sim ((recN Try.prog LL cutF (n + 2)).call 75 #[(.agg #[.int .i64 p18963.Nodes, .slice a18964 n18964 c18964, .slice a18965 n18965 c18965]), (.agg #[.int .i64 p18966.A, .int .i64 p18966.B, .int .i64 p18966.Per, .int .i64 p18966.Delay])] h) (m_isochronref16_link p18963 p18966) (fun (d : Bool) p => p = (.bool d, h)) := by
  refine fcut Try.func75 rfl rfl rfl rfl X ?_
  intro h0 X0
  refine dseq (dreg ?_)
  refine lbox rfl rfl rfl rfl rfl X0 (fun b18967 h18969 X18970 => ?_)
  refine lbox rfl rfl rfl rfl rfl X18970 (fun b18971 h18973 X18974 => ?_)
  refine lpure (v := .bool false) rfl (p_assign rfl) rfl rfl ?_
  refine lend (nseq (dseq (dseq (dreg ?_))))
  refine lread (v := .agg #[.int .i64 p18963.Nodes, .slice a18964 n18964 c18964, .slice a18965 n18965 c18965]) rfl (q_load wd_29 rfl) (St.ld X18974 (j := 1) rfl rfl) rfl ?_
  refine lpure (v := .pointer (some ⟨b18971, 0, none⟩)) rfl (p_fa fo_75_0 rfl) rfl rfl ?_
  refine lread (v := .int .i64 p18966.A) rfl (q_load wd_3 rfl) (St.ld X18974 (j := 0) rfl rfl) rfl ?_
  refine lcall rfl rfl ca_107 rfl rfl (f107_ok X18974 p18963 (p18966.A) H18964 H18965) rfl (fun e18990 v18991 h18992 hq18993 => ?_)
  cases hq18993
  refine lpure (v := .bool (!e18990)) rfl (p_not rfl) rfl rfl ?_
  refine lpure (v := .bool (!e18990)) rfl (p_move rfl) rfl rfl ?_
  refine ljoinM (τ := Bool) (σ := Unit) (fun s19000 (_ : Unit) => [(2, .pointer (some ⟨b18967, 0, none⟩)), (3, .pointer (some ⟨b18971, 0, none⟩)), (16, .bool s19000)]) (fun s19000 (_ : Unit) hh => St φ h.n hh ([(some b18971, .cells [.int .i64 p18966.A, .int .i64 p18966.B, .int .i64 p18966.Per, .int .i64 p18966.Delay] 75 .exact), (some b18967, .cells [.int .i64 p18963.Nodes, .slice a18964 n18964 c18964, .slice a18965 n18965 c18965] 29 .exact)])) 6 ?_ ?_
  · rintro s19000 _ t0 h19002 X19001
    refine lpure (v := .bool s19000) rfl (p_move rfl) rfl rfl ?_
    refine lsh (τ := Bool) (σ := Unit) (fun s19004 (_ : Unit) => [(2, .pointer (some ⟨b18967, 0, none⟩)), (3, .pointer (some ⟨b18971, 0, none⟩)), (23, .bool s19004)]) (fun s19004 (_ : Unit) hh => St φ h.n hh ([(some b18971, .cells [.int .i64 p18966.A, .int .i64 p18966.B, .int .i64 p18966.Per, .int .i64 p18966.Delay] 75 .exact), (some b18967, .cells [.int .i64 p18963.Nodes, .slice a18964 n18964 c18964, .slice a18965 n18965 c18965] 29 .exact)])) 6 ?_ ?_
    · rintro s19004 _ t0 h19006 X19005
      refine lpure (v := .bool s19004) rfl (p_move rfl) rfl rfl ?_
      refine ljoinM (τ := Bool) (σ := Unit) (fun s19016 (_ : Unit) => [(3, .pointer (some ⟨b18971, 0, none⟩)), (39, .bool s19016)]) (fun s19016 (_ : Unit) hh => St φ h.n hh ([(some b18971, .cells [.int .i64 p18966.A, .int .i64 p18966.B, .int .i64 p18966.Per, .int .i64 p18966.Delay] 75 .exact), (some b18967, .cells [.int .i64 p18963.Nodes, .slice a18964 n18964 c18964, .slice a18965 n18965 c18965] 29 .exact)])) 15 ?_ ?_
      · rintro s19016 _ t0 h19018 X19017
        refine lend (nseq ?_)
        refine dcond rfl rfl (fun k19019 => ?_) (fun k19019 => ?_)
        · refine dseq (dreg ?_)
          refine lpure (v := .bool false) rfl (p_assign rfl) rfl rfl ?_
          refine lend (nseq (dret (rseq ?_)))
          exact kcut_r (res_1 resT) X19017 rfl rfl
        refine dskip (nseq (dseq (dreg ?_)))
        refine lpure (v := .pointer (some ⟨b18971, 2, none⟩)) rfl (p_fa fo_75_2 rfl) rfl rfl ?_
        refine lread (v := .int .i64 p18966.Per) rfl (q_load wd_3 rfl) (St.ld X19017 (j := 0) rfl rfl) rfl ?_
        refine lpure (v := .bool (decide (1 ≤ p18966.Per))) rfl (p_ge rfl) rfl rfl ?_
        refine lpure (v := .bool (decide (1 ≤ p18966.Per))) rfl (p_move rfl) rfl rfl ?_
        refine lsh (τ := Bool) (σ := Unit) (fun s19021 (_ : Unit) => [(3, .pointer (some ⟨b18971, 0, none⟩)), (47, .bool s19021)]) (fun s19021 (_ : Unit) hh => St φ h.n hh ([(some b18971, .cells [.int .i64 p18966.A, .int .i64 p18966.B, .int .i64 p18966.Per, .int .i64 p18966.Delay] 75 .exact), (some b18967, .cells [.int .i64 p18963.Nodes, .slice a18964 n18964 c18964, .slice a18965 n18965 c18965] 29 .exact)])) 4 ?_ ?_
        · rintro s19021 _ t0 h19023 X19022
          refine lpure (v := .bool s19021) rfl (p_move rfl) rfl rfl ?_
          refine lsh (τ := Bool) (σ := Unit) (fun s19025 (_ : Unit) => [(3, .pointer (some ⟨b18971, 0, none⟩)), (52, .bool s19025)]) (fun s19025 (_ : Unit) hh => St φ h.n hh ([(some b18971, .cells [.int .i64 p18966.A, .int .i64 p18966.B, .int .i64 p18966.Per, .int .i64 p18966.Delay] 75 .exact), (some b18967, .cells [.int .i64 p18963.Nodes, .slice a18964 n18964 c18964, .slice a18965 n18965 c18965] 29 .exact)])) 4 ?_ ?_
          · rintro s19025 _ t0 h19027 X19026
            refine lpure (v := .bool s19025) rfl (p_move rfl) rfl rfl ?_
            refine lsh (τ := Bool) (σ := Unit) (fun s19029 (_ : Unit) => [(57, .bool s19029)]) (fun s19029 (_ : Unit) hh => St φ h.n hh ([(some b18971, .cells [.int .i64 p18966.A, .int .i64 p18966.B, .int .i64 p18966.Per, .int .i64 p18966.Delay] 75 .exact), (some b18967, .cells [.int .i64 p18963.Nodes, .slice a18964 n18964 c18964, .slice a18965 n18965 c18965] 29 .exact)])) 4 ?_ ?_
            · rintro s19029 _ t0 h19031 X19030
              refine lpure (v := .bool s19029) rfl (p_assign rfl) rfl rfl ?_
              refine lend (nseq (dret ?_))
              exact kcut_r (res_1 resT) X19030 rfl rfl
            intro j19032 J19033
            refine lcase (i := 53) (show _ = Value.bool s19025 from rfl) (fun k19034 => ?_) (fun k19034 => ?_)
            · refine lpure (v := .pointer (some ⟨b18971, 3, none⟩)) rfl (p_fa fo_75_3 rfl) rfl rfl ?_
              refine lread (v := .int .i64 p18966.Delay) rfl (q_load wd_3 rfl) (St.ld X19026 (j := 0) rfl rfl) rfl ?_
              refine lpure (v := .bool (decide (p18966.Delay ≤ 10000))) rfl (p_le rfl) rfl rfl ?_
              refine lpure (v := .bool (decide (p18966.Delay ≤ 10000))) rfl (p_pick rfl) rfl rfl ?_
              refine Sim.of_eq (congrArg j19032 (show (s19025 && (decide (p18966.Delay ≤ 10000))) = (decide (p18966.Delay ≤ 10000)) from by rw [k19034] <;> rfl)) ?_
              exact ljmpM J19033 (decide (p18966.Delay ≤ 10000)) () (sub_cons rfl sub_nil) X19026
            refine lskip rfl rfl ?_
            refine lskip rfl rfl ?_
            refine lskip rfl rfl ?_
            refine lpure (v := .bool false) rfl (p_pick rfl) rfl rfl ?_
            refine Sim.of_eq (congrArg j19032 (show (s19025 && (decide (p18966.Delay ≤ 10000))) = false from by rw [k19034] <;> rfl)) ?_
            exact ljmpM J19033 false () (sub_cons rfl sub_nil) X19026
          intro j19035 J19036
          refine lcase (i := 48) (show _ = Value.bool s19021 from rfl) (fun k19037 => ?_) (fun k19037 => ?_)
          · refine lpure (v := .pointer (some ⟨b18971, 3, none⟩)) rfl (p_fa fo_75_3 rfl) rfl rfl ?_
            refine lread (v := .int .i64 p18966.Delay) rfl (q_load wd_3 rfl) (St.ld X19022 (j := 0) rfl rfl) rfl ?_
            refine lpure (v := .bool (decide (0 ≤ p18966.Delay))) rfl (p_ge rfl) rfl rfl ?_
            refine lpure (v := .bool (decide (0 ≤ p18966.Delay))) rfl (p_pick rfl) rfl rfl ?_
            refine Sim.of_eq (congrArg j19035 (show (s19021 && (decide (0 ≤ p18966.Delay))) = (decide (0 ≤ p18966.Delay)) from by rw [k19037] <;> rfl)) ?_
            exact ljmpM J19036 (decide (0 ≤ p18966.Delay)) () (sub_cons rfl (sub_cons rfl sub_nil)) X19022
          refine lskip rfl rfl ?_
          refine lskip rfl rfl ?_
          refine lskip rfl rfl ?_
          refine lpure (v := .bool false) rfl (p_pick rfl) rfl rfl ?_
          refine Sim.of_eq (congrArg j19035 (show (s19021 && (decide (0 ≤ p18966.Delay))) = false from by rw [k19037] <;> rfl)) ?_
          exact ljmpM J19036 false () (sub_cons rfl (sub_cons rfl sub_nil)) X19022
        intro j19038 J19039
        refine lcase (i := 43) (show _ = Value.bool (decide (1 ≤ p18966.Per)) from rfl) (fun k19040 => ?_) (fun k19040 => ?_)
        · refine lpure (v := .pointer (some ⟨b18971, 2, none⟩)) rfl (p_fa fo_75_2 rfl) rfl rfl ?_
          refine lread (v := .int .i64 p18966.Per) rfl (q_load wd_3 rfl) (St.ld X19017 (j := 0) rfl rfl) rfl ?_
          refine lpure (v := .bool (decide (p18966.Per ≤ 1000))) rfl (p_le rfl) rfl rfl ?_
          refine lpure (v := .bool (decide (p18966.Per ≤ 1000))) rfl (p_pick rfl) rfl rfl ?_
          refine Sim.of_eq (congrArg j19038 (show ((decide (1 ≤ p18966.Per)) && (decide (p18966.Per ≤ 1000))) = (decide (p18966.Per ≤ 1000)) from by rw [k19040] <;> rfl)) ?_
          exact ljmpM J19039 (decide (p18966.Per ≤ 1000)) () (sub_cons rfl (sub_cons rfl sub_nil)) X19017
        refine lskip rfl rfl ?_
        refine lskip rfl rfl ?_
        refine lskip rfl rfl ?_
        refine lpure (v := .bool false) rfl (p_pick rfl) rfl rfl ?_
        refine Sim.of_eq (congrArg j19038 (show ((decide (1 ≤ p18966.Per)) && (decide (p18966.Per ≤ 1000))) = false from by rw [k19040] <;> rfl)) ?_
        exact ljmpM J19039 false () (sub_cons rfl (sub_cons rfl sub_nil)) X19017
      intro j19041 J19042
      refine lif (i := 24) (show _ = Value.bool s19004 from rfl) (fun k19043 => ?_) (fun k19043 => ?_)
      · refine lskip rfl rfl ?_
        refine lskip rfl rfl ?_
        refine lskip rfl rfl ?_
        refine lskip rfl rfl ?_
        refine lskip rfl rfl ?_
        refine lskip rfl rfl ?_
        refine lskip rfl rfl ?_
        refine lskip rfl rfl ?_
        refine lskip rfl rfl ?_
        refine lskip rfl rfl ?_
        refine lskip rfl rfl ?_
        refine lskip rfl rfl ?_
        refine lskip rfl rfl ?_
        refine lskip rfl rfl ?_
        refine lpure (v := .bool true) rfl (p_pick rfl) rfl rfl ?_
        exact ljmpM J19042 true () (sub_cons rfl (sub_cons rfl sub_nil)) X19005
      refine lpure (v := .pointer (some ⟨b18967, 1, none⟩)) rfl (p_fa fo_29_1 rfl) rfl rfl ?_
      refine lread (v := .slice a18964 n18964 c18964) rfl (q_load wd_26 rfl) (St.ld X19005 (j := 1) rfl rfl) rfl ?_
      refine lpure (v := .pointer (some ⟨b18971, 0, none⟩)) rfl (p_fa fo_75_0 rfl) rfl rfl ?_
      refine lread (v := .int .i64 p18966.A) rfl (q_load wd_3 rfl) (St.ld X19005 (j := 0) rfl rfl) rfl ?_
      refine Sim.bindM fun e19044 he19045 => ?_
      obtain ⟨p19046, cs19046, hp19046, hF19046, hR19046⟩ := RSl.ia H18964 he19045 (kd := .i64) (n := 1) rfl
      have hR19046 : _ = [(.bool e19044 : Value)] := hR19046
      subst hR19046
      refine lpure (v := p19046) rfl (p_ia rs_26 rfl) hp19046 rfl ?_
      refine lread (v := .bool e19044) rfl (q_load wd_4 rfl) (FP.ld X19005 hF19046) rfl ?_
      refine lpure (v := .bool e19044) rfl (p_move rfl) rfl rfl ?_
      refine lif (i := 31) (show _ = Value.bool e19044 from rfl) (fun k19047 => ?_) (fun k19047 => ?_)
      · refine lpure (v := .pointer (some ⟨b18967, 1, none⟩)) rfl (p_fa fo_29_1 rfl) rfl rfl ?_
        refine lread (v := .slice a18964 n18964 c18964) rfl (q_load wd_26 rfl) (St.ld X19005 (j := 1) rfl rfl) rfl ?_
        refine lpure (v := .pointer (some ⟨b18971, 1, none⟩)) rfl (p_fa fo_75_1 rfl) rfl rfl ?_
        refine lread (v := .int .i64 p18966.B) rfl (q_load wd_3 rfl) (St.ld X19005 (j := 0) rfl rfl) rfl ?_
        refine Sim.bindM fun e19048 he19049 => ?_
        obtain ⟨p19050, cs19050, hp19050, hF19050, hR19050⟩ := RSl.ia H18964 he19049 (kd := .i64) (n := 1) rfl
        have hR19050 : _ = [(.bool e19048 : Value)] := hR19050
        subst hR19050
        refine lpure (v := p19050) rfl (p_ia rs_26 rfl) hp19050 rfl ?_
        refine lread (v := .bool e19048) rfl (q_load wd_4 rfl) (FP.ld X19005 hF19050) rfl ?_
        refine lpure (v := .bool e19048) rfl (p_pick rfl) rfl rfl ?_
        refine lpure (v := .bool e19048) rfl (p_pick rfl) rfl rfl ?_
        exact ljmpM J19042 e19048 () (sub_cons rfl (sub_cons rfl sub_nil)) X19005
      refine lskip rfl rfl ?_
      refine lskip rfl rfl ?_
      refine lskip rfl rfl ?_
      refine lskip rfl rfl ?_
      refine lskip rfl rfl ?_
      refine lskip rfl rfl ?_
      refine lpure (v := .bool false) rfl (p_pick rfl) rfl rfl ?_
      refine lpure (v := .bool false) rfl (p_pick rfl) rfl rfl ?_
      exact ljmpM J19042 false () (sub_cons rfl (sub_cons rfl sub_nil)) X19005
    intro j19051 J19052
    refine lcase (i := 17) (show _ = Value.bool s19000 from rfl) (fun k19053 => ?_) (fun k19053 => ?_)
    · refine lskip rfl rfl ?_
      refine lskip rfl rfl ?_
      refine lskip rfl rfl ?_
      refine lskip rfl rfl ?_
      refine lskip rfl rfl ?_
      refine lpure (v := .bool true) rfl (p_pick rfl) rfl rfl ?_
      refine Sim.of_eq (congrArg j19051 (show (s19000 || (decide (p18966.A = p18966.B))) = true from by rw [k19053] <;> rfl)) ?_
      exact ljmpM J19052 true () (sub_cons rfl (sub_cons rfl (sub_cons rfl sub_nil))) X19001
    refine lpure (v := .pointer (some ⟨b18971, 0, none⟩)) rfl (p_fa fo_75_0 rfl) rfl rfl ?_
    refine lread (v := .int .i64 p18966.A) rfl (q_load wd_3 rfl) (St.ld X19001 (j := 0) rfl rfl) rfl ?_
    refine lpure (v := .pointer (some ⟨b18971, 1, none⟩)) rfl (p_fa fo_75_1 rfl) rfl rfl ?_
    refine lread (v := .int .i64 p18966.B) rfl (q_load wd_3 rfl) (St.ld X19001 (j := 0) rfl rfl) rfl ?_
    refine lpure (v := .bool (decide (p18966.A = p18966.B))) rfl (p_eq rfl) rfl rfl ?_
    refine lpure (v := .bool (decide (p18966.A = p18966.B))) rfl (p_pick rfl) rfl rfl ?_
    refine Sim.of_eq (congrArg j19051 (show (s19000 || (decide (p18966.A = p18966.B))) = (decide (p18966.A = p18966.B)) from by rw [k19053] <;> rfl)) ?_
    exact ljmpM J19052 (decide (p18966.A = p18966.B)) () (sub_cons rfl (sub_cons rfl (sub_cons rfl sub_nil))) X19001
  intro j19054 J19055
  refine lif (i := 10) (show _ = Value.bool (!e18990) from rfl) (fun k19056 => ?_) (fun k19056 => ?_)
  · refine lskip rfl rfl ?_
    refine lskip rfl rfl ?_
    refine lskip rfl rfl ?_
    refine lskip rfl rfl ?_
    refine lskip rfl rfl ?_
    refine lpure (v := .bool true) rfl (p_pick rfl) rfl rfl ?_
    exact ljmpM J19055 true () (sub_cons rfl (sub_cons rfl (sub_cons rfl sub_nil))) X18974
  refine lread (v := .agg #[.int .i64 p18963.Nodes, .slice a18964 n18964 c18964, .slice a18965 n18965 c18965]) rfl (q_load wd_29 rfl) (St.ld X18974 (j := 1) rfl rfl) rfl ?_
  refine lpure (v := .pointer (some ⟨b18971, 1, none⟩)) rfl (p_fa fo_75_1 rfl) rfl rfl ?_
  refine lread (v := .int .i64 p18966.B) rfl (q_load wd_3 rfl) (St.ld X18974 (j := 0) rfl rfl) rfl ?_
  refine lcall rfl rfl ca_107 rfl rfl (f107_ok X18974 p18963 (p18966.B) H18964 H18965) rfl (fun e19057 v19058 h19059 hq19060 => ?_)
  cases hq19060
  refine lpure (v := .bool (!e19057)) rfl (p_not rfl) rfl rfl ?_
  refine lpure (v := .bool (!e19057)) rfl (p_pick rfl) rfl rfl ?_
  exact ljmpM J19055 (!e19057) () (sub_cons rfl (sub_cons rfl (sub_cons rfl sub_nil))) X18974
/-! isochron/isochronref16.Joins -/
theorem f76_ok {n : Nat} {φ : Fz} {lo : Nat} {h : Heap} {own : OwnL}  (X : St φ lo h (own)) (p19078 : ApiLink) (p19079 : Int) (p19080 : Int) : Sim ((recN Try.prog LL cutF (n + 1)).call 76 #[(.agg #[.int .i64 p19078.A, .int .i64 p19078.B, .int .i64 p19078.Per, .int .i64 p19078.Delay]), (.int .i64 p19079), (.int .i64 p19080)] h) (m_isochronref16_Joins p19078 p19079 p19080) (fun (d : Bool) p => p = (.bool d, h)) := by
  refine fcut Try.func76 rfl rfl rfl rfl X ?_
  intro h0 X0
  refine dseq (dreg ?_)
  refine lbox rfl rfl rfl rfl rfl X0 (fun b19081 h19083 X19084 => ?_)
  refine lpure (v := .bool false) rfl (p_assign rfl) rfl rfl ?_
  refine lend (nseq (dseq (dreg ?_)))
  refine lpure (v := .pointer (some ⟨b19081, 0, none⟩)) rfl (p_fa fo_75_0 rfl) rfl rfl ?_
  refine lread (v := .int .i64 p19078.A) rfl (q_load wd_3 rfl) (St.ld X19084 (j := 0) rfl rfl) rfl ?_
  refine lpure (v := .int .i64 p19079) rfl (p_move rfl) rfl rfl ?_
  refine lpure (v := .bool (decide (p19078.A = p19079))) rfl (p_eq rfl) rfl rfl ?_
  refine lpure (v := .bool (decide (p19078.A = p19079))) rfl (p_move rfl) rfl rfl ?_
  refine lsh (τ := Bool) (σ := Unit) (fun s19086 (_ : Unit) => [(1, .int .i64 p19079), (2, .int .i64 p19080), (3, .pointer (some ⟨b19081, 0, none⟩)), (16, .bool s19086)]) (fun s19086 (_ : Unit) hh => St φ h.n hh ([(some b19081, .cells [.int .i64 p19078.A, .int .i64 p19078.B, .int .i64 p19078.Per, .int .i64 p19078.Delay] 75 .exact)])) 5 ?_ ?_
  · rintro s19086 _ t0 h19088 X19087
    refine lpure (v := .bool s19086) rfl (p_move rfl) rfl rfl ?_
    refine lsh (τ := Bool) (σ := Unit) (fun s19090 (_ : Unit) => [(28, .bool s19090)]) (fun s19090 (_ : Unit) hh => St φ h.n hh ([(some b19081, .cells [.int .i64 p19078.A, .int .i64 p19078.B, .int .i64 p19078.Per, .int .i64 p19078.Delay] 75 .exact)])) 11 ?_ ?_
    · rintro s19090 _ t0 h19092 X19091
      refine lpure (v := .bool s19090) rfl (p_assign rfl) rfl rfl ?_
      refine lend (nseq (dret ?_))
      exact kcut_r (res_1 resT) X19091 rfl rfl
    intro j19093 J19094
    refine lcase (i := 17) (show _ = Value.bool s19086 from rfl) (fun k19095 => ?_) (fun k19095 => ?_)
    · refine lskip rfl rfl ?_
      refine lskip rfl rfl ?_
      refine lskip rfl rfl ?_
      refine lskip rfl rfl ?_
      refine lskip rfl rfl ?_
      refine lskip rfl rfl ?_
      refine lskip rfl rfl ?_
      refine lskip rfl rfl ?_
      refine lskip rfl rfl ?_
      refine lskip rfl rfl ?_
      refine lpure (v := .bool true) rfl (p_pick rfl) rfl rfl ?_
      refine Sim.of_eq (congrArg j19093 (show (s19086 || ((decide (p19078.A = p19080)) && (decide (p19078.B = p19079)))) = true from by rw [k19095] <;> rfl)) ?_
      exact ljmpM J19094 true () (sub_cons rfl sub_nil) X19087
    refine lpure (v := .pointer (some ⟨b19081, 0, none⟩)) rfl (p_fa fo_75_0 rfl) rfl rfl ?_
    refine lread (v := .int .i64 p19078.A) rfl (q_load wd_3 rfl) (St.ld X19087 (j := 0) rfl rfl) rfl ?_
    refine lpure (v := .int .i64 p19080) rfl (p_move rfl) rfl rfl ?_
    refine lpure (v := .bool (decide (p19078.A = p19080))) rfl (p_eq rfl) rfl rfl ?_
    refine lpure (v := .bool (decide (p19078.A = p19080))) rfl (p_move rfl) rfl rfl ?_
    refine lcase (i := 22) (show _ = Value.bool (decide (p19078.A = p19080)) from rfl) (fun k19096 => ?_) (fun k19096 => ?_)
    · refine lpure (v := .pointer (some ⟨b19081, 1, none⟩)) rfl (p_fa fo_75_1 rfl) rfl rfl ?_
      refine lread (v := .int .i64 p19078.B) rfl (q_load wd_3 rfl) (St.ld X19087 (j := 0) rfl rfl) rfl ?_
      refine lpure (v := .int .i64 p19079) rfl (p_move rfl) rfl rfl ?_
      refine lpure (v := .bool (decide (p19078.B = p19079))) rfl (p_eq rfl) rfl rfl ?_
      refine lpure (v := .bool (decide (p19078.B = p19079))) rfl (p_pick rfl) rfl rfl ?_
      refine lpure (v := .bool (decide (p19078.B = p19079))) rfl (p_pick rfl) rfl rfl ?_
      refine Sim.of_eq (congrArg j19093 (show (s19086 || ((decide (p19078.A = p19080)) && (decide (p19078.B = p19079)))) = (decide (p19078.B = p19079)) from by rw [k19095, k19096] <;> rfl)) ?_
      exact ljmpM J19094 (decide (p19078.B = p19079)) () (sub_cons rfl sub_nil) X19087
    refine lskip rfl rfl ?_
    refine lskip rfl rfl ?_
    refine lskip rfl rfl ?_
    refine lskip rfl rfl ?_
    refine lpure (v := .bool false) rfl (p_pick rfl) rfl rfl ?_
    refine lpure (v := .bool false) rfl (p_pick rfl) rfl rfl ?_
    refine Sim.of_eq (congrArg j19093 (show (s19086 || ((decide (p19078.A = p19080)) && (decide (p19078.B = p19079)))) = false from by rw [k19095, k19096] <;> rfl)) ?_
    exact ljmpM J19094 false () (sub_cons rfl sub_nil) X19087
  intro j19097 J19098
  refine lcase (i := 11) (show _ = Value.bool (decide (p19078.A = p19079)) from rfl) (fun k19099 => ?_) (fun k19099 => ?_)
  · refine lpure (v := .pointer (some ⟨b19081, 1, none⟩)) rfl (p_fa fo_75_1 rfl) rfl rfl ?_
    refine lread (v := .int .i64 p19078.B) rfl (q_load wd_3 rfl) (St.ld X19084 (j := 0) rfl rfl) rfl ?_
    refine lpure (v := .int .i64 p19080) rfl (p_move rfl) rfl rfl ?_
    refine lpure (v := .bool (decide (p19078.B = p19080))) rfl (p_eq rfl) rfl rfl ?_
    refine lpure (v := .bool (decide (p19078.B = p19080))) rfl (p_pick rfl) rfl rfl ?_
    refine Sim.of_eq (congrArg j19097 (show ((decide (p19078.A = p19079)) && (decide (p19078.B = p19080))) = (decide (p19078.B = p19080)) from by rw [k19099] <;> rfl)) ?_
    exact ljmpM J19098 (decide (p19078.B = p19080)) () (sub_cons rfl (sub_cons rfl (sub_cons rfl (sub_cons rfl sub_nil)))) X19084
  refine lskip rfl rfl ?_
  refine lskip rfl rfl ?_
  refine lskip rfl rfl ?_
  refine lskip rfl rfl ?_
  refine lpure (v := .bool false) rfl (p_pick rfl) rfl rfl ?_
  refine Sim.of_eq (congrArg j19097 (show ((decide (p19078.A = p19079)) && (decide (p19078.B = p19080))) = false from by rw [k19099] <;> rfl)) ?_
  exact ljmpM J19098 false () (sub_cons rfl (sub_cons rfl (sub_cons rfl (sub_cons rfl sub_nil)))) X19084
/-! (isochron/isochronref16.Draft).with -/
theorem f34_ok {n : Nat} {φ : Fz} {lo : Nat} {h : Heap} {own : OwnL}  {a19266 : Option Addr} {n19266 c19266 : Nat} {a19267 : Option Addr} {n19267 c19267 : Nat} {a19268 : Option Addr} {n19268 c19268 : Nat} {a19269 : Option Addr} {n19269 c19269 : Nat} {a19271 : Option Addr} {n19271 c19271 : Nat} {a19272 : Option Addr} {n19272 c19272 : Nat} {ob19274 : Option Nat} {blk19275 : Blk} (X : St φ lo h ((ob19274, blk19275) :: own)) (p19265 : Isochronref16Draft) (p19270 : ApiTopo) (p19277 : Int) (p19278 : Int) (H19266 : RSl (eInt .u8) φ (.slice a19266 n19266 c19266) p19265.Chords) (H19267 : RSl (eInt .u8) φ (.slice a19267 n19267 c19267) p19265.Homes) (H19268 : RSl (eInt .u8) φ (.slice a19268 n19268 c19268) p19265.Pers) (H19269 : RSl (eInt .u8) φ (.slice a19269 n19269 c19269) p19265.Delays) (H19271 : RSl eBool φ (.slice a19271 n19271 c19271) p19270.Station) (O19276 : OSl eApiLink φ 75 ob19274 blk19275 (.slice a19272 n19272 c19272) p19270.Links) : Sim ((recN Try.prog LL cutF (n + 3)).call 34 #[(.agg #[.int .u8 p19265.Bridges, .int .u8 p19265.Stations, .slice a19266 n19266 c19266, .slice a19267 n19267 c19267, .slice a19268 n19268 c19268, .slice a19269 n19269 c19269]), (.agg #[.int .i64 p19270.Nodes, .slice a19271 n19271 c19271, .slice a19272 n19272 c19272]), (.int .i64 p19277), (.int .i64 p19278)] h) (m_isochronref16_Draft_with p19265 p19270 p19277 p19278) (fun (d : ApiTopo) p => ∃ φ2 : Fz, ∃ a19421 : Option Addr, ∃ n19421 : Nat, ∃ c19421 : Nat, ∃ a19422 : Option Addr, ∃ n19422 : Nat, ∃ c19422 : Nat, ∃ ob19422 : Option Nat, ∃ blk19422 : Blk, Fz.le φ φ2 ∧ St φ2 lo p.2 ((ob19422, blk19422) :: own) ∧ p.1 = .agg #[.int .i64 d.Nodes, .slice a19421 n19421 c19421, .slice a19422 n19422 c19422] ∧ RSl eBool φ2 (.slice a19421 n19421 c19421) d.Station ∧ OSl eApiLink φ2 75 ob19422 blk19422 (.slice a19422 n19422 c19422) d.Links) := by
  refine fopen Try.func34 rfl rfl rfl rfl ?_
  refine dseq (dreg ?_)
  refine lbox rfl rfl rfl rfl rfl X (fun b19279 h19281 X19282 => ?_)
  refine lbox rfl rfl rfl rfl rfl X19282 (fun b19283 h19285 X19286 => ?_)
  refine lalloc rfl tz_29 rfl rfl rfl X19286 (fun b19287 h19289 X19290 => ?_)
  refine lend (nseq (dseq (dreg ?_)))
  refine lpure (v := .pointer (some ⟨b19283, 2, none⟩)) rfl (p_fa fo_29_2 rfl) rfl rfl ?_
  refine lread (v := .slice a19272 n19272 c19272) rfl (q_load wd_27 rfl) (St.ld X19290 (j := 1) rfl rfl) rfl ?_
  refine lpure (v := .int .i64 (p19270.Links.length : Int)) rfl (p_len rfl rfl rfl un_27 rfl) (OSl.len O19276) rfl ?_
  refine lpure (v := .int .i64 (p19270.Links.length : Int)) rfl (p_assign rfl) rfl rfl ?_
  refine lend (nseq (dseq ?_))
  refine dgo_start (n := 16) rfl (by kernel_rfl) ?_
  refine gpure (v := .int .i64 p19277) rfl (p_move rfl) (lo_t rfl rfl) rfl rfl ?_
  refine gpure (v := .int .i64 p19278) rfl (p_move rfl) (lo_t rfl rfl) rfl rfl ?_
  refine gpure (v := .pointer (some ⟨b19279, 4, none⟩)) rfl (p_fa fo_24_4 rfl) (lo_t (lo_own X19290 (j := 2) (o := 0) (s := none) (f := 0) rfl) rfl) rfl rfl ?_
  refine gload (v := .slice a19268 n19268 c19268) rfl (q_load wd_22 rfl) (St.ld X19290 (j := 2) rfl rfl) rfl ?_
  refine gpure (v := .int .i64 (p19270.Links.length : Int)) rfl (p_move rfl) (lo_t rfl rfl) rfl rfl ?_
  refine gwait rfl (still_call rfl rfl ca_35 rfl) rfl ?_
  refine dgo_skip ?_
  refine dgo_skip ?_
  refine gpure (v := .pointer (some ⟨b19279, 5, none⟩)) rfl (p_fa fo_24_5 rfl) (lo_t (lo_own X19290 (j := 2) (o := 0) (s := none) (f := 0) rfl) rfl) rfl rfl ?_
  refine gload (v := .slice a19269 n19269 c19269) rfl (q_load wd_22 rfl) (St.ld X19290 (j := 2) rfl rfl) rfl ?_
  refine gpure (v := .int .i64 (p19270.Links.length : Int)) rfl (p_move rfl) (lo_t rfl rfl) rfl rfl ?_
  refine dgo_skip ?_
  refine dgo_skip ?_
  refine dgo_skip ?_
  refine galloc rfl tz_75 rfl rfl rfl X19290 (fun b19291 h19293 X19294 => ?_)
  refine dgo_skip ?_
  refine gcall (m := 15) [true, false] (rk_cons (q_load wd_22 rfl) (St.ld X19294 (j := 3) rfl rfl) (same_self 20 rfl) (rk_cons (q_load wd_22 rfl) (St.ld X19294 (j := 3) rfl rfl) (same_self 20 rfl) rk_nil)) rfl rfl rfl rfl rfl ca_35 rfl rfl (f35_ok X19294 (p19265.Pers) ((p19270.Links.length : Int)) H19268) rfl (fun e19295 v19296 h19297 hq19298 => ?_)
  cases hq19298
  refine dgo_skip ?_
  refine dgo_skip ?_
  refine dgo_skip ?_
  refine dgo_skip ?_
  refine dgo_skip ?_
  refine dgo_skip ?_
  refine gpure (v := .int .i64 (Int.tmod e19295 20)) rfl (p_rem rfl) (lo_t rfl (lo_c rfl)) rfl rfl ?_
  refine gpure (v := .int .i64 (w64 (1 + (Int.tmod e19295 20)))) rfl (p_add rfl) (lo_c (lo_t rfl rfl)) rfl rfl ?_
  refine dgo_skip ?_
  refine dgo_skip ?_
  refine dgo_skip ?_
  refine gwait rfl (still_call rfl rfl ca_35 rfl) rfl ?_
  refine dgo_skip ?_
  refine dgo_skip ?_
  refine dgo_skip ?_
  refine dgo_skip ?_
  refine gcall (m := 14) [false] (rk_cons (q_load wd_22 rfl) (St.ld X19294 (j := 3) rfl rfl) (same_self 20 rfl) rk_nil) rfl rfl rfl rfl rfl ca_35 rfl rfl (f35_ok X19294 (p19265.Delays) ((p19270.Links.length : Int)) H19269) rfl (fun e19299 v19300 h19301 hq19302 => ?_)
  cases hq19302
  refine dgo_skip ?_
  refine dgo_skip ?_
  refine dgo_skip ?_
  refine dgo_skip ?_
  refine dgo_skip ?_
  refine dgo_skip ?_
  refine dgo_skip ?_
  refine dgo_skip ?_
  refine dgo_skip ?_
  refine dgo_skip ?_
  refine dgo_skip ?_
  refine dgo_skip ?_
  refine gpure (v := .int .i64 (Int.tmod e19299 50)) rfl (p_rem rfl) (lo_t rfl (lo_c rfl)) rfl rfl ?_
  refine gpure (v := .agg #[.int .i64 p19277, .int .i64 p19278, .int .i64 (w64 (1 + (Int.tmod e19295 20))), .int .i64 (Int.tmod e19299 50)]) rfl (p_build rfl) (lo_t rfl (lo_t rfl (lo_t rfl (lo_t rfl rfl)))) (build_st' tz_75 pl_75 rfl) rfl ?_
  refine dgo_skip ?_
  refine gwait rfl (still_store rfl rfl rfl) rfl ?_
  obtain ⟨h19303, hst19305, X19304⟩ := St.st X19294 (j := 0) (o := 0) (n := 4) (x := .agg #[.int .i64 p19277, .int .i64 p19278, .int .i64 (w64 (1 + (Int.tmod e19295 20))), .int .i64 (Int.tmod e19299 50)]) rfl rfl rfl rfl rfl rfl
  refine gact0 (m := 13) [] rk_nil rfl rfl rfl rfl (h_store ts_75 rfl) hst19305 ?_
  refine dgo_skip ?_
  refine dgo_skip ?_
  refine dgo_skip ?_
  refine dgo_skip ?_
  refine dgo_skip ?_
  refine dgo_skip ?_
  refine dgo_skip ?_
  refine dgo_skip ?_
  refine dgo_skip ?_
  refine dgo_skip ?_
  refine dgo_skip ?_
  refine dgo_skip ?_
  refine dgo_skip ?_
  refine dgo_skip ?_
  refine dgo_skip ?_
  refine dgo_skip ?_
  refine gend rk_nil ?_
  refine nseq (dseq (dseq (dreg ?_)))
  refine lpure (v := .int .i64 (p19270.Links.length : Int)) rfl (p_move rfl) rfl rfl ?_
  refine lpure (v := .bool (decide ((p19270.Links.length : Int) = 24))) rfl (p_eq rfl) rfl rfl ?_
  refine lpure (v := .bool (decide ((p19270.Links.length : Int) = 24))) rfl (p_move rfl) rfl rfl ?_
  refine ljoinM (τ := Bool) (σ := Unit) (fun s19316 (_ : Unit) => [(2, .int .i64 p19277), (3, .int .i64 p19278), (5, .pointer (some ⟨b19283, 0, none⟩)), (8, .pointer (some ⟨b19287, 0, none⟩)), (9, .int .i64 (p19270.Links.length : Int)), (10, .pointer (some ⟨b19291, 0, none⟩)), (36, .bool s19316)]) (fun s19316 (_ : Unit) hh => St φ lo hh ((some b19291, .cells [.int .i64 p19277, .int .i64 p19278, .int .i64 (w64 (1 + (Int.tmod e19295 20))), .int .i64 (Int.tmod e19299 50)] 75 .exact) :: (some b19287, .cells [.int .i64 0, .slice none 0 0, .slice none 0 0] 29 .exact) :: (some b19283, .cells [.int .i64 p19270.Nodes, .slice a19271 n19271 c19271, .slice a19272 n19272 c19272] 29 .exact) :: (some b19279, .cells [.int .u8 p19265.Bridges, .int .u8 p19265.Stations, .slice a19266 n19266 c19266, .slice a19267 n19267 c19267, .slice a19268 n19268 c19268, .slice a19269 n19269 c19269] 24 .exact) :: (ob19274, blk19275) :: own)) 5 ?_ ?_
  · rintro s19316 _ t0 h19318 X19317
    refine lend (nseq ?_)
    refine dcond rfl rfl (fun k19319 => ?_) (fun k19319 => ?_)
    · refine dseq (dreg ?_)
      refine lread (v := .agg #[.int .i64 p19270.Nodes, .slice a19271 n19271 c19271, .slice a19272 n19272 c19272]) rfl (q_load wd_29 rfl) (St.ld X19317 (j := 2) rfl rfl) rfl ?_
      refine lstore rfl ts_29 rfl rfl (j := 1) rfl rfl rfl rfl rfl rfl X19317 (fun h19320 X19321 => ?_)
      refine lend (nseq (dret (rseq ?_)))
      exact kopen_r (res_1 (resC wd_29 (St.ld X19321 (j := 1) rfl rfl))) ⟨φ, a19271, n19271, c19271, a19272, n19272, c19272, ob19274, blk19275, (Fz.le_refl _), St.pick (St.front X19321 (j := 4) rfl) (.keep _ (.skip _ (.skip _ (.skip _ (.skip _ (.refl _)))))), rfl, H19271, O19276⟩
    refine dskip (nseq (dseq (dseq (dreg ?_))))
    refine lpure (v := .int .i64 0) rfl (p_assign rfl) rfl rfl ?_
    refine lend (nseq (dblock ?_))
    refine dloopM (τ := Int × (List ApiLink)) (σ := Blk) (fun s19365 blk19366 => [(2, .int .i64 p19277), (3, .int .i64 p19278), (5, .pointer (some ⟨b19283, 0, none⟩)), (8, .pointer (some ⟨b19287, 0, none⟩)), (9, .int .i64 (p19270.Links.length : Int)), (10, .pointer (some ⟨b19291, 0, none⟩)), (11, .int .i64 s19365.1)]) (fun s19365 blk19366 hh => St φ lo hh ((some b19291, .cells [.int .i64 p19277, .int .i64 p19278, .int .i64 (w64 (1 + (Int.tmod e19295 20))), .int .i64 (Int.tmod e19299 50)] 75 .exact) :: (some b19287, .cells [.int .i64 0, .slice none 0 0, .slice none 0 0] 29 .exact) :: (some b19283, .cells [.int .i64 p19270.Nodes, .slice a19271 n19271 c19271, .slice a19272 n19272 c19272] 29 .exact) :: (some b19279, .cells [.int .u8 p19265.Bridges, .int .u8 p19265.Stations, .slice a19266 n19266 c19266, .slice a19267 n19267 c19267, .slice a19268 n19268 c19268, .slice a19269 n19269 c19269] 24 .exact) :: (ob19274, blk19366) :: own) ∧ OSl eApiLink φ 75 ob19274 blk19366 (.slice a19272 n19272 c19272) s19365.2) (0, p19270.Links) blk19275 (sub_cons rfl (sub_cons rfl (sub_cons rfl (sub_cons rfl (sub_cons rfl (sub_cons rfl (sub_cons rfl sub_nil))))))) ⟨X19317, O19276⟩ ?_
    rintro n19389 ih19388 s19365 blk19366 t0 h19391 ⟨X19390, O19366⟩
    refine dseq (dseq (dreg ?_))
    refine lpure (v := .int .i64 s19365.1) rfl (p_move rfl) rfl rfl ?_
    refine lpure (v := .int .i64 (p19270.Links.length : Int)) rfl (p_move rfl) rfl rfl ?_
    refine lpure (v := .bool (decide (s19365.1 < (p19270.Links.length : Int)))) rfl (p_lt rfl) rfl rfl ?_
    refine lend (nseq ?_)
    refine dcond rfl rfl (fun k19392 => ?_) (fun k19392 => ?_)
    · refine dskip (nseq (dseq (dblock (dseq (dreg ?_)))))
      refine lpure (v := .pointer (some ⟨b19283, 2, none⟩)) rfl (p_fa fo_29_2 rfl) rfl rfl ?_
      refine lread (v := .slice a19272 n19272 c19272) rfl (q_load wd_27 rfl) (St.ld X19390 (j := 2) rfl rfl) rfl ?_
      refine lpure (v := .int .i64 s19365.1) rfl (p_move rfl) rfl rfl ?_
      refine Sim.bindM fun e19393 he19394 => ?_
      obtain ⟨b19395, vs19395, m19395, off19395, cs19395, rfl, rfl, hp19395, hc19395, hR19395, hl19395, hm19395, hs19395⟩ := OSl.ia O19366 he19394 (kd := .i64) (n := 4) rfl
      obtain rfl := eApiLink_el hR19395
      refine lpure (v := .pointer (some ⟨b19395, off19395, none⟩)) rfl (p_ia rs_27 rfl) hp19395 rfl ?_
      refine lread (v := .agg #[.int .i64 e19393.A, .int .i64 e19393.B, .int .i64 e19393.Per, .int .i64 e19393.Delay]) rfl (q_load wd_75 rfl) (St.ld X19390 (j := 4) rfl (rdEw hc19395 (k := 0) rfl rfl)) rfl ?_
      refine lpure (v := .int .i64 p19277) rfl (p_move rfl) rfl rfl ?_
      refine lpure (v := .int .i64 p19278) rfl (p_move rfl) rfl rfl ?_
      refine lcall rfl rfl ca_76 rfl rfl (f76_ok X19390 e19393 p19277 p19278) rfl (fun e19396 v19397 h19398 hq19399 => ?_)
      cases hq19399
      refine lend (nseq ?_)
      refine dcond rfl rfl (fun k19400 => ?_) (fun k19400 => ?_)
      · refine dseq (dreg ?_)
        refine lread (v := .agg #[.int .i64 p19270.Nodes, .slice a19271 n19271 c19271, .slice a19272 n19272 c19272]) rfl (q_load wd_29 rfl) (St.ld X19390 (j := 2) rfl rfl) rfl ?_
        refine lstore rfl ts_29 rfl rfl (j := 1) rfl rfl rfl rfl rfl rfl X19390 (fun h19401 X19402 => ?_)
        refine lend (nseq (dret (rblock (rseq (rloop (rblock (rseq ?_)))))))
        exact kopen_r (res_1 (resC wd_29 (St.ld X19402 (j := 1) rfl rfl))) ⟨φ, a19271, n19271, c19271, a19272, n19272, c19272, (some b19395), (.cells vs19395 75 m19395), (Fz.le_refl _), St.pick (St.front X19402 (j := 4) rfl) (.keep _ (.skip _ (.skip _ (.skip _ (.skip _ (.refl _)))))), rfl, H19271, O19366⟩
      refine dskip (nblock (nseq (dreg ?_)))
      refine lpure (v := .int .i64 s19365.1) rfl (p_move rfl) rfl rfl ?_
      refine lpure (v := .int .i64 (w64 (s19365.1 + 1))) rfl (p_add rfl) rfl rfl ?_
      refine lpure (v := .int .i64 (w64 (s19365.1 + 1))) rfl (p_assign rfl) rfl rfl ?_
      refine lend ?_
      exact kbackM ih19388 ((w64 (s19365.1 + 1)), s19365.2) (.cells vs19395 75 m19395) (sub_cons rfl (sub_cons rfl (sub_cons rfl (sub_cons rfl (sub_cons rfl (sub_cons rfl (sub_cons rfl sub_nil))))))) ⟨X19390, O19366⟩
    refine dexit (eseq (eloop (xblock (nseq (dseq (dreg ?_))))))
    refine lpure (v := .pointer (some ⟨b19283, 2, none⟩)) rfl (p_fa fo_29_2 rfl) rfl rfl ?_
    refine lread (v := .slice a19272 n19272 c19272) rfl (q_load wd_27 rfl) (St.ld X19390 (j := 2) rfl rfl) rfl ?_
    refine lread (v := .agg #[.int .i64 p19277, .int .i64 p19278, .int .i64 (w64 (1 + (Int.tmod e19295 20))), .int .i64 (Int.tmod e19299 50)]) rfl (q_load wd_75 rfl) (St.ld X19390 (j := 0) rfl rfl) rfl ?_
    obtain ⟨h19403, b19403, hv19403, X19403, O19403⟩ := OSl.lay (E := eApiLink) (φ := φ) (cs := [.int .i64 p19277, .int .i64 p19278, .int .i64 (w64 (1 + (Int.tmod e19295 20))), .int .i64 (Int.tmod e19299 50)]) (l := [(ApiLink.mk p19277 p19278 (w64 (1 + (Int.tmod e19295 20))) (Int.tmod e19299 50))]) (len := 1) (parts := [(0, .agg #[.int .i64 p19277, .int .i64 p19278, .int .i64 (w64 (1 + (Int.tmod e19295 20))), .int .i64 (Int.tmod e19299 50)])]) un_27 ts_75 rfl rfl rfl tz_75 rfl rfl (show RowD eApiLink φ [.int .i64 p19277, .int .i64 p19278, .int .i64 (w64 (1 + (Int.tmod e19295 20))), .int .i64 (Int.tmod e19299 50)] [(ApiLink.mk p19277 p19278 (w64 (1 + (Int.tmod e19295 20))) (Int.tmod e19299 50))] from ⟨[.int .i64 p19277, .int .i64 p19278, .int .i64 (w64 (1 + (Int.tmod e19295 20))), .int .i64 (Int.tmod e19299 50)], _, rfl, ⟨_, _, rfl, rfl, ⟨_, _, rfl, rfl, ⟨_, _, rfl, rfl, ⟨_, _, rfl, rfl, rfl⟩⟩⟩⟩, rfl⟩) rfl rfl X19390
    refine lheap rfl (h_buildSlice rfl) hv19403 rfl ?_
    obtain ⟨ws19405, hw19405⟩ := OSl.read O19403 X19403 (k := 0) rfl (n := 4) rfl
    refine Sim.mustM fun k19405 => ?_
    obtain ⟨h19405, a19405, c19405, ob19405, blk19405, hv19405, X19405, O19405⟩ := OSl.append O19366 X19403 (j := 5) rfl hw19405 k19405 (ts := #[27, 27]) rfl un_27 (argOk_of ax_27_27) ts_75 rfl rfl tb_75 rfl tz_75 rfl
    refine lheap rfl (h_builtin rfl rfl) hv19405 rfl ?_
    refine lpure (v := .pointer (some ⟨b19283, 2, none⟩)) rfl (p_fa fo_29_2 rfl) rfl rfl ?_
    refine lstore rfl ts_27 rfl rfl (j := 3) rfl rfl rfl rfl rfl rfl X19405 (fun h19406 X19407 => ?_)
    refine lend (nseq (dseq (dreg ?_)))
    refine lread (v := .agg #[.int .i64 p19270.Nodes, .slice a19271 n19271 c19271, .slice a19405 (s19365.2.length + ([(ApiLink.mk p19277 p19278 (w64 (1 + (Int.tmod e19295 20))) (Int.tmod e19299 50))]).length) c19405]) rfl (q_load wd_29 rfl) (St.ld X19407 (j := 3) rfl rfl) rfl ?_
    refine lstore rfl ts_29 rfl rfl (j := 2) rfl rfl rfl rfl rfl rfl X19407 (fun h19408 X19409 => ?_)
    refine lend (nseq (dret ?_))
    exact kopen_r (res_1 (resC wd_29 (St.ld X19409 (j := 2) rfl rfl))) ⟨φ, a19271, n19271, c19271, a19405, ((s19365.2.length + ([(ApiLink.mk p19277 p19278 (w64 (1 + (Int.tmod e19295 20))) (Int.tmod e19299 50))]).length)), c19405, ob19405, blk19405, (Fz.le_refl _), St.pick (St.front X19409 (j := 5) rfl) (.keep _ (.skip _ (.skip _ (.skip _ (.skip _ (.skip _ (.refl _))))))), rfl, H19271, O19405⟩
  intro j19410 J19411
  refine lif (i := 31) (show _ = Value.bool (decide ((p19270.Links.length : Int) = 24)) from rfl) (fun k19412 => ?_) (fun k19412 => ?_)
  · refine lskip rfl rfl ?_
    refine lskip rfl rfl ?_
    refine lskip rfl rfl ?_
    refine lskip rfl rfl ?_
    refine lpure (v := .bool true) rfl (p_pick rfl) rfl rfl ?_
    exact ljmpM J19411 true () (sub_cons rfl (sub_cons rfl (sub_cons rfl (sub_cons rfl (sub_cons rfl (sub_cons rfl (sub_cons rfl sub_nil))))))) X19304
  refine lread (v := .agg #[.int .i64 p19270.Nodes, .slice a19271 n19271 c19271, .slice a19272 n19272 c19272]) rfl (q_load wd_29 rfl) (St.ld X19304 (j := 2) rfl rfl) rfl ?_
  refine lread (v := .agg #[.int .i64 p19277, .int .i64 p19278, .int .i64 (w64 (1 + (Int.tmod e19295 20))), .int .i64 (Int.tmod e19299 50)]) rfl (q_load wd_75 rfl) (St.ld X19304 (j := 0) rfl rfl) rfl ?_
  obtain ⟨φ19413, g19414, X19415, H19416⟩ := OSl.freeze X19304 (j := 4) rfl O19276
  refine lcall rfl rfl ca_75 rfl rfl (f75_ok X19415 p19270 ((ApiLink.mk p19277 p19278 (w64 (1 + (Int.tmod e19295 20))) (Int.tmod e19299 50))) (H19271.mono g19414) H19416) rfl (fun e19417 v19418 h19419 hq19420 => ?_)
  cases hq19420
  refine lpure (v := .bool (!e19417)) rfl (p_not rfl) rfl rfl ?_
  refine lpure (v := .bool (!e19417)) rfl (p_pick rfl) rfl rfl ?_
  exact ljmpM J19411 (!e19417) () (sub_cons rfl (sub_cons rfl (sub_cons rfl (sub_cons rfl (sub_cons rfl (sub_cons rfl (sub_cons rfl sub_nil))))))) X19304
end Go.AM
