/- Printed: functions of the given program as functions over plain data, and that the machine does what they say; no claim of its own; no condition. -/
import Derived.Test.YtlkddekecegfdaaGpOk1
set_option maxRecDepth 100000
set_option maxHeartbeats 4000000
set_option linter.unusedVariables false
set_option linter.unusedSimpArgs false
namespace Go.AM
open Go Go.Proofs

/-! isochron/route.Time -/
theorem f19_ok {n : Nat} {φ : Fz} {lo : Nat} {h : Heap} {own : OwnL}  {a8059 : Option Addr} {n8059 c8059 : Nat} {a8060 : Option Addr} {n8060 c8060 : Nat} {a8062 : Option Addr} {n8062 c8062 : Nat} (X : St φ lo h (own)) (p8058 : ApiTopo) (p8061 : (List Int)) (p8063 : Int) (H8059 : RSl eBool φ (.slice a8059 n8059 c8059) p8058.Station) (H8060 : RSl eApiLink φ (.slice a8060 n8060 c8060) p8058.Links) (H8062 : RSl (eInt .i64) φ (.slice a8062 n8062 c8062) p8061) : Sim ((recN Try.prog LL cutF (n + 16)).call 19 #[(.agg #[.int .i64 p8058.Nodes, .slice a8059 n8059 c8059, .slice a8060 n8060 c8060]), (.slice a8062 n8062 c8062), (.int .i64 p8063)] h) (m_route_Time p8058 p8061 p8063) (fun (d : (Int × Int)) p => p = (.tuple #[.int .i64 d.1, .int .i64 d.2], h)) := by
  refine fcut Try.func19 rfl rfl rfl rfl X ?_
  intro h0 X0
  refine dseq (dreg ?_)
  refine lbox rfl rfl rfl rfl rfl X0 (fun b8064 h8066 X8067 => ?_)
  refine lbox rfl rfl rfl rfl rfl X8067 (fun b8068 h8070 X8071 => ?_)
  refine lpure (v := .int .i64 0) rfl (p_assign rfl) rfl rfl ?_
  refine lpure (v := .int .i64 0) rfl (p_assign rfl) rfl rfl ?_
  refine lend (nseq (dseq (dseq (dreg ?_))))
  refine lread (v := .agg #[.int .i64 p8058.Nodes, .slice a8059 n8059 c8059, .slice a8060 n8060 c8060]) rfl (q_load wd_29 rfl) (St.ld X8071 (j := 1) rfl rfl) rfl ?_
  refine lpure (v := .slice a8062 n8062 c8062) rfl (p_move rfl) rfl rfl ?_
  refine lcall rfl rfl ca_18 rfl rfl (f18_ok X8071 p8058 p8061 H8059 H8060 H8062) rfl (fun e8072 v8073 h8074 hq8075 => ?_)
  cases hq8075
  refine lpure (v := .int .i64 e8072) rfl (p_assign rfl) rfl rfl ?_
  refine lend (nseq (dseq (dreg ?_)))
  refine lpure (v := .int .i64 e8072) rfl (p_move rfl) rfl rfl ?_
  refine lpure (v := .bool (decide (e8072 ≠ 0))) rfl (p_ne rfl) rfl rfl ?_
  refine lend (nseq ?_)
  refine dcond rfl rfl (fun k8076 => ?_) (fun k8076 => ?_)
  · refine dseq (dreg ?_)
    refine lpure (v := .int .i64 e8072) rfl (p_move rfl) rfl rfl ?_
    refine lpure (v := .int .i64 0) rfl (p_assign rfl) rfl rfl ?_
    refine lpure (v := .int .i64 e8072) rfl (p_assign rfl) rfl rfl ?_
    refine lend (nseq (dret (rseq ?_)))
    exact kcut_r (res_2 resT resT) X8071 rfl rfl
  refine dskip (nseq (dseq (dseq (dreg ?_))))
  refine lread (v := .int .i64 p8063) rfl (q_load wd_3 rfl) (St.ld X8071 (j := 0) rfl rfl) rfl ?_
  refine lpure (v := .bool (decide (p8063 < 84))) rfl (p_lt rfl) rfl rfl ?_
  refine lpure (v := .bool (decide (p8063 < 84))) rfl (p_move rfl) rfl rfl ?_
  refine lsh (τ := Bool) (σ := Unit) (fun s8078 (_ : Unit) => [(1, .slice a8062 n8062 c8062), (3, .pointer (some ⟨b8064, 0, none⟩)), (5, .pointer (some ⟨b8068, 0, none⟩)), (20, .bool s8078)]) (fun s8078 (_ : Unit) hh => St φ h.n hh ([(some b8068, .cells [.int .i64 p8063] 3 .exact), (some b8064, .cells [.int .i64 p8058.Nodes, .slice a8059 n8059 c8059, .slice a8060 n8060 c8060] 29 .exact)])) 3 ?_ ?_
  · rintro s8078 _ t0 h8080 X8079
    refine lend (nseq ?_)
    refine dcond rfl rfl (fun k8081 => ?_) (fun k8081 => ?_)
    · refine dseq (dreg ?_)
      refine lpure (v := .int .i64 0) rfl (p_assign rfl) rfl rfl ?_
      refine lpure (v := .int .i64 2) rfl (p_assign rfl) rfl rfl ?_
      refine lend (nseq (dret (rseq ?_)))
      exact kcut_r (res_2 resT resT) X8079 rfl rfl
    refine dskip (nseq (dseq (dreg ?_)))
    refine lread (v := .agg #[.int .i64 p8058.Nodes, .slice a8059 n8059 c8059, .slice a8060 n8060 c8060]) rfl (q_load wd_29 rfl) (St.ld X8079 (j := 1) rfl rfl) rfl ?_
    refine lpure (v := .slice a8062 n8062 c8062) rfl (p_move rfl) rfl rfl ?_
    refine lpure (v := .func (.func 54) #[] #[.pointer (some ⟨b8068, 0, none⟩)]) rfl (p_makeFunc rfl) rfl rfl ?_
    refine linl rfl rfl rfl rfl ca_53 rfl Try.func53 rfl rfl rfl rfl rfl ?_
    refine dseq (dreg ?_)
    refine lbox rfl rfl rfl rfl rfl X8079 (fun b8082 h8084 X8085 => ?_)
    refine lbox rfl rfl rfl rfl rfl X8085 (fun b8086 h8088 X8089 => ?_)
    refine lbox rfl rfl rfl rfl rfl X8089 (fun b8090 h8092 X8093 => ?_)
    refine lpure (v := .int .i64 0) rfl (p_assign rfl) rfl rfl ?_
    refine lpure (v := .int .i64 0) rfl (p_assign rfl) rfl rfl ?_
    refine lend (nseq (dseq (dreg ?_)))
    refine lread (v := .agg #[.int .i64 p8058.Nodes, .slice a8059 n8059 c8059, .slice a8060 n8060 c8060]) rfl (q_load wd_29 rfl) (St.ld X8093 (j := 2) rfl rfl) rfl ?_
    refine lread (v := .slice a8062 n8062 c8062) rfl (q_load wd_42 rfl) (St.ld X8093 (j := 1) rfl rfl) rfl ?_
    refine lpure (v := .func (.func 100) #[] #[.pointer (some ⟨b8086, 0, none⟩), .pointer (some ⟨b8090, 0, none⟩)]) rfl (p_makeFunc rfl) rfl rfl ?_
    refine linl rfl rfl rfl rfl ca_99 rfl Try.func99 rfl rfl rfl rfl rfl ?_
    refine dseq (dreg ?_)
    refine lbox rfl rfl rfl rfl rfl X8093 (fun b8094 h8096 X8097 => ?_)
    refine lpure (v := .int .i64 0) rfl (p_assign rfl) rfl rfl ?_
    refine lpure (v := .int .i64 0) rfl (p_assign rfl) rfl rfl ?_
    refine lend (nseq (dseq (dseq (dreg ?_))))
    refine lread (v := .agg #[.int .i64 p8058.Nodes, .slice a8059 n8059 c8059, .slice a8060 n8060 c8060]) rfl (q_load wd_29 rfl) (St.ld X8097 (j := 0) rfl rfl) rfl ?_
    refine lpure (v := .slice a8062 n8062 c8062) rfl (p_move rfl) rfl rfl ?_
    refine lcall rfl rfl ca_18 rfl rfl (f18_ok X8097 p8058 p8061 H8059 H8060 H8062) rfl (fun e8098 v8099 h8100 hq8101 => ?_)
    cases hq8101
    refine lpure (v := .int .i64 e8098) rfl (p_assign rfl) rfl rfl ?_
    refine lend (nseq (dseq (dreg ?_)))
    refine lpure (v := .int .i64 e8098) rfl (p_move rfl) rfl rfl ?_
    refine lpure (v := .bool (decide (e8098 ≠ 0))) rfl (p_ne rfl) rfl rfl ?_
    refine lend (nseq ?_)
    refine dcond rfl rfl (fun k8102 => ?_) (fun k8102 => ?_)
    · refine dseq (dreg ?_)
      refine lpure (v := .int .i64 0) rfl (p_assign rfl) rfl rfl ?_
      refine lend (nseq (dseq (dreg ?_)))
      refine lpure (v := .int .i64 0) rfl (p_move rfl) rfl rfl ?_
      refine lpure (v := .int .i64 e8098) rfl (p_move rfl) rfl rfl ?_
      refine lpure (v := .int .i64 0) rfl (p_assign rfl) rfl rfl ?_
      refine lpure (v := .int .i64 e8098) rfl (p_assign rfl) rfl rfl ?_
      refine lend (nseq (dret (rseq ?_)))
      refine kin_r (res_2 resT resT) ?_
      refine lpure (v := .int .i64 0) rfl (p_extract rfl) rfl rfl ?_
      refine lpure (v := .int .i64 e8098) rfl (p_extract rfl) rfl rfl ?_
      refine lpure (v := .int .i64 0) rfl (p_assign rfl) rfl rfl ?_
      refine lpure (v := .int .i64 e8098) rfl (p_assign rfl) rfl rfl ?_
      refine lend (nseq (dret ?_))
      refine kin_r (res_2 resT resT) ?_
      refine lpure (v := .int .i64 0) rfl (p_extract rfl) rfl rfl ?_
      refine lpure (v := .int .i64 e8098) rfl (p_extract rfl) rfl rfl ?_
      refine lpure (v := .int .i64 0) rfl (p_assign rfl) rfl rfl ?_
      refine lpure (v := .int .i64 e8098) rfl (p_assign rfl) rfl rfl ?_
      refine lend (nseq (dret ?_))
      exact kcut_r (res_2 resT resT) X8097 rfl rfl
    refine dskip (nseq (dseq (dreg ?_)))
    refine lpure (v := .func (.func 100) #[] #[.pointer (some ⟨b8086, 0, none⟩), .pointer (some ⟨b8090, 0, none⟩)]) rfl (p_move rfl) rfl rfl ?_
    refine lread (v := .agg #[.int .i64 p8058.Nodes, .slice a8059 n8059 c8059, .slice a8060 n8060 c8060]) rfl (q_load wd_29 rfl) (St.ld X8097 (j := 0) rfl rfl) rfl ?_
    refine lpure (v := .agg #[.int .i64 p8058.Nodes, .slice a8059 n8059 c8059, .slice a8060 n8060 c8060]) rfl (p_build rfl) (build_st' tz_87 pl_87 rfl) rfl ?_
    refine linl rfl rfl rfl rfl ca_100 rfl Try.func100 rfl rfl rfl rfl rfl ?_
    refine dseq (dreg ?_)
    refine lbox rfl rfl rfl rfl rfl X8097 (fun b8103 h8105 X8106 => ?_)
    refine lpure (v := .int .i64 0) rfl (p_assign rfl) rfl rfl ?_
    refine lend (nseq (dseq (dreg ?_)))
    refine lpure (v := .int .i64 0) rfl (p_assign rfl) rfl rfl ?_
    refine lend (nseq (dseq (dseq (dreg ?_))))
    refine lread (v := .slice a8062 n8062 c8062) rfl (q_load wd_42 rfl) (St.ld X8106 (j := 3) rfl rfl) rfl ?_
    refine lpure (v := .int .i64 (p8061.length : Int)) rfl (p_len rfl rfl rfl un_42 rfl) (RSl.lenC H8062) rfl ?_
    refine lpure (v := .int .i64 0) rfl (p_move rfl) rfl rfl ?_
    refine lend (nseq (dblock ?_))
    refine dloopM (τ := Int × Int) (σ := Unit) (fun s8135 (_ : Unit) => [(2, .pointer (some ⟨b8090, 0, none⟩)), (3, .pointer (some ⟨b8103, 0, none⟩)), (5, .int .i64 s8135.1), (8, .slice a8062 n8062 c8062), (9, .int .i64 (p8061.length : Int)), (10, .int .i64 s8135.2)]) (fun s8135 (_ : Unit) hh => St φ h.n hh ([(some b8103, .cells [.int .i64 p8058.Nodes, .slice a8059 n8059 c8059, .slice a8060 n8060 c8060] 87 .exact), (some b8094, .cells [.int .i64 p8058.Nodes, .slice a8059 n8059 c8059, .slice a8060 n8060 c8060] 29 .exact), (some b8090, .cells [.func (.func 54) #[] #[.pointer (some ⟨b8068, 0, none⟩)]] 90 .exact), (some b8086, .cells [.slice a8062 n8062 c8062] 42 .exact), (some b8082, .cells [.int .i64 p8058.Nodes, .slice a8059 n8059 c8059, .slice a8060 n8060 c8060] 29 .exact), (some b8068, .cells [.int .i64 p8063] 3 .exact), (some b8064, .cells [.int .i64 p8058.Nodes, .slice a8059 n8059 c8059, .slice a8060 n8060 c8060] 29 .exact)])) (0, 0) () (sub_cons rfl (sub_cons rfl (sub_cons rfl (sub_cons rfl (sub_cons rfl (sub_cons rfl sub_nil)))))) X8106 ?_
    rintro n8151 ih8150 s8135 _ t0 h8153 X8152
    refine dseq (dreg ?_)
    refine lpure (v := .bool (decide (s8135.2 < (p8061.length : Int)))) rfl (p_lt rfl) rfl rfl ?_
    refine lend (nseq (dseq ?_))
    refine dcond rfl rfl (fun k8154 => ?_) (fun k8154 => ?_)
    · refine dskip (nseq (dseq (dblock (dseq (dreg ?_)))))
      refine Sim.bindM fun e8155 he8156 => ?_
      obtain ⟨p8157, cs8157, hp8157, hF8157, hR8157⟩ := RSl.ia H8062 he8156 (kd := .i64) (n := 1) rfl
      have hR8157 : _ = [(.int .i64 e8155 : Value)] := hR8157
      subst hR8157
      refine lpure (v := p8157) rfl (p_ia rs_42 rfl) hp8157 rfl ?_
      refine lread (v := .int .i64 e8155) rfl (q_load wd_3 rfl) (FP.ld X8152 hF8157) rfl ?_
      refine lpure (v := .int .i64 e8155) rfl (p_assign rfl) rfl rfl ?_
      refine lend (nseq ?_)
      refine dgo_start (n := 12) rfl (by kernel_rfl) ?_
      refine gpure (v := .int .i64 s8135.1) rfl (p_move rfl) (lo_t rfl rfl) rfl rfl ?_
      refine gload (v := .func (.func 54) #[] #[.pointer (some ⟨b8068, 0, none⟩)]) rfl (q_load wd_90 rfl) (St.ld X8152 (j := 2) rfl rfl) rfl ?_
      refine gpure (v := .pointer (some ⟨b8103, 0, none⟩)) rfl (p_fa fo_87_0 rfl) (lo_t (lo_own X8152 (j := 0) (o := 0) (s := none) (f := 0) rfl) rfl) rfl rfl ?_
      refine gpure (v := .pointer (some ⟨b8103, 2, none⟩)) rfl (p_fa fo_29_2 rfl) (lo_t (lo_own X8152 (j := 0) (o := 0) (s := none) (f := 0) rfl) rfl) rfl rfl ?_
      refine gload (v := .slice a8060 n8060 c8060) rfl (q_load wd_27 rfl) (St.ld X8152 (j := 0) rfl rfl) rfl ?_
      refine gpure (v := .int .i64 e8155) rfl (p_move rfl) (lo_t rfl rfl) rfl rfl ?_
      refine gpure (v := .int .i64 (w64 (Int.tdiv e8155 2))) rfl (p_quo rfl) (lo_t rfl (lo_c rfl)) rfl rfl ?_
      refine Sim.bindM fun e8158 he8159 => ?_
      obtain ⟨p8160, cs8160, hp8160, hF8160, hR8160⟩ := RSl.ia H8060 he8159 (kd := .i64) (n := 4) rfl
      obtain rfl := eApiLink_el hR8160
      refine gpure (v := p8160) rfl (p_ia rs_27 rfl) (lo_t (lo_sl X8152 H8060) (lo_t rfl rfl)) hp8160 rfl ?_
      refine gload (v := .agg #[.int .i64 e8158.A, .int .i64 e8158.B, .int .i64 e8158.Per, .int .i64 e8158.Delay]) rfl (q_load wd_75 rfl) (FP.ldw X8152 hF8160 rfl rfl) rfl ?_
      refine gwait rfl (still_act rfl).1 rfl ?_
      refine dgo_skip ?_
      refine dgo_skip ?_
      refine ginl (m := 11) [false, false, false] (rk_cons (q_load wd_75 rfl) (FP.ldw X8152 hF8160 rfl rfl) (same_self 20 rfl) (rk_cons (q_load wd_27 rfl) (St.ld X8152 (j := 0) rfl rfl) (same_self 20 rfl) (rk_cons (q_load wd_90 rfl) (St.ld X8152 (j := 2) rfl rfl) (same_self 20 rfl) rk_nil))) rfl rfl rfl rfl rfl rfl rfl ca_54 rfl Try.func54 rfl rfl rfl rfl rfl ?_
      refine dseq (dreg ?_)
      refine lbox rfl rfl rfl rfl rfl X8152 (fun b8161 h8163 X8164 => ?_)
      refine lpure (v := .int .i64 0) rfl (p_assign rfl) rfl rfl ?_
      refine lend (nseq (dseq (dreg ?_)))
      refine lread (v := .int .i64 p8063) rfl (q_load wd_3 rfl) (St.ld X8164 (j := 6) rfl rfl) rfl ?_
      refine lpure (v := .pointer (some ⟨b8161, 2, none⟩)) rfl (p_fa fo_75_2 rfl) rfl rfl ?_
      refine lread (v := .int .i64 e8158.Per) rfl (q_load wd_3 rfl) (St.ld X8164 (j := 0) rfl rfl) rfl ?_
      refine lpure (v := .int .i64 (w64 (p8063 * e8158.Per))) rfl (p_mul rfl) rfl rfl ?_
      refine lpure (v := .pointer (some ⟨b8161, 3, none⟩)) rfl (p_fa fo_75_3 rfl) rfl rfl ?_
      refine lread (v := .int .i64 e8158.Delay) rfl (q_load wd_3 rfl) (St.ld X8164 (j := 0) rfl rfl) rfl ?_
      refine lpure (v := .int .i64 (w64 ((w64 (p8063 * e8158.Per)) + e8158.Delay))) rfl (p_add rfl) rfl rfl ?_
      refine lpure (v := .int .i64 (w64 ((w64 (p8063 * e8158.Per)) + e8158.Delay))) rfl (p_assign rfl) rfl rfl ?_
      refine lend (nseq (dret ?_))
      refine kin_r (res_1 resT) ?_
      refine dgo_skip ?_
      refine dgo_skip ?_
      refine dgo_skip ?_
      refine dgo_skip ?_
      refine dgo_skip ?_
      refine dgo_skip ?_
      refine dgo_skip ?_
      refine dgo_skip ?_
      refine dgo_skip ?_
      refine dgo_skip ?_
      refine gpure (v := .int .i64 (w64 (s8135.1 + (w64 ((w64 (p8063 * e8158.Per)) + e8158.Delay))))) rfl (p_add rfl) (lo_t rfl (lo_t rfl rfl)) rfl rfl ?_
      refine gpure (v := .int .i64 (w64 (s8135.1 + (w64 ((w64 (p8063 * e8158.Per)) + e8158.Delay))))) rfl (p_assign rfl) (lo_t rfl rfl) rfl rfl ?_
      refine gend rk_nil ?_
      refine nblock (nseq (dreg ?_))
      refine lpure (v := .int .i64 (w64 (s8135.2 + 1))) rfl (p_add rfl) rfl rfl ?_
      refine lpure (v := .int .i64 (w64 (s8135.2 + 1))) rfl (p_move rfl) rfl rfl ?_
      refine lend ?_
      exact kbackM ih8150 ((w64 (s8135.1 + (w64 ((w64 (p8063 * e8158.Per)) + e8158.Delay)))), (w64 (s8135.2 + 1))) () (sub_cons rfl (sub_cons rfl (sub_cons rfl (sub_cons rfl (sub_cons rfl (sub_cons rfl sub_nil)))))) (St.pick X8164 (.skip _ (.keep _ (.keep _ (.keep _ (.keep _ (.keep _ (.keep _ (.keep _ (.nil _))))))))))
    refine dexit (eseq (eloop (xblock (nseq (dseq (dreg ?_))))))
    refine lpure (v := .int .i64 s8135.1) rfl (p_move rfl) rfl rfl ?_
    refine lpure (v := .int .i64 s8135.1) rfl (p_assign rfl) rfl rfl ?_
    refine lend (nseq (dret ?_))
    refine kin_r (res_1 resT) ?_
    refine lpure (v := .int .i64 s8135.1) rfl (p_assign rfl) rfl rfl ?_
    refine lpure (v := .int .i64 0) rfl (p_assign rfl) rfl rfl ?_
    refine lend (nseq (dret ?_))
    refine kin_r (res_2 resT resT) ?_
    refine lpure (v := .int .i64 s8135.1) rfl (p_extract rfl) rfl rfl ?_
    refine lpure (v := .int .i64 0) rfl (p_extract rfl) rfl rfl ?_
    refine lpure (v := .int .i64 s8135.1) rfl (p_assign rfl) rfl rfl ?_
    refine lpure (v := .int .i64 0) rfl (p_assign rfl) rfl rfl ?_
    refine lend (nseq (dret ?_))
    refine kin_r (res_2 resT resT) ?_
    refine lpure (v := .int .i64 s8135.1) rfl (p_extract rfl) rfl rfl ?_
    refine lpure (v := .int .i64 0) rfl (p_extract rfl) rfl rfl ?_
    refine lpure (v := .int .i64 s8135.1) rfl (p_assign rfl) rfl rfl ?_
    refine lpure (v := .int .i64 0) rfl (p_assign rfl) rfl rfl ?_
    refine lend (nseq (dret ?_))
    exact kcut_r (res_2 resT resT) X8152 rfl rfl
  intro j8165 J8166
  refine lcase (i := 17) (show _ = Value.bool (decide (p8063 < 84)) from rfl) (fun k8167 => ?_) (fun k8167 => ?_)
  · refine lskip rfl rfl ?_
    refine lskip rfl rfl ?_
    refine lpure (v := .bool true) rfl (p_pick rfl) rfl rfl ?_
    refine Sim.of_eq (congrArg j8165 (show ((decide (p8063 < 84)) || (decide (1542 < p8063))) = true from by rw [k8167] <;> rfl)) ?_
    exact ljmpM J8166 true () (sub_cons rfl (sub_cons rfl (sub_cons rfl (sub_cons rfl sub_nil)))) X8071
  refine lread (v := .int .i64 p8063) rfl (q_load wd_3 rfl) (St.ld X8071 (j := 0) rfl rfl) rfl ?_
  refine lpure (v := .bool (decide (1542 < p8063))) rfl (p_gt rfl) rfl rfl ?_
  refine lpure (v := .bool (decide (1542 < p8063))) rfl (p_pick rfl) rfl rfl ?_
  refine Sim.of_eq (congrArg j8165 (show ((decide (p8063 < 84)) || (decide (1542 < p8063))) = (decide (1542 < p8063)) from by rw [k8167] <;> rfl)) ?_
  exact ljmpM J8166 (decide (1542 < p8063)) () (sub_cons rfl (sub_cons rfl (sub_cons rfl (sub_cons rfl sub_nil)))) X8071
/-! isochron/route.Back -/
theorem f23_ok {n : Nat} {φ : Fz} {lo : Nat} {h : Heap} {own : OwnL}  {a8305 : Option Addr} {n8305 c8305 : Nat} {a8306 : Option Addr} {n8306 c8306 : Nat} {a8308 : Option Addr} {n8308 c8308 : Nat} (X : St φ lo h (own)) (p8304 : ApiTopo) (p8307 : (List Int)) (H8305 : RSl eBool φ (.slice a8305 n8305 c8305) p8304.Station) (H8306 : RSl eApiLink φ (.slice a8306 n8306 c8306) p8304.Links) (H8308 : RSl (eInt .i64) φ (.slice a8308 n8308 c8308) p8307) : Sim ((recN Try.prog LL cutF (n + 15)).call 23 #[(.agg #[.int .i64 p8304.Nodes, .slice a8305 n8305 c8305, .slice a8306 n8306 c8306]), (.slice a8308 n8308 c8308)] h) (m_route_Back p8304 p8307) (fun (d : ((List Int) × Int)) p => ∃ φ2 : Fz, ∃ a8430 : Option Addr, ∃ n8430 : Nat, ∃ c8430 : Nat, ∃ ob8430 : Option Nat, ∃ blk8430 : Blk, Fz.le φ φ2 ∧ St φ2 lo p.2 ((ob8430, blk8430) :: own) ∧ p.1 = .tuple #[.slice a8430 n8430 c8430, .int .i64 d.2] ∧ OSl (eInt .i64) φ2 3 ob8430 blk8430 (.slice a8430 n8430 c8430) d.1) := by
  refine fopen Try.func23 rfl rfl rfl rfl ?_
  refine dseq (dreg ?_)
  refine lbox rfl rfl rfl rfl rfl X (fun b8309 h8311 X8312 => ?_)
  refine lbox rfl rfl rfl rfl rfl X8312 (fun b8313 h8315 X8316 => ?_)
  refine lpure (v := .slice none 0 0) rfl (p_assign rfl) rfl rfl ?_
  refine lpure (v := .int .i64 0) rfl (p_assign rfl) rfl rfl ?_
  refine lend (nseq (dseq (dreg ?_)))
  refine lread (v := .agg #[.int .i64 p8304.Nodes, .slice a8305 n8305 c8305, .slice a8306 n8306 c8306]) rfl (q_load wd_29 rfl) (St.ld X8316 (j := 1) rfl rfl) rfl ?_
  refine lread (v := .slice a8308 n8308 c8308) rfl (q_load wd_42 rfl) (St.ld X8316 (j := 0) rfl rfl) rfl ?_
  refine lpure (v := .func (.func 62) #[] #[.pointer (some ⟨b8313, 0, none⟩)]) rfl (p_makeFunc rfl) rfl rfl ?_
  refine linl rfl rfl rfl rfl ca_61 rfl Try.func61 rfl rfl rfl rfl rfl ?_
  refine dseq (dreg ?_)
  refine lbox rfl rfl rfl rfl rfl X8316 (fun b8317 h8319 X8320 => ?_)
  refine lpure (v := .slice none 0 0) rfl (p_assign rfl) rfl rfl ?_
  refine lpure (v := .int .i64 0) rfl (p_assign rfl) rfl rfl ?_
  refine lend (nseq (dseq (dseq (dreg ?_))))
  refine lread (v := .agg #[.int .i64 p8304.Nodes, .slice a8305 n8305 c8305, .slice a8306 n8306 c8306]) rfl (q_load wd_29 rfl) (St.ld X8320 (j := 0) rfl rfl) rfl ?_
  refine lpure (v := .slice a8308 n8308 c8308) rfl (p_move rfl) rfl rfl ?_
  refine lcall rfl rfl ca_18 rfl rfl (f18_ok X8320 p8304 p8307 H8305 H8306 H8308) rfl (fun e8321 v8322 h8323 hq8324 => ?_)
  cases hq8324
  refine lpure (v := .int .i64 e8321) rfl (p_assign rfl) rfl rfl ?_
  refine lend (nseq (dseq (dreg ?_)))
  refine lpure (v := .int .i64 e8321) rfl (p_move rfl) rfl rfl ?_
  refine lpure (v := .bool (decide (e8321 ≠ 0))) rfl (p_ne rfl) rfl rfl ?_
  refine lend (nseq ?_)
  refine dcond rfl rfl (fun k8325 => ?_) (fun k8325 => ?_)
  · refine dseq (dreg ?_)
    refine lpure (v := .slice none 0 0) rfl (p_assign rfl) rfl rfl ?_
    refine lend (nseq (dseq (dreg ?_)))
    refine lpure (v := .slice none 0 0) rfl (p_move rfl) rfl rfl ?_
    refine lpure (v := .int .i64 e8321) rfl (p_move rfl) rfl rfl ?_
    refine lpure (v := .slice none 0 0) rfl (p_assign rfl) rfl rfl ?_
    refine lpure (v := .int .i64 e8321) rfl (p_assign rfl) rfl rfl ?_
    refine lend (nseq (dret (rseq ?_)))
    refine kin_r (res_2 resT resT) ?_
    refine lpure (v := .slice none 0 0) rfl (p_extract rfl) rfl rfl ?_
    refine lpure (v := .int .i64 e8321) rfl (p_extract rfl) rfl rfl ?_
    refine lpure (v := .slice none 0 0) rfl (p_assign rfl) rfl rfl ?_
    refine lpure (v := .int .i64 e8321) rfl (p_assign rfl) rfl rfl ?_
    refine lend (nseq (dret ?_))
    exact kopen_r (res_2 resT resT) ⟨φ, none, 0, 0, none, (.dead), (Fz.le_refl _), St.pick X8320 (.none _ (.skip _ (.skip _ (.skip _ (.refl _))))), rfl, OSl.nil⟩
  refine dskip (nseq (dseq (dreg ?_)))
  refine lpure (v := .func (.func 62) #[] #[.pointer (some ⟨b8313, 0, none⟩)]) rfl (p_move rfl) rfl rfl ?_
  refine lread (v := .agg #[.int .i64 p8304.Nodes, .slice a8305 n8305 c8305, .slice a8306 n8306 c8306]) rfl (q_load wd_29 rfl) (St.ld X8320 (j := 0) rfl rfl) rfl ?_
  refine lpure (v := .agg #[.int .i64 p8304.Nodes, .slice a8305 n8305 c8305, .slice a8306 n8306 c8306]) rfl (p_build rfl) (build_st' tz_87 pl_87 rfl) rfl ?_
  refine linl rfl rfl rfl rfl ca_62 rfl Try.func62 rfl rfl rfl rfl rfl ?_
  refine dseq (dreg ?_)
  refine lbox rfl rfl rfl rfl rfl X8320 (fun b8326 h8328 X8329 => ?_)
  refine lpure (v := .slice none 0 0) rfl (p_assign rfl) rfl rfl ?_
  refine lend (nseq (dseq (dreg ?_)))
  refine lalloc rfl tz_42 rfl rfl rfl X8329 (fun b8330 h8332 X8333 => ?_)
  refine lend (nseq (dseq (dseq (dreg ?_))))
  refine lread (v := .slice a8308 n8308 c8308) rfl (q_load wd_42 rfl) (St.ld X8333 (j := 3) rfl rfl) rfl ?_
  refine linl rfl rfl rfl rfl ca_63 rfl Try.func63 rfl rfl rfl rfl rfl ?_
  refine dseq (dreg ?_)
  refine lbox rfl rfl rfl rfl rfl X8333 (fun b8334 h8336 X8337 => ?_)
  refine lpure (v := .nilFunc) rfl (p_assign rfl) rfl rfl ?_
  refine lend (nseq (dseq (dreg ?_)))
  refine lpure (v := .func (.func 103) #[] #[.pointer (some ⟨b8334, 0, none⟩)]) rfl (p_makeFunc rfl) rfl rfl ?_
  refine lpure (v := .func (.func 103) #[] #[.pointer (some ⟨b8334, 0, none⟩)]) rfl (p_assign rfl) rfl rfl ?_
  refine lend (nseq (dret ?_))
  refine kin_r (res_1 resT) ?_
  refine lend (nseq (dblock ?_))
  refine drange rfl rfl ca_103 Try.func103 rfl rfl X8337 (fun _ => rfl) ?_
  intro l8338 q8339 df8340 h8342 Q8341 X8343
  refine dseq (dreg ?_)
  refine lread (v := .slice a8308 n8308 c8308) rfl (q_load wd_42 rfl) (St.ld X8343 (j := 2) rfl rfl) rfl ?_
  refine lpure (v := .int .i64 (p8307.length : Int)) rfl (p_len rfl rfl rfl un_42 rfl) (RSl.lenC H8308) rfl ?_
  refine lpure (v := .int .i64 (w64 ((p8307.length : Int) - 1))) rfl (p_sub rfl) rfl rfl ?_
  refine lpure (v := .int .i64 (w64 ((p8307.length : Int) - 1))) rfl (p_assign rfl) rfl rfl ?_
  refine lend (nseq (dblock ?_))
  refine dloopM (τ := Int × (List Int)) (σ := Option Addr × Nat × Nat × Option Nat × Blk) (fun s8388 (a8390, n8390, c8390, ob8390, blk8390) => [(0, .func (.yield l8338) #[] #[]), (1, .pointer (some ⟨b8334, 0, none⟩)), (3, .int .i64 s8388.1)]) (fun s8388 (a8390, n8390, c8390, ob8390, blk8390) hh => St φ lo hh ((ob8390, blk8390) :: (some l8338, rdy q8339) :: (none, .dead) :: (some b8334, .cells [.slice a8308 n8308 c8308] 42 .exact) :: (some b8330, .cells [.slice a8390 n8390 c8390] 42 .exact) :: (some b8326, .cells [.int .i64 p8304.Nodes, .slice a8305 n8305 c8305, .slice a8306 n8306 c8306] 87 .exact) :: (some b8317, .cells [.int .i64 p8304.Nodes, .slice a8305 n8305 c8305, .slice a8306 n8306 c8306] 29 .exact) :: (some b8313, .cells [.slice a8308 n8308 c8308] 42 .exact) :: (some b8309, .cells [.int .i64 p8304.Nodes, .slice a8305 n8305 c8305, .slice a8306 n8306 c8306] 29 .exact) :: own) ∧ OSl (eInt .i64) φ 3 ob8390 blk8390 (.slice a8390 n8390 c8390) s8388.2) ((w64 ((p8307.length : Int) - 1)), []) (none, 0, 0, none, .dead) (sub_cons rfl (sub_cons rfl (sub_cons rfl sub_nil))) ⟨(St.pick X8343 (.none _ (.keep _ (.none _ (.skip _ (.keep _ (.keep _ (.keep _ (.keep _ (.keep _ (.keep _ (.refl _)))))))))))), OSl.nil⟩ ?_
  rintro n8411 ih8410 s8388 ⟨a8390, n8390, c8390, ob8390, blk8390⟩ t0 h8413 ⟨X8412, O8390⟩
  refine dseq (dseq (dreg ?_))
  refine lpure (v := .int .i64 s8388.1) rfl (p_move rfl) rfl rfl ?_
  refine lpure (v := .bool (decide (0 ≤ s8388.1))) rfl (p_ge rfl) rfl rfl ?_
  refine lend (nseq ?_)
  refine dcond rfl rfl (fun k8414 => ?_) (fun k8414 => ?_)
  · refine dskip (nseq (dseq (dblock (dseq (dreg ?_)))))
    refine lpure (v := .func (.yield l8338) #[] #[]) rfl (p_move rfl) rfl rfl ?_
    refine lpure (v := .int .i64 s8388.1) rfl (p_move rfl) rfl rfl ?_
    refine lread (v := .slice a8308 n8308 c8308) rfl (q_load wd_42 rfl) (St.ld X8412 (j := 3) rfl rfl) rfl ?_
    refine lpure (v := .int .i64 s8388.1) rfl (p_move rfl) rfl rfl ?_
    refine Sim.bindM fun e8415 he8416 => ?_
    obtain ⟨p8417, cs8417, hp8417, hF8417, hR8417⟩ := RSl.ia H8308 he8416 (kd := .i64) (n := 1) rfl
    have hR8417 : _ = [(.int .i64 e8415 : Value)] := hR8417
    subst hR8417
    refine lpure (v := p8417) rfl (p_ia rs_42 rfl) hp8417 rfl ?_
    refine lread (v := .int .i64 e8415) rfl (q_load wd_3 rfl) (FP.ld X8412 hF8417) rfl ?_
    refine lround rfl rfl rfl rfl rfl rfl X8412 (j := 1) rfl Q8341 rfl rfl rfl rfl rfl (fun t8418 => ?_)
    refine dreg ?_
    refine lpure (v := .int .i64 e8415) rfl (p_assign rfl) rfl rfl ?_
    refine lend ?_
    refine basg X8412 (j := 1) rfl (fun h8419 X8420 => ?_)
    refine dblock (dreg ?_)
    refine lread (v := .slice a8390 n8390 c8390) rfl (q_load wd_42 rfl) (St.ld X8420 (j := 4) rfl rfl) rfl ?_
    refine lpure (v := .int .i64 e8415) rfl (p_move rfl) rfl rfl ?_
    refine lpure (v := .int .i64 (bitXor .i64 e8415 1)) rfl (p_bin rfl) bin_xor rfl ?_
    obtain ⟨h8421, b8421, hv8421, X8421, O8421⟩ := OSl.lay (E := (eInt .i64)) (φ := φ) (cs := [.int .i64 (bitXor .i64 e8415 1)]) (l := [(bitXor .i64 e8415 1)]) (len := 1) (parts := [(0, .int .i64 (bitXor .i64 e8415 1))]) un_42 ts_3 rfl rfl rfl tz_3 rfl rfl (show RowD (eInt .i64) φ [.int .i64 (bitXor .i64 e8415 1)] [(bitXor .i64 e8415 1)] from ⟨[.int .i64 (bitXor .i64 e8415 1)], _, rfl, rfl, rfl⟩) rfl rfl X8420
    refine lheap rfl (h_buildSlice rfl) hv8421 rfl ?_
    obtain ⟨ws8423, hw8423⟩ := OSl.read O8421 X8421 (k := 0) rfl (n := 1) rfl
    refine Sim.mustM fun k8423 => ?_
    obtain ⟨h8423, a8423, c8423, ob8423, blk8423, hv8423, X8423, O8423⟩ := OSl.append O8390 X8421 (j := 1) rfl hw8423 k8423 (ts := #[42, 42]) rfl un_42 (argOk_of ax_42_42) ts_3 rfl rfl tb_3 rfl tz_3 rfl
    refine lheap rfl (h_builtin rfl rfl) hv8423 rfl ?_
    refine lstore rfl ts_42 rfl rfl (j := 5) rfl rfl rfl rfl rfl rfl X8423 (fun h8424 X8425 => ?_)
    refine lend (nblock ?_)
    refine nrnd X8425 (j := 2) rfl (fun h8426 X8427 => ?_)
    refine lpure (v := .bool false) rfl (p_not rfl) rfl rfl ?_
    refine lend (nseq (dcondF rfl rfl (dskip (nblock (nseq (dreg ?_))))))
    refine lpure (v := .int .i64 s8388.1) rfl (p_move rfl) rfl rfl ?_
    refine lpure (v := .int .i64 (w64 (s8388.1 - 1))) rfl (p_sub rfl) rfl rfl ?_
    refine lpure (v := .int .i64 (w64 (s8388.1 - 1))) rfl (p_assign rfl) rfl rfl ?_
    refine lend ?_
    exact kbackM ih8410 ((w64 (s8388.1 - 1)), (s8388.2 ++ ([(bitXor .i64 e8415 1)]))) (a8423, (s8388.2.length + ([(bitXor .i64 e8415 1)]).length), c8423, ob8423, blk8423) (sub_cons rfl (sub_cons rfl (sub_cons rfl sub_nil))) ⟨(St.pick X8427 (.skip _ (.keep _ (.keep _ (.none _ (.skip _ (.keep _ (.keep _ (.keep _ (.keep _ (.keep _ (.keep _ (.refl _))))))))))))), O8423⟩
  refine dexit (eseq (eloop (xblock ?_)))
  refine kin_n res_0 ?_
  refine rend_n X8412 (j := 1) rfl (fun h8428 X8429 => ?_)
  refine nblock (nseq (dseq (dreg ?_)))
  refine lread (v := .slice a8390 n8390 c8390) rfl (q_load wd_42 rfl) (St.ld X8429 (j := 4) rfl rfl) rfl ?_
  refine lpure (v := .slice a8390 n8390 c8390) rfl (p_assign rfl) rfl rfl ?_
  refine lend (nseq (dret ?_))
  refine kin_r (res_1 resT) ?_
  refine lpure (v := .slice a8390 n8390 c8390) rfl (p_assign rfl) rfl rfl ?_
  refine lpure (v := .int .i64 0) rfl (p_assign rfl) rfl rfl ?_
  refine lend (nseq (dret ?_))
  refine kin_r (res_2 resT resT) ?_
  refine lpure (v := .slice a8390 n8390 c8390) rfl (p_extract rfl) rfl rfl ?_
  refine lpure (v := .int .i64 0) rfl (p_extract rfl) rfl rfl ?_
  refine lpure (v := .slice a8390 n8390 c8390) rfl (p_assign rfl) rfl rfl ?_
  refine lpure (v := .int .i64 0) rfl (p_assign rfl) rfl rfl ?_
  refine lend (nseq (dret ?_))
  exact kopen_r (res_2 resT resT) ⟨φ, a8390, n8390, c8390, ob8390, blk8390, (Fz.le_refl _), St.pick X8429 (.keep _ (.skip _ (.skip _ (.skip _ (.skip _ (.skip _ (.skip _ (.skip _ (.skip _ (.refl _)))))))))), rfl, O8390⟩
/-! isochron/route.inner -/
theorem f60_ok {n : Nat} {φ : Fz} {lo : Nat} {h : Heap} {own : OwnL}  {a8536 : Option Addr} {n8536 c8536 : Nat} (X : St φ lo h (own)) (p8535 : (List Int)) (H8536 : RSl (eInt .i64) φ (.slice a8536 n8536 c8536) p8535) : Sim ((recN Try.prog LL cutF (n + 1)).call 60 #[(.slice a8536 n8536 c8536)] h) (m_route_inner p8535) (fun (d : (List Int)) p => ∃ a8538 : Option Addr, ∃ n8538 : Nat, ∃ c8538 : Nat, p = (.slice a8538 n8538 c8538, h) ∧ RSl (eInt .i64) φ (.slice a8538 n8538 c8538) d) := by
  refine fcut Try.func60 rfl rfl rfl rfl X ?_
  intro h0 X0
  refine dseq (dreg ?_)
  refine lpure (v := .slice none 0 0) rfl (p_assign rfl) rfl rfl ?_
  refine lend (nseq (dseq (dreg ?_)))
  refine lpure (v := .slice a8536 n8536 c8536) rfl (p_move rfl) rfl rfl ?_
  refine lpure (v := .slice a8536 n8536 c8536) rfl (p_move rfl) rfl rfl ?_
  refine lpure (v := .int .i64 (p8535.length : Int)) rfl (p_len rfl rfl rfl un_33 rfl) (RSl.lenC H8536) rfl ?_
  refine lpure (v := .int .i64 (w64 ((p8535.length : Int) - 1))) rfl (p_sub rfl) rfl rfl ?_
  refine lpure (v := .slice a8536 n8536 c8536) rfl (p_move rfl) rfl rfl ?_
  refine lpure (v := .int .i64 (p8535.length : Int)) rfl (p_len rfl rfl rfl un_33 rfl) (RSl.lenC H8536) rfl ?_
  refine lpure (v := .int .i64 (w64 ((p8535.length : Int) - 1))) rfl (p_sub rfl) rfl rfl ?_
  refine Sim.mustM fun k8537 => ?_
  have k8537 := of_decide_eq_true k8537
  obtain ⟨a8537, n8537, c8537, hv8537, H8537, K8537⟩ := RSl.slice3 (mx := .int .i64 (w64 ((p8535.length : Int) - 1))) H8536 un_33 ts_3 rfl (bnd_int (show (0 : Int) ≤ 1 from by omega)) ⟨.i64, (w64 ((p8535.length : Int) - 1)), rfl, by omega, rfl⟩ ⟨.i64, (w64 ((p8535.length : Int) - 1)), rfl, by omega, rfl⟩ (by omega) (by omega) (by omega) (by omega) (by unfold unk; omega)
  refine lpure rfl (p_slice3 ⟨_, _, _, rfl⟩ rfl (evo_ok rfl) (evo_ok rfl) rfl) hv8537 rfl ?_
  refine lpure (v := .slice a8537 n8537 c8537) rfl (p_assign rfl) rfl rfl ?_
  refine lend (nseq (dret ?_))
  exact kcut_r (res_1 resT) X0 (lo_slF X.fzlt H8537) ⟨a8537, n8537, c8537, rfl, H8537⟩
/-! isochron/route.meet -/
theorem f59_ok {n : Nat} {φ : Fz} {lo : Nat} {h : Heap} {own : OwnL}  {a8549 : Option Addr} {n8549 c8549 : Nat} {a8551 : Option Addr} {n8551 c8551 : Nat} (X : St φ lo h (own)) (p8548 : (List Int)) (p8550 : (List Int)) (H8549 : RSl (eInt .i64) φ (.slice a8549 n8549 c8549) p8548) (H8551 : RSl (eInt .i64) φ (.slice a8551 n8551 c8551) p8550) : Sim ((recN Try.prog LL cutF (n + 6)).call 59 #[(.slice a8549 n8549 c8549), (.slice a8551 n8551 c8551)] h) (m_route_meet p8548 p8550) (fun (d : Bool) p => p = (.bool d, h)) := by
  refine fcut Try.func59 rfl rfl rfl rfl X ?_
  intro h0 X0
  refine dseq (dreg ?_)
  refine lbox rfl rfl rfl rfl rfl X0 (fun b8552 h8554 X8555 => ?_)
  refine lpure (v := .bool false) rfl (p_assign rfl) rfl rfl ?_
  refine lend (nseq (dseq (dreg ?_)))
  refine lpure (v := .slice a8549 n8549 c8549) rfl (p_move rfl) rfl rfl ?_
  refine lpure (v := .func (.func 102) #[] #[.pointer (some ⟨b8552, 0, none⟩)]) rfl (p_makeFunc rfl) rfl rfl ?_
  refine linl rfl rfl rfl rfl ca_73 rfl Try.func73 rfl rfl rfl rfl rfl ?_
  refine dseq (dreg ?_)
  refine lpure (v := .bool false) rfl (p_assign rfl) rfl rfl ?_
  refine lend (nseq (dseq (dreg ?_)))
  refine lpure (v := .slice a8549 n8549 c8549) rfl (p_move rfl) rfl rfl ?_
  refine lpure (v := .func (.func 102) #[] #[.pointer (some ⟨b8552, 0, none⟩)]) rfl (p_move rfl) rfl rfl ?_
  refine linl rfl rfl rfl rfl ca_106 rfl Try.func106 rfl rfl rfl rfl rfl ?_
  refine dseq (dreg ?_)
  refine lpure (v := .int .i64 0) rfl (p_assign rfl) rfl rfl ?_
  refine lend (nseq (dseq (dseq (dreg ?_))))
  refine lpure (v := .slice a8549 n8549 c8549) rfl (p_move rfl) rfl rfl ?_
  refine lpure (v := .int .i64 (p8548.length : Int)) rfl (p_len rfl rfl rfl un_33 rfl) (RSl.lenC H8549) rfl ?_
  refine lpure (v := .int .i64 0) rfl (p_move rfl) rfl rfl ?_
  refine lend (nseq (dblock ?_))
  refine dloopM (τ := Int) (σ := Unit) (fun s8580 (_ : Unit) => [(0, .slice a8549 n8549 c8549), (1, .func (.func 102) #[] #[.pointer (some ⟨b8552, 0, none⟩)]), (7, .int .i64 (p8548.length : Int)), (8, .int .i64 s8580)]) (fun s8580 (_ : Unit) hh => St φ h.n hh ([(some b8552, .cells [.slice a8551 n8551 c8551] 33 .exact)])) 0 () (sub_cons rfl (sub_cons rfl (sub_cons rfl (sub_cons rfl sub_nil)))) X8555 ?_
  rintro n8594 ih8593 s8580 _ t0 h8596 X8595
  refine dseq (dreg ?_)
  refine lpure (v := .bool (decide (s8580 < (p8548.length : Int)))) rfl (p_lt rfl) rfl rfl ?_
  refine lend (nseq (dseq ?_))
  refine dcond rfl rfl (fun k8597 => ?_) (fun k8597 => ?_)
  · refine dskip (nseq (dseq (dblock (dseq (dreg ?_)))))
    refine lpure (v := .int .i64 s8580) rfl (p_move rfl) rfl rfl ?_
    refine lpure (v := .int .i64 s8580) rfl (p_assign rfl) rfl rfl ?_
    refine lend (nseq (dseq (dreg ?_)))
    refine lpure (v := .func (.func 102) #[] #[.pointer (some ⟨b8552, 0, none⟩)]) rfl (p_move rfl) rfl rfl ?_
    refine lpure (v := .slice a8549 n8549 c8549) rfl (p_move rfl) rfl rfl ?_
    refine lpure (v := .int .i64 s8580) rfl (p_move rfl) rfl rfl ?_
    refine Sim.bindM fun e8598 he8599 => ?_
    obtain ⟨p8600, cs8600, hp8600, hF8600, hR8600⟩ := RSl.ia H8549 he8599 (kd := .i64) (n := 1) rfl
    have hR8600 : _ = [(.int .i64 e8598 : Value)] := hR8600
    subst hR8600
    refine lpure (v := p8600) rfl (p_ia rs_33 rfl) hp8600 rfl ?_
    refine lread (v := .int .i64 e8598) rfl (q_load wd_3 rfl) (FP.ld X8595 hF8600) rfl ?_
    refine linl rfl rfl rfl rfl ca_102 rfl Try.func102 rfl rfl rfl rfl rfl ?_
    refine dseq (dreg ?_)
    refine lpure (v := .bool false) rfl (p_assign rfl) rfl rfl ?_
    refine lend (nseq (dseq (dreg ?_)))
    refine lread (v := .slice a8551 n8551 c8551) rfl (q_load wd_33 rfl) (St.ld X8595 (j := 0) rfl rfl) rfl ?_
    refine lpure (v := .int .i64 e8598) rfl (p_move rfl) rfl rfl ?_
    refine lcall rfl rfl ca_68 rfl rfl (f68_ok X8595 p8550 e8598 H8551) rfl (fun e8601 v8602 h8603 hq8604 => ?_)
    cases hq8604
    refine lpure (v := .bool e8601) rfl (p_assign rfl) rfl rfl ?_
    refine lend (nseq (dret ?_))
    refine kin_r (res_1 resT) ?_
    refine lend (nseq ?_)
    refine dcond rfl rfl (fun k8605 => ?_) (fun k8605 => ?_)
    · refine dseq (dreg ?_)
      refine lpure (v := .int .i64 s8580) rfl (p_move rfl) rfl rfl ?_
      refine lpure (v := .int .i64 s8580) rfl (p_assign rfl) rfl rfl ?_
      refine lend (nseq (dret (rblock (rseq (rloop (rblock (rseq ?_)))))))
      refine kin_r (res_1 resT) ?_
      refine lpure (v := .bool (decide (0 ≤ s8580))) rfl (p_ge rfl) rfl rfl ?_
      refine lpure (v := .bool (decide (0 ≤ s8580))) rfl (p_assign rfl) rfl rfl ?_
      refine lend (nseq (dret ?_))
      refine kin_r (res_1 resT) ?_
      refine lpure (v := .bool (decide (0 ≤ s8580))) rfl (p_assign rfl) rfl rfl ?_
      refine lend (nseq (dret ?_))
      exact kcut_r (res_1 resT) X8595 rfl rfl
    refine dskip (nblock (nseq (dreg ?_)))
    refine lpure (v := .int .i64 (w64 (s8580 + 1))) rfl (p_add rfl) rfl rfl ?_
    refine lpure (v := .int .i64 (w64 (s8580 + 1))) rfl (p_move rfl) rfl rfl ?_
    refine lend ?_
    exact kbackM ih8593 (w64 (s8580 + 1)) () (sub_cons rfl (sub_cons rfl (sub_cons rfl (sub_cons rfl sub_nil)))) X8595
  refine dexit (eseq (eloop (xblock (nseq (dseq (dreg ?_))))))
  refine lpure (v := .int .i64 (-1)) rfl (p_assign rfl) rfl rfl ?_
  refine lend (nseq (dret ?_))
  refine kin_r (res_1 resT) ?_
  refine lpure (v := .bool false) rfl (p_ge rfl) rfl rfl ?_
  refine lpure (v := .bool false) rfl (p_assign rfl) rfl rfl ?_
  refine lend (nseq (dret ?_))
  refine kin_r (res_1 resT) ?_
  refine lpure (v := .bool false) rfl (p_assign rfl) rfl rfl ?_
  refine lend (nseq (dret ?_))
  exact kcut_r (res_1 resT) X8595 rfl rfl
/-! isochron/route.Apart -/
theorem f22_ok {n : Nat} {φ : Fz} {lo : Nat} {h : Heap} {own : OwnL}  {a8450 : Option Addr} {n8450 c8450 : Nat} {a8451 : Option Addr} {n8451 c8451 : Nat} {a8453 : Option Addr} {n8453 c8453 : Nat} {a8455 : Option Addr} {n8455 c8455 : Nat} (X : St φ lo h (own)) (p8449 : ApiTopo) (p8452 : (List Int)) (p8454 : (List Int)) (H8450 : RSl eBool φ (.slice a8450 n8450 c8450) p8449.Station) (H8451 : RSl eApiLink φ (.slice a8451 n8451 c8451) p8449.Links) (H8453 : RSl (eInt .i64) φ (.slice a8453 n8453 c8453) p8452) (H8455 : RSl (eInt .i64) φ (.slice a8455 n8455 c8455) p8454) : Sim ((recN Try.prog LL cutF (n + 17)).call 22 #[(.agg #[.int .i64 p8449.Nodes, .slice a8450 n8450 c8450, .slice a8451 n8451 c8451]), (.slice a8453 n8453 c8453), (.slice a8455 n8455 c8455)] h) (m_route_Apart p8449 p8452 p8454) (fun (d : (Bool × Int)) p => p = (.tuple #[.bool d.1, .int .i64 d.2], h)) := by
  refine fcut Try.func22 rfl rfl rfl rfl X ?_
  intro h0 X0
  refine dseq (dreg ?_)
  refine lbox rfl rfl rfl rfl rfl X0 (fun b8456 h8458 X8459 => ?_)
  refine lbox rfl rfl rfl rfl rfl X8459 (fun b8460 h8462 X8463 => ?_)
  refine lpure (v := .bool false) rfl (p_assign rfl) rfl rfl ?_
  refine lpure (v := .int .i64 0) rfl (p_assign rfl) rfl rfl ?_
  refine lend (nseq (dseq (dreg ?_)))
  refine lread (v := .agg #[.int .i64 p8449.Nodes, .slice a8450 n8450 c8450, .slice a8451 n8451 c8451]) rfl (q_load wd_29 rfl) (St.ld X8463 (j := 1) rfl rfl) rfl ?_
  refine lpure (v := .slice a8453 n8453 c8453) rfl (p_move rfl) rfl rfl ?_
  refine lcall rfl rfl ca_24 rfl rfl (f24_ok X8463 p8449 p8452 H8450 H8451 H8453) rfl ?_
  rintro e8464 _ h8466 ⟨φ8468, a8471, n8471, c8471, ob8471, blk8471, g8469, X8470, rfl, O8471⟩
  refine lpure (v := .tuple #[.slice a8471 n8471 c8471, .int .i64 e8464.2]) rfl (p_move rfl) rfl rfl ?_
  refine lpure (v := .slice a8471 n8471 c8471) rfl (p_extract rfl) rfl rfl ?_
  refine lpure (v := .int .i64 e8464.2) rfl (p_extract rfl) rfl rfl ?_
  refine lpure (v := .slice a8471 n8471 c8471) rfl (p_assign rfl) rfl rfl ?_
  refine lpure (v := .int .i64 e8464.2) rfl (p_assign rfl) rfl rfl ?_
  refine lend (nseq (dseq (dseq (dreg ?_))))
  refine lpure (v := .int .i64 e8464.2) rfl (p_move rfl) rfl rfl ?_
  refine lpure (v := .bool (decide (e8464.2 ≠ 0))) rfl (p_ne rfl) rfl rfl ?_
  refine lend (nseq ?_)
  refine dcond rfl rfl (fun k8473 => ?_) (fun k8473 => ?_)
  · refine dseq (dreg ?_)
    refine lpure (v := .int .i64 e8464.2) rfl (p_move rfl) rfl rfl ?_
    refine lpure (v := .bool false) rfl (p_assign rfl) rfl rfl ?_
    refine lpure (v := .int .i64 e8464.2) rfl (p_assign rfl) rfl rfl ?_
    refine lend (nseq (dret (rseq ?_)))
    exact kcut_r (res_2 resT resT) X8470 rfl rfl
  refine dskip (nseq (dseq (dreg ?_)))
  refine lread (v := .agg #[.int .i64 p8449.Nodes, .slice a8450 n8450 c8450, .slice a8451 n8451 c8451]) rfl (q_load wd_29 rfl) (St.ld X8470 (j := 2) rfl rfl) rfl ?_
  refine lread (v := .slice a8455 n8455 c8455) rfl (q_load wd_42 rfl) (St.ld X8470 (j := 1) rfl rfl) rfl ?_
  refine lcall rfl rfl ca_24 rfl rfl (f24_ok X8470 p8449 p8454 (H8450.mono g8469) (H8451.mono g8469) (H8455.mono g8469)) rfl ?_
  rintro e8474 _ h8476 ⟨φ8478, a8481, n8481, c8481, ob8481, blk8481, g8479, X8480, rfl, O8481⟩
  refine lpure (v := .tuple #[.slice a8481 n8481 c8481, .int .i64 e8474.2]) rfl (p_move rfl) rfl rfl ?_
  refine lpure (v := .slice a8481 n8481 c8481) rfl (p_extract rfl) rfl rfl ?_
  refine lpure (v := .int .i64 e8474.2) rfl (p_extract rfl) rfl rfl ?_
  refine lpure (v := .slice a8481 n8481 c8481) rfl (p_assign rfl) rfl rfl ?_
  refine lpure (v := .int .i64 e8474.2) rfl (p_assign rfl) rfl rfl ?_
  refine lend (nseq (dseq (dseq (dreg ?_))))
  refine lpure (v := .int .i64 e8474.2) rfl (p_move rfl) rfl rfl ?_
  refine lpure (v := .bool (decide (e8474.2 ≠ 0))) rfl (p_ne rfl) rfl rfl ?_
  refine lend (nseq ?_)
  refine dcond rfl rfl (fun k8483 => ?_) (fun k8483 => ?_)
  · refine dseq (dreg ?_)
    refine lpure (v := .int .i64 e8474.2) rfl (p_move rfl) rfl rfl ?_
    refine lpure (v := .bool false) rfl (p_assign rfl) rfl rfl ?_
    refine lpure (v := .int .i64 e8474.2) rfl (p_assign rfl) rfl rfl ?_
    refine lend (nseq (dret (rseq ?_)))
    exact kcut_r (res_2 resT resT) X8480 rfl rfl
  refine dskip (nseq (dseq (dreg ?_)))
  refine lpure (v := .slice a8453 n8453 c8453) rfl (p_move rfl) rfl rfl ?_
  refine lpure (v := .func (.func 57) #[] #[.pointer (some ⟨b8460, 0, none⟩)]) rfl (p_makeFunc rfl) rfl rfl ?_
  refine linl rfl rfl rfl rfl ca_56 rfl Try.func56 rfl rfl rfl rfl rfl ?_
  refine dseq (dreg ?_)
  refine lpure (v := .bool false) rfl (p_assign rfl) rfl rfl ?_
  refine lend (nseq (dseq (dreg ?_)))
  refine lpure (v := .slice a8453 n8453 c8453) rfl (p_move rfl) rfl rfl ?_
  refine lpure (v := .func (.func 57) #[] #[.pointer (some ⟨b8460, 0, none⟩)]) rfl (p_move rfl) rfl rfl ?_
  refine linl rfl rfl rfl rfl ca_101 rfl Try.func101 rfl rfl rfl rfl rfl ?_
  refine dseq (dreg ?_)
  refine lpure (v := .int .i64 0) rfl (p_assign rfl) rfl rfl ?_
  refine lend (nseq (dseq (dseq (dreg ?_))))
  refine lpure (v := .slice a8453 n8453 c8453) rfl (p_move rfl) rfl rfl ?_
  refine lpure (v := .int .i64 (p8452.length : Int)) rfl (p_len rfl rfl rfl un_42 rfl) (RSl.lenC (H8453.mono (g8469.trans g8479))) rfl ?_
  refine lpure (v := .int .i64 0) rfl (p_move rfl) rfl rfl ?_
  refine lend (nseq (dblock ?_))
  refine dloopM (τ := Int) (σ := Unit) (fun s9091 (_ : Unit) => [(0, .slice a8453 n8453 c8453), (1, .func (.func 57) #[] #[.pointer (some ⟨b8460, 0, none⟩)]), (7, .int .i64 (p8452.length : Int)), (8, .int .i64 s9091)]) (fun s9091 (_ : Unit) hh => St φ8478 h.n hh ([(ob8481, blk8481), (ob8471, blk8471), (some b8460, .cells [.slice a8455 n8455 c8455] 42 .exact), (some b8456, .cells [.int .i64 p8449.Nodes, .slice a8450 n8450 c8450, .slice a8451 n8451 c8451] 29 .exact)])) 0 () (sub_cons rfl (sub_cons rfl (sub_cons rfl (sub_cons rfl sub_nil)))) X8480 ?_
  rintro n9534 ih9533 s9091 _ t0 h9536 X9535
  refine dseq (dreg ?_)
  refine lpure (v := .bool (decide (s9091 < (p8452.length : Int)))) rfl (p_lt rfl) rfl rfl ?_
  refine lend (nseq (dseq ?_))
  refine dcond rfl rfl (fun k9537 => ?_) (fun k9537 => ?_)
  · refine dskip (nseq (dseq (dblock (dseq (dreg ?_)))))
    refine lpure (v := .int .i64 s9091) rfl (p_move rfl) rfl rfl ?_
    refine lpure (v := .int .i64 s9091) rfl (p_assign rfl) rfl rfl ?_
    refine lend (nseq (dseq (dreg ?_)))
    refine lpure (v := .func (.func 57) #[] #[.pointer (some ⟨b8460, 0, none⟩)]) rfl (p_move rfl) rfl rfl ?_
    refine lpure (v := .slice a8453 n8453 c8453) rfl (p_move rfl) rfl rfl ?_
    refine lpure (v := .int .i64 s9091) rfl (p_move rfl) rfl rfl ?_
    refine Sim.bindM fun e9538 he9539 => ?_
    obtain ⟨p9540, cs9540, hp9540, hF9540, hR9540⟩ := RSl.ia (H8453.mono (g8469.trans g8479)) he9539 (kd := .i64) (n := 1) rfl
    have hR9540 : _ = [(.int .i64 e9538 : Value)] := hR9540
    subst hR9540
    refine lpure (v := p9540) rfl (p_ia rs_42 rfl) hp9540 rfl ?_
    refine lread (v := .int .i64 e9538) rfl (q_load wd_3 rfl) (FP.ld X9535 hF9540) rfl ?_
    refine linl rfl rfl rfl rfl ca_57 rfl Try.func57 rfl rfl rfl rfl rfl ?_
    refine dseq (dreg ?_)
    refine lbox rfl rfl rfl rfl rfl X9535 (fun b9541 h9543 X9544 => ?_)
    refine lpure (v := .bool false) rfl (p_assign rfl) rfl rfl ?_
    refine lend (nseq (dseq (dreg ?_)))
    refine lread (v := .slice a8455 n8455 c8455) rfl (q_load wd_42 rfl) (St.ld X9544 (j := 3) rfl rfl) rfl ?_
    refine lpure (v := .func (.func 58) #[] #[.pointer (some ⟨b9541, 0, none⟩)]) rfl (p_makeFunc rfl) rfl rfl ?_
    refine linl rfl rfl rfl rfl ca_56 rfl Try.func56 rfl rfl rfl rfl rfl ?_
    refine dseq (dreg ?_)
    refine lpure (v := .bool false) rfl (p_assign rfl) rfl rfl ?_
    refine lend (nseq (dseq (dreg ?_)))
    refine lpure (v := .slice a8455 n8455 c8455) rfl (p_move rfl) rfl rfl ?_
    refine lpure (v := .func (.func 58) #[] #[.pointer (some ⟨b9541, 0, none⟩)]) rfl (p_move rfl) rfl rfl ?_
    refine linl rfl rfl rfl rfl ca_101 rfl Try.func101 rfl rfl rfl rfl rfl ?_
    refine dseq (dreg ?_)
    refine lpure (v := .int .i64 0) rfl (p_assign rfl) rfl rfl ?_
    refine lend (nseq (dseq (dseq (dreg ?_))))
    refine lpure (v := .slice a8455 n8455 c8455) rfl (p_move rfl) rfl rfl ?_
    refine lpure (v := .int .i64 (p8454.length : Int)) rfl (p_len rfl rfl rfl un_42 rfl) (RSl.lenC (H8455.mono (g8469.trans g8479))) rfl ?_
    refine lpure (v := .int .i64 0) rfl (p_move rfl) rfl rfl ?_
    refine lend (nseq (dblock ?_))
    refine dloopM (τ := Int) (σ := Unit) (fun s9732 (_ : Unit) => [(0, .slice a8455 n8455 c8455), (1, .func (.func 58) #[] #[.pointer (some ⟨b9541, 0, none⟩)]), (7, .int .i64 (p8454.length : Int)), (8, .int .i64 s9732)]) (fun s9732 (_ : Unit) hh => St φ8478 h.n hh ([(some b9541, .cells [.int .i64 e9538] 3 .exact), (ob8481, blk8481), (ob8471, blk8471), (some b8460, .cells [.slice a8455 n8455 c8455] 42 .exact), (some b8456, .cells [.int .i64 p8449.Nodes, .slice a8450 n8450 c8450, .slice a8451 n8451 c8451] 29 .exact)])) 0 () (sub_cons rfl (sub_cons rfl (sub_cons rfl (sub_cons rfl sub_nil)))) X9544 ?_
    rintro n9828 ih9827 s9732 _ t0 h9830 X9829
    refine dseq (dreg ?_)
    refine lpure (v := .bool (decide (s9732 < (p8454.length : Int)))) rfl (p_lt rfl) rfl rfl ?_
    refine lend (nseq (dseq ?_))
    refine dcond rfl rfl (fun k9831 => ?_) (fun k9831 => ?_)
    · refine dskip (nseq (dseq (dblock (dseq (dreg ?_)))))
      refine lpure (v := .int .i64 s9732) rfl (p_move rfl) rfl rfl ?_
      refine lpure (v := .int .i64 s9732) rfl (p_assign rfl) rfl rfl ?_
      refine lend (nseq (dseq (dreg ?_)))
      refine lpure (v := .func (.func 58) #[] #[.pointer (some ⟨b9541, 0, none⟩)]) rfl (p_move rfl) rfl rfl ?_
      refine lpure (v := .slice a8455 n8455 c8455) rfl (p_move rfl) rfl rfl ?_
      refine lpure (v := .int .i64 s9732) rfl (p_move rfl) rfl rfl ?_
      refine Sim.bindM fun e9832 he9833 => ?_
      obtain ⟨p9834, cs9834, hp9834, hF9834, hR9834⟩ := RSl.ia (H8455.mono (g8469.trans g8479)) he9833 (kd := .i64) (n := 1) rfl
      have hR9834 : _ = [(.int .i64 e9832 : Value)] := hR9834
      subst hR9834
      refine lpure (v := p9834) rfl (p_ia rs_42 rfl) hp9834 rfl ?_
      refine lread (v := .int .i64 e9832) rfl (q_load wd_3 rfl) (FP.ld X9829 hF9834) rfl ?_
      refine linl rfl rfl rfl rfl ca_58 rfl Try.func58 rfl rfl rfl rfl rfl ?_
      refine dseq (dreg ?_)
      refine lpure (v := .bool false) rfl (p_assign rfl) rfl rfl ?_
      refine lend (nseq (dseq (dreg ?_)))
      refine lread (v := .int .i64 e9538) rfl (q_load wd_3 rfl) (St.ld X9829 (j := 0) rfl rfl) rfl ?_
      refine lpure (v := .int .i64 (w64 (Int.tdiv e9538 2))) rfl (p_quo rfl) rfl rfl ?_
      refine lpure (v := .int .i64 e9832) rfl (p_move rfl) rfl rfl ?_
      refine lpure (v := .int .i64 (w64 (Int.tdiv e9832 2))) rfl (p_quo rfl) rfl rfl ?_
      refine lpure (v := .bool (decide ((w64 (Int.tdiv e9538 2)) = (w64 (Int.tdiv e9832 2))))) rfl (p_eq rfl) rfl rfl ?_
      refine lpure (v := .bool (decide ((w64 (Int.tdiv e9538 2)) = (w64 (Int.tdiv e9832 2))))) rfl (p_assign rfl) rfl rfl ?_
      refine lend (nseq (dret ?_))
      refine kin_r (res_1 resT) ?_
      refine lend (nseq ?_)
      refine dcond rfl rfl (fun k9835 => ?_) (fun k9835 => ?_)
      · refine dseq (dreg ?_)
        refine lpure (v := .int .i64 s9732) rfl (p_move rfl) rfl rfl ?_
        refine lpure (v := .int .i64 s9732) rfl (p_assign rfl) rfl rfl ?_
        refine lend (nseq (dret (rblock (rseq (rloop (rblock (rseq ?_)))))))
        refine kin_r (res_1 resT) ?_
        refine lpure (v := .bool (decide (0 ≤ s9732))) rfl (p_ge rfl) rfl rfl ?_
        refine lpure (v := .bool (decide (0 ≤ s9732))) rfl (p_assign rfl) rfl rfl ?_
        refine lend (nseq (dret ?_))
        refine kin_r (res_1 resT) ?_
        refine lpure (v := .bool (decide (0 ≤ s9732))) rfl (p_assign rfl) rfl rfl ?_
        refine lend (nseq (dret ?_))
        refine kin_r (res_1 resT) ?_
        refine lend (nseq ?_)
        refine dcond rfl rfl (fun k9836 => ?_) (fun k9836 => ?_)
        · refine dseq (dreg ?_)
          refine lpure (v := .int .i64 s9091) rfl (p_move rfl) rfl rfl ?_
          refine lpure (v := .int .i64 s9091) rfl (p_assign rfl) rfl rfl ?_
          refine lend (nseq (dret (rblock (rseq (rloop (rblock (rseq ?_)))))))
          refine kin_r (res_1 resT) ?_
          refine lpure (v := .bool (decide (0 ≤ s9091))) rfl (p_ge rfl) rfl rfl ?_
          refine lpure (v := .bool (decide (0 ≤ s9091))) rfl (p_assign rfl) rfl rfl ?_
          refine lend (nseq (dret ?_))
          refine kin_r (res_1 resT) ?_
          refine lpure (v := .bool (decide (0 ≤ s9091))) rfl (p_assign rfl) rfl rfl ?_
          refine lend (nseq (dseq (dreg ?_)))
          refine lpure (v := .bool (decide (0 ≤ s9091))) rfl (p_move rfl) rfl rfl ?_
          refine lpure (v := .bool (!(decide (0 ≤ s9091)))) rfl (p_not rfl) rfl rfl ?_
          refine lpure (v := .bool (!(decide (0 ≤ s9091)))) rfl (p_move rfl) rfl rfl ?_
          refine ljoinM (τ := (List Int) × Bool) (σ := Fz × Option Addr × Nat × Nat) (fun s9856 (φ9858, a9857, n9857, c9857) => [(8, .slice a9857 n9857 c9857), (10, .slice a8481 n8481 c8481), (41, .bool s9856.2)]) (fun s9856 (φ9858, a9857, n9857, c9857) hh => St φ9858 h.n hh ([(some b9541, .cells [.int .i64 e9538] 3 .exact), (ob8481, blk8481), (none, .dead), (some b8460, .cells [.slice a8455 n8455 c8455] 42 .exact), (some b8456, .cells [.int .i64 p8449.Nodes, .slice a8450 n8450 c8450, .slice a8451 n8451 c8451] 29 .exact)]) ∧ Fz.le φ8478 φ9858 ∧ RSl (eInt .i64) φ9858 (.slice a9857 n9857 c9857) s9856.1) 6 ?_ ?_
          · rintro s9856 ⟨φ9858, a9857, n9857, c9857⟩ t0 h9861 ⟨X9860, g9859, H9857⟩
            refine lpure (v := .bool s9856.2) rfl (p_move rfl) rfl rfl ?_
            refine ljoinM (τ := Bool) (σ := Fz) (fun s9877 φ9878 => [(48, .bool s9877)]) (fun s9877 φ9878 hh => St φ9878 h.n hh ([(some b9541, .cells [.int .i64 e9538] 3 .exact), (none, .dead), (none, .dead), (some b8460, .cells [.slice a8455 n8455 c8455] 42 .exact), (some b8456, .cells [.int .i64 p8449.Nodes, .slice a8450 n8450 c8450, .slice a8451 n8451 c8451] 29 .exact)]) ∧ Fz.le φ9858 φ9878) 6 ?_ ?_
            · rintro s9877 φ9878 t0 h9881 ⟨X9880, g9879⟩
              refine lpure (v := .bool s9877) rfl (p_assign rfl) rfl rfl ?_
              refine lpure (v := .int .i64 0) rfl (p_assign rfl) rfl rfl ?_
              refine lend (nseq (dret ?_))
              exact kcut_r (res_2 resT resT) X9880 rfl rfl
            intro j9882 J9883
            refine lif (i := 42) (show _ = Value.bool s9856.2 from rfl) (fun k9884 => ?_) (fun k9884 => ?_)
            · refine lpure (v := .slice a8481 n8481 c8481) rfl (p_move rfl) rfl rfl ?_
              obtain ⟨φ9885, g9886, X9887, H9888⟩ := OSl.freeze X9860 (j := 1) rfl (O8481.mono g9859)
              refine lcall rfl rfl ca_60 rfl rfl (f60_ok X9887 (e8474.1) H9888) rfl ?_
              rintro e9889 _ _ ⟨a9893, n9893, c9893, hq, H9893⟩
              cases hq
              refine lpure (v := .slice a9857 n9857 c9857) rfl (p_move rfl) rfl rfl ?_
              refine lcall rfl rfl ca_59 rfl rfl (f59_ok X9887 e9889 (s9856.1) H9893 (H9857.mono g9886)) rfl (fun e9894 v9895 h9896 hq9897 => ?_)
              cases hq9897
              refine lpure (v := .bool (!e9894)) rfl (p_not rfl) rfl rfl ?_
              refine lpure (v := .bool (!e9894)) rfl (p_pick rfl) rfl rfl ?_
              exact ljmpM J9883 (!e9894) φ9885 (sub_cons rfl sub_nil) ⟨(St.pick X9887 (.keep _ (.none _ (.none _ (.skip _ (.skip _ (.keep _ (.keep _ (.nil _))))))))), g9886⟩
            refine lskip rfl rfl ?_
            refine lskip rfl rfl ?_
            refine lskip rfl rfl ?_
            refine lskip rfl rfl ?_
            refine lskip rfl rfl ?_
            refine lpure (v := .bool false) rfl (p_pick rfl) rfl rfl ?_
            exact ljmpM J9883 false φ9858 (sub_cons rfl sub_nil) ⟨(St.pick X9860 (.keep _ (.none _ (.none _ (.skip _ (.skip _ (.keep _ (.keep _ (.nil _))))))))), (Fz.le_refl _)⟩
          intro j9898 J9899
          refine lif (i := 35) (show _ = Value.bool (!(decide (0 ≤ s9091))) from rfl) (fun k9900 => ?_) (fun k9900 => ?_)
          · refine lpure (v := .slice a8471 n8471 c8471) rfl (p_move rfl) rfl rfl ?_
            obtain ⟨φ9901, g9902, X9903, H9904⟩ := OSl.freeze X9829 (j := 2) rfl (O8471.mono g8479)
            refine lcall rfl rfl ca_60 rfl rfl (f60_ok X9903 (e8464.1) H9904) rfl ?_
            rintro e9905 _ _ ⟨a9909, n9909, c9909, hq, H9909⟩
            cases hq
            refine lpure (v := .slice a8481 n8481 c8481) rfl (p_move rfl) rfl rfl ?_
            obtain ⟨φ9910, g9911, X9912, H9913⟩ := OSl.freeze X9903 (j := 1) rfl (O8481.mono g9902)
            refine lcall rfl rfl ca_59 rfl rfl (f59_ok X9912 e9905 (e8474.1) (H9909.mono g9911) H9913) rfl (fun e9914 v9915 h9916 hq9917 => ?_)
            cases hq9917
            refine lpure (v := .bool (!e9914)) rfl (p_not rfl) rfl rfl ?_
            refine lpure (v := .bool (!e9914)) rfl (p_pick rfl) rfl rfl ?_
            exact ljmpM J9899 (e8464.1, (!e9914)) (φ9901, a8471, n8471, c8471) (sub_cons rfl (sub_cons rfl (sub_cons rfl sub_nil))) ⟨(St.pick X9903 (.keep _ (.keep _ (.none _ (.skip _ (.keep _ (.keep _ (.nil _)))))))), g9902, H9904⟩
          refine lskip rfl rfl ?_
          refine lskip rfl rfl ?_
          refine lskip rfl rfl ?_
          refine lskip rfl rfl ?_
          refine lskip rfl rfl ?_
          refine lpure (v := .bool false) rfl (p_pick rfl) rfl rfl ?_
          obtain ⟨φ9918, g9919, X9920, H9921⟩ := OSl.freeze X9829 (j := 2) rfl (O8471.mono g8479)
          exact ljmpM J9899 (e8464.1, false) (φ9918, a8471, n8471, c8471) (sub_cons rfl (sub_cons rfl (sub_cons rfl sub_nil))) ⟨(St.pick X9920 (.keep _ (.keep _ (.none _ (.skip _ (.keep _ (.keep _ (.nil _)))))))), g9919, H9921⟩
        refine dskip (nblock (nseq (dreg ?_)))
        refine lpure (v := .int .i64 (w64 (s9091 + 1))) rfl (p_add rfl) rfl rfl ?_
        refine lpure (v := .int .i64 (w64 (s9091 + 1))) rfl (p_move rfl) rfl rfl ?_
        refine lend ?_
        exact kbackM ih9533 (w64 (s9091 + 1)) () (sub_cons rfl (sub_cons rfl (sub_cons rfl (sub_cons rfl sub_nil)))) (St.pick X9829 (.skip _ (.keep _ (.keep _ (.keep _ (.keep _ (.nil _)))))))
      refine dskip (nblock (nseq (dreg ?_)))
      refine lpure (v := .int .i64 (w64 (s9732 + 1))) rfl (p_add rfl) rfl rfl ?_
      refine lpure (v := .int .i64 (w64 (s9732 + 1))) rfl (p_move rfl) rfl rfl ?_
      refine lend ?_
      exact kbackM ih9827 (w64 (s9732 + 1)) () (sub_cons rfl (sub_cons rfl (sub_cons rfl (sub_cons rfl sub_nil)))) X9829
    refine dexit (eseq (eloop (xblock (nseq (dseq (dreg ?_))))))
    refine lpure (v := .int .i64 (-1)) rfl (p_assign rfl) rfl rfl ?_
    refine lend (nseq (dret ?_))
    refine kin_r (res_1 resT) ?_
    refine lpure (v := .bool false) rfl (p_ge rfl) rfl rfl ?_
    refine lpure (v := .bool false) rfl (p_assign rfl) rfl rfl ?_
    refine lend (nseq (dret ?_))
    refine kin_r (res_1 resT) ?_
    refine lpure (v := .bool false) rfl (p_assign rfl) rfl rfl ?_
    refine lend (nseq (dret ?_))
    refine kin_r (res_1 resT) ?_
    refine lend (nseq (dcondF rfl rfl (dskip (nblock (nseq (dreg ?_))))))
    refine lpure (v := .int .i64 (w64 (s9091 + 1))) rfl (p_add rfl) rfl rfl ?_
    refine lpure (v := .int .i64 (w64 (s9091 + 1))) rfl (p_move rfl) rfl rfl ?_
    refine lend ?_
    exact kbackM ih9533 (w64 (s9091 + 1)) () (sub_cons rfl (sub_cons rfl (sub_cons rfl (sub_cons rfl sub_nil)))) (St.pick X9829 (.skip _ (.keep _ (.keep _ (.keep _ (.keep _ (.nil _)))))))
  refine dexit (eseq (eloop (xblock (nseq (dseq (dreg ?_))))))
  refine lpure (v := .int .i64 (-1)) rfl (p_assign rfl) rfl rfl ?_
  refine lend (nseq (dret ?_))
  refine kin_r (res_1 resT) ?_
  refine lpure (v := .bool false) rfl (p_ge rfl) rfl rfl ?_
  refine lpure (v := .bool false) rfl (p_assign rfl) rfl rfl ?_
  refine lend (nseq (dret ?_))
  refine kin_r (res_1 resT) ?_
  refine lpure (v := .bool false) rfl (p_assign rfl) rfl rfl ?_
  refine lend (nseq (dseq (dreg ?_)))
  refine lpure (v := .bool false) rfl (p_move rfl) rfl rfl ?_
  refine lpure (v := .bool true) rfl (p_not rfl) rfl rfl ?_
  refine lpure (v := .bool true) rfl (p_move rfl) rfl rfl ?_
  refine lpure (v := .slice a8471 n8471 c8471) rfl (p_move rfl) rfl rfl ?_
  obtain ⟨φ9922, g9923, X9924, H9925⟩ := OSl.freeze X9535 (j := 1) rfl (O8471.mono g8479)
  refine lcall rfl rfl ca_60 rfl rfl (f60_ok X9924 (e8464.1) H9925) rfl ?_
  rintro e9926 _ _ ⟨a9930, n9930, c9930, hq, H9930⟩
  cases hq
  refine lpure (v := .slice a8481 n8481 c8481) rfl (p_move rfl) rfl rfl ?_
  obtain ⟨φ9931, g9932, X9933, H9934⟩ := OSl.freeze X9924 (j := 0) rfl (O8481.mono g9923)
  refine lcall rfl rfl ca_59 rfl rfl (f59_ok X9933 e9926 (e8474.1) (H9930.mono g9932) H9934) rfl (fun e9935 v9936 h9937 hq9938 => ?_)
  cases hq9938
  refine lpure (v := .bool (!e9935)) rfl (p_not rfl) rfl rfl ?_
  refine lpure (v := .bool (!e9935)) rfl (p_pick rfl) rfl rfl ?_
  refine lpure (v := .bool (!e9935)) rfl (p_move rfl) rfl rfl ?_
  refine ljoinM (τ := Bool) (σ := Fz) (fun s9954 φ9955 => [(48, .bool s9954)]) (fun s9954 φ9955 hh => St φ9955 h.n hh ([(none, .dead), (none, .dead), (some b8460, .cells [.slice a8455 n8455 c8455] 42 .exact), (some b8456, .cells [.int .i64 p8449.Nodes, .slice a8450 n8450 c8450, .slice a8451 n8451 c8451] 29 .exact)]) ∧ Fz.le φ9922 φ9955) 6 ?_ ?_
  · rintro s9954 φ9955 t0 h9958 ⟨X9957, g9956⟩
    refine lpure (v := .bool s9954) rfl (p_assign rfl) rfl rfl ?_
    refine lpure (v := .int .i64 0) rfl (p_assign rfl) rfl rfl ?_
    refine lend (nseq (dret ?_))
    exact kcut_r (res_2 resT resT) X9957 rfl rfl
  intro j9959 J9960
  refine lif (i := 42) (show _ = Value.bool (!e9935) from rfl) (fun k9961 => ?_) (fun k9961 => ?_)
  · refine lpure (v := .slice a8481 n8481 c8481) rfl (p_move rfl) rfl rfl ?_
    obtain ⟨φ9962, g9963, X9964, H9965⟩ := OSl.freeze X9924 (j := 0) rfl (O8481.mono g9923)
    refine lcall rfl rfl ca_60 rfl rfl (f60_ok X9964 (e8474.1) H9965) rfl ?_
    rintro e9966 _ _ ⟨a9970, n9970, c9970, hq, H9970⟩
    cases hq
    refine lpure (v := .slice a8471 n8471 c8471) rfl (p_move rfl) rfl rfl ?_
    refine lcall rfl rfl ca_59 rfl rfl (f59_ok X9964 e9966 (e8464.1) H9970 (H9925.mono g9963)) rfl (fun e9971 v9972 h9973 hq9974 => ?_)
    cases hq9974
    refine lpure (v := .bool (!e9971)) rfl (p_not rfl) rfl rfl ?_
    refine lpure (v := .bool (!e9971)) rfl (p_pick rfl) rfl rfl ?_
    exact ljmpM J9960 (!e9971) φ9962 (sub_cons rfl sub_nil) ⟨(St.pick X9964 (.none _ (.none _ (.skip _ (.skip _ (.keep _ (.keep _ (.nil _)))))))), g9963⟩
  refine lskip rfl rfl ?_
  refine lskip rfl rfl ?_
  refine lskip rfl rfl ?_
  refine lskip rfl rfl ?_
  refine lskip rfl rfl ?_
  refine lpure (v := .bool false) rfl (p_pick rfl) rfl rfl ?_
  exact ljmpM J9960 false φ9922 (sub_cons rfl sub_nil) ⟨(St.pick X9924 (.none _ (.none _ (.skip _ (.skip _ (.keep _ (.keep _ (.nil _)))))))), (Fz.le_refl _)⟩
/-! isochron/route.Tree -/
theorem f27_ok {n : Nat} {φ : Fz} {lo : Nat} {h : Heap} {own : OwnL}  {a14279 : Option Addr} {n14279 c14279 : Nat} {a14280 : Option Addr} {n14280 c14280 : Nat} {a14282 : Option Addr} {n14282 c14282 : Nat} (X : St φ lo h (own)) (p14278 : ApiTopo) (p14281 : (List (List Int))) (H14279 : RSl eBool φ (.slice a14279 n14279 c14279) p14278.Station) (H14280 : RSl eApiLink φ (.slice a14280 n14280 c14280) p14278.Links) (H14282 : RSl (eSl (eInt .i64)) φ (.slice a14282 n14282 c14282) p14281) : Sim ((recN Try.prog LL cutF (n + 13)).call 27 #[(.agg #[.int .i64 p14278.Nodes, .slice a14279 n14279 c14279, .slice a14280 n14280 c14280]), (.slice a14282 n14282 c14282)] h) (m_route_Tree p14278 p14281) (fun (d : ((List Int) × Bool × Int)) p => ∃ φ2 : Fz, ∃ a18543 : Option Addr, ∃ n18543 : Nat, ∃ c18543 : Nat, ∃ ob18543 : Option Nat, ∃ blk18543 : Blk, Fz.le φ φ2 ∧ St φ2 lo p.2 ((ob18543, blk18543) :: own) ∧ p.1 = .tuple #[.slice a18543 n18543 c18543, .bool d.2.1, .int .i64 d.2.2] ∧ OSl (eInt .i64) φ2 3 ob18543 blk18543 (.slice a18543 n18543 c18543) d.1) := by
  refine fopen Try.func27 rfl rfl rfl rfl ?_
  refine dseq (dreg ?_)
  refine lbox rfl rfl rfl rfl rfl X (fun b14283 h14285 X14286 => ?_)
  refine lpure (v := .slice none 0 0) rfl (p_assign rfl) rfl rfl ?_
  refine lpure (v := .bool false) rfl (p_assign rfl) rfl rfl ?_
  refine lpure (v := .int .i64 0) rfl (p_assign rfl) rfl rfl ?_
  refine lend (nseq (dseq (dseq (dreg ?_))))
  refine lread (v := .agg #[.int .i64 p14278.Nodes, .slice a14279 n14279 c14279, .slice a14280 n14280 c14280]) rfl (q_load wd_29 rfl) (St.ld X14286 (j := 0) rfl rfl) rfl ?_
  refine lcall rfl rfl ca_9 rfl rfl (f9_ok X14286 p14278 H14279 H14280) rfl (fun e14287 v14288 h14289 hq14290 => ?_)
  cases hq14290
  refine lpure (v := .int .i64 e14287) rfl (p_assign rfl) rfl rfl ?_
  refine lend (nseq (dseq (dreg ?_)))
  refine lpure (v := .int .i64 e14287) rfl (p_move rfl) rfl rfl ?_
  refine lpure (v := .bool (decide (e14287 ≠ 0))) rfl (p_ne rfl) rfl rfl ?_
  refine lend (nseq ?_)
  refine dcond rfl rfl (fun k14291 => ?_) (fun k14291 => ?_)
  · refine dseq (dreg ?_)
    refine lpure (v := .int .i64 e14287) rfl (p_move rfl) rfl rfl ?_
    refine lpure (v := .slice none 0 0) rfl (p_assign rfl) rfl rfl ?_
    refine lpure (v := .bool false) rfl (p_assign rfl) rfl rfl ?_
    refine lpure (v := .int .i64 e14287) rfl (p_assign rfl) rfl rfl ?_
    refine lend (nseq (dret (rseq ?_)))
    exact kopen_r (res_3 resT resT resT) ⟨φ, none, 0, 0, none, (.dead), (Fz.le_refl _), St.pick X14286 (.none _ (.skip _ (.refl _))), rfl, OSl.nil⟩
  refine dskip (nseq (dseq (dreg ?_)))
  refine lread (v := .agg #[.int .i64 p14278.Nodes, .slice a14279 n14279 c14279, .slice a14280 n14280 c14280]) rfl (q_load wd_29 rfl) (St.ld X14286 (j := 0) rfl rfl) rfl ?_
  refine lpure (v := .agg #[.int .i64 p14278.Nodes, .slice a14279 n14279 c14279, .slice a14280 n14280 c14280]) rfl (p_build rfl) (build_st' tz_87 pl_87 rfl) rfl ?_
  refine lalloc rfl tz_87 rfl rfl rfl X14286 (fun b14292 h14294 X14295 => ?_)
  refine lstore rfl ts_87 rfl rfl (j := 0) rfl rfl rfl rfl rfl rfl X14295 (fun h14296 X14297 => ?_)
  refine lend (nseq (dseq (dreg ?_)))
  refine lpure (v := .slice none 0 0) rfl (p_assign rfl) rfl rfl ?_
  refine lend (nseq (dseq (dseq (dreg ?_))))
  refine lpure (v := .slice a14282 n14282 c14282) rfl (p_move rfl) rfl rfl ?_
  refine lpure (v := .int .i64 (p14281.length : Int)) rfl (p_len rfl rfl rfl un_59 rfl) (RSl.lenC H14282) rfl ?_
  refine lpure (v := .int .i64 0) rfl (p_move rfl) rfl rfl ?_
  refine lend (nseq (dblock ?_))
  refine dloopM (τ := (List Int) × Int) (σ := Option Addr × Nat × Nat × Option Nat × Blk) (fun s16421 (a16423, n16423, c16423, ob16423, blk16423) => [(1, .slice a14282 n14282 c14282), (8, .pointer (some ⟨b14292, 0, none⟩)), (9, .slice a16423 n16423 c16423), (25, .slice a14282 n14282 c14282), (26, .int .i64 (p14281.length : Int)), (27, .int .i64 s16421.2)]) (fun s16421 (a16423, n16423, c16423, ob16423, blk16423) hh => St φ lo hh ((ob16423, blk16423) :: (some b14292, .cells [.int .i64 p14278.Nodes, .slice a14279 n14279 c14279, .slice a14280 n14280 c14280] 87 .exact) :: (some b14283, .cells [.int .i64 p14278.Nodes, .slice a14279 n14279 c14279, .slice a14280 n14280 c14280] 29 .exact) :: own) ∧ OSl (eInt .i64) φ 3 ob16423 blk16423 (.slice a16423 n16423 c16423) s16421.1) ([], 0) (none, 0, 0, none, .dead) (sub_cons rfl (sub_cons rfl (sub_cons rfl (sub_cons rfl (sub_cons rfl (sub_cons rfl sub_nil)))))) ⟨(St.pick X14297 (.none _ (.keep _ (.keep _ (.refl _))))), OSl.nil⟩ ?_
  rintro n17484 ih17483 s16421 ⟨a16423, n16423, c16423, ob16423, blk16423⟩ t0 h17486 ⟨X17485, O16423⟩
  refine dseq (dreg ?_)
  refine lpure (v := .bool (decide (s16421.2 < (p14281.length : Int)))) rfl (p_lt rfl) rfl rfl ?_
  refine lend (nseq (dseq ?_))
  refine dcond rfl rfl (fun k17487 => ?_) (fun k17487 => ?_)
  · refine dskip (nseq (dseq (dblock (dseq (dreg ?_)))))
    refine Sim.bindM fun e17488 he17489 => ?_
    obtain ⟨p17491, cs17491, hp17491, hF17491, hR17491⟩ := RSl.ia H14282 he17489 (kd := .i64) (n := 1) rfl
    obtain ⟨a17490, n17490, c17490, rfl, H17490⟩ := hR17491
    refine lpure (v := p17491) rfl (p_ia rs_59 rfl) hp17491 rfl ?_
    refine lread (v := .slice a17490 n17490 c17490) rfl (q_load wd_42 rfl) (FP.ld X17485 hF17491) rfl ?_
    refine lpure (v := .slice a17490 n17490 c17490) rfl (p_assign rfl) rfl rfl ?_
    refine lend (nseq (dseq (dseq (dreg ?_))))
    refine lread (v := .agg #[.int .i64 p14278.Nodes, .slice a14279 n14279 c14279, .slice a14280 n14280 c14280]) rfl (q_load wd_87 rfl) (St.ld X17485 (j := 1) rfl rfl) rfl ?_
    refine lpure (v := .slice a17490 n17490 c17490) rfl (p_move rfl) rfl rfl ?_
    refine lcall rfl rfl ca_52 rfl rfl (f52_ok X17485 ((RouteWalk.mk p14278)) e17488 H14279 H14280 H17490) rfl (fun e17492 v17493 h17494 hq17495 => ?_)
    cases hq17495
    refine lpure (v := .bool (!e17492)) rfl (p_not rfl) rfl rfl ?_
    refine lend (nseq ?_)
    refine dcond rfl rfl (fun k17496 => ?_) (fun k17496 => ?_)
    · refine dseq (dreg ?_)
      refine lpure (v := .slice none 0 0) rfl (p_assign rfl) rfl rfl ?_
      refine lpure (v := .bool false) rfl (p_assign rfl) rfl rfl ?_
      refine lpure (v := .int .i64 310) rfl (p_assign rfl) rfl rfl ?_
      refine lend (nseq (dret (rseq (rblock (rseq (rloop (rblock (rseq ?_))))))))
      exact kopen_r (res_3 resT resT resT) ⟨φ, none, 0, 0, none, (.dead), (Fz.le_refl _), St.pick X17485 (.none _ (.skip _ (.skip _ (.skip _ (.refl _))))), rfl, OSl.nil⟩
    refine dskip (nseq (dreg ?_))
    refine lpure (v := .slice a16423 n16423 c16423) rfl (p_move rfl) rfl rfl ?_
    refine lpure (v := .slice a17490 n17490 c17490) rfl (p_move rfl) rfl rfl ?_
    obtain ⟨ws17497, hw17497⟩ := RSl.read H17490 X17485 (n := 1) rfl
    refine Sim.mustM fun k17497 => ?_
    obtain ⟨h17497, a17497, c17497, ob17497, blk17497, hv17497, X17497, O17497⟩ := OSl.append O16423 X17485 (j := 0) rfl hw17497 k17497 (ts := #[33, 42]) rfl un_33 (argOk_of ax_33_42) ts_3 rfl rfl tb_3 rfl tz_3 rfl
    refine lheap rfl (h_builtin rfl rfl) hv17497 rfl ?_
    refine lpure (v := .slice a17497 (s16421.1.length + e17488.length) c17497) rfl (p_assign rfl) rfl rfl ?_
    refine lend (nblock (nseq (dreg ?_)))
    refine lpure (v := .int .i64 (w64 (s16421.2 + 1))) rfl (p_add rfl) rfl rfl ?_
    refine lpure (v := .int .i64 (w64 (s16421.2 + 1))) rfl (p_move rfl) rfl rfl ?_
    refine lend ?_
    exact kbackM ih17483 ((s16421.1 ++ e17488), (w64 (s16421.2 + 1))) (a17497, (s16421.1.length + e17488.length), c17497, ob17497, blk17497) (sub_cons rfl (sub_cons rfl (sub_cons rfl (sub_cons rfl (sub_cons rfl (sub_cons rfl sub_nil)))))) ⟨X17497, O17497⟩
  refine dexit (eseq (eloop (xblock (nseq (dseq (dreg ?_))))))
  refine lpure (v := .slice a16423 n16423 c16423) rfl (p_move rfl) rfl rfl ?_
  refine lcall rfl rfl ca_15 rfl rfl (sort_ok (f := 15) rfl X17485 (s16421.1) O16423) rfl ?_
  rintro e17498 _ h17500 ⟨φ17502, blk17505, g17503, X17504, rfl, O17505⟩
  refine lend (nseq (dseq (dreg ?_)))
  refine lpure (v := .slice a16423 n16423 c16423) rfl (p_move rfl) rfl rfl ?_
  refine lcall rfl rfl ca_67 rfl rfl (compact_ok (f := 67) rfl X17504 e17498 O17505) rfl ?_
  rintro e17506 _ h17508 ⟨φ17510, a17513, n17513, c17513, ob17513, blk17513, g17511, X17512, rfl, O17513⟩
  refine lpure (v := .slice a17513 n17513 c17513) rfl (p_assign rfl) rfl rfl ?_
  refine lend (nseq (dseq (dreg ?_)))
  refine lpure (v := .bool true) rfl (p_assign rfl) rfl rfl ?_
  refine lend (nseq (dseq (dreg ?_)))
  refine lpure (v := .slice none 0 0) rfl (p_assign rfl) rfl rfl ?_
  refine lend (nseq (dseq (dseq (dreg ?_))))
  refine lpure (v := .slice a17513 n17513 c17513) rfl (p_move rfl) rfl rfl ?_
  refine lpure (v := .int .i64 (e17506.length : Int)) rfl (p_len rfl rfl rfl un_33 rfl) (OSl.len O17513) rfl ?_
  refine lpure (v := .int .i64 0) rfl (p_move rfl) rfl rfl ?_
  refine lend (nseq (dblock ?_))
  refine dloopM (τ := (List Int) × Bool × (List Int) × Int) (σ := Blk × Option Addr × Nat × Nat × Option Nat × Blk) (fun s18002 (blk18003, a18005, n18005, c18005, ob18005, blk18005) => [(1, .slice a14282 n14282 c14282), (8, .pointer (some ⟨b14292, 0, none⟩)), (9, .slice a17513 n17513 c17513), (12, .bool s18002.2.1), (13, .slice a18005 n18005 c18005), (43, .slice a17513 n17513 c17513), (44, .int .i64 (e17506.length : Int)), (45, .int .i64 s18002.2.2.2)]) (fun s18002 (blk18003, a18005, n18005, c18005, ob18005, blk18005) hh => St φ17510 lo hh ((ob18005, blk18005) :: (ob17513, blk18003) :: (some b14292, .cells [.int .i64 p14278.Nodes, .slice a14279 n14279 c14279, .slice a14280 n14280 c14280] 87 .exact) :: (some b14283, .cells [.int .i64 p14278.Nodes, .slice a14279 n14279 c14279, .slice a14280 n14280 c14280] 29 .exact) :: own) ∧ OSl (eInt .i64) φ17510 3 ob17513 blk18003 (.slice a17513 n17513 c17513) s18002.1 ∧ OSl (eInt .i64) φ17510 3 ob18005 blk18005 (.slice a18005 n18005 c18005) s18002.2.2.1) (e17506, true, [], 0) (blk17513, none, 0, 0, none, .dead) (sub_cons rfl (sub_cons rfl (sub_cons rfl (sub_cons rfl (sub_cons rfl (sub_cons rfl (sub_cons rfl (sub_cons rfl sub_nil)))))))) ⟨(St.pick X17512 (.none _ (.keep _ (.keep _ (.keep _ (.refl _)))))), O17513, OSl.nil⟩ ?_
  rintro n18275 ih18274 s18002 ⟨blk18003, a18005, n18005, c18005, ob18005, blk18005⟩ t0 h18277 ⟨X18276, O18003, O18005⟩
  refine dseq (dreg ?_)
  refine lpure (v := .bool (decide (s18002.2.2.2 < (e17506.length : Int)))) rfl (p_lt rfl) rfl rfl ?_
  refine lend (nseq (dseq ?_))
  refine dcond rfl rfl (fun k18278 => ?_) (fun k18278 => ?_)
  · refine dskip (nseq (dseq (dblock (dseq (dreg ?_)))))
    refine Sim.bindM fun e18279 he18280 => ?_
    obtain ⟨b18281, vs18281, m18281, off18281, cs18281, rfl, rfl, hp18281, hc18281, hR18281, hl18281, hm18281, hs18281⟩ := OSl.ia O18003 he18280 (kd := .i64) (n := 1) rfl
    have hR18281 : _ = [(.int .i64 e18279 : Value)] := hR18281
    subst hR18281
    refine lpure (v := .pointer (some ⟨b18281, off18281, none⟩)) rfl (p_ia rs_33 rfl) hp18281 rfl ?_
    refine lread (v := .int .i64 e18279) rfl (q_load wd_3 rfl) (St.ld X18276 (j := 1) rfl (rdE1 hc18281 (k := 0) rfl rfl)) rfl ?_
    refine lpure (v := .int .i64 e18279) rfl (p_assign rfl) rfl rfl ?_
    refine lend (nseq (dseq (dreg ?_)))
    refine lpure (v := .bool s18002.2.1) rfl (p_move rfl) rfl rfl ?_
    refine lpure (v := .bool s18002.2.1) rfl (p_move rfl) rfl rfl ?_
    refine ljoinM (τ := Bool) (σ := Unit) (fun s18300 (_ : Unit) => [(1, .slice a14282 n14282 c14282), (8, .pointer (some ⟨b14292, 0, none⟩)), (9, .slice a17513 n17513 c17513), (13, .slice a18005 n18005 c18005), (15, .int .i64 e18279), (43, .slice a17513 n17513 c17513), (44, .int .i64 (e17506.length : Int)), (45, .int .i64 s18002.2.2.2), (57, .bool s18300)]) (fun s18300 (_ : Unit) hh => St φ17510 lo hh ((ob18005, blk18005) :: (some b18281, .cells vs18281 3 m18281) :: (some b14292, .cells [.int .i64 p14278.Nodes, .slice a14279 n14279 c14279, .slice a14280 n14280 c14280] 87 .exact) :: (some b14283, .cells [.int .i64 p14278.Nodes, .slice a14279 n14279 c14279, .slice a14280 n14280 c14280] 29 .exact) :: own)) 7 ?_ ?_
    · rintro s18300 _ t0 h18302 X18301
      refine lpure (v := .bool s18300) rfl (p_assign rfl) rfl rfl ?_
      refine lend (nseq (dreg ?_))
      refine lpure (v := .slice a18005 n18005 c18005) rfl (p_move rfl) rfl rfl ?_
      refine lread (v := .agg #[.int .i64 p14278.Nodes, .slice a14279 n14279 c14279, .slice a14280 n14280 c14280]) rfl (q_load wd_87 rfl) (St.ld X18301 (j := 2) rfl rfl) rfl ?_
      refine lpure (v := .int .i64 e18279) rfl (p_move rfl) rfl rfl ?_
      refine linl rfl rfl rfl rfl ca_69 rfl Try.func69 rfl rfl rfl rfl rfl ?_
      refine dseq (dreg ?_)
      refine lbox rfl rfl rfl rfl rfl X18301 (fun b18303 h18305 X18306 => ?_)
      refine lpure (v := .int .i64 0) rfl (p_assign rfl) rfl rfl ?_
      refine lend (nseq (dseq (dreg ?_)))
      refine lpure (v := .pointer (some ⟨b18303, 0, none⟩)) rfl (p_fa fo_87_0 rfl) rfl rfl ?_
      refine lread (v := .agg #[.int .i64 p14278.Nodes, .slice a14279 n14279 c14279, .slice a14280 n14280 c14280]) rfl (q_load wd_29 rfl) (St.ld X18306 (j := 0) rfl rfl) rfl ?_
      refine lpure (v := .int .i64 e18279) rfl (p_move rfl) rfl rfl ?_
      refine lcall rfl rfl ca_12 rfl rfl (f12_ok X18306 p14278 e18279 (H14279.mono (g17503.trans g17511)) (H14280.mono (g17503.trans g17511))) rfl (fun e18307 v18308 h18309 hq18310 => ?_)
      cases hq18310
      refine lpure (v := .tuple #[.int .i64 e18307.1, .int .i64 e18307.2]) rfl (p_move rfl) rfl rfl ?_
      refine lpure (v := .int .i64 e18307.1) rfl (p_extract rfl) rfl rfl ?_
      refine lpure (v := .int .i64 e18307.2) rfl (p_extract rfl) rfl rfl ?_
      refine lpure (v := .int .i64 e18307.1) rfl (p_assign rfl) rfl rfl ?_
      refine lpure (v := .int .i64 e18307.2) rfl (p_assign rfl) rfl rfl ?_
      refine lend (nseq (dseq (dreg ?_)))
      refine lpure (v := .int .i64 e18307.1) rfl (p_move rfl) rfl rfl ?_
      refine lpure (v := .int .i64 e18307.1) rfl (p_assign rfl) rfl rfl ?_
      refine lend (nseq (dret ?_))
      refine kin_r (res_1 resT) ?_
      obtain ⟨h18311, b18311, hv18311, X18311, O18311⟩ := OSl.lay (E := (eInt .i64)) (φ := φ17510) (cs := [.int .i64 e18307.1]) (l := [e18307.1]) (len := 1) (parts := [(0, .int .i64 e18307.1)]) un_33 ts_3 rfl rfl rfl tz_3 rfl rfl (show RowD (eInt .i64) φ17510 [.int .i64 e18307.1] [e18307.1] from ⟨[.int .i64 e18307.1], _, rfl, rfl, rfl⟩) rfl rfl X18306
      refine lheap rfl (h_buildSlice rfl) hv18311 rfl ?_
      obtain ⟨ws18313, hw18313⟩ := OSl.read O18311 X18311 (k := 0) rfl (n := 1) rfl
      refine Sim.mustM fun k18313 => ?_
      obtain ⟨h18313, a18313, c18313, ob18313, blk18313, hv18313, X18313, O18313⟩ := OSl.append O18005 X18311 (j := 2) rfl hw18313 k18313 (ts := #[33, 33]) rfl un_33 (argOk_of ax_33_33) ts_3 rfl rfl tb_3 rfl tz_3 rfl
      refine lheap rfl (h_builtin rfl rfl) hv18313 rfl ?_
      refine lpure (v := .slice a18313 (s18002.2.2.1.length + ([e18307.1]).length) c18313) rfl (p_assign rfl) rfl rfl ?_
      refine lend (nblock (nseq (dreg ?_)))
      refine lpure (v := .int .i64 (w64 (s18002.2.2.2 + 1))) rfl (p_add rfl) rfl rfl ?_
      refine lpure (v := .int .i64 (w64 (s18002.2.2.2 + 1))) rfl (p_move rfl) rfl rfl ?_
      refine lend ?_
      exact kbackM ih18274 (s18002.1, s18300, (s18002.2.2.1 ++ ([e18307.1])), (w64 (s18002.2.2.2 + 1))) ((.cells vs18281 3 m18281), a18313, (s18002.2.2.1.length + ([e18307.1]).length), c18313, ob18313, blk18313) (sub_cons rfl (sub_cons rfl (sub_cons rfl (sub_cons rfl (sub_cons rfl (sub_cons rfl (sub_cons rfl (sub_cons rfl sub_nil)))))))) ⟨(St.pick X18313 (.skip _ (.skip _ (.keep _ (.keep _ (.keep _ (.keep _ (.refl _)))))))), O18003, O18313⟩
    intro j18314 J18315
    refine lif (i := 50) (show _ = Value.bool s18002.2.1 from rfl) (fun k18316 => ?_) (fun k18316 => ?_)
    · refine lpure (v := .slice a18005 n18005 c18005) rfl (p_move rfl) rfl rfl ?_
      refine lread (v := .agg #[.int .i64 p14278.Nodes, .slice a14279 n14279 c14279, .slice a14280 n14280 c14280]) rfl (q_load wd_87 rfl) (St.ld X18276 (j := 2) rfl rfl) rfl ?_
      refine lpure (v := .int .i64 e18279) rfl (p_move rfl) rfl rfl ?_
      refine linl rfl rfl rfl rfl ca_69 rfl Try.func69 rfl rfl rfl rfl rfl ?_
      refine dseq (dreg ?_)
      refine lbox rfl rfl rfl rfl rfl X18276 (fun b18317 h18319 X18320 => ?_)
      refine lpure (v := .int .i64 0) rfl (p_assign rfl) rfl rfl ?_
      refine lend (nseq (dseq (dreg ?_)))
      refine lpure (v := .pointer (some ⟨b18317, 0, none⟩)) rfl (p_fa fo_87_0 rfl) rfl rfl ?_
      refine lread (v := .agg #[.int .i64 p14278.Nodes, .slice a14279 n14279 c14279, .slice a14280 n14280 c14280]) rfl (q_load wd_29 rfl) (St.ld X18320 (j := 0) rfl rfl) rfl ?_
      refine lpure (v := .int .i64 e18279) rfl (p_move rfl) rfl rfl ?_
      refine lcall rfl rfl ca_12 rfl rfl (f12_ok X18320 p14278 e18279 (H14279.mono (g17503.trans g17511)) (H14280.mono (g17503.trans g17511))) rfl (fun e18321 v18322 h18323 hq18324 => ?_)
      cases hq18324
      refine lpure (v := .tuple #[.int .i64 e18321.1, .int .i64 e18321.2]) rfl (p_move rfl) rfl rfl ?_
      refine lpure (v := .int .i64 e18321.1) rfl (p_extract rfl) rfl rfl ?_
      refine lpure (v := .int .i64 e18321.2) rfl (p_extract rfl) rfl rfl ?_
      refine lpure (v := .int .i64 e18321.1) rfl (p_assign rfl) rfl rfl ?_
      refine lpure (v := .int .i64 e18321.2) rfl (p_assign rfl) rfl rfl ?_
      refine lend (nseq (dseq (dreg ?_)))
      refine lpure (v := .int .i64 e18321.1) rfl (p_move rfl) rfl rfl ?_
      refine lpure (v := .int .i64 e18321.1) rfl (p_assign rfl) rfl rfl ?_
      refine lend (nseq (dret ?_))
      refine kin_r (res_1 resT) ?_
      obtain ⟨φ18325, g18326, X18327, H18328⟩ := OSl.freeze X18320 (j := 1) rfl O18005
      refine lcall rfl rfl ca_68 rfl rfl (f68_ok X18327 (s18002.2.2.1) (e18321.1) H18328) rfl (fun e18329 v18330 h18331 hq18332 => ?_)
      cases hq18332
      refine lpure (v := .bool (!e18329)) rfl (p_not rfl) rfl rfl ?_
      refine lpure (v := .bool (!e18329)) rfl (p_pick rfl) rfl rfl ?_
      exact ljmpM J18315 (!e18329) () (sub_cons rfl (sub_cons rfl (sub_cons rfl (sub_cons rfl (sub_cons rfl (sub_cons rfl (sub_cons rfl (sub_cons rfl (sub_cons rfl sub_nil))))))))) (St.pick X18320 (.skip _ (.keep _ (.keep _ (.keep _ (.keep _ (.refl _)))))))
    refine lskip rfl rfl ?_
    refine lskip rfl rfl ?_
    refine lskip rfl rfl ?_
    refine lskip rfl rfl ?_
    refine lskip rfl rfl ?_
    refine lskip rfl rfl ?_
    refine lpure (v := .bool false) rfl (p_pick rfl) rfl rfl ?_
    exact ljmpM J18315 false () (sub_cons rfl (sub_cons rfl (sub_cons rfl (sub_cons rfl (sub_cons rfl (sub_cons rfl (sub_cons rfl (sub_cons rfl (sub_cons rfl sub_nil))))))))) X18276
  refine dexit (eseq (eloop (xblock (nseq (dseq (dseq (dreg ?_)))))))
  refine lpure (v := .slice a14282 n14282 c14282) rfl (p_move rfl) rfl rfl ?_
  refine lpure (v := .int .i64 (p14281.length : Int)) rfl (p_len rfl rfl rfl un_59 rfl) (RSl.lenC (H14282.mono (g17503.trans g17511))) rfl ?_
  refine lpure (v := .int .i64 0) rfl (p_move rfl) rfl rfl ?_
  refine lend (nseq (dblock ?_))
  refine dloopM (τ := Bool × Int) (σ := Unit) (fun s18437 (_ : Unit) => [(1, .slice a14282 n14282 c14282), (8, .pointer (some ⟨b14292, 0, none⟩)), (9, .slice a17513 n17513 c17513), (12, .bool s18437.1), (65, .slice a14282 n14282 c14282), (66, .int .i64 (p14281.length : Int)), (67, .int .i64 s18437.2)]) (fun s18437 (_ : Unit) hh => St φ17510 lo hh ((ob18005, blk18005) :: (ob17513, blk18003) :: (some b14292, .cells [.int .i64 p14278.Nodes, .slice a14279 n14279 c14279, .slice a14280 n14280 c14280] 87 .exact) :: (some b14283, .cells [.int .i64 p14278.Nodes, .slice a14279 n14279 c14279, .slice a14280 n14280 c14280] 29 .exact) :: own)) (s18002.2.1, 0) () (sub_cons rfl (sub_cons rfl (sub_cons rfl (sub_cons rfl (sub_cons rfl (sub_cons rfl (sub_cons rfl sub_nil))))))) X18276 ?_
  rintro n18491 ih18490 s18437 _ t0 h18493 X18492
  refine dseq (dreg ?_)
  refine lpure (v := .bool (decide (s18437.2 < (p14281.length : Int)))) rfl (p_lt rfl) rfl rfl ?_
  refine lend (nseq (dseq ?_))
  refine dcond rfl rfl (fun k18494 => ?_) (fun k18494 => ?_)
  · refine dskip (nseq (dseq (dblock (dseq (dreg ?_)))))
    refine Sim.bindM fun e18495 he18496 => ?_
    obtain ⟨p18498, cs18498, hp18498, hF18498, hR18498⟩ := RSl.ia (H14282.mono (g17503.trans g17511)) he18496 (kd := .i64) (n := 1) rfl
    obtain ⟨a18497, n18497, c18497, rfl, H18497⟩ := hR18498
    refine lpure (v := p18498) rfl (p_ia rs_59 rfl) hp18498 rfl ?_
    refine lread (v := .slice a18497 n18497 c18497) rfl (q_load wd_42 rfl) (FP.ld X18492 hF18498) rfl ?_
    refine lpure (v := .slice a18497 n18497 c18497) rfl (p_assign rfl) rfl rfl ?_
    refine lend (nseq ?_)
    refine ddraw 0 0 0 (by kernel_rfl) ?_
    refine spure (v := .bool s18437.1) rfl (p_move rfl) (lo_t rfl rfl) rfl rfl ?_
    refine spure (v := .bool s18437.1) rfl (p_move rfl) (lo_t rfl rfl) rfl rfl ?_
    refine sjoinM (τ := Bool) (σ := Unit) (fun s18519 (_ : Unit) => [(1, .slice a14282 n14282 c14282), (8, .pointer (some ⟨b14292, 0, none⟩)), (9, .slice a17513 n17513 c17513), (65, .slice a14282 n14282 c14282), (66, .int .i64 (p14281.length : Int)), (67, .int .i64 s18437.2), (86, .bool s18519)]) (fun s18519 (_ : Unit) hh => St φ17510 lo hh ((ob18005, blk18005) :: (ob17513, blk18003) :: (some b14292, .cells [.int .i64 p14278.Nodes, .slice a14279 n14279 c14279, .slice a14280 n14280 c14280] 87 .exact) :: (some b14283, .cells [.int .i64 p14278.Nodes, .slice a14279 n14279 c14279, .slice a14280 n14280 c14280] 29 .exact) :: own)) 14 16 ?_ ?_
    · rintro s18519 _ t0 h18521 X18520
      refine spure (v := .bool s18519) rfl (p_assign rfl) (lo_t rfl rfl) rfl rfl ?_
      refine send ?_
      refine nblock (nseq (dreg ?_))
      refine lpure (v := .int .i64 (w64 (s18437.2 + 1))) rfl (p_add rfl) rfl rfl ?_
      refine lpure (v := .int .i64 (w64 (s18437.2 + 1))) rfl (p_move rfl) rfl rfl ?_
      refine lend ?_
      exact kbackM ih18490 (s18519, (w64 (s18437.2 + 1))) () (sub_cons rfl (sub_cons rfl (sub_cons rfl (sub_cons rfl (sub_cons rfl (sub_cons rfl (sub_cons rfl sub_nil))))))) X18520
    intro j18522 J18523
    refine sif (j := 72) (show _ = Value.bool s18437.1 from rfl) (fun k18524 => ?_) (fun k18524 => ?_)
    · refine sload (v := .agg #[.int .i64 p14278.Nodes, .slice a14279 n14279 c14279, .slice a14280 n14280 c14280]) rfl rfl (q_load wd_87 rfl) (St.ld X18492 (j := 2) rfl rfl) (same_self 20 rfl) rfl ?_
      refine spure (v := .slice a18497 n18497 c18497) rfl (p_move rfl) (lo_t (lo_sl X18492 H18497) rfl) rfl rfl ?_
      refine Sim.bindM fun e18525 he18526 => ?_
      obtain ⟨p18527, cs18527, hp18527, hF18527, hR18527⟩ := RSl.ia H18497 he18526 (kd := .i64) (n := 1) rfl
      have hR18527 : _ = [(.int .i64 e18525 : Value)] := hR18527
      subst hR18527
      refine spure (v := p18527) rfl (p_ia rs_42 rfl) (lo_t (lo_sl X18492 H18497) (lo_c rfl)) hp18527 rfl ?_
      refine sload (v := .int .i64 e18525) rfl rfl (q_load wd_3 rfl) (FP.ld X18492 hF18527) (same_self 20 rfl) rfl ?_
      refine scall (en := fun d => (.int .i64 d)) rfl rfl ca_70 rfl rfl (f70_ok X18492 ((RouteWalk.mk p14278)) e18525 (H14279.mono (g17503.trans g17511)) (H14280.mono (g17503.trans g17511))) rfl (fun e18528 => ?_)
      refine sload (v := .agg #[.int .i64 p14278.Nodes, .slice a14279 n14279 c14279, .slice a14280 n14280 c14280]) rfl rfl (q_load wd_87 rfl) (St.ld X18492 (j := 2) rfl rfl) (same_self 20 rfl) rfl ?_
      refine spure (v := .slice a14282 n14282 c14282) rfl (p_move rfl) (lo_t (lo_sl X18492 (H14282.mono (g17503.trans g17511))) rfl) rfl rfl ?_
      refine Sim.bindM fun e18532 he18533 => ?_
      obtain ⟨p18535, cs18535, hp18535, hF18535, hR18535⟩ := RSl.ia (H14282.mono (g17503.trans g17511)) he18533 (kd := .i64) (n := 1) rfl
      obtain ⟨a18534, n18534, c18534, rfl, H18534⟩ := hR18535
      refine spure (v := p18535) rfl (p_ia rs_59 rfl) (lo_t (lo_sl X18492 (H14282.mono (g17503.trans g17511))) (lo_c rfl)) hp18535 rfl ?_
      refine sload (v := .slice a18534 n18534 c18534) rfl rfl (q_load wd_42 rfl) (FP.ld X18492 hF18535) (same_self 20 rfl) rfl ?_
      refine Sim.bindM fun e18536 he18537 => ?_
      obtain ⟨p18538, cs18538, hp18538, hF18538, hR18538⟩ := RSl.ia H18534 he18537 (kd := .i64) (n := 1) rfl
      have hR18538 : _ = [(.int .i64 e18536 : Value)] := hR18538
      subst hR18538
      refine spure (v := p18538) rfl (p_ia rs_42 rfl) (lo_t (lo_sl X18492 H18534) (lo_c rfl)) hp18538 rfl ?_
      refine sload (v := .int .i64 e18536) rfl rfl (q_load wd_3 rfl) (FP.ld X18492 hF18538) (same_self 20 rfl) rfl ?_
      refine scall (en := fun d => (.int .i64 d)) rfl rfl ca_70 rfl rfl (f70_ok X18492 ((RouteWalk.mk p14278)) e18536 (H14279.mono (g17503.trans g17511)) (H14280.mono (g17503.trans g17511))) rfl (fun e18539 => ?_)
      refine spure (v := .bool (decide (e18528 = e18539))) rfl (p_eq rfl) (lo_t rfl (lo_t rfl rfl)) rfl rfl ?_
      refine spure (v := .bool (decide (e18528 = e18539))) rfl (p_pick rfl) (lo_t rfl (lo_t rfl (lo_c rfl))) rfl rfl ?_
      exact sjmpM J18523 (decide (e18528 = e18539)) () (sub_cons rfl (sub_cons rfl (sub_cons rfl (sub_cons rfl (sub_cons rfl (sub_cons rfl (sub_cons rfl sub_nil))))))) X18492
    refine sskip rfl rfl ?_
    refine sskip rfl rfl ?_
    refine sskip rfl rfl ?_
    refine sskip rfl rfl ?_
    refine sskip rfl rfl ?_
    refine sskip rfl rfl ?_
    refine sskip rfl rfl ?_
    refine sskip rfl rfl ?_
    refine sskip rfl rfl ?_
    refine sskip rfl rfl ?_
    refine sskip rfl rfl ?_
    refine sskip rfl rfl ?_
    refine sskip rfl rfl ?_
    refine spure (v := .bool false) rfl (p_pick rfl) (lo_t rfl (lo_t rfl (lo_c rfl))) rfl rfl ?_
    exact sjmpM J18523 false () (sub_cons rfl (sub_cons rfl (sub_cons rfl (sub_cons rfl (sub_cons rfl (sub_cons rfl (sub_cons rfl sub_nil))))))) X18492
  refine dexit (eseq (eloop (xblock (nseq (dseq (dreg ?_))))))
  refine lpure (v := .slice a17513 n17513 c17513) rfl (p_move rfl) rfl rfl ?_
  refine lpure (v := .bool s18437.1) rfl (p_move rfl) rfl rfl ?_
  refine lpure (v := .slice a17513 n17513 c17513) rfl (p_assign rfl) rfl rfl ?_
  refine lpure (v := .bool s18437.1) rfl (p_assign rfl) rfl rfl ?_
  refine lpure (v := .int .i64 0) rfl (p_assign rfl) rfl rfl ?_
  refine lend (nseq (dret ?_))
  exact kopen_r (res_3 resT resT resT) ⟨φ17510, a17513, n17513, c17513, ob17513, blk18003, (g17503.trans g17511), St.pick (St.front X18492 (j := 1) rfl) (.keep _ (.skip _ (.skip _ (.skip _ (.refl _))))), rfl, O18003⟩
/-! slices.Equal[[]int,int] -/
theorem f28_ok {n : Nat} {φ : Fz} {lo : Nat} {h : Heap} {own : OwnL}  {a18587 : Option Addr} {n18587 c18587 : Nat} {a18589 : Option Addr} {n18589 c18589 : Nat} (X : St φ lo h (own)) (p18586 : (List Int)) (p18588 : (List Int)) (H18587 : RSl (eInt .i64) φ (.slice a18587 n18587 c18587) p18586) (H18589 : RSl (eInt .i64) φ (.slice a18589 n18589 c18589) p18588) : Sim ((recN Try.prog LL cutF (n + 1)).call 28 #[(.slice a18587 n18587 c18587), (.slice a18589 n18589 c18589)] h) (m_slices_Equal_int_int p18586 p18588) (fun (d : Bool) p => p = (.bool d, h)) := by
  refine fcut Try.func28 rfl rfl rfl rfl X ?_
  intro h0 X0
  refine dseq (dreg ?_)
  refine lpure (v := .bool false) rfl (p_assign rfl) rfl rfl ?_
  refine lend (nseq (dseq (dseq (dreg ?_))))
  refine lpure (v := .slice a18587 n18587 c18587) rfl (p_move rfl) rfl rfl ?_
  refine lpure (v := .int .i64 (p18586.length : Int)) rfl (p_len rfl rfl rfl un_33 rfl) (RSl.lenC H18587) rfl ?_
  refine lpure (v := .slice a18589 n18589 c18589) rfl (p_move rfl) rfl rfl ?_
  refine lpure (v := .int .i64 (p18588.length : Int)) rfl (p_len rfl rfl rfl un_33 rfl) (RSl.lenC H18589) rfl ?_
  refine lpure (v := .bool (decide ((p18586.length : Int) ≠ (p18588.length : Int)))) rfl (p_ne rfl) rfl rfl ?_
  refine lend (nseq ?_)
  refine dcond rfl rfl (fun k18590 => ?_) (fun k18590 => ?_)
  · refine dseq (dreg ?_)
    refine lpure (v := .bool false) rfl (p_assign rfl) rfl rfl ?_
    refine lend (nseq (dret (rseq ?_)))
    exact kcut_r (res_1 resT) X0 rfl rfl
  refine dskip (nseq (dseq (dseq (dreg ?_))))
  refine lpure (v := .slice a18587 n18587 c18587) rfl (p_move rfl) rfl rfl ?_
  refine lpure (v := .int .i64 (p18586.length : Int)) rfl (p_len rfl rfl rfl un_33 rfl) (RSl.lenC H18587) rfl ?_
  refine lpure (v := .int .i64 0) rfl (p_move rfl) rfl rfl ?_
  refine lend (nseq (dblock ?_))
  refine dloopM (τ := Int) (σ := Unit) (fun s18613 (_ : Unit) => [(0, .slice a18587 n18587 c18587), (1, .slice a18589 n18589 c18589), (12, .int .i64 (p18586.length : Int)), (13, .int .i64 s18613)]) (fun s18613 (_ : Unit) hh => St φ h.n hh ([])) 0 () (sub_cons rfl (sub_cons rfl (sub_cons rfl (sub_cons rfl sub_nil)))) X0 ?_
  rintro n18626 ih18625 s18613 _ t0 h18628 X18627
  refine dseq (dreg ?_)
  refine lpure (v := .bool (decide (s18613 < (p18586.length : Int)))) rfl (p_lt rfl) rfl rfl ?_
  refine lend (nseq (dseq ?_))
  refine dcond rfl rfl (fun k18629 => ?_) (fun k18629 => ?_)
  · refine dskip (nseq (dseq (dblock (dseq (dreg ?_)))))
    refine lpure (v := .int .i64 s18613) rfl (p_move rfl) rfl rfl ?_
    refine lpure (v := .int .i64 s18613) rfl (p_assign rfl) rfl rfl ?_
    refine lend (nseq (dseq ?_))
    refine ddraw 0 0 0 (by kernel_rfl) ?_
    refine spure (v := .slice a18587 n18587 c18587) rfl (p_move rfl) (lo_t (lo_sl X18627 H18587) rfl) rfl rfl ?_
    refine spure (v := .int .i64 s18613) rfl (p_move rfl) (lo_t rfl rfl) rfl rfl ?_
    refine Sim.bindM fun e18630 he18631 => ?_
    obtain ⟨p18632, cs18632, hp18632, hF18632, hR18632⟩ := RSl.ia H18587 he18631 (kd := .i64) (n := 1) rfl
    have hR18632 : _ = [(.int .i64 e18630 : Value)] := hR18632
    subst hR18632
    refine spure (v := p18632) rfl (p_ia rs_33 rfl) (lo_t (lo_sl X18627 H18587) (lo_t rfl rfl)) hp18632 rfl ?_
    refine sload (v := .int .i64 e18630) rfl rfl (q_load wd_3 rfl) (FP.ld X18627 hF18632) (same_self 20 rfl) rfl ?_
    refine spure (v := .slice a18589 n18589 c18589) rfl (p_move rfl) (lo_t (lo_sl X18627 H18589) rfl) rfl rfl ?_
    refine spure (v := .int .i64 s18613) rfl (p_move rfl) (lo_t rfl rfl) rfl rfl ?_
    refine Sim.bindM fun e18633 he18634 => ?_
    obtain ⟨p18635, cs18635, hp18635, hF18635, hR18635⟩ := RSl.ia H18589 he18634 (kd := .i64) (n := 1) rfl
    have hR18635 : _ = [(.int .i64 e18633 : Value)] := hR18635
    subst hR18635
    refine spure (v := p18635) rfl (p_ia rs_33 rfl) (lo_t (lo_sl X18627 H18589) (lo_t rfl rfl)) hp18635 rfl ?_
    refine sload (v := .int .i64 e18633) rfl rfl (q_load wd_3 rfl) (FP.ld X18627 hF18635) (same_self 20 rfl) rfl ?_
    refine spure (v := .bool (decide (e18630 ≠ e18633))) rfl (p_ne rfl) (lo_t rfl (lo_t rfl rfl)) rfl rfl ?_
    refine send ?_
    refine nseq ?_
    refine dcond rfl rfl (fun k18636 => ?_) (fun k18636 => ?_)
    · refine dseq (dreg ?_)
      refine lpure (v := .bool false) rfl (p_assign rfl) rfl rfl ?_
      refine lend (nseq (dret (rblock (rseq (rloop (rblock (rseq ?_)))))))
      exact kcut_r (res_1 resT) X18627 rfl rfl
    refine dskip (nblock (nseq (dreg ?_)))
    refine lpure (v := .int .i64 (w64 (s18613 + 1))) rfl (p_add rfl) rfl rfl ?_
    refine lpure (v := .int .i64 (w64 (s18613 + 1))) rfl (p_move rfl) rfl rfl ?_
    refine lend ?_
    exact kbackM ih18625 (w64 (s18613 + 1)) () (sub_cons rfl (sub_cons rfl (sub_cons rfl (sub_cons rfl sub_nil)))) X18627
  refine dexit (eseq (eloop (xblock (nseq (dseq (dreg ?_))))))
  refine lpure (v := .bool true) rfl (p_assign rfl) rfl rfl ?_
  refine lend (nseq (dret ?_))
  exact kcut_r (res_1 resT) X18627 rfl rfl
/-! slices.Equal[isochron/api.Route,int] -/
theorem f25_ok {n : Nat} {φ : Fz} {lo : Nat} {h : Heap} {own : OwnL}  {a18673 : Option Addr} {n18673 c18673 : Nat} {a18675 : Option Addr} {n18675 c18675 : Nat} (X : St φ lo h (own)) (p18672 : (List Int)) (p18674 : (List Int)) (H18673 : RSl (eInt .i64) φ (.slice a18673 n18673 c18673) p18672) (H18675 : RSl (eInt .i64) φ (.slice a18675 n18675 c18675) p18674) : Sim ((recN Try.prog LL cutF (n + 1)).call 25 #[(.slice a18673 n18673 c18673), (.slice a18675 n18675 c18675)] h) (m_slices_Equal_api_Route_int p18672 p18674) (fun (d : Bool) p => p = (.bool d, h)) := by
  refine fcut Try.func25 rfl rfl rfl rfl X ?_
  intro h0 X0
  refine dseq (dreg ?_)
  refine lpure (v := .bool false) rfl (p_assign rfl) rfl rfl ?_
  refine lend (nseq (dseq (dseq (dreg ?_))))
  refine lpure (v := .slice a18673 n18673 c18673) rfl (p_move rfl) rfl rfl ?_
  refine lpure (v := .int .i64 (p18672.length : Int)) rfl (p_len rfl rfl rfl un_42 rfl) (RSl.lenC H18673) rfl ?_
  refine lpure (v := .slice a18675 n18675 c18675) rfl (p_move rfl) rfl rfl ?_
  refine lpure (v := .int .i64 (p18674.length : Int)) rfl (p_len rfl rfl rfl un_42 rfl) (RSl.lenC H18675) rfl ?_
  refine lpure (v := .bool (decide ((p18672.length : Int) ≠ (p18674.length : Int)))) rfl (p_ne rfl) rfl rfl ?_
  refine lend (nseq ?_)
  refine dcond rfl rfl (fun k18676 => ?_) (fun k18676 => ?_)
  · refine dseq (dreg ?_)
    refine lpure (v := .bool false) rfl (p_assign rfl) rfl rfl ?_
    refine lend (nseq (dret (rseq ?_)))
    exact kcut_r (res_1 resT) X0 rfl rfl
  refine dskip (nseq (dseq (dseq (dreg ?_))))
  refine lpure (v := .slice a18673 n18673 c18673) rfl (p_move rfl) rfl rfl ?_
  refine lpure (v := .int .i64 (p18672.length : Int)) rfl (p_len rfl rfl rfl un_42 rfl) (RSl.lenC H18673) rfl ?_
  refine lpure (v := .int .i64 0) rfl (p_move rfl) rfl rfl ?_
  refine lend (nseq (dblock ?_))
  refine dloopM (τ := Int) (σ := Unit) (fun s18699 (_ : Unit) => [(0, .slice a18673 n18673 c18673), (1, .slice a18675 n18675 c18675), (12, .int .i64 (p18672.length : Int)), (13, .int .i64 s18699)]) (fun s18699 (_ : Unit) hh => St φ h.n hh ([])) 0 () (sub_cons rfl (sub_cons rfl (sub_cons rfl (sub_cons rfl sub_nil)))) X0 ?_
  rintro n18712 ih18711 s18699 _ t0 h18714 X18713
  refine dseq (dreg ?_)
  refine lpure (v := .bool (decide (s18699 < (p18672.length : Int)))) rfl (p_lt rfl) rfl rfl ?_
  refine lend (nseq (dseq ?_))
  refine dcond rfl rfl (fun k18715 => ?_) (fun k18715 => ?_)
  · refine dskip (nseq (dseq (dblock (dseq (dreg ?_)))))
    refine lpure (v := .int .i64 s18699) rfl (p_move rfl) rfl rfl ?_
    refine lpure (v := .int .i64 s18699) rfl (p_assign rfl) rfl rfl ?_
    refine lend (nseq (dseq ?_))
    refine ddraw 0 0 0 (by kernel_rfl) ?_
    refine spure (v := .slice a18673 n18673 c18673) rfl (p_move rfl) (lo_t (lo_sl X18713 H18673) rfl) rfl rfl ?_
    refine spure (v := .int .i64 s18699) rfl (p_move rfl) (lo_t rfl rfl) rfl rfl ?_
    refine Sim.bindM fun e18716 he18717 => ?_
    obtain ⟨p18718, cs18718, hp18718, hF18718, hR18718⟩ := RSl.ia H18673 he18717 (kd := .i64) (n := 1) rfl
    have hR18718 : _ = [(.int .i64 e18716 : Value)] := hR18718
    subst hR18718
    refine spure (v := p18718) rfl (p_ia rs_42 rfl) (lo_t (lo_sl X18713 H18673) (lo_t rfl rfl)) hp18718 rfl ?_
    refine sload (v := .int .i64 e18716) rfl rfl (q_load wd_3 rfl) (FP.ld X18713 hF18718) (same_self 20 rfl) rfl ?_
    refine spure (v := .slice a18675 n18675 c18675) rfl (p_move rfl) (lo_t (lo_sl X18713 H18675) rfl) rfl rfl ?_
    refine spure (v := .int .i64 s18699) rfl (p_move rfl) (lo_t rfl rfl) rfl rfl ?_
    refine Sim.bindM fun e18719 he18720 => ?_
    obtain ⟨p18721, cs18721, hp18721, hF18721, hR18721⟩ := RSl.ia H18675 he18720 (kd := .i64) (n := 1) rfl
    have hR18721 : _ = [(.int .i64 e18719 : Value)] := hR18721
    subst hR18721
    refine spure (v := p18721) rfl (p_ia rs_42 rfl) (lo_t (lo_sl X18713 H18675) (lo_t rfl rfl)) hp18721 rfl ?_
    refine sload (v := .int .i64 e18719) rfl rfl (q_load wd_3 rfl) (FP.ld X18713 hF18721) (same_self 20 rfl) rfl ?_
    refine spure (v := .bool (decide (e18716 ≠ e18719))) rfl (p_ne rfl) (lo_t rfl (lo_t rfl rfl)) rfl rfl ?_
    refine send ?_
    refine nseq ?_
    refine dcond rfl rfl (fun k18722 => ?_) (fun k18722 => ?_)
    · refine dseq (dreg ?_)
      refine lpure (v := .bool false) rfl (p_assign rfl) rfl rfl ?_
      refine lend (nseq (dret (rblock (rseq (rloop (rblock (rseq ?_)))))))
      exact kcut_r (res_1 resT) X18713 rfl rfl
    refine dskip (nblock (nseq (dreg ?_)))
    refine lpure (v := .int .i64 (w64 (s18699 + 1))) rfl (p_add rfl) rfl rfl ?_
    refine lpure (v := .int .i64 (w64 (s18699 + 1))) rfl (p_move rfl) rfl rfl ?_
    refine lend ?_
    exact kbackM ih18711 (w64 (s18699 + 1)) () (sub_cons rfl (sub_cons rfl (sub_cons rfl (sub_cons rfl sub_nil)))) X18713
  refine dexit (eseq (eloop (xblock (nseq (dseq (dreg ?_))))))
  refine lpure (v := .bool true) rfl (p_assign rfl) rfl rfl ?_
  refine lend (nseq (dret ?_))
  exact kcut_r (res_1 resT) X18713 rfl rfl
/-! isochron/isochronlaw21.wakes -/
theorem f16_ok {n : Nat} {φ : Fz} {lo : Nat} {h : Heap} {own : OwnL}  (X : St φ lo h (own)) : Sim ((recN Try.prog LL cutF (n + 18)).call 16 #[] h) (m_isochronlaw21_wakes) (fun (d : Bool) p => p = (.bool d, h)) := by
  refine fcut Try.func16 rfl rfl rfl rfl X ?_
  intro h0 X0
  refine dseq (dreg ?_)
  refine lpure (v := .bool false) rfl (p_assign rfl) rfl rfl ?_
  refine lend (nseq (dseq (dreg ?_)))
  refine lcall rfl rfl ca_48 rfl rfl (f48_ok X0) rfl ?_
  rintro e38 _ h40 ⟨φ42, a45, n45, c45, ob45, blk45, a47, n47, c47, ob47, blk47, g43, X44, rfl, O45, O47⟩
  refine lalloc rfl tz_29 rfl rfl rfl X44 (fun b49 h51 X52 => ?_)
  refine lstore rfl ts_29 rfl rfl (j := 0) rfl rfl rfl rfl rfl rfl X52 (fun h53 X54 => ?_)
  refine lend (nseq (dseq (dreg ?_)))
  refine lread (v := .agg #[.int .i64 e38.Nodes, .slice a45 n45 c45, .slice a47 n47 c47]) rfl (q_load wd_29 rfl) (St.ld X54 (j := 0) rfl rfl) rfl ?_
  obtain ⟨h55, b55, hv55, X55, O55⟩ := OSl.lay (E := (eInt .i64)) (φ := φ42) (cs := [.int .i64 0, .int .i64 2, .int .i64 4]) (l := [0, 2, 4]) (len := 3) (parts := [(0, .int .i64 0), (1, .int .i64 2), (2, .int .i64 4)]) un_42 ts_3 rfl rfl rfl tz_3 rfl rfl (show RowD (eInt .i64) φ42 [.int .i64 0, .int .i64 2, .int .i64 4] [0, 2, 4] from ⟨[.int .i64 0], _, rfl, rfl, ⟨[.int .i64 2], _, rfl, rfl, ⟨[.int .i64 4], _, rfl, rfl, rfl⟩⟩⟩) rfl rfl X54
  refine lheap rfl (h_buildSlice rfl) hv55 rfl ?_
  obtain ⟨φ7893, g7894, X7895, H7896⟩ := OSl.freeze X55 (j := 2) rfl O45
  obtain ⟨φ7897, g7898, X7899, H7900⟩ := OSl.freeze X7895 (j := 3) rfl (O47.mono g7894)
  obtain ⟨φ7901, g7902, X7903, H7904⟩ := OSl.freeze X7899 (j := 0) rfl (O55.mono (g7894.trans g7898))
  refine lcall rfl rfl ca_24 rfl rfl (f24_ok X7903 e38 ([0, 2, 4]) (H7896.mono (g7898.trans g7902)) (H7900.mono g7902) H7904) rfl ?_
  rintro e7905 _ h7907 ⟨φ7909, a7912, n7912, c7912, ob7912, blk7912, g7910, X7911, rfl, O7912⟩
  refine lpure (v := .tuple #[.slice a7912 n7912 c7912, .int .i64 e7905.2]) rfl (p_move rfl) rfl rfl ?_
  refine lpure (v := .slice a7912 n7912 c7912) rfl (p_extract rfl) rfl rfl ?_
  refine lpure (v := .int .i64 e7905.2) rfl (p_extract rfl) rfl rfl ?_
  refine lpure (v := .slice a7912 n7912 c7912) rfl (p_assign rfl) rfl rfl ?_
  refine lpure (v := .int .i64 e7905.2) rfl (p_assign rfl) rfl rfl ?_
  refine lend (nseq (dseq (dreg ?_)))
  refine lread (v := .agg #[.int .i64 e38.Nodes, .slice a45 n45 c45, .slice a47 n47 c47]) rfl (q_load wd_29 rfl) (St.ld X7911 (j := 2) rfl rfl) rfl ?_
  obtain ⟨h7914, b7914, hv7914, X7914, O7914⟩ := OSl.lay (E := (eInt .i64)) (φ := φ7909) (cs := [.int .i64 2, .int .i64 4]) (l := [2, 4]) (len := 2) (parts := [(0, .int .i64 2), (1, .int .i64 4)]) un_42 ts_3 rfl rfl rfl tz_3 rfl rfl (show RowD (eInt .i64) φ7909 [.int .i64 2, .int .i64 4] [2, 4] from ⟨[.int .i64 2], _, rfl, rfl, ⟨[.int .i64 4], _, rfl, rfl, rfl⟩⟩) rfl rfl X7911
  refine lheap rfl (h_buildSlice rfl) hv7914 rfl ?_
  obtain ⟨φ7941, g7942, X7943, H7944⟩ := OSl.freeze X7914 (j := 0) rfl O7914
  refine lcall rfl rfl ca_21 rfl rfl (f21_ok X7943 e38 ([2, 4]) (H7896.mono (((g7898.trans g7902).trans g7910).trans g7942)) (H7900.mono ((g7902.trans g7910).trans g7942)) H7944) rfl (fun e7945 v7946 h7947 hq7948 => ?_)
  cases hq7948
  refine lpure (v := .tuple #[.int .i64 e7945.1, .int .i64 e7945.2.1, .int .i64 e7945.2.2]) rfl (p_move rfl) rfl rfl ?_
  refine lpure (v := .int .i64 e7945.1) rfl (p_extract rfl) rfl rfl ?_
  refine lpure (v := .int .i64 e7945.2.1) rfl (p_extract rfl) rfl rfl ?_
  refine lpure (v := .int .i64 e7945.2.2) rfl (p_extract rfl) rfl rfl ?_
  refine lpure (v := .int .i64 e7945.1) rfl (p_assign rfl) rfl rfl ?_
  refine lpure (v := .int .i64 e7945.2.1) rfl (p_assign rfl) rfl rfl ?_
  refine lpure (v := .int .i64 e7945.2.2) rfl (p_assign rfl) rfl rfl ?_
  refine lend (nseq (dseq (dreg ?_)))
  refine lread (v := .agg #[.int .i64 e38.Nodes, .slice a45 n45 c45, .slice a47 n47 c47]) rfl (q_load wd_29 rfl) (St.ld X7914 (j := 3) rfl rfl) rfl ?_
  obtain ⟨h7949, b7949, hv7949, X7949, O7949⟩ := OSl.lay (E := (eInt .i64)) (φ := φ7909) (cs := [.int .i64 0, .int .i64 2, .int .i64 4]) (l := [0, 2, 4]) (len := 3) (parts := [(0, .int .i64 0), (1, .int .i64 2), (2, .int .i64 4)]) un_42 ts_3 rfl rfl rfl tz_3 rfl rfl (show RowD (eInt .i64) φ7909 [.int .i64 0, .int .i64 2, .int .i64 4] [0, 2, 4] from ⟨[.int .i64 0], _, rfl, rfl, ⟨[.int .i64 2], _, rfl, rfl, ⟨[.int .i64 4], _, rfl, rfl, rfl⟩⟩⟩) rfl rfl X7914
  refine lheap rfl (h_buildSlice rfl) hv7949 rfl ?_
  obtain ⟨φ8048, g8049, X8050, H8051⟩ := OSl.freeze X7949 (j := 0) rfl O7949
  refine lcall rfl rfl ca_20 rfl rfl (f20_ok X8050 e38 ([0, 2, 4]) (H7896.mono (((g7898.trans g7902).trans g7910).trans g8049)) (H7900.mono ((g7902.trans g7910).trans g8049)) H8051) rfl (fun e8052 v8053 h8054 hq8055 => ?_)
  cases hq8055
  refine lpure (v := .tuple #[.int .i64 e8052.1, .int .i64 e8052.2]) rfl (p_move rfl) rfl rfl ?_
  refine lpure (v := .int .i64 e8052.1) rfl (p_extract rfl) rfl rfl ?_
  refine lpure (v := .int .i64 e8052.2) rfl (p_extract rfl) rfl rfl ?_
  refine lpure (v := .int .i64 e8052.1) rfl (p_assign rfl) rfl rfl ?_
  refine lpure (v := .int .i64 e8052.2) rfl (p_assign rfl) rfl rfl ?_
  refine lend (nseq (dseq (dreg ?_)))
  refine lread (v := .agg #[.int .i64 e38.Nodes, .slice a45 n45 c45, .slice a47 n47 c47]) rfl (q_load wd_29 rfl) (St.ld X7949 (j := 4) rfl rfl) rfl ?_
  obtain ⟨h8056, b8056, hv8056, X8056, O8056⟩ := OSl.lay (E := (eInt .i64)) (φ := φ7909) (cs := [.int .i64 0, .int .i64 2, .int .i64 4]) (l := [0, 2, 4]) (len := 3) (parts := [(0, .int .i64 0), (1, .int .i64 2), (2, .int .i64 4)]) un_42 ts_3 rfl rfl rfl tz_3 rfl rfl (show RowD (eInt .i64) φ7909 [.int .i64 0, .int .i64 2, .int .i64 4] [0, 2, 4] from ⟨[.int .i64 0], _, rfl, rfl, ⟨[.int .i64 2], _, rfl, rfl, ⟨[.int .i64 4], _, rfl, rfl, rfl⟩⟩⟩) rfl rfl X7949
  refine lheap rfl (h_buildSlice rfl) hv8056 rfl ?_
  obtain ⟨φ8168, g8169, X8170, H8171⟩ := OSl.freeze X8056 (j := 0) rfl O8056
  refine lcall rfl rfl ca_19 rfl rfl (f19_ok X8170 e38 ([0, 2, 4]) 100 (H7896.mono (((g7898.trans g7902).trans g7910).trans g8169)) (H7900.mono ((g7902.trans g7910).trans g8169)) H8171) rfl (fun e8172 v8173 h8174 hq8175 => ?_)
  cases hq8175
  refine lpure (v := .tuple #[.int .i64 e8172.1, .int .i64 e8172.2]) rfl (p_move rfl) rfl rfl ?_
  refine lpure (v := .int .i64 e8172.1) rfl (p_extract rfl) rfl rfl ?_
  refine lpure (v := .int .i64 e8172.2) rfl (p_extract rfl) rfl rfl ?_
  refine lpure (v := .int .i64 e8172.1) rfl (p_assign rfl) rfl rfl ?_
  refine lpure (v := .int .i64 e8172.2) rfl (p_assign rfl) rfl rfl ?_
  refine lend (nseq (dseq (dreg ?_)))
  refine lread (v := .agg #[.int .i64 e38.Nodes, .slice a45 n45 c45, .slice a47 n47 c47]) rfl (q_load wd_29 rfl) (St.ld X8056 (j := 5) rfl rfl) rfl ?_
  obtain ⟨h8176, b8176, hv8176, X8176, O8176⟩ := OSl.lay (E := (eInt .i64)) (φ := φ7909) (cs := [.int .i64 0, .int .i64 2, .int .i64 4]) (l := [0, 2, 4]) (len := 3) (parts := [(0, .int .i64 0), (1, .int .i64 2), (2, .int .i64 4)]) un_42 ts_3 rfl rfl rfl tz_3 rfl rfl (show RowD (eInt .i64) φ7909 [.int .i64 0, .int .i64 2, .int .i64 4] [0, 2, 4] from ⟨[.int .i64 0], _, rfl, rfl, ⟨[.int .i64 2], _, rfl, rfl, ⟨[.int .i64 4], _, rfl, rfl, rfl⟩⟩⟩) rfl rfl X8056
  refine lheap rfl (h_buildSlice rfl) hv8176 rfl ?_
  obtain ⟨φ8432, g8433, X8434, H8435⟩ := OSl.freeze X8176 (j := 0) rfl O8176
  refine lcall rfl rfl ca_23 rfl rfl (f23_ok X8434 e38 ([0, 2, 4]) (H7896.mono (((g7898.trans g7902).trans g7910).trans g8433)) (H7900.mono ((g7902.trans g7910).trans g8433)) H8435) rfl ?_
  rintro e8436 _ h8438 ⟨φ8440, a8443, n8443, c8443, ob8443, blk8443, g8441, X8442, rfl, O8443⟩
  refine lpure (v := .tuple #[.slice a8443 n8443 c8443, .int .i64 e8436.2]) rfl (p_move rfl) rfl rfl ?_
  refine lpure (v := .slice a8443 n8443 c8443) rfl (p_extract rfl) rfl rfl ?_
  refine lpure (v := .int .i64 e8436.2) rfl (p_extract rfl) rfl rfl ?_
  refine lpure (v := .slice a8443 n8443 c8443) rfl (p_assign rfl) rfl rfl ?_
  refine lpure (v := .int .i64 e8436.2) rfl (p_assign rfl) rfl rfl ?_
  refine lend (nseq (dseq (dreg ?_)))
  refine lread (v := .agg #[.int .i64 e38.Nodes, .slice a45 n45 c45, .slice a47 n47 c47]) rfl (q_load wd_29 rfl) (St.ld X8442 (j := 7) rfl rfl) rfl ?_
  obtain ⟨h8445, b8445, hv8445, X8445, O8445⟩ := OSl.lay (E := (eInt .i64)) (φ := φ8440) (cs := [.int .i64 0]) (l := [0]) (len := 1) (parts := [(0, .int .i64 0)]) un_42 ts_3 rfl rfl rfl tz_3 rfl rfl (show RowD (eInt .i64) φ8440 [.int .i64 0] [0] from ⟨[.int .i64 0], _, rfl, rfl, rfl⟩) rfl rfl X8442
  refine lheap rfl (h_buildSlice rfl) hv8445 rfl ?_
  obtain ⟨h8447, b8447, hv8447, X8447, O8447⟩ := OSl.lay (E := (eInt .i64)) (φ := φ8440) (cs := [.int .i64 2, .int .i64 4]) (l := [2, 4]) (len := 2) (parts := [(0, .int .i64 2), (1, .int .i64 4)]) un_42 ts_3 rfl rfl rfl tz_3 rfl rfl (show RowD (eInt .i64) φ8440 [.int .i64 2, .int .i64 4] [2, 4] from ⟨[.int .i64 2], _, rfl, rfl, ⟨[.int .i64 4], _, rfl, rfl, rfl⟩⟩) rfl rfl X8445
  refine lheap rfl (h_buildSlice rfl) hv8447 rfl ?_
  obtain ⟨φ9975, g9976, X9977, H9978⟩ := OSl.freeze X8447 (j := 1) rfl O8445
  obtain ⟨φ9979, g9980, X9981, H9982⟩ := OSl.freeze X9977 (j := 0) rfl (O8447.mono g9976)
  refine lcall rfl rfl ca_22 rfl rfl (f22_ok X9981 e38 ([0]) ([2, 4]) (H7896.mono ((((((g7898.trans g7902).trans g7910).trans g8433).trans g8441).trans g9976).trans g9980)) (H7900.mono (((((g7902.trans g7910).trans g8433).trans g8441).trans g9976).trans g9980)) (H9978.mono g9980) H9982) rfl (fun e9983 v9984 h9985 hq9986 => ?_)
  cases hq9986
  refine lpure (v := .tuple #[.bool e9983.1, .int .i64 e9983.2]) rfl (p_move rfl) rfl rfl ?_
  refine lpure (v := .bool e9983.1) rfl (p_extract rfl) rfl rfl ?_
  refine lpure (v := .int .i64 e9983.2) rfl (p_extract rfl) rfl rfl ?_
  refine lpure (v := .bool e9983.1) rfl (p_assign rfl) rfl rfl ?_
  refine lpure (v := .int .i64 e9983.2) rfl (p_assign rfl) rfl rfl ?_
  refine lend (nseq (dseq (dreg ?_)))
  refine lread (v := .agg #[.int .i64 e38.Nodes, .slice a45 n45 c45, .slice a47 n47 c47]) rfl (q_load wd_29 rfl) (St.ld X8447 (j := 9) rfl rfl) rfl ?_
  obtain ⟨h9987, b9987, hv9987, X9987, O9987⟩ := OSl.lay (E := (eInt .i64)) (φ := φ8440) (cs := [.int .i64 0, .int .i64 2]) (l := [0, 2]) (len := 2) (parts := [(0, .int .i64 0), (1, .int .i64 2)]) un_42 ts_3 rfl rfl rfl tz_3 rfl rfl (show RowD (eInt .i64) φ8440 [.int .i64 0, .int .i64 2] [0, 2] from ⟨[.int .i64 0], _, rfl, rfl, ⟨[.int .i64 2], _, rfl, rfl, rfl⟩⟩) rfl rfl X8447
  refine lheap rfl (h_buildSlice rfl) hv9987 rfl ?_
  obtain ⟨h9989, b9989, hv9989, X9989, O9989⟩ := OSl.lay (E := (eInt .i64)) (φ := φ8440) (cs := [.int .i64 0, .int .i64 2, .int .i64 4]) (l := [0, 2, 4]) (len := 3) (parts := [(0, .int .i64 0), (1, .int .i64 2), (2, .int .i64 4)]) un_42 ts_3 rfl rfl rfl tz_3 rfl rfl (show RowD (eInt .i64) φ8440 [.int .i64 0, .int .i64 2, .int .i64 4] [0, 2, 4] from ⟨[.int .i64 0], _, rfl, rfl, ⟨[.int .i64 2], _, rfl, rfl, ⟨[.int .i64 4], _, rfl, rfl, rfl⟩⟩⟩) rfl rfl X9987
  refine lheap rfl (h_buildSlice rfl) hv9989 rfl ?_
  obtain ⟨φ9991, g9992, X9993, H9994⟩ := OSl.freeze X9989 (j := 1) rfl O9987
  obtain ⟨φ9995, g9996, X9997, H9998⟩ := OSl.freeze X9993 (j := 0) rfl (O9989.mono g9992)
  obtain ⟨h9999, b9999, hv9999, X9999, O9999⟩ := OSl.lay (E := (eSl (eInt .i64))) (φ := φ9995) (cs := [.slice (some ⟨b9987, 0, none⟩) 2 2, .slice (some ⟨b9989, 0, none⟩) 3 3]) (l := [[0, 2], [0, 2, 4]]) (len := 2) (parts := [(0, .slice (some ⟨b9987, 0, none⟩) 2 2), (1, .slice (some ⟨b9989, 0, none⟩) 3 3)]) un_59 ts_42 rfl rfl rfl tz_42 rfl rfl (show RowD (eSl (eInt .i64)) φ9995 [.slice (some ⟨b9987, 0, none⟩) 2 2, .slice (some ⟨b9989, 0, none⟩) 3 3] [[0, 2], [0, 2, 4]] from ⟨[.slice (some ⟨b9987, 0, none⟩) 2 2], _, rfl, ⟨_, _, _, rfl, (H9994.mono g9996)⟩, ⟨[.slice (some ⟨b9989, 0, none⟩) 3 3], _, rfl, ⟨_, _, _, rfl, H9998⟩, rfl⟩⟩) rfl rfl X9997
  refine lheap rfl (h_buildSlice rfl) hv9999 rfl ?_
  obtain ⟨φ18545, g18546, X18547, H18548⟩ := OSl.freeze X9999 (j := 0) rfl O9999
  refine lcall rfl rfl ca_27 rfl rfl (f27_ok X18547 e38 ([[0, 2], [0, 2, 4]]) (H7896.mono (((((((g7898.trans g7902).trans g7910).trans g8433).trans g8441).trans g9992).trans g9996).trans g18546)) (H7900.mono ((((((g7902.trans g7910).trans g8433).trans g8441).trans g9992).trans g9996).trans g18546)) H18548) rfl ?_
  rintro e18549 _ h18551 ⟨φ18553, a18556, n18556, c18556, ob18556, blk18556, g18554, X18555, rfl, O18556⟩
  refine lpure (v := .tuple #[.slice a18556 n18556 c18556, .bool e18549.2.1, .int .i64 e18549.2.2]) rfl (p_move rfl) rfl rfl ?_
  refine lpure (v := .slice a18556 n18556 c18556) rfl (p_extract rfl) rfl rfl ?_
  refine lpure (v := .bool e18549.2.1) rfl (p_extract rfl) rfl rfl ?_
  refine lpure (v := .int .i64 e18549.2.2) rfl (p_extract rfl) rfl rfl ?_
  refine lpure (v := .slice a18556 n18556 c18556) rfl (p_assign rfl) rfl rfl ?_
  refine lpure (v := .bool e18549.2.1) rfl (p_assign rfl) rfl rfl ?_
  refine lpure (v := .int .i64 e18549.2.2) rfl (p_assign rfl) rfl rfl ?_
  refine lend (nseq (dseq (dreg ?_)))
  refine lpure (v := .int .i64 e7905.2) rfl (p_move rfl) rfl rfl ?_
  refine lpure (v := .bool (decide (e7905.2 = 0))) rfl (p_eq rfl) rfl rfl ?_
  refine lpure (v := .bool (decide (e7905.2 = 0))) rfl (p_move rfl) rfl rfl ?_
  refine lsh (τ := Bool) (σ := Unit) (fun s18559 (_ : Unit) => [(1, .pointer (some ⟨b49, 0, none⟩)), (2, .slice a7912 n7912 c7912), (4, .int .i64 e7945.1), (5, .int .i64 e7945.2.1), (7, .int .i64 e8052.1), (8, .int .i64 e8052.2), (9, .int .i64 e8172.1), (10, .int .i64 e8172.2), (11, .slice a8443 n8443 c8443), (12, .int .i64 e8436.2), (13, .bool e9983.1), (14, .int .i64 e9983.2), (15, .slice a18556 n18556 c18556), (16, .bool e18549.2.1), (17, .int .i64 e18549.2.2), (72, .bool s18559)]) (fun s18559 (_ : Unit) hh => St φ18553 h.n hh ([(ob18556, blk18556), (none, .dead), (none, .dead), (none, .dead), (some b8447, (.cells [.int .i64 2, .int .i64 4] 3 .exact)), (some b8445, (.cells [.int .i64 0] 3 .exact)), (ob8443, blk8443), (none, .dead), (some b8056, (.cells [.int .i64 0, .int .i64 2, .int .i64 4] 3 .exact)), (some b7949, (.cells [.int .i64 0, .int .i64 2, .int .i64 4] 3 .exact)), (some b7914, (.cells [.int .i64 2, .int .i64 4] 3 .exact)), (ob7912, blk7912), (none, .dead), (some b49, .cells [.int .i64 e38.Nodes, .slice a45 n45 c45, .slice a47 n47 c47] 29 .exact), (none, .dead), (none, .dead)])) 3 ?_ ?_
  · rintro s18559 _ t0 h18561 X18560
    refine lpure (v := .bool s18559) rfl (p_move rfl) rfl rfl ?_
    refine lsh (τ := Bool) (σ := Unit) (fun s18563 (_ : Unit) => [(1, .pointer (some ⟨b49, 0, none⟩)), (2, .slice a7912 n7912 c7912), (4, .int .i64 e7945.1), (5, .int .i64 e7945.2.1), (7, .int .i64 e8052.1), (9, .int .i64 e8172.1), (10, .int .i64 e8172.2), (11, .slice a8443 n8443 c8443), (12, .int .i64 e8436.2), (13, .bool e9983.1), (14, .int .i64 e9983.2), (15, .slice a18556 n18556 c18556), (16, .bool e18549.2.1), (17, .int .i64 e18549.2.2), (76, .bool s18563)]) (fun s18563 (_ : Unit) hh => St φ18553 h.n hh ([(ob18556, blk18556), (none, .dead), (none, .dead), (none, .dead), (some b8447, (.cells [.int .i64 2, .int .i64 4] 3 .exact)), (some b8445, (.cells [.int .i64 0] 3 .exact)), (ob8443, blk8443), (none, .dead), (some b8056, (.cells [.int .i64 0, .int .i64 2, .int .i64 4] 3 .exact)), (some b7949, (.cells [.int .i64 0, .int .i64 2, .int .i64 4] 3 .exact)), (some b7914, (.cells [.int .i64 2, .int .i64 4] 3 .exact)), (ob7912, blk7912), (none, .dead), (some b49, .cells [.int .i64 e38.Nodes, .slice a45 n45 c45, .slice a47 n47 c47] 29 .exact), (none, .dead), (none, .dead)])) 3 ?_ ?_
    · rintro s18563 _ t0 h18565 X18564
      refine lpure (v := .bool s18563) rfl (p_move rfl) rfl rfl ?_
      refine lsh (τ := Bool) (σ := Unit) (fun s18567 (_ : Unit) => [(1, .pointer (some ⟨b49, 0, none⟩)), (2, .slice a7912 n7912 c7912), (4, .int .i64 e7945.1), (5, .int .i64 e7945.2.1), (7, .int .i64 e8052.1), (9, .int .i64 e8172.1), (11, .slice a8443 n8443 c8443), (12, .int .i64 e8436.2), (13, .bool e9983.1), (14, .int .i64 e9983.2), (15, .slice a18556 n18556 c18556), (16, .bool e18549.2.1), (17, .int .i64 e18549.2.2), (80, .bool s18567)]) (fun s18567 (_ : Unit) hh => St φ18553 h.n hh ([(ob18556, blk18556), (none, .dead), (none, .dead), (none, .dead), (some b8447, (.cells [.int .i64 2, .int .i64 4] 3 .exact)), (some b8445, (.cells [.int .i64 0] 3 .exact)), (ob8443, blk8443), (none, .dead), (some b8056, (.cells [.int .i64 0, .int .i64 2, .int .i64 4] 3 .exact)), (some b7949, (.cells [.int .i64 0, .int .i64 2, .int .i64 4] 3 .exact)), (some b7914, (.cells [.int .i64 2, .int .i64 4] 3 .exact)), (ob7912, blk7912), (none, .dead), (some b49, .cells [.int .i64 e38.Nodes, .slice a45 n45 c45, .slice a47 n47 c47] 29 .exact), (none, .dead), (none, .dead)])) 3 ?_ ?_
      · rintro s18567 _ t0 h18569 X18568
        refine lpure (v := .bool s18567) rfl (p_move rfl) rfl rfl ?_
        refine lsh (τ := Bool) (σ := Unit) (fun s18571 (_ : Unit) => [(1, .pointer (some ⟨b49, 0, none⟩)), (2, .slice a7912 n7912 c7912), (4, .int .i64 e7945.1), (5, .int .i64 e7945.2.1), (7, .int .i64 e8052.1), (9, .int .i64 e8172.1), (11, .slice a8443 n8443 c8443), (13, .bool e9983.1), (14, .int .i64 e9983.2), (15, .slice a18556 n18556 c18556), (16, .bool e18549.2.1), (17, .int .i64 e18549.2.2), (84, .bool s18571)]) (fun s18571 (_ : Unit) hh => St φ18553 h.n hh ([(ob18556, blk18556), (none, .dead), (none, .dead), (none, .dead), (some b8447, (.cells [.int .i64 2, .int .i64 4] 3 .exact)), (some b8445, (.cells [.int .i64 0] 3 .exact)), (ob8443, blk8443), (none, .dead), (some b8056, (.cells [.int .i64 0, .int .i64 2, .int .i64 4] 3 .exact)), (some b7949, (.cells [.int .i64 0, .int .i64 2, .int .i64 4] 3 .exact)), (some b7914, (.cells [.int .i64 2, .int .i64 4] 3 .exact)), (ob7912, blk7912), (none, .dead), (some b49, .cells [.int .i64 e38.Nodes, .slice a45 n45 c45, .slice a47 n47 c47] 29 .exact), (none, .dead), (none, .dead)])) 3 ?_ ?_
        · rintro s18571 _ t0 h18573 X18572
          refine lpure (v := .bool s18571) rfl (p_move rfl) rfl rfl ?_
          refine lsh (τ := Bool) (σ := Unit) (fun s18575 (_ : Unit) => [(1, .pointer (some ⟨b49, 0, none⟩)), (2, .slice a7912 n7912 c7912), (4, .int .i64 e7945.1), (5, .int .i64 e7945.2.1), (7, .int .i64 e8052.1), (9, .int .i64 e8172.1), (11, .slice a8443 n8443 c8443), (13, .bool e9983.1), (15, .slice a18556 n18556 c18556), (16, .bool e18549.2.1), (17, .int .i64 e18549.2.2), (88, .bool s18575)]) (fun s18575 (_ : Unit) hh => St φ18553 h.n hh ([(ob18556, blk18556), (none, .dead), (none, .dead), (none, .dead), (some b8447, (.cells [.int .i64 2, .int .i64 4] 3 .exact)), (some b8445, (.cells [.int .i64 0] 3 .exact)), (ob8443, blk8443), (none, .dead), (some b8056, (.cells [.int .i64 0, .int .i64 2, .int .i64 4] 3 .exact)), (some b7949, (.cells [.int .i64 0, .int .i64 2, .int .i64 4] 3 .exact)), (some b7914, (.cells [.int .i64 2, .int .i64 4] 3 .exact)), (ob7912, blk7912), (none, .dead), (some b49, .cells [.int .i64 e38.Nodes, .slice a45 n45 c45, .slice a47 n47 c47] 29 .exact), (none, .dead), (none, .dead)])) 3 ?_ ?_
          · rintro s18575 _ t0 h18577 X18576
            refine lpure (v := .bool s18575) rfl (p_move rfl) rfl rfl ?_
            refine lsh (τ := Bool) (σ := Unit) (fun s18579 (_ : Unit) => [(1, .pointer (some ⟨b49, 0, none⟩)), (2, .slice a7912 n7912 c7912), (4, .int .i64 e7945.1), (5, .int .i64 e7945.2.1), (7, .int .i64 e8052.1), (9, .int .i64 e8172.1), (11, .slice a8443 n8443 c8443), (13, .bool e9983.1), (15, .slice a18556 n18556 c18556), (16, .bool e18549.2.1), (92, .bool s18579)]) (fun s18579 (_ : Unit) hh => St φ18553 h.n hh ([(ob18556, blk18556), (none, .dead), (none, .dead), (none, .dead), (some b8447, (.cells [.int .i64 2, .int .i64 4] 3 .exact)), (some b8445, (.cells [.int .i64 0] 3 .exact)), (ob8443, blk8443), (none, .dead), (some b8056, (.cells [.int .i64 0, .int .i64 2, .int .i64 4] 3 .exact)), (some b7949, (.cells [.int .i64 0, .int .i64 2, .int .i64 4] 3 .exact)), (some b7914, (.cells [.int .i64 2, .int .i64 4] 3 .exact)), (ob7912, blk7912), (none, .dead), (some b49, .cells [.int .i64 e38.Nodes, .slice a45 n45 c45, .slice a47 n47 c47] 29 .exact), (none, .dead), (none, .dead)])) 3 ?_ ?_
            · rintro s18579 _ t0 h18581 X18580
              refine lpure (v := .bool s18579) rfl (p_assign rfl) rfl rfl ?_
              refine lend (nseq (dseq (dreg ?_)))
              refine lpure (v := .bool s18579) rfl (p_move rfl) rfl rfl ?_
              refine lpure (v := .bool s18579) rfl (p_move rfl) rfl rfl ?_
              refine ljoinM (τ := Bool) (σ := Unit) (fun s18649 (_ : Unit) => [(1, .pointer (some ⟨b49, 0, none⟩)), (4, .int .i64 e7945.1), (5, .int .i64 e7945.2.1), (7, .int .i64 e8052.1), (9, .int .i64 e8172.1), (11, .slice a8443 n8443 c8443), (13, .bool e9983.1), (15, .slice a18556 n18556 c18556), (16, .bool e18549.2.1), (98, .bool s18649)]) (fun s18649 (_ : Unit) hh => St φ18553 h.n hh ([(ob18556, blk18556), (none, .dead), (none, .dead), (none, .dead), (some b8447, (.cells [.int .i64 2, .int .i64 4] 3 .exact)), (some b8445, (.cells [.int .i64 0] 3 .exact)), (ob8443, blk8443), (none, .dead), (some b8056, (.cells [.int .i64 0, .int .i64 2, .int .i64 4] 3 .exact)), (some b7949, (.cells [.int .i64 0, .int .i64 2, .int .i64 4] 3 .exact)), (some b7914, (.cells [.int .i64 2, .int .i64 4] 3 .exact)), (ob7912, blk7912), (none, .dead), (some b49, .cells [.int .i64 e38.Nodes, .slice a45 n45 c45, .slice a47 n47 c47] 29 .exact), (none, .dead), (none, .dead)])) 4 ?_ ?_
              · rintro s18649 _ t0 h18651 X18650
                refine lpure (v := .bool s18649) rfl (p_move rfl) rfl rfl ?_
                refine lsh (τ := Bool) (σ := Unit) (fun s18653 (_ : Unit) => [(1, .pointer (some ⟨b49, 0, none⟩)), (5, .int .i64 e7945.2.1), (7, .int .i64 e8052.1), (9, .int .i64 e8172.1), (11, .slice a8443 n8443 c8443), (13, .bool e9983.1), (15, .slice a18556 n18556 c18556), (16, .bool e18549.2.1), (102, .bool s18653)]) (fun s18653 (_ : Unit) hh => St φ18553 h.n hh ([(ob18556, blk18556), (none, .dead), (none, .dead), (none, .dead), (some b8447, (.cells [.int .i64 2, .int .i64 4] 3 .exact)), (some b8445, (.cells [.int .i64 0] 3 .exact)), (ob8443, blk8443), (none, .dead), (some b8056, (.cells [.int .i64 0, .int .i64 2, .int .i64 4] 3 .exact)), (some b7949, (.cells [.int .i64 0, .int .i64 2, .int .i64 4] 3 .exact)), (some b7914, (.cells [.int .i64 2, .int .i64 4] 3 .exact)), (ob7912, blk7912), (none, .dead), (some b49, .cells [.int .i64 e38.Nodes, .slice a45 n45 c45, .slice a47 n47 c47] 29 .exact), (none, .dead), (none, .dead)])) 3 ?_ ?_
                · rintro s18653 _ t0 h18655 X18654
                  refine lpure (v := .bool s18653) rfl (p_move rfl) rfl rfl ?_
                  refine lsh (τ := Bool) (σ := Unit) (fun s18657 (_ : Unit) => [(1, .pointer (some ⟨b49, 0, none⟩)), (7, .int .i64 e8052.1), (9, .int .i64 e8172.1), (11, .slice a8443 n8443 c8443), (13, .bool e9983.1), (15, .slice a18556 n18556 c18556), (16, .bool e18549.2.1), (106, .bool s18657)]) (fun s18657 (_ : Unit) hh => St φ18553 h.n hh ([(ob18556, blk18556), (none, .dead), (none, .dead), (none, .dead), (some b8447, (.cells [.int .i64 2, .int .i64 4] 3 .exact)), (some b8445, (.cells [.int .i64 0] 3 .exact)), (ob8443, blk8443), (none, .dead), (some b8056, (.cells [.int .i64 0, .int .i64 2, .int .i64 4] 3 .exact)), (some b7949, (.cells [.int .i64 0, .int .i64 2, .int .i64 4] 3 .exact)), (some b7914, (.cells [.int .i64 2, .int .i64 4] 3 .exact)), (ob7912, blk7912), (none, .dead), (some b49, .cells [.int .i64 e38.Nodes, .slice a45 n45 c45, .slice a47 n47 c47] 29 .exact), (none, .dead), (none, .dead)])) 3 ?_ ?_
                  · rintro s18657 _ t0 h18659 X18658
                    refine lpure (v := .bool s18657) rfl (p_move rfl) rfl rfl ?_
                    refine lsh (τ := Bool) (σ := Unit) (fun s18661 (_ : Unit) => [(1, .pointer (some ⟨b49, 0, none⟩)), (9, .int .i64 e8172.1), (11, .slice a8443 n8443 c8443), (13, .bool e9983.1), (15, .slice a18556 n18556 c18556), (16, .bool e18549.2.1), (110, .bool s18661)]) (fun s18661 (_ : Unit) hh => St φ18553 h.n hh ([(ob18556, blk18556), (none, .dead), (none, .dead), (none, .dead), (some b8447, (.cells [.int .i64 2, .int .i64 4] 3 .exact)), (some b8445, (.cells [.int .i64 0] 3 .exact)), (ob8443, blk8443), (none, .dead), (some b8056, (.cells [.int .i64 0, .int .i64 2, .int .i64 4] 3 .exact)), (some b7949, (.cells [.int .i64 0, .int .i64 2, .int .i64 4] 3 .exact)), (some b7914, (.cells [.int .i64 2, .int .i64 4] 3 .exact)), (ob7912, blk7912), (none, .dead), (some b49, .cells [.int .i64 e38.Nodes, .slice a45 n45 c45, .slice a47 n47 c47] 29 .exact), (none, .dead), (none, .dead)])) 3 ?_ ?_
                    · rintro s18661 _ t0 h18663 X18662
                      refine lpure (v := .bool s18661) rfl (p_move rfl) rfl rfl ?_
                      refine lsh (τ := Bool) (σ := Unit) (fun s18665 (_ : Unit) => [(1, .pointer (some ⟨b49, 0, none⟩)), (11, .slice a8443 n8443 c8443), (13, .bool e9983.1), (15, .slice a18556 n18556 c18556), (16, .bool e18549.2.1), (114, .bool s18665)]) (fun s18665 (_ : Unit) hh => St φ18553 h.n hh ([(ob18556, blk18556), (none, .dead), (none, .dead), (none, .dead), (some b8447, (.cells [.int .i64 2, .int .i64 4] 3 .exact)), (some b8445, (.cells [.int .i64 0] 3 .exact)), (ob8443, blk8443), (none, .dead), (some b8056, (.cells [.int .i64 0, .int .i64 2, .int .i64 4] 3 .exact)), (some b7949, (.cells [.int .i64 0, .int .i64 2, .int .i64 4] 3 .exact)), (some b7914, (.cells [.int .i64 2, .int .i64 4] 3 .exact)), (ob7912, blk7912), (none, .dead), (some b49, .cells [.int .i64 e38.Nodes, .slice a45 n45 c45, .slice a47 n47 c47] 29 .exact), (none, .dead), (none, .dead)])) 3 ?_ ?_
                      · rintro s18665 _ t0 h18667 X18666
                        refine lpure (v := .bool s18665) rfl (p_move rfl) rfl rfl ?_
                        refine ljoinM (τ := Bool) (σ := Unit) (fun s18735 (_ : Unit) => [(1, .pointer (some ⟨b49, 0, none⟩)), (13, .bool e9983.1), (15, .slice a18556 n18556 c18556), (16, .bool e18549.2.1), (119, .bool s18735)]) (fun s18735 (_ : Unit) hh => St φ18553 h.n hh ([(ob18556, blk18556), (none, .dead), (none, .dead), (none, .dead), (some b8447, (.cells [.int .i64 2, .int .i64 4] 3 .exact)), (some b8445, (.cells [.int .i64 0] 3 .exact)), (ob8443, blk8443), (none, .dead), (some b8056, (.cells [.int .i64 0, .int .i64 2, .int .i64 4] 3 .exact)), (some b7949, (.cells [.int .i64 0, .int .i64 2, .int .i64 4] 3 .exact)), (some b7914, (.cells [.int .i64 2, .int .i64 4] 3 .exact)), (ob7912, blk7912), (none, .dead), (some b49, .cells [.int .i64 e38.Nodes, .slice a45 n45 c45, .slice a47 n47 c47] 29 .exact), (none, .dead), (none, .dead)])) 4 ?_ ?_
                        · rintro s18735 _ t0 h18737 X18736
                          refine lpure (v := .bool s18735) rfl (p_move rfl) rfl rfl ?_
                          refine lsh (τ := Bool) (σ := Unit) (fun s18739 (_ : Unit) => [(1, .pointer (some ⟨b49, 0, none⟩)), (15, .slice a18556 n18556 c18556), (16, .bool e18549.2.1), (122, .bool s18739)]) (fun s18739 (_ : Unit) hh => St φ18553 h.n hh ([(ob18556, blk18556), (none, .dead), (none, .dead), (none, .dead), (some b8447, (.cells [.int .i64 2, .int .i64 4] 3 .exact)), (some b8445, (.cells [.int .i64 0] 3 .exact)), (ob8443, blk8443), (none, .dead), (some b8056, (.cells [.int .i64 0, .int .i64 2, .int .i64 4] 3 .exact)), (some b7949, (.cells [.int .i64 0, .int .i64 2, .int .i64 4] 3 .exact)), (some b7914, (.cells [.int .i64 2, .int .i64 4] 3 .exact)), (ob7912, blk7912), (none, .dead), (some b49, .cells [.int .i64 e38.Nodes, .slice a45 n45 c45, .slice a47 n47 c47] 29 .exact), (none, .dead), (none, .dead)])) 2 ?_ ?_
                          · rintro s18739 _ t0 h18741 X18740
                            refine lpure (v := .bool s18739) rfl (p_move rfl) rfl rfl ?_
                            refine ljoinM (τ := Bool) (σ := Unit) (fun s18758 (_ : Unit) => [(1, .pointer (some ⟨b49, 0, none⟩)), (16, .bool e18549.2.1), (127, .bool s18758)]) (fun s18758 (_ : Unit) hh => St φ18553 h.n hh ([(ob18556, blk18556), (none, .dead), (none, .dead), (none, .dead), (some b8447, (.cells [.int .i64 2, .int .i64 4] 3 .exact)), (some b8445, (.cells [.int .i64 0] 3 .exact)), (ob8443, blk8443), (none, .dead), (some b8056, (.cells [.int .i64 0, .int .i64 2, .int .i64 4] 3 .exact)), (some b7949, (.cells [.int .i64 0, .int .i64 2, .int .i64 4] 3 .exact)), (some b7914, (.cells [.int .i64 2, .int .i64 4] 3 .exact)), (ob7912, blk7912), (none, .dead), (some b49, .cells [.int .i64 e38.Nodes, .slice a45 n45 c45, .slice a47 n47 c47] 29 .exact), (none, .dead), (none, .dead)])) 4 ?_ ?_
                            · rintro s18758 _ t0 h18760 X18759
                              refine lpure (v := .bool s18758) rfl (p_move rfl) rfl rfl ?_
                              refine lsh (τ := Bool) (σ := Unit) (fun s18762 (_ : Unit) => [(1, .pointer (some ⟨b49, 0, none⟩)), (130, .bool s18762)]) (fun s18762 (_ : Unit) hh => St φ18553 h.n hh ([(ob18556, blk18556), (none, .dead), (none, .dead), (none, .dead), (some b8447, (.cells [.int .i64 2, .int .i64 4] 3 .exact)), (some b8445, (.cells [.int .i64 0] 3 .exact)), (ob8443, blk8443), (none, .dead), (some b8056, (.cells [.int .i64 0, .int .i64 2, .int .i64 4] 3 .exact)), (some b7949, (.cells [.int .i64 0, .int .i64 2, .int .i64 4] 3 .exact)), (some b7914, (.cells [.int .i64 2, .int .i64 4] 3 .exact)), (ob7912, blk7912), (none, .dead), (some b49, .cells [.int .i64 e38.Nodes, .slice a45 n45 c45, .slice a47 n47 c47] 29 .exact), (none, .dead), (none, .dead)])) 2 ?_ ?_
                              · rintro s18762 _ t0 h18764 X18763
                                refine lpure (v := .bool s18762) rfl (p_move rfl) rfl rfl ?_
                                refine ljoinM (τ := Bool) (σ := Unit) (fun s18777 (_ : Unit) => [(136, .bool s18777)]) (fun s18777 (_ : Unit) hh => St φ18553 h.n hh ([(ob18556, blk18556), (none, .dead), (none, .dead), (none, .dead), (some b8447, (.cells [.int .i64 2, .int .i64 4] 3 .exact)), (some b8445, (.cells [.int .i64 0] 3 .exact)), (ob8443, blk8443), (none, .dead), (some b8056, (.cells [.int .i64 0, .int .i64 2, .int .i64 4] 3 .exact)), (some b7949, (.cells [.int .i64 0, .int .i64 2, .int .i64 4] 3 .exact)), (some b7914, (.cells [.int .i64 2, .int .i64 4] 3 .exact)), (ob7912, blk7912), (none, .dead), (some b49, .cells [.int .i64 e38.Nodes, .slice a45 n45 c45, .slice a47 n47 c47] 29 .exact), (none, .dead), (none, .dead)])) 5 ?_ ?_
                                · rintro s18777 _ t0 h18779 X18778
                                  refine lpure (v := .bool s18777) rfl (p_assign rfl) rfl rfl ?_
                                  refine lend (nseq (dret ?_))
                                  exact kcut_r (res_1 resT) X18778 rfl rfl
                                intro j18780 J18781
                                refine lif (i := 131) (show _ = Value.bool s18762 from rfl) (fun k18782 => ?_) (fun k18782 => ?_)
                                · refine lread (v := .agg #[.int .i64 e38.Nodes, .slice a45 n45 c45, .slice a47 n47 c47]) rfl (q_load wd_29 rfl) (St.ld X18763 (j := 13) rfl rfl) rfl ?_
                                  obtain ⟨h18783, b18783, hv18783, X18783, O18783⟩ := OSl.lay (E := (eInt .i64)) (φ := φ18553) (cs := [.int .i64 0, .int .i64 4]) (l := [0, 4]) (len := 2) (parts := [(0, .int .i64 0), (1, .int .i64 4)]) un_42 ts_3 rfl rfl rfl tz_3 rfl rfl (show RowD (eInt .i64) φ18553 [.int .i64 0, .int .i64 4] [0, 4] from ⟨[.int .i64 0], _, rfl, rfl, ⟨[.int .i64 4], _, rfl, rfl, rfl⟩⟩) rfl rfl X18763
                                  refine lheap rfl (h_buildSlice rfl) hv18783 rfl ?_
                                  obtain ⟨φ18785, g18786, X18787, H18788⟩ := OSl.freeze X18783 (j := 0) rfl O18783
                                  refine lcall rfl rfl ca_18 rfl rfl (f18_ok X18787 e38 ([0, 4]) (H7896.mono (((((((((g7898.trans g7902).trans g7910).trans g8433).trans g8441).trans g9992).trans g9996).trans g18546).trans g18554).trans g18786)) (H7900.mono ((((((((g7902.trans g7910).trans g8433).trans g8441).trans g9992).trans g9996).trans g18546).trans g18554).trans g18786)) H18788) rfl (fun e18789 v18790 h18791 hq18792 => ?_)
                                  cases hq18792
                                  refine lpure (v := .bool (decide (e18789 = 310))) rfl (p_eq rfl) rfl rfl ?_
                                  refine lpure (v := .bool (decide (e18789 = 310))) rfl (p_pick rfl) rfl rfl ?_
                                  exact ljmpM J18781 (decide (e18789 = 310)) () (sub_cons rfl sub_nil) (St.pick X18783 (.skip _ (.keep _ (.none _ (.none _ (.none _ (.skip _ (.skip _ (.skip _ (.keep _ (.keep _ (.keep _ (.none _ (.skip _ (.keep _ (.keep _ (.keep _ (.keep _ (.none _ (.skip _ (.keep _ (.none _ (.none _ (.nil _))))))))))))))))))))))))
                                refine lskip rfl rfl ?_
                                refine lskip rfl rfl ?_
                                refine lskip rfl rfl ?_
                                refine lskip rfl rfl ?_
                                refine lpure (v := .bool false) rfl (p_pick rfl) rfl rfl ?_
                                exact ljmpM J18781 false () (sub_cons rfl sub_nil) (St.pick X18763 (.keep _ (.none _ (.none _ (.none _ (.skip _ (.skip _ (.skip _ (.keep _ (.keep _ (.keep _ (.none _ (.skip _ (.keep _ (.keep _ (.keep _ (.keep _ (.none _ (.skip _ (.keep _ (.none _ (.none _ (.nil _)))))))))))))))))))))))
                              intro j18793 J18794
                              refine lcase (i := 128) (show _ = Value.bool s18758 from rfl) (fun k18795 => ?_) (fun k18795 => ?_)
                              · refine lpure (v := .bool e18549.2.1) rfl (p_move rfl) rfl rfl ?_
                                refine lpure (v := .bool e18549.2.1) rfl (p_pick rfl) rfl rfl ?_
                                refine Sim.of_eq (congrArg j18793 (show (s18758 && e18549.2.1) = e18549.2.1 from by rw [k18795] <;> rfl)) ?_
                                exact ljmpM J18794 e18549.2.1 () (sub_cons rfl (sub_cons rfl sub_nil)) (St.pick X18759 (.keep _ (.none _ (.none _ (.none _ (.skip _ (.skip _ (.skip _ (.keep _ (.keep _ (.keep _ (.none _ (.skip _ (.keep _ (.keep _ (.keep _ (.keep _ (.none _ (.skip _ (.keep _ (.none _ (.none _ (.nil _)))))))))))))))))))))))
                              refine lskip rfl rfl ?_
                              refine lpure (v := .bool false) rfl (p_pick rfl) rfl rfl ?_
                              refine Sim.of_eq (congrArg j18793 (show (s18758 && e18549.2.1) = false from by rw [k18795] <;> rfl)) ?_
                              exact ljmpM J18794 false () (sub_cons rfl (sub_cons rfl sub_nil)) (St.pick X18759 (.keep _ (.none _ (.none _ (.none _ (.skip _ (.skip _ (.skip _ (.keep _ (.keep _ (.keep _ (.none _ (.skip _ (.keep _ (.keep _ (.keep _ (.keep _ (.none _ (.skip _ (.keep _ (.none _ (.none _ (.nil _)))))))))))))))))))))))
                            intro j18796 J18797
                            refine lif (i := 123) (show _ = Value.bool s18739 from rfl) (fun k18798 => ?_) (fun k18798 => ?_)
                            · refine lpure (v := .slice a18556 n18556 c18556) rfl (p_move rfl) rfl rfl ?_
                              obtain ⟨h18799, b18799, hv18799, X18799, O18799⟩ := OSl.lay (E := (eInt .i64)) (φ := φ18553) (cs := [.int .i64 0, .int .i64 2, .int .i64 4]) (l := [0, 2, 4]) (len := 3) (parts := [(0, .int .i64 0), (1, .int .i64 2), (2, .int .i64 4)]) un_33 ts_3 rfl rfl rfl tz_3 rfl rfl (show RowD (eInt .i64) φ18553 [.int .i64 0, .int .i64 2, .int .i64 4] [0, 2, 4] from ⟨[.int .i64 0], _, rfl, rfl, ⟨[.int .i64 2], _, rfl, rfl, ⟨[.int .i64 4], _, rfl, rfl, rfl⟩⟩⟩) rfl rfl X18740
                              refine lheap rfl (h_buildSlice rfl) hv18799 rfl ?_
                              obtain ⟨φ18801, g18802, X18803, H18804⟩ := OSl.freeze X18799 (j := 1) rfl O18556
                              obtain ⟨φ18805, g18806, X18807, H18808⟩ := OSl.freeze X18803 (j := 0) rfl (O18799.mono g18802)
                              refine lcall rfl rfl ca_28 rfl rfl (f28_ok X18807 (e18549.1) ([0, 2, 4]) (H18804.mono g18806) H18808) rfl (fun e18809 v18810 h18811 hq18812 => ?_)
                              cases hq18812
                              refine lpure (v := .bool e18809) rfl (p_pick rfl) rfl rfl ?_
                              exact ljmpM J18797 e18809 () (sub_cons rfl (sub_cons rfl (sub_cons rfl sub_nil))) (St.pick X18799 (.skip _ (.keep _ (.none _ (.none _ (.none _ (.skip _ (.skip _ (.skip _ (.keep _ (.keep _ (.keep _ (.none _ (.skip _ (.keep _ (.keep _ (.keep _ (.keep _ (.none _ (.skip _ (.keep _ (.none _ (.none _ (.nil _))))))))))))))))))))))))
                            refine lskip rfl rfl ?_
                            refine lskip rfl rfl ?_
                            refine lskip rfl rfl ?_
                            refine lpure (v := .bool false) rfl (p_pick rfl) rfl rfl ?_
                            exact ljmpM J18797 false () (sub_cons rfl (sub_cons rfl (sub_cons rfl sub_nil))) (St.pick X18740 (.keep _ (.none _ (.none _ (.none _ (.skip _ (.skip _ (.skip _ (.keep _ (.keep _ (.keep _ (.none _ (.skip _ (.keep _ (.keep _ (.keep _ (.keep _ (.none _ (.skip _ (.keep _ (.none _ (.none _ (.nil _)))))))))))))))))))))))
                          intro j18813 J18814
                          refine lcase (i := 120) (show _ = Value.bool s18735 from rfl) (fun k18815 => ?_) (fun k18815 => ?_)
                          · refine lpure (v := .bool e9983.1) rfl (p_move rfl) rfl rfl ?_
                            refine lpure (v := .bool e9983.1) rfl (p_pick rfl) rfl rfl ?_
                            refine Sim.of_eq (congrArg j18813 (show (s18735 && e9983.1) = e9983.1 from by rw [k18815] <;> rfl)) ?_
                            exact ljmpM J18814 e9983.1 () (sub_cons rfl (sub_cons rfl (sub_cons rfl (sub_cons rfl sub_nil)))) (St.pick X18736 (.keep _ (.none _ (.none _ (.none _ (.skip _ (.skip _ (.skip _ (.keep _ (.keep _ (.keep _ (.none _ (.skip _ (.keep _ (.keep _ (.keep _ (.keep _ (.none _ (.skip _ (.keep _ (.none _ (.none _ (.nil _)))))))))))))))))))))))
                          refine lskip rfl rfl ?_
                          refine lpure (v := .bool false) rfl (p_pick rfl) rfl rfl ?_
                          refine Sim.of_eq (congrArg j18813 (show (s18735 && e9983.1) = false from by rw [k18815] <;> rfl)) ?_
                          exact ljmpM J18814 false () (sub_cons rfl (sub_cons rfl (sub_cons rfl (sub_cons rfl sub_nil)))) (St.pick X18736 (.keep _ (.none _ (.none _ (.none _ (.skip _ (.skip _ (.skip _ (.keep _ (.keep _ (.keep _ (.none _ (.skip _ (.keep _ (.keep _ (.keep _ (.keep _ (.none _ (.skip _ (.keep _ (.none _ (.none _ (.nil _)))))))))))))))))))))))
                        intro j18816 J18817
                        refine lif (i := 115) (show _ = Value.bool s18665 from rfl) (fun k18818 => ?_) (fun k18818 => ?_)
                        · refine lpure (v := .slice a8443 n8443 c8443) rfl (p_move rfl) rfl rfl ?_
                          obtain ⟨h18819, b18819, hv18819, X18819, O18819⟩ := OSl.lay (E := (eInt .i64)) (φ := φ18553) (cs := [.int .i64 5, .int .i64 3, .int .i64 1]) (l := [5, 3, 1]) (len := 3) (parts := [(0, .int .i64 5), (1, .int .i64 3), (2, .int .i64 1)]) un_42 ts_3 rfl rfl rfl tz_3 rfl rfl (show RowD (eInt .i64) φ18553 [.int .i64 5, .int .i64 3, .int .i64 1] [5, 3, 1] from ⟨[.int .i64 5], _, rfl, rfl, ⟨[.int .i64 3], _, rfl, rfl, ⟨[.int .i64 1], _, rfl, rfl, rfl⟩⟩⟩) rfl rfl X18666
                          refine lheap rfl (h_buildSlice rfl) hv18819 rfl ?_
                          obtain ⟨φ18821, g18822, X18823, H18824⟩ := OSl.freeze X18819 (j := 7) rfl (O8443.mono (((g9992.trans g9996).trans g18546).trans g18554))
                          obtain ⟨φ18825, g18826, X18827, H18828⟩ := OSl.freeze X18823 (j := 0) rfl (O18819.mono g18822)
                          refine lcall rfl rfl ca_25 rfl rfl (f25_ok X18827 (e8436.1) ([5, 3, 1]) (H18824.mono g18826) H18828) rfl (fun e18829 v18830 h18831 hq18832 => ?_)
                          cases hq18832
                          refine lpure (v := .bool e18829) rfl (p_pick rfl) rfl rfl ?_
                          exact ljmpM J18817 e18829 () (sub_cons rfl (sub_cons rfl (sub_cons rfl (sub_cons rfl (sub_cons rfl sub_nil))))) (St.pick X18819 (.skip _ (.keep _ (.none _ (.none _ (.none _ (.skip _ (.skip _ (.skip _ (.keep _ (.keep _ (.keep _ (.none _ (.skip _ (.keep _ (.keep _ (.keep _ (.keep _ (.none _ (.skip _ (.keep _ (.none _ (.none _ (.nil _))))))))))))))))))))))))
                        refine lskip rfl rfl ?_
                        refine lskip rfl rfl ?_
                        refine lskip rfl rfl ?_
                        refine lpure (v := .bool false) rfl (p_pick rfl) rfl rfl ?_
                        exact ljmpM J18817 false () (sub_cons rfl (sub_cons rfl (sub_cons rfl (sub_cons rfl (sub_cons rfl sub_nil))))) (St.pick X18666 (.keep _ (.none _ (.none _ (.none _ (.skip _ (.skip _ (.skip _ (.keep _ (.keep _ (.keep _ (.none _ (.skip _ (.keep _ (.keep _ (.keep _ (.keep _ (.none _ (.skip _ (.keep _ (.none _ (.none _ (.nil _)))))))))))))))))))))))
                      intro j18833 J18834
                      refine lcase (i := 111) (show _ = Value.bool s18661 from rfl) (fun k18835 => ?_) (fun k18835 => ?_)
                      · refine lpure (v := .int .i64 e8172.1) rfl (p_move rfl) rfl rfl ?_
                        refine lpure (v := .bool (decide (e8172.1 = 9657))) rfl (p_eq rfl) rfl rfl ?_
                        refine lpure (v := .bool (decide (e8172.1 = 9657))) rfl (p_pick rfl) rfl rfl ?_
                        refine Sim.of_eq (congrArg j18833 (show (s18661 && (decide (e8172.1 = 9657))) = (decide (e8172.1 = 9657)) from by rw [k18835] <;> rfl)) ?_
                        exact ljmpM J18834 (decide (e8172.1 = 9657)) () (sub_cons rfl (sub_cons rfl (sub_cons rfl (sub_cons rfl (sub_cons rfl (sub_cons rfl sub_nil)))))) (St.pick X18662 (.keep _ (.none _ (.none _ (.none _ (.skip _ (.skip _ (.skip _ (.keep _ (.keep _ (.keep _ (.none _ (.skip _ (.keep _ (.keep _ (.keep _ (.keep _ (.none _ (.skip _ (.keep _ (.none _ (.none _ (.nil _)))))))))))))))))))))))
                      refine lskip rfl rfl ?_
                      refine lskip rfl rfl ?_
                      refine lpure (v := .bool false) rfl (p_pick rfl) rfl rfl ?_
                      refine Sim.of_eq (congrArg j18833 (show (s18661 && (decide (e8172.1 = 9657))) = false from by rw [k18835] <;> rfl)) ?_
                      exact ljmpM J18834 false () (sub_cons rfl (sub_cons rfl (sub_cons rfl (sub_cons rfl (sub_cons rfl (sub_cons rfl sub_nil)))))) (St.pick X18662 (.keep _ (.none _ (.none _ (.none _ (.skip _ (.skip _ (.skip _ (.keep _ (.keep _ (.keep _ (.none _ (.skip _ (.keep _ (.keep _ (.keep _ (.keep _ (.none _ (.skip _ (.keep _ (.none _ (.none _ (.nil _)))))))))))))))))))))))
                    intro j18836 J18837
                    refine lcase (i := 107) (show _ = Value.bool s18657 from rfl) (fun k18838 => ?_) (fun k18838 => ?_)
                    · refine lpure (v := .int .i64 e8052.1) rfl (p_move rfl) rfl rfl ?_
                      refine lpure (v := .bool (decide (e8052.1 = 57))) rfl (p_eq rfl) rfl rfl ?_
                      refine lpure (v := .bool (decide (e8052.1 = 57))) rfl (p_pick rfl) rfl rfl ?_
                      refine Sim.of_eq (congrArg j18836 (show (s18657 && (decide (e8052.1 = 57))) = (decide (e8052.1 = 57)) from by rw [k18838] <;> rfl)) ?_
                      exact ljmpM J18837 (decide (e8052.1 = 57)) () (sub_cons rfl (sub_cons rfl (sub_cons rfl (sub_cons rfl (sub_cons rfl (sub_cons rfl (sub_cons rfl sub_nil))))))) (St.pick X18658 (.keep _ (.none _ (.none _ (.none _ (.skip _ (.skip _ (.skip _ (.keep _ (.keep _ (.keep _ (.none _ (.skip _ (.keep _ (.keep _ (.keep _ (.keep _ (.none _ (.skip _ (.keep _ (.none _ (.none _ (.nil _)))))))))))))))))))))))
                    refine lskip rfl rfl ?_
                    refine lskip rfl rfl ?_
                    refine lpure (v := .bool false) rfl (p_pick rfl) rfl rfl ?_
                    refine Sim.of_eq (congrArg j18836 (show (s18657 && (decide (e8052.1 = 57))) = false from by rw [k18838] <;> rfl)) ?_
                    exact ljmpM J18837 false () (sub_cons rfl (sub_cons rfl (sub_cons rfl (sub_cons rfl (sub_cons rfl (sub_cons rfl (sub_cons rfl sub_nil))))))) (St.pick X18658 (.keep _ (.none _ (.none _ (.none _ (.skip _ (.skip _ (.skip _ (.keep _ (.keep _ (.keep _ (.none _ (.skip _ (.keep _ (.keep _ (.keep _ (.keep _ (.none _ (.skip _ (.keep _ (.none _ (.none _ (.nil _)))))))))))))))))))))))
                  intro j18839 J18840
                  refine lcase (i := 103) (show _ = Value.bool s18653 from rfl) (fun k18841 => ?_) (fun k18841 => ?_)
                  · refine lpure (v := .int .i64 e7945.2.1) rfl (p_move rfl) rfl rfl ?_
                    refine lpure (v := .bool (decide (e7945.2.1 = 3))) rfl (p_eq rfl) rfl rfl ?_
                    refine lpure (v := .bool (decide (e7945.2.1 = 3))) rfl (p_pick rfl) rfl rfl ?_
                    refine Sim.of_eq (congrArg j18839 (show (s18653 && (decide (e7945.2.1 = 3))) = (decide (e7945.2.1 = 3)) from by rw [k18841] <;> rfl)) ?_
                    exact ljmpM J18840 (decide (e7945.2.1 = 3)) () (sub_cons rfl (sub_cons rfl (sub_cons rfl (sub_cons rfl (sub_cons rfl (sub_cons rfl (sub_cons rfl (sub_cons rfl sub_nil)))))))) (St.pick X18654 (.keep _ (.none _ (.none _ (.none _ (.skip _ (.skip _ (.skip _ (.keep _ (.keep _ (.keep _ (.none _ (.skip _ (.keep _ (.keep _ (.keep _ (.keep _ (.none _ (.skip _ (.keep _ (.none _ (.none _ (.nil _)))))))))))))))))))))))
                  refine lskip rfl rfl ?_
                  refine lskip rfl rfl ?_
                  refine lpure (v := .bool false) rfl (p_pick rfl) rfl rfl ?_
                  refine Sim.of_eq (congrArg j18839 (show (s18653 && (decide (e7945.2.1 = 3))) = false from by rw [k18841] <;> rfl)) ?_
                  exact ljmpM J18840 false () (sub_cons rfl (sub_cons rfl (sub_cons rfl (sub_cons rfl (sub_cons rfl (sub_cons rfl (sub_cons rfl (sub_cons rfl sub_nil)))))))) (St.pick X18654 (.keep _ (.none _ (.none _ (.none _ (.skip _ (.skip _ (.skip _ (.keep _ (.keep _ (.keep _ (.none _ (.skip _ (.keep _ (.keep _ (.keep _ (.keep _ (.none _ (.skip _ (.keep _ (.none _ (.none _ (.nil _)))))))))))))))))))))))
                intro j18842 J18843
                refine lcase (i := 99) (show _ = Value.bool s18649 from rfl) (fun k18844 => ?_) (fun k18844 => ?_)
                · refine lpure (v := .int .i64 e7945.1) rfl (p_move rfl) rfl rfl ?_
                  refine lpure (v := .bool (decide (e7945.1 = 1))) rfl (p_eq rfl) rfl rfl ?_
                  refine lpure (v := .bool (decide (e7945.1 = 1))) rfl (p_pick rfl) rfl rfl ?_
                  refine Sim.of_eq (congrArg j18842 (show (s18649 && (decide (e7945.1 = 1))) = (decide (e7945.1 = 1)) from by rw [k18844] <;> rfl)) ?_
                  exact ljmpM J18843 (decide (e7945.1 = 1)) () (sub_cons rfl (sub_cons rfl (sub_cons rfl (sub_cons rfl (sub_cons rfl (sub_cons rfl (sub_cons rfl (sub_cons rfl (sub_cons rfl sub_nil))))))))) (St.pick X18650 (.keep _ (.none _ (.none _ (.none _ (.skip _ (.skip _ (.skip _ (.keep _ (.keep _ (.keep _ (.none _ (.skip _ (.keep _ (.keep _ (.keep _ (.keep _ (.none _ (.skip _ (.keep _ (.none _ (.none _ (.nil _)))))))))))))))))))))))
                refine lskip rfl rfl ?_
                refine lskip rfl rfl ?_
                refine lpure (v := .bool false) rfl (p_pick rfl) rfl rfl ?_
                refine Sim.of_eq (congrArg j18842 (show (s18649 && (decide (e7945.1 = 1))) = false from by rw [k18844] <;> rfl)) ?_
                exact ljmpM J18843 false () (sub_cons rfl (sub_cons rfl (sub_cons rfl (sub_cons rfl (sub_cons rfl (sub_cons rfl (sub_cons rfl (sub_cons rfl (sub_cons rfl sub_nil))))))))) (St.pick X18650 (.keep _ (.none _ (.none _ (.none _ (.skip _ (.skip _ (.skip _ (.keep _ (.keep _ (.keep _ (.none _ (.skip _ (.keep _ (.keep _ (.keep _ (.keep _ (.none _ (.skip _ (.keep _ (.none _ (.none _ (.nil _)))))))))))))))))))))))
              intro j18845 J18846
              refine lif (i := 94) (show _ = Value.bool s18579 from rfl) (fun k18847 => ?_) (fun k18847 => ?_)
              · refine lpure (v := .slice a7912 n7912 c7912) rfl (p_move rfl) rfl rfl ?_
                obtain ⟨h18848, b18848, hv18848, X18848, O18848⟩ := OSl.lay (E := (eInt .i64)) (φ := φ18553) (cs := [.int .i64 0, .int .i64 1, .int .i64 2, .int .i64 3]) (l := [0, 1, 2, 3]) (len := 4) (parts := [(0, .int .i64 0), (1, .int .i64 1), (2, .int .i64 2), (3, .int .i64 3)]) un_33 ts_3 rfl rfl rfl tz_3 rfl rfl (show RowD (eInt .i64) φ18553 [.int .i64 0, .int .i64 1, .int .i64 2, .int .i64 3] [0, 1, 2, 3] from ⟨[.int .i64 0], _, rfl, rfl, ⟨[.int .i64 1], _, rfl, rfl, ⟨[.int .i64 2], _, rfl, rfl, ⟨[.int .i64 3], _, rfl, rfl, rfl⟩⟩⟩⟩) rfl rfl X18580
                refine lheap rfl (h_buildSlice rfl) hv18848 rfl ?_
                obtain ⟨φ18850, g18851, X18852, H18853⟩ := OSl.freeze X18848 (j := 12) rfl (O7912.mono (((((g8433.trans g8441).trans g9992).trans g9996).trans g18546).trans g18554))
                obtain ⟨φ18854, g18855, X18856, H18857⟩ := OSl.freeze X18852 (j := 0) rfl (O18848.mono g18851)
                refine lcall rfl rfl ca_28 rfl rfl (f28_ok X18856 (e7905.1) ([0, 1, 2, 3]) (H18853.mono g18855) H18857) rfl (fun e18858 v18859 h18860 hq18861 => ?_)
                cases hq18861
                refine lpure (v := .bool e18858) rfl (p_pick rfl) rfl rfl ?_
                exact ljmpM J18846 e18858 () (sub_cons rfl (sub_cons rfl (sub_cons rfl (sub_cons rfl (sub_cons rfl (sub_cons rfl (sub_cons rfl (sub_cons rfl (sub_cons rfl (sub_cons rfl sub_nil)))))))))) (St.pick X18848 (.skip _ (.keep _ (.none _ (.none _ (.none _ (.skip _ (.skip _ (.skip _ (.keep _ (.keep _ (.keep _ (.none _ (.skip _ (.keep _ (.keep _ (.keep _ (.keep _ (.none _ (.skip _ (.keep _ (.none _ (.none _ (.nil _))))))))))))))))))))))))
              refine lskip rfl rfl ?_
              refine lskip rfl rfl ?_
              refine lskip rfl rfl ?_
              refine lpure (v := .bool false) rfl (p_pick rfl) rfl rfl ?_
              exact ljmpM J18846 false () (sub_cons rfl (sub_cons rfl (sub_cons rfl (sub_cons rfl (sub_cons rfl (sub_cons rfl (sub_cons rfl (sub_cons rfl (sub_cons rfl (sub_cons rfl sub_nil)))))))))) (St.pick X18580 (.keep _ (.none _ (.none _ (.none _ (.skip _ (.skip _ (.skip _ (.keep _ (.keep _ (.keep _ (.none _ (.skip _ (.keep _ (.keep _ (.keep _ (.keep _ (.none _ (.skip _ (.keep _ (.none _ (.none _ (.nil _)))))))))))))))))))))))
            intro j18862 J18863
            refine lcase (i := 89) (show _ = Value.bool s18575 from rfl) (fun k18864 => ?_) (fun k18864 => ?_)
            · refine lpure (v := .int .i64 e18549.2.2) rfl (p_move rfl) rfl rfl ?_
              refine lpure (v := .bool (decide (e18549.2.2 = 0))) rfl (p_eq rfl) rfl rfl ?_
              refine lpure (v := .bool (decide (e18549.2.2 = 0))) rfl (p_pick rfl) rfl rfl ?_
              refine Sim.of_eq (congrArg j18862 (show (s18575 && (decide (e18549.2.2 = 0))) = (decide (e18549.2.2 = 0)) from by rw [k18864] <;> rfl)) ?_
              exact ljmpM J18863 (decide (e18549.2.2 = 0)) () (sub_cons rfl (sub_cons rfl (sub_cons rfl (sub_cons rfl (sub_cons rfl (sub_cons rfl (sub_cons rfl (sub_cons rfl (sub_cons rfl (sub_cons rfl (sub_cons rfl sub_nil))))))))))) (St.pick X18576 (.keep _ (.none _ (.none _ (.none _ (.skip _ (.skip _ (.skip _ (.keep _ (.keep _ (.keep _ (.none _ (.skip _ (.keep _ (.keep _ (.keep _ (.keep _ (.none _ (.skip _ (.keep _ (.none _ (.none _ (.nil _)))))))))))))))))))))))
            refine lskip rfl rfl ?_
            refine lskip rfl rfl ?_
            refine lpure (v := .bool false) rfl (p_pick rfl) rfl rfl ?_
            refine Sim.of_eq (congrArg j18862 (show (s18575 && (decide (e18549.2.2 = 0))) = false from by rw [k18864] <;> rfl)) ?_
            exact ljmpM J18863 false () (sub_cons rfl (sub_cons rfl (sub_cons rfl (sub_cons rfl (sub_cons rfl (sub_cons rfl (sub_cons rfl (sub_cons rfl (sub_cons rfl (sub_cons rfl (sub_cons rfl sub_nil))))))))))) (St.pick X18576 (.keep _ (.none _ (.none _ (.none _ (.skip _ (.skip _ (.skip _ (.keep _ (.keep _ (.keep _ (.none _ (.skip _ (.keep _ (.keep _ (.keep _ (.keep _ (.none _ (.skip _ (.keep _ (.none _ (.none _ (.nil _)))))))))))))))))))))))
          intro j18865 J18866
          refine lcase (i := 85) (show _ = Value.bool s18571 from rfl) (fun k18867 => ?_) (fun k18867 => ?_)
          · refine lpure (v := .int .i64 e9983.2) rfl (p_move rfl) rfl rfl ?_
            refine lpure (v := .bool (decide (e9983.2 = 0))) rfl (p_eq rfl) rfl rfl ?_
            refine lpure (v := .bool (decide (e9983.2 = 0))) rfl (p_pick rfl) rfl rfl ?_
            refine Sim.of_eq (congrArg j18865 (show (s18571 && (decide (e9983.2 = 0))) = (decide (e9983.2 = 0)) from by rw [k18867] <;> rfl)) ?_
            exact ljmpM J18866 (decide (e9983.2 = 0)) () (sub_cons rfl (sub_cons rfl (sub_cons rfl (sub_cons rfl (sub_cons rfl (sub_cons rfl (sub_cons rfl (sub_cons rfl (sub_cons rfl (sub_cons rfl (sub_cons rfl (sub_cons rfl sub_nil)))))))))))) (St.pick X18572 (.keep _ (.none _ (.none _ (.none _ (.skip _ (.skip _ (.skip _ (.keep _ (.keep _ (.keep _ (.none _ (.skip _ (.keep _ (.keep _ (.keep _ (.keep _ (.none _ (.skip _ (.keep _ (.none _ (.none _ (.nil _)))))))))))))))))))))))
          refine lskip rfl rfl ?_
          refine lskip rfl rfl ?_
          refine lpure (v := .bool false) rfl (p_pick rfl) rfl rfl ?_
          refine Sim.of_eq (congrArg j18865 (show (s18571 && (decide (e9983.2 = 0))) = false from by rw [k18867] <;> rfl)) ?_
          exact ljmpM J18866 false () (sub_cons rfl (sub_cons rfl (sub_cons rfl (sub_cons rfl (sub_cons rfl (sub_cons rfl (sub_cons rfl (sub_cons rfl (sub_cons rfl (sub_cons rfl (sub_cons rfl (sub_cons rfl sub_nil)))))))))))) (St.pick X18572 (.keep _ (.none _ (.none _ (.none _ (.skip _ (.skip _ (.skip _ (.keep _ (.keep _ (.keep _ (.none _ (.skip _ (.keep _ (.keep _ (.keep _ (.keep _ (.none _ (.skip _ (.keep _ (.none _ (.none _ (.nil _)))))))))))))))))))))))
        intro j18868 J18869
        refine lcase (i := 81) (show _ = Value.bool s18567 from rfl) (fun k18870 => ?_) (fun k18870 => ?_)
        · refine lpure (v := .int .i64 e8436.2) rfl (p_move rfl) rfl rfl ?_
          refine lpure (v := .bool (decide (e8436.2 = 0))) rfl (p_eq rfl) rfl rfl ?_
          refine lpure (v := .bool (decide (e8436.2 = 0))) rfl (p_pick rfl) rfl rfl ?_
          refine Sim.of_eq (congrArg j18868 (show (s18567 && (decide (e8436.2 = 0))) = (decide (e8436.2 = 0)) from by rw [k18870] <;> rfl)) ?_
          exact ljmpM J18869 (decide (e8436.2 = 0)) () (sub_cons rfl (sub_cons rfl (sub_cons rfl (sub_cons rfl (sub_cons rfl (sub_cons rfl (sub_cons rfl (sub_cons rfl (sub_cons rfl (sub_cons rfl (sub_cons rfl (sub_cons rfl (sub_cons rfl sub_nil))))))))))))) (St.pick X18568 (.keep _ (.none _ (.none _ (.none _ (.skip _ (.skip _ (.skip _ (.keep _ (.keep _ (.keep _ (.none _ (.skip _ (.keep _ (.keep _ (.keep _ (.keep _ (.none _ (.skip _ (.keep _ (.none _ (.none _ (.nil _)))))))))))))))))))))))
        refine lskip rfl rfl ?_
        refine lskip rfl rfl ?_
        refine lpure (v := .bool false) rfl (p_pick rfl) rfl rfl ?_
        refine Sim.of_eq (congrArg j18868 (show (s18567 && (decide (e8436.2 = 0))) = false from by rw [k18870] <;> rfl)) ?_
        exact ljmpM J18869 false () (sub_cons rfl (sub_cons rfl (sub_cons rfl (sub_cons rfl (sub_cons rfl (sub_cons rfl (sub_cons rfl (sub_cons rfl (sub_cons rfl (sub_cons rfl (sub_cons rfl (sub_cons rfl (sub_cons rfl sub_nil))))))))))))) (St.pick X18568 (.keep _ (.none _ (.none _ (.none _ (.skip _ (.skip _ (.skip _ (.keep _ (.keep _ (.keep _ (.none _ (.skip _ (.keep _ (.keep _ (.keep _ (.keep _ (.none _ (.skip _ (.keep _ (.none _ (.none _ (.nil _)))))))))))))))))))))))
      intro j18871 J18872
      refine lcase (i := 77) (show _ = Value.bool s18563 from rfl) (fun k18873 => ?_) (fun k18873 => ?_)
      · refine lpure (v := .int .i64 e8172.2) rfl (p_move rfl) rfl rfl ?_
        refine lpure (v := .bool (decide (e8172.2 = 0))) rfl (p_eq rfl) rfl rfl ?_
        refine lpure (v := .bool (decide (e8172.2 = 0))) rfl (p_pick rfl) rfl rfl ?_
        refine Sim.of_eq (congrArg j18871 (show (s18563 && (decide (e8172.2 = 0))) = (decide (e8172.2 = 0)) from by rw [k18873] <;> rfl)) ?_
        exact ljmpM J18872 (decide (e8172.2 = 0)) () (sub_cons rfl (sub_cons rfl (sub_cons rfl (sub_cons rfl (sub_cons rfl (sub_cons rfl (sub_cons rfl (sub_cons rfl (sub_cons rfl (sub_cons rfl (sub_cons rfl (sub_cons rfl (sub_cons rfl (sub_cons rfl sub_nil)))))))))))))) (St.pick X18564 (.keep _ (.none _ (.none _ (.none _ (.skip _ (.skip _ (.skip _ (.keep _ (.keep _ (.keep _ (.none _ (.skip _ (.keep _ (.keep _ (.keep _ (.keep _ (.none _ (.skip _ (.keep _ (.none _ (.none _ (.nil _)))))))))))))))))))))))
      refine lskip rfl rfl ?_
      refine lskip rfl rfl ?_
      refine lpure (v := .bool false) rfl (p_pick rfl) rfl rfl ?_
      refine Sim.of_eq (congrArg j18871 (show (s18563 && (decide (e8172.2 = 0))) = false from by rw [k18873] <;> rfl)) ?_
      exact ljmpM J18872 false () (sub_cons rfl (sub_cons rfl (sub_cons rfl (sub_cons rfl (sub_cons rfl (sub_cons rfl (sub_cons rfl (sub_cons rfl (sub_cons rfl (sub_cons rfl (sub_cons rfl (sub_cons rfl (sub_cons rfl (sub_cons rfl sub_nil)))))))))))))) (St.pick X18564 (.keep _ (.none _ (.none _ (.none _ (.skip _ (.skip _ (.skip _ (.keep _ (.keep _ (.keep _ (.none _ (.skip _ (.keep _ (.keep _ (.keep _ (.keep _ (.none _ (.skip _ (.keep _ (.none _ (.none _ (.nil _)))))))))))))))))))))))
    intro j18874 J18875
    refine lcase (i := 73) (show _ = Value.bool s18559 from rfl) (fun k18876 => ?_) (fun k18876 => ?_)
    · refine lpure (v := .int .i64 e8052.2) rfl (p_move rfl) rfl rfl ?_
      refine lpure (v := .bool (decide (e8052.2 = 0))) rfl (p_eq rfl) rfl rfl ?_
      refine lpure (v := .bool (decide (e8052.2 = 0))) rfl (p_pick rfl) rfl rfl ?_
      refine Sim.of_eq (congrArg j18874 (show (s18559 && (decide (e8052.2 = 0))) = (decide (e8052.2 = 0)) from by rw [k18876] <;> rfl)) ?_
      exact ljmpM J18875 (decide (e8052.2 = 0)) () (sub_cons rfl (sub_cons rfl (sub_cons rfl (sub_cons rfl (sub_cons rfl (sub_cons rfl (sub_cons rfl (sub_cons rfl (sub_cons rfl (sub_cons rfl (sub_cons rfl (sub_cons rfl (sub_cons rfl (sub_cons rfl (sub_cons rfl sub_nil))))))))))))))) (St.pick X18560 (.keep _ (.none _ (.none _ (.none _ (.skip _ (.skip _ (.skip _ (.keep _ (.keep _ (.keep _ (.none _ (.skip _ (.keep _ (.keep _ (.keep _ (.keep _ (.none _ (.skip _ (.keep _ (.none _ (.none _ (.nil _)))))))))))))))))))))))
    refine lskip rfl rfl ?_
    refine lskip rfl rfl ?_
    refine lpure (v := .bool false) rfl (p_pick rfl) rfl rfl ?_
    refine Sim.of_eq (congrArg j18874 (show (s18559 && (decide (e8052.2 = 0))) = false from by rw [k18876] <;> rfl)) ?_
    exact ljmpM J18875 false () (sub_cons rfl (sub_cons rfl (sub_cons rfl (sub_cons rfl (sub_cons rfl (sub_cons rfl (sub_cons rfl (sub_cons rfl (sub_cons rfl (sub_cons rfl (sub_cons rfl (sub_cons rfl (sub_cons rfl (sub_cons rfl (sub_cons rfl sub_nil))))))))))))))) (St.pick X18560 (.keep _ (.none _ (.none _ (.none _ (.skip _ (.skip _ (.skip _ (.keep _ (.keep _ (.keep _ (.none _ (.skip _ (.keep _ (.keep _ (.keep _ (.keep _ (.none _ (.skip _ (.keep _ (.none _ (.none _ (.nil _)))))))))))))))))))))))
  intro j18877 J18878
  refine lcase (i := 69) (show _ = Value.bool (decide (e7905.2 = 0)) from rfl) (fun k18879 => ?_) (fun k18879 => ?_)
  · refine lpure (v := .int .i64 e7945.2.2) rfl (p_move rfl) rfl rfl ?_
    refine lpure (v := .bool (decide (e7945.2.2 = 0))) rfl (p_eq rfl) rfl rfl ?_
    refine lpure (v := .bool (decide (e7945.2.2 = 0))) rfl (p_pick rfl) rfl rfl ?_
    refine Sim.of_eq (congrArg j18877 (show ((decide (e7905.2 = 0)) && (decide (e7945.2.2 = 0))) = (decide (e7945.2.2 = 0)) from by rw [k18879] <;> rfl)) ?_
    exact ljmpM J18878 (decide (e7945.2.2 = 0)) () (sub_cons rfl (sub_cons rfl (sub_cons rfl (sub_cons rfl (sub_cons rfl (sub_cons rfl (sub_cons rfl (sub_cons rfl (sub_cons rfl (sub_cons rfl (sub_cons rfl (sub_cons rfl (sub_cons rfl (sub_cons rfl (sub_cons rfl (sub_cons rfl sub_nil)))))))))))))))) (St.pick X18555 (.keep _ (.none _ (.none _ (.none _ (.skip _ (.skip _ (.skip _ (.keep _ (.keep _ (.keep _ (.none _ (.skip _ (.keep _ (.keep _ (.keep _ (.keep _ (.none _ (.skip _ (.keep _ (.none _ (.none _ (.nil _)))))))))))))))))))))))
  refine lskip rfl rfl ?_
  refine lskip rfl rfl ?_
  refine lpure (v := .bool false) rfl (p_pick rfl) rfl rfl ?_
  refine Sim.of_eq (congrArg j18877 (show ((decide (e7905.2 = 0)) && (decide (e7945.2.2 = 0))) = false from by rw [k18879] <;> rfl)) ?_
  exact ljmpM J18878 false () (sub_cons rfl (sub_cons rfl (sub_cons rfl (sub_cons rfl (sub_cons rfl (sub_cons rfl (sub_cons rfl (sub_cons rfl (sub_cons rfl (sub_cons rfl (sub_cons rfl (sub_cons rfl (sub_cons rfl (sub_cons rfl (sub_cons rfl (sub_cons rfl sub_nil)))))))))))))))) (St.pick X18555 (.keep _ (.none _ (.none _ (.none _ (.skip _ (.skip _ (.skip _ (.keep _ (.keep _ (.keep _ (.none _ (.skip _ (.keep _ (.keep _ (.keep _ (.keep _ (.none _ (.skip _ (.keep _ (.none _ (.none _ (.nil _)))))))))))))))))))))))
/-! isochron/isochronref16.pick -/
theorem f35_ok {n : Nat} {φ : Fz} {lo : Nat} {h : Heap} {own : OwnL}  {a18942 : Option Addr} {n18942 c18942 : Nat} (X : St φ lo h (own)) (p18941 : (List Int)) (p18943 : Int) (H18942 : RSl (eInt .u8) φ (.slice a18942 n18942 c18942) p18941) : Sim ((recN Try.prog LL cutF (n + 1)).call 35 #[(.slice a18942 n18942 c18942), (.int .i64 p18943)] h) (m_isochronref16_pick p18941 p18943) (fun (d : Int) p => p = (.int .i64 d, h)) := by
  refine fcut Try.func35 rfl rfl rfl rfl X ?_
  intro h0 X0
  refine dseq (dreg ?_)
  refine lpure (v := .int .i64 0) rfl (p_assign rfl) rfl rfl ?_
  refine lend (nseq (dseq (dseq (dreg ?_))))
  refine lpure (v := .int .i64 p18943) rfl (p_move rfl) rfl rfl ?_
  refine lpure (v := .slice a18942 n18942 c18942) rfl (p_move rfl) rfl rfl ?_
  refine lpure (v := .int .i64 (p18941.length : Int)) rfl (p_len rfl rfl rfl un_22 rfl) (RSl.lenC H18942) rfl ?_
  refine lpure (v := .bool (decide (p18943 < (p18941.length : Int)))) rfl (p_lt rfl) rfl rfl ?_
  refine lend (nseq ?_)
  refine dcond rfl rfl (fun k18944 => ?_) (fun k18944 => ?_)
  · refine dseq (dreg ?_)
    refine lpure (v := .slice a18942 n18942 c18942) rfl (p_move rfl) rfl rfl ?_
    refine lpure (v := .int .i64 p18943) rfl (p_move rfl) rfl rfl ?_
    refine Sim.bindM fun e18945 he18946 => ?_
    obtain ⟨p18947, cs18947, hp18947, hF18947, hR18947⟩ := RSl.ia H18942 he18946 (kd := .i64) (n := 1) rfl
    have hR18947 : _ = [(.int .u8 e18945 : Value)] := hR18947
    subst hR18947
    refine lpure (v := p18947) rfl (p_ia rs_22 rfl) hp18947 rfl ?_
    refine lread (v := .int .u8 e18945) rfl (q_load wd_5 rfl) (FP.ld X0 hF18947) rfl ?_
    refine lpure (v := .int .i64 (w64 e18945)) rfl (p_conv un_5 un_3 rfl) rfl rfl ?_
    refine lpure (v := .int .i64 (w64 e18945)) rfl (p_assign rfl) rfl rfl ?_
    refine lend (nseq (dret (rseq ?_)))
    exact kcut_r (res_1 resT) X0 rfl rfl
  refine dskip (nseq (dseq (dreg ?_)))
  refine lpure (v := .int .i64 0) rfl (p_assign rfl) rfl rfl ?_
  refine lend (nseq (dret ?_))
  exact kcut_r (res_1 resT) X0 rfl rfl
/-! isochron/isochronref16.node -/
theorem f107_ok {n : Nat} {φ : Fz} {lo : Nat} {h : Heap} {own : OwnL}  {a18978 : Option Addr} {n18978 c18978 : Nat} {a18979 : Option Addr} {n18979 c18979 : Nat} (X : St φ lo h (own)) (p18977 : ApiTopo) (p18980 : Int) (H18978 : RSl eBool φ (.slice a18978 n18978 c18978) p18977.Station) (H18979 : RSl eApiLink φ (.slice a18979 n18979 c18979) p18977.Links) : Sim ((recN Try.prog LL cutF (n + 1)).call 107 #[(.agg #[.int .i64 p18977.Nodes, .slice a18978 n18978 c18978, .slice a18979 n18979 c18979]), (.int .i64 p18980)] h) (m_isochronref16_node p18977 p18980) (fun (d : Bool) p => p = (.bool d, h)) := by
  refine fcut Try.func107 rfl rfl rfl rfl X ?_
  intro h0 X0
  refine dseq (dreg ?_)
  refine lbox rfl rfl rfl rfl rfl X0 (fun b18981 h18983 X18984 => ?_)
  refine lpure (v := .bool false) rfl (p_assign rfl) rfl rfl ?_
  refine lend (nseq (dseq (dreg ?_)))
  refine lpure (v := .int .i64 p18980) rfl (p_move rfl) rfl rfl ?_
  refine lpure (v := .bool (decide (0 ≤ p18980))) rfl (p_ge rfl) rfl rfl ?_
  refine lpure (v := .bool (decide (0 ≤ p18980))) rfl (p_move rfl) rfl rfl ?_
  refine lsh (τ := Bool) (σ := Unit) (fun s18986 (_ : Unit) => [(12, .bool s18986)]) (fun s18986 (_ : Unit) hh => St φ h.n hh ([(some b18981, .cells [.int .i64 p18977.Nodes, .slice a18978 n18978 c18978, .slice a18979 n18979 c18979] 29 .exact)])) 5 ?_ ?_
  · rintro s18986 _ t0 h18988 X18987
    refine lpure (v := .bool s18986) rfl (p_assign rfl) rfl rfl ?_
    refine lend (nseq (dret ?_))
    exact kcut_r (res_1 resT) X18987 rfl rfl
  intro j18989 J18990
  refine lcase (i := 7) (show _ = Value.bool (decide (0 ≤ p18980)) from rfl) (fun k18991 => ?_) (fun k18991 => ?_)
  · refine lpure (v := .int .i64 p18980) rfl (p_move rfl) rfl rfl ?_
    refine lpure (v := .pointer (some ⟨b18981, 0, none⟩)) rfl (p_fa fo_29_0 rfl) rfl rfl ?_
    refine lread (v := .int .i64 p18977.Nodes) rfl (q_load wd_3 rfl) (St.ld X18984 (j := 0) rfl rfl) rfl ?_
    refine lpure (v := .bool (decide (p18980 < p18977.Nodes))) rfl (p_lt rfl) rfl rfl ?_
    refine lpure (v := .bool (decide (p18980 < p18977.Nodes))) rfl (p_pick rfl) rfl rfl ?_
    refine Sim.of_eq (congrArg j18989 (show ((decide (0 ≤ p18980)) && (decide (p18980 < p18977.Nodes))) = (decide (p18980 < p18977.Nodes)) from by rw [k18991] <;> rfl)) ?_
    exact ljmpM J18990 (decide (p18980 < p18977.Nodes)) () (sub_cons rfl sub_nil) X18984
  refine lskip rfl rfl ?_
  refine lskip rfl rfl ?_
  refine lskip rfl rfl ?_
  refine lskip rfl rfl ?_
  refine lpure (v := .bool false) rfl (p_pick rfl) rfl rfl ?_
  refine Sim.of_eq (congrArg j18989 (show ((decide (0 ≤ p18980)) && (decide (p18980 < p18977.Nodes))) = false from by rw [k18991] <;> rfl)) ?_
  exact ljmpM J18990 false () (sub_cons rfl sub_nil) X18984
/-! isochron/isochronref16.link -/
theorem f75_ok {n : Nat} {φ : Fz} {lo : Nat} {h : Heap} {own : OwnL}  {a18966 : Option Addr} {n18966 c18966 : Nat} {a18967 : Option Addr} {n18967 c18967 : Nat} (X : St φ lo h (own)) (p18965 : ApiTopo) (p18968 : ApiLink) (H18966 : RSl eBool φ (.slice a18966 n18966 c18966) p18965.Station) (H18967 : RSl eApiLink φ (.slice a18967 n18967 c18967) p18965.Links) : Sim ((recN Try.prog LL cutF (n + 2)).call 75 #[(.agg #[.int .i64 p18965.Nodes, .slice a18966 n18966 c18966, .slice a18967 n18967 c18967]), (.agg #[.int .i64 p18968.A, .int .i64 p18968.B, .int .i64 p18968.Per, .int .i64 p18968.Delay])] h) (m_isochronref16_link p18965 p18968) (fun (d : Bool) p => p = (.bool d, h)) := by
  refine fcut Try.func75 rfl rfl rfl rfl X ?_
  intro h0 X0
  refine dseq (dreg ?_)
  refine lbox rfl rfl rfl rfl rfl X0 (fun b18969 h18971 X18972 => ?_)
  refine lbox rfl rfl rfl rfl rfl X18972 (fun b18973 h18975 X18976 => ?_)
  refine lpure (v := .bool false) rfl (p_assign rfl) rfl rfl ?_
  refine lend (nseq (dseq (dseq (dreg ?_))))
  refine lread (v := .agg #[.int .i64 p18965.Nodes, .slice a18966 n18966 c18966, .slice a18967 n18967 c18967]) rfl (q_load wd_29 rfl) (St.ld X18976 (j := 1) rfl rfl) rfl ?_
  refine lpure (v := .pointer (some ⟨b18973, 0, none⟩)) rfl (p_fa fo_75_0 rfl) rfl rfl ?_
  refine lread (v := .int .i64 p18968.A) rfl (q_load wd_3 rfl) (St.ld X18976 (j := 0) rfl rfl) rfl ?_
  refine lcall rfl rfl ca_107 rfl rfl (f107_ok X18976 p18965 (p18968.A) H18966 H18967) rfl (fun e18992 v18993 h18994 hq18995 => ?_)
  cases hq18995
  refine lpure (v := .bool (!e18992)) rfl (p_not rfl) rfl rfl ?_
  refine lpure (v := .bool (!e18992)) rfl (p_move rfl) rfl rfl ?_
  refine ljoinM (τ := Bool) (σ := Unit) (fun s19002 (_ : Unit) => [(2, .pointer (some ⟨b18969, 0, none⟩)), (3, .pointer (some ⟨b18973, 0, none⟩)), (16, .bool s19002)]) (fun s19002 (_ : Unit) hh => St φ h.n hh ([(some b18973, .cells [.int .i64 p18968.A, .int .i64 p18968.B, .int .i64 p18968.Per, .int .i64 p18968.Delay] 75 .exact), (some b18969, .cells [.int .i64 p18965.Nodes, .slice a18966 n18966 c18966, .slice a18967 n18967 c18967] 29 .exact)])) 6 ?_ ?_
  · rintro s19002 _ t0 h19004 X19003
    refine lpure (v := .bool s19002) rfl (p_move rfl) rfl rfl ?_
    refine lsh (τ := Bool) (σ := Unit) (fun s19006 (_ : Unit) => [(2, .pointer (some ⟨b18969, 0, none⟩)), (3, .pointer (some ⟨b18973, 0, none⟩)), (23, .bool s19006)]) (fun s19006 (_ : Unit) hh => St φ h.n hh ([(some b18973, .cells [.int .i64 p18968.A, .int .i64 p18968.B, .int .i64 p18968.Per, .int .i64 p18968.Delay] 75 .exact), (some b18969, .cells [.int .i64 p18965.Nodes, .slice a18966 n18966 c18966, .slice a18967 n18967 c18967] 29 .exact)])) 6 ?_ ?_
    · rintro s19006 _ t0 h19008 X19007
      refine lpure (v := .bool s19006) rfl (p_move rfl) rfl rfl ?_
      refine ljoinM (τ := Bool) (σ := Unit) (fun s19018 (_ : Unit) => [(3, .pointer (some ⟨b18973, 0, none⟩)), (39, .bool s19018)]) (fun s19018 (_ : Unit) hh => St φ h.n hh ([(some b18973, .cells [.int .i64 p18968.A, .int .i64 p18968.B, .int .i64 p18968.Per, .int .i64 p18968.Delay] 75 .exact), (some b18969, .cells [.int .i64 p18965.Nodes, .slice a18966 n18966 c18966, .slice a18967 n18967 c18967] 29 .exact)])) 15 ?_ ?_
      · rintro s19018 _ t0 h19020 X19019
        refine lend (nseq ?_)
        refine dcond rfl rfl (fun k19021 => ?_) (fun k19021 => ?_)
        · refine dseq (dreg ?_)
          refine lpure (v := .bool false) rfl (p_assign rfl) rfl rfl ?_
          refine lend (nseq (dret (rseq ?_)))
          exact kcut_r (res_1 resT) X19019 rfl rfl
        refine dskip (nseq (dseq (dreg ?_)))
        refine lpure (v := .pointer (some ⟨b18973, 2, none⟩)) rfl (p_fa fo_75_2 rfl) rfl rfl ?_
        refine lread (v := .int .i64 p18968.Per) rfl (q_load wd_3 rfl) (St.ld X19019 (j := 0) rfl rfl) rfl ?_
        refine lpure (v := .bool (decide (1 ≤ p18968.Per))) rfl (p_ge rfl) rfl rfl ?_
        refine lpure (v := .bool (decide (1 ≤ p18968.Per))) rfl (p_move rfl) rfl rfl ?_
        refine lsh (τ := Bool) (σ := Unit) (fun s19023 (_ : Unit) => [(3, .pointer (some ⟨b18973, 0, none⟩)), (47, .bool s19023)]) (fun s19023 (_ : Unit) hh => St φ h.n hh ([(some b18973, .cells [.int .i64 p18968.A, .int .i64 p18968.B, .int .i64 p18968.Per, .int .i64 p18968.Delay] 75 .exact), (some b18969, .cells [.int .i64 p18965.Nodes, .slice a18966 n18966 c18966, .slice a18967 n18967 c18967] 29 .exact)])) 4 ?_ ?_
        · rintro s19023 _ t0 h19025 X19024
          refine lpure (v := .bool s19023) rfl (p_move rfl) rfl rfl ?_
          refine lsh (τ := Bool) (σ := Unit) (fun s19027 (_ : Unit) => [(3, .pointer (some ⟨b18973, 0, none⟩)), (52, .bool s19027)]) (fun s19027 (_ : Unit) hh => St φ h.n hh ([(some b18973, .cells [.int .i64 p18968.A, .int .i64 p18968.B, .int .i64 p18968.Per, .int .i64 p18968.Delay] 75 .exact), (some b18969, .cells [.int .i64 p18965.Nodes, .slice a18966 n18966 c18966, .slice a18967 n18967 c18967] 29 .exact)])) 4 ?_ ?_
          · rintro s19027 _ t0 h19029 X19028
            refine lpure (v := .bool s19027) rfl (p_move rfl) rfl rfl ?_
            refine lsh (τ := Bool) (σ := Unit) (fun s19031 (_ : Unit) => [(57, .bool s19031)]) (fun s19031 (_ : Unit) hh => St φ h.n hh ([(some b18973, .cells [.int .i64 p18968.A, .int .i64 p18968.B, .int .i64 p18968.Per, .int .i64 p18968.Delay] 75 .exact), (some b18969, .cells [.int .i64 p18965.Nodes, .slice a18966 n18966 c18966, .slice a18967 n18967 c18967] 29 .exact)])) 4 ?_ ?_
            · rintro s19031 _ t0 h19033 X19032
              refine lpure (v := .bool s19031) rfl (p_assign rfl) rfl rfl ?_
              refine lend (nseq (dret ?_))
              exact kcut_r (res_1 resT) X19032 rfl rfl
            intro j19034 J19035
            refine lcase (i := 53) (show _ = Value.bool s19027 from rfl) (fun k19036 => ?_) (fun k19036 => ?_)
            · refine lpure (v := .pointer (some ⟨b18973, 3, none⟩)) rfl (p_fa fo_75_3 rfl) rfl rfl ?_
              refine lread (v := .int .i64 p18968.Delay) rfl (q_load wd_3 rfl) (St.ld X19028 (j := 0) rfl rfl) rfl ?_
              refine lpure (v := .bool (decide (p18968.Delay ≤ 10000))) rfl (p_le rfl) rfl rfl ?_
              refine lpure (v := .bool (decide (p18968.Delay ≤ 10000))) rfl (p_pick rfl) rfl rfl ?_
              refine Sim.of_eq (congrArg j19034 (show (s19027 && (decide (p18968.Delay ≤ 10000))) = (decide (p18968.Delay ≤ 10000)) from by rw [k19036] <;> rfl)) ?_
              exact ljmpM J19035 (decide (p18968.Delay ≤ 10000)) () (sub_cons rfl sub_nil) X19028
            refine lskip rfl rfl ?_
            refine lskip rfl rfl ?_
            refine lskip rfl rfl ?_
            refine lpure (v := .bool false) rfl (p_pick rfl) rfl rfl ?_
            refine Sim.of_eq (congrArg j19034 (show (s19027 && (decide (p18968.Delay ≤ 10000))) = false from by rw [k19036] <;> rfl)) ?_
            exact ljmpM J19035 false () (sub_cons rfl sub_nil) X19028
          intro j19037 J19038
          refine lcase (i := 48) (show _ = Value.bool s19023 from rfl) (fun k19039 => ?_) (fun k19039 => ?_)
          · refine lpure (v := .pointer (some ⟨b18973, 3, none⟩)) rfl (p_fa fo_75_3 rfl) rfl rfl ?_
            refine lread (v := .int .i64 p18968.Delay) rfl (q_load wd_3 rfl) (St.ld X19024 (j := 0) rfl rfl) rfl ?_
            refine lpure (v := .bool (decide (0 ≤ p18968.Delay))) rfl (p_ge rfl) rfl rfl ?_
            refine lpure (v := .bool (decide (0 ≤ p18968.Delay))) rfl (p_pick rfl) rfl rfl ?_
            refine Sim.of_eq (congrArg j19037 (show (s19023 && (decide (0 ≤ p18968.Delay))) = (decide (0 ≤ p18968.Delay)) from by rw [k19039] <;> rfl)) ?_
            exact ljmpM J19038 (decide (0 ≤ p18968.Delay)) () (sub_cons rfl (sub_cons rfl sub_nil)) X19024
          refine lskip rfl rfl ?_
          refine lskip rfl rfl ?_
          refine lskip rfl rfl ?_
          refine lpure (v := .bool false) rfl (p_pick rfl) rfl rfl ?_
          refine Sim.of_eq (congrArg j19037 (show (s19023 && (decide (0 ≤ p18968.Delay))) = false from by rw [k19039] <;> rfl)) ?_
          exact ljmpM J19038 false () (sub_cons rfl (sub_cons rfl sub_nil)) X19024
        intro j19040 J19041
        refine lcase (i := 43) (show _ = Value.bool (decide (1 ≤ p18968.Per)) from rfl) (fun k19042 => ?_) (fun k19042 => ?_)
        · refine lpure (v := .pointer (some ⟨b18973, 2, none⟩)) rfl (p_fa fo_75_2 rfl) rfl rfl ?_
          refine lread (v := .int .i64 p18968.Per) rfl (q_load wd_3 rfl) (St.ld X19019 (j := 0) rfl rfl) rfl ?_
          refine lpure (v := .bool (decide (p18968.Per ≤ 1000))) rfl (p_le rfl) rfl rfl ?_
          refine lpure (v := .bool (decide (p18968.Per ≤ 1000))) rfl (p_pick rfl) rfl rfl ?_
          refine Sim.of_eq (congrArg j19040 (show ((decide (1 ≤ p18968.Per)) && (decide (p18968.Per ≤ 1000))) = (decide (p18968.Per ≤ 1000)) from by rw [k19042] <;> rfl)) ?_
          exact ljmpM J19041 (decide (p18968.Per ≤ 1000)) () (sub_cons rfl (sub_cons rfl sub_nil)) X19019
        refine lskip rfl rfl ?_
        refine lskip rfl rfl ?_
        refine lskip rfl rfl ?_
        refine lpure (v := .bool false) rfl (p_pick rfl) rfl rfl ?_
        refine Sim.of_eq (congrArg j19040 (show ((decide (1 ≤ p18968.Per)) && (decide (p18968.Per ≤ 1000))) = false from by rw [k19042] <;> rfl)) ?_
        exact ljmpM J19041 false () (sub_cons rfl (sub_cons rfl sub_nil)) X19019
      intro j19043 J19044
      refine lif (i := 24) (show _ = Value.bool s19006 from rfl) (fun k19045 => ?_) (fun k19045 => ?_)
      · refine lskip rfl rfl ?_
        refine lskip rfl rfl ?_
        refine lskip rfl rfl ?_
        refine lskip rfl rfl ?_
        refine lskip rfl rfl ?_
        refine lskip rfl rfl ?_
        refine lskip rfl rfl ?_
        refine lskip rfl rfl ?_
        refine lskip rfl rfl ?_
        refine lskip rfl rfl ?_
        refine lskip rfl rfl ?_
        refine lskip rfl rfl ?_
        refine lskip rfl rfl ?_
        refine lskip rfl rfl ?_
        refine lpure (v := .bool true) rfl (p_pick rfl) rfl rfl ?_
        exact ljmpM J19044 true () (sub_cons rfl (sub_cons rfl sub_nil)) X19007
      refine lpure (v := .pointer (some ⟨b18969, 1, none⟩)) rfl (p_fa fo_29_1 rfl) rfl rfl ?_
      refine lread (v := .slice a18966 n18966 c18966) rfl (q_load wd_26 rfl) (St.ld X19007 (j := 1) rfl rfl) rfl ?_
      refine lpure (v := .pointer (some ⟨b18973, 0, none⟩)) rfl (p_fa fo_75_0 rfl) rfl rfl ?_
      refine lread (v := .int .i64 p18968.A) rfl (q_load wd_3 rfl) (St.ld X19007 (j := 0) rfl rfl) rfl ?_
      refine Sim.bindM fun e19046 he19047 => ?_
      obtain ⟨p19048, cs19048, hp19048, hF19048, hR19048⟩ := RSl.ia H18966 he19047 (kd := .i64) (n := 1) rfl
      have hR19048 : _ = [(.bool e19046 : Value)] := hR19048
      subst hR19048
      refine lpure (v := p19048) rfl (p_ia rs_26 rfl) hp19048 rfl ?_
      refine lread (v := .bool e19046) rfl (q_load wd_4 rfl) (FP.ld X19007 hF19048) rfl ?_
      refine lpure (v := .bool e19046) rfl (p_move rfl) rfl rfl ?_
      refine lif (i := 31) (show _ = Value.bool e19046 from rfl) (fun k19049 => ?_) (fun k19049 => ?_)
      · refine lpure (v := .pointer (some ⟨b18969, 1, none⟩)) rfl (p_fa fo_29_1 rfl) rfl rfl ?_
        refine lread (v := .slice a18966 n18966 c18966) rfl (q_load wd_26 rfl) (St.ld X19007 (j := 1) rfl rfl) rfl ?_
        refine lpure (v := .pointer (some ⟨b18973, 1, none⟩)) rfl (p_fa fo_75_1 rfl) rfl rfl ?_
        refine lread (v := .int .i64 p18968.B) rfl (q_load wd_3 rfl) (St.ld X19007 (j := 0) rfl rfl) rfl ?_
        refine Sim.bindM fun e19050 he19051 => ?_
        obtain ⟨p19052, cs19052, hp19052, hF19052, hR19052⟩ := RSl.ia H18966 he19051 (kd := .i64) (n := 1) rfl
        have hR19052 : _ = [(.bool e19050 : Value)] := hR19052
        subst hR19052
        refine lpure (v := p19052) rfl (p_ia rs_26 rfl) hp19052 rfl ?_
        refine lread (v := .bool e19050) rfl (q_load wd_4 rfl) (FP.ld X19007 hF19052) rfl ?_
        refine lpure (v := .bool e19050) rfl (p_pick rfl) rfl rfl ?_
        refine lpure (v := .bool e19050) rfl (p_pick rfl) rfl rfl ?_
        exact ljmpM J19044 e19050 () (sub_cons rfl (sub_cons rfl sub_nil)) X19007
      refine lskip rfl rfl ?_
      refine lskip rfl rfl ?_
      refine lskip rfl rfl ?_
      refine lskip rfl rfl ?_
      refine lskip rfl rfl ?_
      refine lskip rfl rfl ?_
      refine lpure (v := .bool false) rfl (p_pick rfl) rfl rfl ?_
      refine lpure (v := .bool false) rfl (p_pick rfl) rfl rfl ?_
      exact ljmpM J19044 false () (sub_cons rfl (sub_cons rfl sub_nil)) X19007
    intro j19053 J19054
    refine lcase (i := 17) (show _ = Value.bool s19002 from rfl) (fun k19055 => ?_) (fun k19055 => ?_)
    · refine lskip rfl rfl ?_
      refine lskip rfl rfl ?_
      refine lskip rfl rfl ?_
      refine lskip rfl rfl ?_
      refine lskip rfl rfl ?_
      refine lpure (v := .bool true) rfl (p_pick rfl) rfl rfl ?_
      refine Sim.of_eq (congrArg j19053 (show (s19002 || (decide (p18968.A = p18968.B))) = true from by rw [k19055] <;> rfl)) ?_
      exact ljmpM J19054 true () (sub_cons rfl (sub_cons rfl (sub_cons rfl sub_nil))) X19003
    refine lpure (v := .pointer (some ⟨b18973, 0, none⟩)) rfl (p_fa fo_75_0 rfl) rfl rfl ?_
    refine lread (v := .int .i64 p18968.A) rfl (q_load wd_3 rfl) (St.ld X19003 (j := 0) rfl rfl) rfl ?_
    refine lpure (v := .pointer (some ⟨b18973, 1, none⟩)) rfl (p_fa fo_75_1 rfl) rfl rfl ?_
    refine lread (v := .int .i64 p18968.B) rfl (q_load wd_3 rfl) (St.ld X19003 (j := 0) rfl rfl) rfl ?_
    refine lpure (v := .bool (decide (p18968.A = p18968.B))) rfl (p_eq rfl) rfl rfl ?_
    refine lpure (v := .bool (decide (p18968.A = p18968.B))) rfl (p_pick rfl) rfl rfl ?_
    refine Sim.of_eq (congrArg j19053 (show (s19002 || (decide (p18968.A = p18968.B))) = (decide (p18968.A = p18968.B)) from by rw [k19055] <;> rfl)) ?_
    exact ljmpM J19054 (decide (p18968.A = p18968.B)) () (sub_cons rfl (sub_cons rfl (sub_cons rfl sub_nil))) X19003
  intro j19056 J19057
  refine lif (i := 10) (show _ = Value.bool (!e18992) from rfl) (fun k19058 => ?_) (fun k19058 => ?_)
  · refine lskip rfl rfl ?_
    refine lskip rfl rfl ?_
    refine lskip rfl rfl ?_
    refine lskip rfl rfl ?_
    refine lskip rfl rfl ?_
    refine lpure (v := .bool true) rfl (p_pick rfl) rfl rfl ?_
    exact ljmpM J19057 true () (sub_cons rfl (sub_cons rfl (sub_cons rfl sub_nil))) X18976
  refine lread (v := .agg #[.int .i64 p18965.Nodes, .slice a18966 n18966 c18966, .slice a18967 n18967 c18967]) rfl (q_load wd_29 rfl) (St.ld X18976 (j := 1) rfl rfl) rfl ?_
  refine lpure (v := .pointer (some ⟨b18973, 1, none⟩)) rfl (p_fa fo_75_1 rfl) rfl rfl ?_
  refine lread (v := .int .i64 p18968.B) rfl (q_load wd_3 rfl) (St.ld X18976 (j := 0) rfl rfl) rfl ?_
  refine lcall rfl rfl ca_107 rfl rfl (f107_ok X18976 p18965 (p18968.B) H18966 H18967) rfl (fun e19059 v19060 h19061 hq19062 => ?_)
  cases hq19062
  refine lpure (v := .bool (!e19059)) rfl (p_not rfl) rfl rfl ?_
  refine lpure (v := .bool (!e19059)) rfl (p_pick rfl) rfl rfl ?_
  exact ljmpM J19057 (!e19059) () (sub_cons rfl (sub_cons rfl (sub_cons rfl sub_nil))) X18976
/-! isochron/isochronref16.Joins -/
theorem f76_ok {n : Nat} {φ : Fz} {lo : Nat} {h : Heap} {own : OwnL}  (X : St φ lo h (own)) (p19080 : ApiLink) (p19081 : Int) (p19082 : Int) : Sim ((recN Try.prog LL cutF (n + 1)).call 76 #[(.agg #[.int .i64 p19080.A, .int .i64 p19080.B, .int .i64 p19080.Per, .int .i64 p19080.Delay]), (.int .i64 p19081), (.int .i64 p19082)] h) (m_isochronref16_Joins p19080 p19081 p19082) (fun (d : Bool) p => p = (.bool d, h)) := by
  refine fcut Try.func76 rfl rfl rfl rfl X ?_
  intro h0 X0
  refine dseq (dreg ?_)
  refine lbox rfl rfl rfl rfl rfl X0 (fun b19083 h19085 X19086 => ?_)
  refine lpure (v := .bool false) rfl (p_assign rfl) rfl rfl ?_
  refine lend (nseq (dseq (dreg ?_)))
  refine lpure (v := .pointer (some ⟨b19083, 0, none⟩)) rfl (p_fa fo_75_0 rfl) rfl rfl ?_
  refine lread (v := .int .i64 p19080.A) rfl (q_load wd_3 rfl) (St.ld X19086 (j := 0) rfl rfl) rfl ?_
  refine lpure (v := .int .i64 p19081) rfl (p_move rfl) rfl rfl ?_
  refine lpure (v := .bool (decide (p19080.A = p19081))) rfl (p_eq rfl) rfl rfl ?_
  refine lpure (v := .bool (decide (p19080.A = p19081))) rfl (p_move rfl) rfl rfl ?_
  refine lsh (τ := Bool) (σ := Unit) (fun s19088 (_ : Unit) => [(1, .int .i64 p19081), (2, .int .i64 p19082), (3, .pointer (some ⟨b19083, 0, none⟩)), (16, .bool s19088)]) (fun s19088 (_ : Unit) hh => St φ h.n hh ([(some b19083, .cells [.int .i64 p19080.A, .int .i64 p19080.B, .int .i64 p19080.Per, .int .i64 p19080.Delay] 75 .exact)])) 5 ?_ ?_
  · rintro s19088 _ t0 h19090 X19089
    refine lpure (v := .bool s19088) rfl (p_move rfl) rfl rfl ?_
    refine lsh (τ := Bool) (σ := Unit) (fun s19092 (_ : Unit) => [(28, .bool s19092)]) (fun s19092 (_ : Unit) hh => St φ h.n hh ([(some b19083, .cells [.int .i64 p19080.A, .int .i64 p19080.B, .int .i64 p19080.Per, .int .i64 p19080.Delay] 75 .exact)])) 11 ?_ ?_
    · rintro s19092 _ t0 h19094 X19093
      refine lpure (v := .bool s19092) rfl (p_assign rfl) rfl rfl ?_
      refine lend (nseq (dret ?_))
      exact kcut_r (res_1 resT) X19093 rfl rfl
    intro j19095 J19096
    refine lcase (i := 17) (show _ = Value.bool s19088 from rfl) (fun k19097 => ?_) (fun k19097 => ?_)
    · refine lskip rfl rfl ?_
      refine lskip rfl rfl ?_
      refine lskip rfl rfl ?_
      refine lskip rfl rfl ?_
      refine lskip rfl rfl ?_
      refine lskip rfl rfl ?_
      refine lskip rfl rfl ?_
      refine lskip rfl rfl ?_
      refine lskip rfl rfl ?_
      refine lskip rfl rfl ?_
      refine lpure (v := .bool true) rfl (p_pick rfl) rfl rfl ?_
      refine Sim.of_eq (congrArg j19095 (show (s19088 || ((decide (p19080.A = p19082)) && (decide (p19080.B = p19081)))) = true from by rw [k19097] <;> rfl)) ?_
      exact ljmpM J19096 true () (sub_cons rfl sub_nil) X19089
    refine lpure (v := .pointer (some ⟨b19083, 0, none⟩)) rfl (p_fa fo_75_0 rfl) rfl rfl ?_
    refine lread (v := .int .i64 p19080.A) rfl (q_load wd_3 rfl) (St.ld X19089 (j := 0) rfl rfl) rfl ?_
    refine lpure (v := .int .i64 p19082) rfl (p_move rfl) rfl rfl ?_
    refine lpure (v := .bool (decide (p19080.A = p19082))) rfl (p_eq rfl) rfl rfl ?_
    refine lpure (v := .bool (decide (p19080.A = p19082))) rfl (p_move rfl) rfl rfl ?_
    refine lcase (i := 22) (show _ = Value.bool (decide (p19080.A = p19082)) from rfl) (fun k19098 => ?_) (fun k19098 => ?_)
    · refine lpure (v := .pointer (some ⟨b19083, 1, none⟩)) rfl (p_fa fo_75_1 rfl) rfl rfl ?_
      refine lread (v := .int .i64 p19080.B) rfl (q_load wd_3 rfl) (St.ld X19089 (j := 0) rfl rfl) rfl ?_
      refine lpure (v := .int .i64 p19081) rfl (p_move rfl) rfl rfl ?_
      refine lpure (v := .bool (decide (p19080.B = p19081))) rfl (p_eq rfl) rfl rfl ?_
      refine lpure (v := .bool (decide (p19080.B = p19081))) rfl (p_pick rfl) rfl rfl ?_
      refine lpure (v := .bool (decide (p19080.B = p19081))) rfl (p_pick rfl) rfl rfl ?_
      refine Sim.of_eq (congrArg j19095 (show (s19088 || ((decide (p19080.A = p19082)) && (decide (p19080.B = p19081)))) = (decide (p19080.B = p19081)) from by rw [k19097, k19098] <;> rfl)) ?_
      exact ljmpM J19096 (decide (p19080.B = p19081)) () (sub_cons rfl sub_nil) X19089
    refine lskip rfl rfl ?_
    refine lskip rfl rfl ?_
    refine lskip rfl rfl ?_
    refine lskip rfl rfl ?_
    refine lpure (v := .bool false) rfl (p_pick rfl) rfl rfl ?_
    refine lpure (v := .bool false) rfl (p_pick rfl) rfl rfl ?_
    refine Sim.of_eq (congrArg j19095 (show (s19088 || ((decide (p19080.A = p19082)) && (decide (p19080.B = p19081)))) = false from by rw [k19097, k19098] <;> rfl)) ?_
    exact ljmpM J19096 false () (sub_cons rfl sub_nil) X19089
  intro j19099 J19100
  refine lcase (i := 11) (show _ = Value.bool (decide (p19080.A = p19081)) from rfl) (fun k19101 => ?_) (fun k19101 => ?_)
  · refine lpure (v := .pointer (some ⟨b19083, 1, none⟩)) rfl (p_fa fo_75_1 rfl) rfl rfl ?_
    refine lread (v := .int .i64 p19080.B) rfl (q_load wd_3 rfl) (St.ld X19086 (j := 0) rfl rfl) rfl ?_
    refine lpure (v := .int .i64 p19082) rfl (p_move rfl) rfl rfl ?_
    refine lpure (v := .bool (decide (p19080.B = p19082))) rfl (p_eq rfl) rfl rfl ?_
    refine lpure (v := .bool (decide (p19080.B = p19082))) rfl (p_pick rfl) rfl rfl ?_
    refine Sim.of_eq (congrArg j19099 (show ((decide (p19080.A = p19081)) && (decide (p19080.B = p19082))) = (decide (p19080.B = p19082)) from by rw [k19101] <;> rfl)) ?_
    exact ljmpM J19100 (decide (p19080.B = p19082)) () (sub_cons rfl (sub_cons rfl (sub_cons rfl (sub_cons rfl sub_nil)))) X19086
  refine lskip rfl rfl ?_
  refine lskip rfl rfl ?_
  refine lskip rfl rfl ?_
  refine lskip rfl rfl ?_
  refine lpure (v := .bool false) rfl (p_pick rfl) rfl rfl ?_
  refine Sim.of_eq (congrArg j19099 (show ((decide (p19080.A = p19081)) && (decide (p19080.B = p19082))) = false from by rw [k19101] <;> rfl)) ?_
  exact ljmpM J19100 false () (sub_cons rfl (sub_cons rfl (sub_cons rfl (sub_cons rfl sub_nil)))) X19086
/-! (isochron/isochronref16.Draft).with -/
theorem f34_ok {n : Nat} {φ : Fz} {lo : Nat} {h : Heap} {own : OwnL}  {a19268 : Option Addr} {n19268 c19268 : Nat} {a19269 : Option Addr} {n19269 c19269 : Nat} {a19270 : Option Addr} {n19270 c19270 : Nat} {a19271 : Option Addr} {n19271 c19271 : Nat} {a19273 : Option Addr} {n19273 c19273 : Nat} {a19274 : Option Addr} {n19274 c19274 : Nat} {ob19276 : Option Nat} {blk19277 : Blk} (X : St φ lo h ((ob19276, blk19277) :: own)) (p19267 : Isochronref16Draft) (p19272 : ApiTopo) (p19279 : Int) (p19280 : Int) (H19268 : RSl (eInt .u8) φ (.slice a19268 n19268 c19268) p19267.Chords) (H19269 : RSl (eInt .u8) φ (.slice a19269 n19269 c19269) p19267.Homes) (H19270 : RSl (eInt .u8) φ (.slice a19270 n19270 c19270) p19267.Pers) (H19271 : RSl (eInt .u8) φ (.slice a19271 n19271 c19271) p19267.Delays) (H19273 : RSl eBool φ (.slice a19273 n19273 c19273) p19272.Station) (O19278 : OSl eApiLink φ 75 ob19276 blk19277 (.slice a19274 n19274 c19274) p19272.Links) : Sim ((recN Try.prog LL cutF (n + 3)).call 34 #[(.agg #[.int .u8 p19267.Bridges, .int .u8 p19267.Stations, .slice a19268 n19268 c19268, .slice a19269 n19269 c19269, .slice a19270 n19270 c19270, .slice a19271 n19271 c19271]), (.agg #[.int .i64 p19272.Nodes, .slice a19273 n19273 c19273, .slice a19274 n19274 c19274]), (.int .i64 p19279), (.int .i64 p19280)] h) (m_isochronref16_Draft_with p19267 p19272 p19279 p19280) (fun (d : ApiTopo) p => ∃ φ2 : Fz, ∃ a19423 : Option Addr, ∃ n19423 : Nat, ∃ c19423 : Nat, ∃ a19424 : Option Addr, ∃ n19424 : Nat, ∃ c19424 : Nat, ∃ ob19424 : Option Nat, ∃ blk19424 : Blk, Fz.le φ φ2 ∧ St φ2 lo p.2 ((ob19424, blk19424) :: own) ∧ p.1 = .agg #[.int .i64 d.Nodes, .slice a19423 n19423 c19423, .slice a19424 n19424 c19424] ∧ RSl eBool φ2 (.slice a19423 n19423 c19423) d.Station ∧ OSl eApiLink φ2 75 ob19424 blk19424 (.slice a19424 n19424 c19424) d.Links) := by
  refine fopen Try.func34 rfl rfl rfl rfl ?_
  refine dseq (dreg ?_)
  refine lbox rfl rfl rfl rfl rfl X (fun b19281 h19283 X19284 => ?_)
  refine lbox rfl rfl rfl rfl rfl X19284 (fun b19285 h19287 X19288 => ?_)
  refine lalloc rfl tz_29 rfl rfl rfl X19288 (fun b19289 h19291 X19292 => ?_)
  refine lend (nseq (dseq (dreg ?_)))
  refine lpure (v := .pointer (some ⟨b19285, 2, none⟩)) rfl (p_fa fo_29_2 rfl) rfl rfl ?_
  refine lread (v := .slice a19274 n19274 c19274) rfl (q_load wd_27 rfl) (St.ld X19292 (j := 1) rfl rfl) rfl ?_
  refine lpure (v := .int .i64 (p19272.Links.length : Int)) rfl (p_len rfl rfl rfl un_27 rfl) (OSl.len O19278) rfl ?_
  refine lpure (v := .int .i64 (p19272.Links.length : Int)) rfl (p_assign rfl) rfl rfl ?_
  refine lend (nseq (dseq ?_))
  refine dgo_start (n := 16) rfl (by kernel_rfl) ?_
  refine gpure (v := .int .i64 p19279) rfl (p_move rfl) (lo_t rfl rfl) rfl rfl ?_
  refine gpure (v := .int .i64 p19280) rfl (p_move rfl) (lo_t rfl rfl) rfl rfl ?_
  refine gpure (v := .pointer (some ⟨b19281, 4, none⟩)) rfl (p_fa fo_24_4 rfl) (lo_t (lo_own X19292 (j := 2) (o := 0) (s := none) (f := 0) rfl) rfl) rfl rfl ?_
  refine gload (v := .slice a19270 n19270 c19270) rfl (q_load wd_22 rfl) (St.ld X19292 (j := 2) rfl rfl) rfl ?_
  refine gpure (v := .int .i64 (p19272.Links.length : Int)) rfl (p_move rfl) (lo_t rfl rfl) rfl rfl ?_
  refine gwait rfl (still_call rfl rfl ca_35 rfl) rfl ?_
  refine dgo_skip ?_
  refine dgo_skip ?_
  refine gpure (v := .pointer (some ⟨b19281, 5, none⟩)) rfl (p_fa fo_24_5 rfl) (lo_t (lo_own X19292 (j := 2) (o := 0) (s := none) (f := 0) rfl) rfl) rfl rfl ?_
  refine gload (v := .slice a19271 n19271 c19271) rfl (q_load wd_22 rfl) (St.ld X19292 (j := 2) rfl rfl) rfl ?_
  refine gpure (v := .int .i64 (p19272.Links.length : Int)) rfl (p_move rfl) (lo_t rfl rfl) rfl rfl ?_
  refine dgo_skip ?_
  refine dgo_skip ?_
  refine dgo_skip ?_
  refine galloc rfl tz_75 rfl rfl rfl X19292 (fun b19293 h19295 X19296 => ?_)
  refine dgo_skip ?_
  refine gcall (m := 15) [true, false] (rk_cons (q_load wd_22 rfl) (St.ld X19296 (j := 3) rfl rfl) (same_self 20 rfl) (rk_cons (q_load wd_22 rfl) (St.ld X19296 (j := 3) rfl rfl) (same_self 20 rfl) rk_nil)) rfl rfl rfl rfl rfl ca_35 rfl rfl (f35_ok X19296 (p19267.Pers) ((p19272.Links.length : Int)) H19270) rfl (fun e19297 v19298 h19299 hq19300 => ?_)
  cases hq19300
  refine dgo_skip ?_
  refine dgo_skip ?_
  refine dgo_skip ?_
  refine dgo_skip ?_
  refine dgo_skip ?_
  refine dgo_skip ?_
  refine gpure (v := .int .i64 (Int.tmod e19297 20)) rfl (p_rem rfl) (lo_t rfl (lo_c rfl)) rfl rfl ?_
  refine gpure (v := .int .i64 (w64 (1 + (Int.tmod e19297 20)))) rfl (p_add rfl) (lo_c (lo_t rfl rfl)) rfl rfl ?_
  refine dgo_skip ?_
  refine dgo_skip ?_
  refine dgo_skip ?_
  refine gwait rfl (still_call rfl rfl ca_35 rfl) rfl ?_
  refine dgo_skip ?_
  refine dgo_skip ?_
  refine dgo_skip ?_
  refine dgo_skip ?_
  refine gcall (m := 14) [false] (rk_cons (q_load wd_22 rfl) (St.ld X19296 (j := 3) rfl rfl) (same_self 20 rfl) rk_nil) rfl rfl rfl rfl rfl ca_35 rfl rfl (f35_ok X19296 (p19267.Delays) ((p19272.Links.length : Int)) H19271) rfl (fun e19301 v19302 h19303 hq19304 => ?_)
  cases hq19304
  refine dgo_skip ?_
  refine dgo_skip ?_
  refine dgo_skip ?_
  refine dgo_skip ?_
  refine dgo_skip ?_
  refine dgo_skip ?_
  refine dgo_skip ?_
  refine dgo_skip ?_
  refine dgo_skip ?_
  refine dgo_skip ?_
  refine dgo_skip ?_
  refine dgo_skip ?_
  refine gpure (v := .int .i64 (Int.tmod e19301 50)) rfl (p_rem rfl) (lo_t rfl (lo_c rfl)) rfl rfl ?_
  refine gpure (v := .agg #[.int .i64 p19279, .int .i64 p19280, .int .i64 (w64 (1 + (Int.tmod e19297 20))), .int .i64 (Int.tmod e19301 50)]) rfl (p_build rfl) (lo_t rfl (lo_t rfl (lo_t rfl (lo_t rfl rfl)))) (build_st' tz_75 pl_75 rfl) rfl ?_
  refine dgo_skip ?_
  refine gwait rfl (still_store rfl rfl rfl) rfl ?_
  obtain ⟨h19305, hst19307, X19306⟩ := St.st X19296 (j := 0) (o := 0) (n := 4) (x := .agg #[.int .i64 p19279, .int .i64 p19280, .int .i64 (w64 (1 + (Int.tmod e19297 20))), .int .i64 (Int.tmod e19301 50)]) rfl rfl rfl rfl rfl rfl
  refine gact0 (m := 13) [] rk_nil rfl rfl rfl rfl (h_store ts_75 rfl) hst19307 ?_
  refine dgo_skip ?_
  refine dgo_skip ?_
  refine dgo_skip ?_
  refine dgo_skip ?_
  refine dgo_skip ?_
  refine dgo_skip ?_
  refine dgo_skip ?_
  refine dgo_skip ?_
  refine dgo_skip ?_
  refine dgo_skip ?_
  refine dgo_skip ?_
  refine dgo_skip ?_
  refine dgo_skip ?_
  refine dgo_skip ?_
  refine dgo_skip ?_
  refine dgo_skip ?_
  refine gend rk_nil ?_
  refine nseq (dseq (dseq (dreg ?_)))
  refine lpure (v := .int .i64 (p19272.Links.length : Int)) rfl (p_move rfl) rfl rfl ?_
  refine lpure (v := .bool (decide ((p19272.Links.length : Int) = 24))) rfl (p_eq rfl) rfl rfl ?_
  refine lpure (v := .bool (decide ((p19272.Links.length : Int) = 24))) rfl (p_move rfl) rfl rfl ?_
  refine ljoinM (τ := Bool) (σ := Unit) (fun s19318 (_ : Unit) => [(2, .int .i64 p19279), (3, .int .i64 p19280), (5, .pointer (some ⟨b19285, 0, none⟩)), (8, .pointer (some ⟨b19289, 0, none⟩)), (9, .int .i64 (p19272.Links.length : Int)), (10, .pointer (some ⟨b19293, 0, none⟩)), (36, .bool s19318)]) (fun s19318 (_ : Unit) hh => St φ lo hh ((some b19293, .cells [.int .i64 p19279, .int .i64 p19280, .int .i64 (w64 (1 + (Int.tmod e19297 20))), .int .i64 (Int.tmod e19301 50)] 75 .exact) :: (some b19289, .cells [.int .i64 0, .slice none 0 0, .slice none 0 0] 29 .exact) :: (some b19285, .cells [.int .i64 p19272.Nodes, .slice a19273 n19273 c19273, .slice a19274 n19274 c19274] 29 .exact) :: (some b19281, .cells [.int .u8 p19267.Bridges, .int .u8 p19267.Stations, .slice a19268 n19268 c19268, .slice a19269 n19269 c19269, .slice a19270 n19270 c19270, .slice a19271 n19271 c19271] 24 .exact) :: (ob19276, blk19277) :: own)) 5 ?_ ?_
  · rintro s19318 _ t0 h19320 X19319
    refine lend (nseq ?_)
    refine dcond rfl rfl (fun k19321 => ?_) (fun k19321 => ?_)
    · refine dseq (dreg ?_)
      refine lread (v := .agg #[.int .i64 p19272.Nodes, .slice a19273 n19273 c19273, .slice a19274 n19274 c19274]) rfl (q_load wd_29 rfl) (St.ld X19319 (j := 2) rfl rfl) rfl ?_
      refine lstore rfl ts_29 rfl rfl (j := 1) rfl rfl rfl rfl rfl rfl X19319 (fun h19322 X19323 => ?_)
      refine lend (nseq (dret (rseq ?_)))
      exact kopen_r (res_1 (resC wd_29 (St.ld X19323 (j := 1) rfl rfl))) ⟨φ, a19273, n19273, c19273, a19274, n19274, c19274, ob19276, blk19277, (Fz.le_refl _), St.pick (St.front X19323 (j := 4) rfl) (.keep _ (.skip _ (.skip _ (.skip _ (.skip _ (.refl _)))))), rfl, H19273, O19278⟩
    refine dskip (nseq (dseq (dseq (dreg ?_))))
    refine lpure (v := .int .i64 0) rfl (p_assign rfl) rfl rfl ?_
    refine lend (nseq (dblock ?_))
    refine dloopM (τ := Int × (List ApiLink)) (σ := Blk) (fun s19367 blk19368 => [(2, .int .i64 p19279), (3, .int .i64 p19280), (5, .pointer (some ⟨b19285, 0, none⟩)), (8, .pointer (some ⟨b19289, 0, none⟩)), (9, .int .i64 (p19272.Links.length : Int)), (10, .pointer (some ⟨b19293, 0, none⟩)), (11, .int .i64 s19367.1)]) (fun s19367 blk19368 hh => St φ lo hh ((some b19293, .cells [.int .i64 p19279, .int .i64 p19280, .int .i64 (w64 (1 + (Int.tmod e19297 20))), .int .i64 (Int.tmod e19301 50)] 75 .exact) :: (some b19289, .cells [.int .i64 0, .slice none 0 0, .slice none 0 0] 29 .exact) :: (some b19285, .cells [.int .i64 p19272.Nodes, .slice a19273 n19273 c19273, .slice a19274 n19274 c19274] 29 .exact) :: (some b19281, .cells [.int .u8 p19267.Bridges, .int .u8 p19267.Stations, .slice a19268 n19268 c19268, .slice a19269 n19269 c19269, .slice a19270 n19270 c19270, .slice a19271 n19271 c19271] 24 .exact) :: (ob19276, blk19368) :: own) ∧ OSl eApiLink φ 75 ob19276 blk19368 (.slice a19274 n19274 c19274) s19367.2) (0, p19272.Links) blk19277 (sub_cons rfl (sub_cons rfl (sub_cons rfl (sub_cons rfl (sub_cons rfl (sub_cons rfl (sub_cons rfl sub_nil))))))) ⟨X19319, O19278⟩ ?_
    rintro n19391 ih19390 s19367 blk19368 t0 h19393 ⟨X19392, O19368⟩
    refine dseq (dseq (dreg ?_))
    refine lpure (v := .int .i64 s19367.1) rfl (p_move rfl) rfl rfl ?_
    refine lpure (v := .int .i64 (p19272.Links.length : Int)) rfl (p_move rfl) rfl rfl ?_
    refine lpure (v := .bool (decide (s19367.1 < (p19272.Links.length : Int)))) rfl (p_lt rfl) rfl rfl ?_
    refine lend (nseq ?_)
    refine dcond rfl rfl (fun k19394 => ?_) (fun k19394 => ?_)
    · refine dskip (nseq (dseq (dblock (dseq (dreg ?_)))))
      refine lpure (v := .pointer (some ⟨b19285, 2, none⟩)) rfl (p_fa fo_29_2 rfl) rfl rfl ?_
      refine lread (v := .slice a19274 n19274 c19274) rfl (q_load wd_27 rfl) (St.ld X19392 (j := 2) rfl rfl) rfl ?_
      refine lpure (v := .int .i64 s19367.1) rfl (p_move rfl) rfl rfl ?_
      refine Sim.bindM fun e19395 he19396 => ?_
      obtain ⟨b19397, vs19397, m19397, off19397, cs19397, rfl, rfl, hp19397, hc19397, hR19397, hl19397, hm19397, hs19397⟩ := OSl.ia O19368 he19396 (kd := .i64) (n := 4) rfl
      obtain rfl := eApiLink_el hR19397
      refine lpure (v := .pointer (some ⟨b19397, off19397, none⟩)) rfl (p_ia rs_27 rfl) hp19397 rfl ?_
      refine lread (v := .agg #[.int .i64 e19395.A, .int .i64 e19395.B, .int .i64 e19395.Per, .int .i64 e19395.Delay]) rfl (q_load wd_75 rfl) (St.ld X19392 (j := 4) rfl (rdEw hc19397 (k := 0) rfl rfl)) rfl ?_
      refine lpure (v := .int .i64 p19279) rfl (p_move rfl) rfl rfl ?_
      refine lpure (v := .int .i64 p19280) rfl (p_move rfl) rfl rfl ?_
      refine lcall rfl rfl ca_76 rfl rfl (f76_ok X19392 e19395 p19279 p19280) rfl (fun e19398 v19399 h19400 hq19401 => ?_)
      cases hq19401
      refine lend (nseq ?_)
      refine dcond rfl rfl (fun k19402 => ?_) (fun k19402 => ?_)
      · refine dseq (dreg ?_)
        refine lread (v := .agg #[.int .i64 p19272.Nodes, .slice a19273 n19273 c19273, .slice a19274 n19274 c19274]) rfl (q_load wd_29 rfl) (St.ld X19392 (j := 2) rfl rfl) rfl ?_
        refine lstore rfl ts_29 rfl rfl (j := 1) rfl rfl rfl rfl rfl rfl X19392 (fun h19403 X19404 => ?_)
        refine lend (nseq (dret (rblock (rseq (rloop (rblock (rseq ?_)))))))
        exact kopen_r (res_1 (resC wd_29 (St.ld X19404 (j := 1) rfl rfl))) ⟨φ, a19273, n19273, c19273, a19274, n19274, c19274, (some b19397), (.cells vs19397 75 m19397), (Fz.le_refl _), St.pick (St.front X19404 (j := 4) rfl) (.keep _ (.skip _ (.skip _ (.skip _ (.skip _ (.refl _)))))), rfl, H19273, O19368⟩
      refine dskip (nblock (nseq (dreg ?_)))
      refine lpure (v := .int .i64 s19367.1) rfl (p_move rfl) rfl rfl ?_
      refine lpure (v := .int .i64 (w64 (s19367.1 + 1))) rfl (p_add rfl) rfl rfl ?_
      refine lpure (v := .int .i64 (w64 (s19367.1 + 1))) rfl (p_assign rfl) rfl rfl ?_
      refine lend ?_
      exact kbackM ih19390 ((w64 (s19367.1 + 1)), s19367.2) (.cells vs19397 75 m19397) (sub_cons rfl (sub_cons rfl (sub_cons rfl (sub_cons rfl (sub_cons rfl (sub_cons rfl (sub_cons rfl sub_nil))))))) ⟨X19392, O19368⟩
    refine dexit (eseq (eloop (xblock (nseq (dseq (dreg ?_))))))
    refine lpure (v := .pointer (some ⟨b19285, 2, none⟩)) rfl (p_fa fo_29_2 rfl) rfl rfl ?_
    refine lread (v := .slice a19274 n19274 c19274) rfl (q_load wd_27 rfl) (St.ld X19392 (j := 2) rfl rfl) rfl ?_
    refine lread (v := .agg #[.int .i64 p19279, .int .i64 p19280, .int .i64 (w64 (1 + (Int.tmod e19297 20))), .int .i64 (Int.tmod e19301 50)]) rfl (q_load wd_75 rfl) (St.ld X19392 (j := 0) rfl rfl) rfl ?_
    obtain ⟨h19405, b19405, hv19405, X19405, O19405⟩ := OSl.lay (E := eApiLink) (φ := φ) (cs := [.int .i64 p19279, .int .i64 p19280, .int .i64 (w64 (1 + (Int.tmod e19297 20))), .int .i64 (Int.tmod e19301 50)]) (l := [(ApiLink.mk p19279 p19280 (w64 (1 + (Int.tmod e19297 20))) (Int.tmod e19301 50))]) (len := 1) (parts := [(0, .agg #[.int .i64 p19279, .int .i64 p19280, .int .i64 (w64 (1 + (Int.tmod e19297 20))), .int .i64 (Int.tmod e19301 50)])]) un_27 ts_75 rfl rfl rfl tz_75 rfl rfl (show RowD eApiLink φ [.int .i64 p19279, .int .i64 p19280, .int .i64 (w64 (1 + (Int.tmod e19297 20))), .int .i64 (Int.tmod e19301 50)] [(ApiLink.mk p19279 p19280 (w64 (1 + (Int.tmod e19297 20))) (Int.tmod e19301 50))] from ⟨[.int .i64 p19279, .int .i64 p19280, .int .i64 (w64 (1 + (Int.tmod e19297 20))), .int .i64 (Int.tmod e19301 50)], _, rfl, ⟨_, _, rfl, rfl, ⟨_, _, rfl, rfl, ⟨_, _, rfl, rfl, ⟨_, _, rfl, rfl, rfl⟩⟩⟩⟩, rfl⟩) rfl rfl X19392
    refine lheap rfl (h_buildSlice rfl) hv19405 rfl ?_
    obtain ⟨ws19407, hw19407⟩ := OSl.read O19405 X19405 (k := 0) rfl (n := 4) rfl
    refine Sim.mustM fun k19407 => ?_
    obtain ⟨h19407, a19407, c19407, ob19407, blk19407, hv19407, X19407, O19407⟩ := OSl.append O19368 X19405 (j := 5) rfl hw19407 k19407 (ts := #[27, 27]) rfl un_27 (argOk_of ax_27_27) ts_75 rfl rfl tb_75 rfl tz_75 rfl
    refine lheap rfl (h_builtin rfl rfl) hv19407 rfl ?_
    refine lpure (v := .pointer (some ⟨b19285, 2, none⟩)) rfl (p_fa fo_29_2 rfl) rfl rfl ?_
    refine lstore rfl ts_27 rfl rfl (j := 3) rfl rfl rfl rfl rfl rfl X19407 (fun h19408 X19409 => ?_)
    refine lend (nseq (dseq (dreg ?_)))
    refine lread (v := .agg #[.int .i64 p19272.Nodes, .slice a19273 n19273 c19273, .slice a19407 (s19367.2.length + ([(ApiLink.mk p19279 p19280 (w64 (1 + (Int.tmod e19297 20))) (Int.tmod e19301 50))]).length) c19407]) rfl (q_load wd_29 rfl) (St.ld X19409 (j := 3) rfl rfl) rfl ?_
    refine lstore rfl ts_29 rfl rfl (j := 2) rfl rfl rfl rfl rfl rfl X19409 (fun h19410 X19411 => ?_)
    refine lend (nseq (dret ?_))
    exact kopen_r (res_1 (resC wd_29 (St.ld X19411 (j := 2) rfl rfl))) ⟨φ, a19273, n19273, c19273, a19407, ((s19367.2.length + ([(ApiLink.mk p19279 p19280 (w64 (1 + (Int.tmod e19297 20))) (Int.tmod e19301 50))]).length)), c19407, ob19407, blk19407, (Fz.le_refl _), St.pick (St.front X19411 (j := 5) rfl) (.keep _ (.skip _ (.skip _ (.skip _ (.skip _ (.skip _ (.refl _))))))), rfl, H19273, O19407⟩
  intro j19412 J19413
  refine lif (i := 31) (show _ = Value.bool (decide ((p19272.Links.length : Int) = 24)) from rfl) (fun k19414 => ?_) (fun k19414 => ?_)
  · refine lskip rfl rfl ?_
    refine lskip rfl rfl ?_
    refine lskip rfl rfl ?_
    refine lskip rfl rfl ?_
    refine lpure (v := .bool true) rfl (p_pick rfl) rfl rfl ?_
    exact ljmpM J19413 true () (sub_cons rfl (sub_cons rfl (sub_cons rfl (sub_cons rfl (sub_cons rfl (sub_cons rfl (sub_cons rfl sub_nil))))))) X19306
  refine lread (v := .agg #[.int .i64 p19272.Nodes, .slice a19273 n19273 c19273, .slice a19274 n19274 c19274]) rfl (q_load wd_29 rfl) (St.ld X19306 (j := 2) rfl rfl) rfl ?_
  refine lread (v := .agg #[.int .i64 p19279, .int .i64 p19280, .int .i64 (w64 (1 + (Int.tmod e19297 20))), .int .i64 (Int.tmod e19301 50)]) rfl (q_load wd_75 rfl) (St.ld X19306 (j := 0) rfl rfl) rfl ?_
  obtain ⟨φ19415, g19416, X19417, H19418⟩ := OSl.freeze X19306 (j := 4) rfl O19278
  refine lcall rfl rfl ca_75 rfl rfl (f75_ok X19417 p19272 ((ApiLink.mk p19279 p19280 (w64 (1 + (Int.tmod e19297 20))) (Int.tmod e19301 50))) (H19273.mono g19416) H19418) rfl (fun e19419 v19420 h19421 hq19422 => ?_)
  cases hq19422
  refine lpure (v := .bool (!e19419)) rfl (p_not rfl) rfl rfl ?_
  refine lpure (v := .bool (!e19419)) rfl (p_pick rfl) rfl rfl ?_
  exact ljmpM J19413 (!e19419) () (sub_cons rfl (sub_cons rfl (sub_cons rfl (sub_cons rfl (sub_cons rfl (sub_cons rfl (sub_cons rfl sub_nil))))))) X19306
end Go.AM
