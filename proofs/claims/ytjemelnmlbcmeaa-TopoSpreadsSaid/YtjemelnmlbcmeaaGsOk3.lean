/- Printed: functions of the given program as functions over plain data, and that the machine does what they say; no claim of its own; no condition. -/
import Derived.Test.YtjemelnmlbcmeaaGsOk2
set_option maxRecDepth 100000
set_option maxHeartbeats 4000000
set_option linter.unusedVariables false
set_option linter.unusedSimpArgs false
namespace Go.AM
open Go Go.Proofs

/-! isochron/isochronref16.Right -/
theorem f13_ok {n : Nat} {φ : Fz} {lo : Nat} {h : Heap} {own : OwnL}  {a152431 : Option Addr} {n152431 c152431 : Nat} {a152432 : Option Addr} {n152432 c152432 : Nat} (X : St φ lo h (own)) (p152430 : ApiTopo) (H152431 : RSl eBool φ (.slice a152431 n152431 c152431) p152430.Station) (H152432 : RSl eApiLink φ (.slice a152432 n152432 c152432) p152430.Links) : Sim ((recN Try.prog LL cutF (n + 3)).call 13 #[(.agg #[.int .i64 p152430.Nodes, .slice a152431 n152431 c152431, .slice a152432 n152432 c152432])] h) (m_isochronref16_Right p152430) (fun (d : Bool) p => p = (.bool d, h)) := by
  refine fcut Try.func13 rfl rfl rfl rfl X ?_
  intro h0 X0
  refine dseq ?_
  refine dreg ?_
  refine lbox rfl rfl rfl rfl rfl X0 (fun b152433 h152435 X152436 => ?_)
  refine lpure (v := .bool false) rfl (p_assign rfl) rfl rfl ?_
  refine lend ?_
  refine nseq ?_
  refine dseq ?_
  refine dseq ?_
  refine dreg ?_
  refine lpure (v := .pointer (some ⟨b152433, 0, none⟩)) rfl (p_fa fo_25_0 rfl) rfl rfl ?_
  refine lread (v := .int .i64 p152430.Nodes) rfl (q_load wd_3 rfl) (St.ld X152436 (j := 0) rfl rfl) rfl ?_
  refine lpure (v := .bool (decide (p152430.Nodes < 2))) rfl (p_lt rfl) rfl rfl ?_
  refine lpure (v := .bool (decide (p152430.Nodes < 2))) rfl (p_move rfl) rfl rfl ?_
  refine lsh (τ := Bool) (σ := Unit) (fun s152438 (_ : Unit) => [(1, .pointer (some ⟨b152433, 0, none⟩)), (16, .bool s152438)]) (fun s152438 (_ : Unit) hh => St φ h.n hh ([(some b152433, .cells [.int .i64 p152430.Nodes, .slice a152431 n152431 c152431, .slice a152432 n152432 c152432] 25 .exact)])) 4 ?_ ?_
  · rintro s152438 _ t0 h152440 X152439
    refine lpure (v := .bool s152438) rfl (p_move rfl) rfl rfl ?_
    refine lsh (τ := Bool) (σ := Unit) (fun s152442 (_ : Unit) => [(1, .pointer (some ⟨b152433, 0, none⟩)), (24, .bool s152442)]) (fun s152442 (_ : Unit) hh => St φ h.n hh ([(some b152433, .cells [.int .i64 p152430.Nodes, .slice a152431 n152431 c152431, .slice a152432 n152432 c152432] 25 .exact)])) 7 ?_ ?_
    · rintro s152442 _ t0 h152444 X152443
      refine lpure (v := .bool s152442) rfl (p_move rfl) rfl rfl ?_
      refine lsh (τ := Bool) (σ := Unit) (fun s152446 (_ : Unit) => [(1, .pointer (some ⟨b152433, 0, none⟩)), (30, .bool s152446)]) (fun s152446 (_ : Unit) hh => St φ h.n hh ([(some b152433, .cells [.int .i64 p152430.Nodes, .slice a152431 n152431 c152431, .slice a152432 n152432 c152432] 25 .exact)])) 5 ?_ ?_
      · rintro s152446 _ t0 h152448 X152447
        refine lend ?_
        refine nseq ?_
        refine dcond rfl rfl (fun k152449 => ?_) (fun k152449 => ?_)
        · refine dseq ?_
          refine dreg ?_
          refine lpure (v := .bool false) rfl (p_assign rfl) rfl rfl ?_
          refine lend ?_
          refine nseq ?_
          refine dret ?_
          refine rseq ?_
          exact kcut_r (res_1 resT) X152447 rfl rfl
        · refine dskip ?_
          refine nseq ?_
          refine dseq ?_
          refine dreg ?_
          refine lpure (v := .pointer (some ⟨b152433, 0, none⟩)) rfl (p_fa fo_25_0 rfl) rfl rfl ?_
          refine lread (v := .int .i64 p152430.Nodes) rfl (q_load wd_3 rfl) (St.ld X152447 (j := 0) rfl rfl) rfl ?_
          refine Sim.mustM fun k152450 => ?_
          have k152450 := of_decide_eq_true k152450
          obtain ⟨h152450, b152450, vs152450, hv152450, X152450, O152450⟩ := OSl.mk (E := (eInt .i64)) (φ := φ) (a0 := 0) (k := .i64) (k' := .i64) (l := p152430.Nodes) (c := p152430.Nodes) un_28 tb_3 rfl ts_3 rfl rfl tz_3 rfl rfl rfl (by omega) (by omega) (by omega) X152447
          refine lheap rfl (h_makeSlice rfl) hv152450 rfl ?_
          refine lpure (v := .slice (some ⟨b152450, 0, none⟩) (p152430.Nodes).toNat (p152430.Nodes).toNat) rfl (p_assign rfl) rfl rfl ?_
          refine lend ?_
          refine nseq ?_
          refine dseq ?_
          refine dseq ?_
          refine dreg ?_
          refine lpure (v := .int .i64 0) rfl (p_assign rfl) rfl rfl ?_
          refine lend ?_
          refine nseq ?_
          refine dblock ?_
          refine dloopM (τ := (List Int) × Int) (σ := Option Addr × Nat × Nat × Option Nat × Blk) (fun s155429 (a155430, n155430, c155430, ob155430, blk155430) => [(1, .pointer (some ⟨b152433, 0, none⟩)), (3, .slice a155430 n155430 c155430), (4, .int .i64 s155429.2)]) (fun s155429 (a155430, n155430, c155430, ob155430, blk155430) hh => St φ h.n hh ([(ob155430, blk155430), (some b152433, .cells [.int .i64 p152430.Nodes, .slice a152431 n152431 c152431, .slice a152432 n152432 c152432] 25 .exact)]) ∧ OSl (eInt .i64) φ 3 ob155430 blk155430 (.slice a155430 n155430 c155430) s155429.1) ((List.replicate (p152430.Nodes).toNat 0), 0) ((some ⟨b152450, 0, none⟩), (p152430.Nodes).toNat, (p152430.Nodes).toNat, some b152450, (.cells vs152450 3 .exact)) (sub_cons rfl (sub_cons rfl (sub_cons rfl sub_nil))) ⟨X152450, O152450⟩ ?_
          rintro n155743 ih155742 s155429 ⟨a155430, n155430, c155430, ob155430, blk155430⟩ t0 h155745 ⟨X155744, O155430⟩
          refine dseq ?_
          refine dseq ?_
          refine dreg ?_
          refine lpure (v := .int .i64 s155429.2) rfl (p_move rfl) rfl rfl ?_
          refine lpure (v := .pointer (some ⟨b152433, 2, none⟩)) rfl (p_fa fo_25_2 rfl) rfl rfl ?_
          refine lread (v := .slice a152432 n152432 c152432) rfl (q_load wd_23 rfl) (St.ld X155744 (j := 1) rfl rfl) rfl ?_
          refine lpure (v := .int .i64 (p152430.Links.length : Int)) rfl (p_len rfl rfl rfl un_23 rfl) (RSl.lenC H152432) rfl ?_
          refine lpure (v := .bool (decide (s155429.2 < (p152430.Links.length : Int)))) rfl (p_lt rfl) rfl rfl ?_
          refine lend ?_
          refine nseq ?_
          refine dcond rfl rfl (fun k155746 => ?_) (fun k155746 => ?_)
          · refine dskip ?_
            refine nseq ?_
            refine dseq ?_
            refine dblock ?_
            refine dseq ?_
            refine dreg ?_
            refine lpure (v := .pointer (some ⟨b152433, 2, none⟩)) rfl (p_fa fo_25_2 rfl) rfl rfl ?_
            refine lread (v := .slice a152432 n152432 c152432) rfl (q_load wd_23 rfl) (St.ld X155744 (j := 1) rfl rfl) rfl ?_
            refine lpure (v := .int .i64 s155429.2) rfl (p_move rfl) rfl rfl ?_
            refine Sim.bindM fun e155747 he155748 => ?_
            obtain ⟨p155749, cs155749, hp155749, hF155749, hR155749⟩ := RSl.ia H152432 he155748 (kd := .i64) (n := 4) rfl
            obtain rfl := eApiLink_el hR155749
            refine lpure (v := p155749) rfl (p_ia rs_23 rfl) hp155749 rfl ?_
            refine lread (v := .agg #[.int .i64 e155747.A, .int .i64 e155747.B, .int .i64 e155747.Per, .int .i64 e155747.Delay]) rfl (q_load wd_50 rfl) (FP.ldw X155744 hF155749 rfl rfl) rfl ?_
            refine lalloc rfl tz_50 rfl rfl rfl X155744 (fun b155750 h155752 X155753 => ?_)
            refine lstore rfl ts_50 rfl rfl (j := 0) rfl rfl rfl rfl rfl rfl X155753 (fun h155754 X155755 => ?_)
            refine lend ?_
            refine nseq ?_
            refine dseq ?_
            refine dseq ?_
            refine dreg ?_
            refine lread (v := .agg #[.int .i64 p152430.Nodes, .slice a152431 n152431 c152431, .slice a152432 n152432 c152432]) rfl (q_load wd_25 rfl) (St.ld X155755 (j := 2) rfl rfl) rfl ?_
            refine lread (v := .agg #[.int .i64 e155747.A, .int .i64 e155747.B, .int .i64 e155747.Per, .int .i64 e155747.Delay]) rfl (q_load wd_50 rfl) (St.ld X155755 (j := 0) rfl rfl) rfl ?_
            refine lcall rfl rfl ca_43 rfl rfl (f43_ok X155755 p152430 e155747 H152431 H152432) rfl (fun e155756 v155757 h155758 hq155759 => ?_)
            cases hq155759
            refine lpure (v := .bool (!e155756)) rfl (p_not rfl) rfl rfl ?_
            refine lend ?_
            refine nseq ?_
            refine dcond rfl rfl (fun k155760 => ?_) (fun k155760 => ?_)
            · refine dseq ?_
              refine dreg ?_
              refine lpure (v := .bool false) rfl (p_assign rfl) rfl rfl ?_
              refine lend ?_
              refine nseq ?_
              refine dret ?_
              refine rseq ?_
              refine rblock ?_
              refine rseq ?_
              refine rloop ?_
              refine rblock ?_
              refine rseq ?_
              exact kcut_r (res_1 resT) X155755 rfl rfl
            · refine dskip ?_
              refine nseq ?_
              refine dseq ?_
              refine dseq ?_
              refine dreg ?_
              refine lpure (v := .int .i64 0) rfl (p_assign rfl) rfl rfl ?_
              refine lend ?_
              refine nseq ?_
              refine dblock ?_
              refine dloopM (τ := Int) (σ := Unit) (fun s155821 (_ : Unit) => [(1, .pointer (some ⟨b152433, 0, none⟩)), (3, .slice a155430 n155430 c155430), (4, .int .i64 s155429.2), (5, .pointer (some ⟨b155750, 0, none⟩)), (6, .int .i64 s155821)]) (fun s155821 (_ : Unit) hh => St φ h.n hh ([(some b155750, .cells [.int .i64 e155747.A, .int .i64 e155747.B, .int .i64 e155747.Per, .int .i64 e155747.Delay] 50 .exact), (ob155430, blk155430), (some b152433, .cells [.int .i64 p152430.Nodes, .slice a152431 n152431 c152431, .slice a152432 n152432 c152432] 25 .exact)])) 0 () (sub_cons rfl (sub_cons rfl (sub_cons rfl (sub_cons rfl (sub_cons rfl sub_nil))))) X155755 ?_
              rintro n155853 ih155852 s155821 _ t0 h155855 X155854
              refine dseq ?_
              refine dseq ?_
              refine dreg ?_
              refine lpure (v := .int .i64 s155821) rfl (p_move rfl) rfl rfl ?_
              refine lpure (v := .int .i64 s155429.2) rfl (p_move rfl) rfl rfl ?_
              refine lpure (v := .bool (decide (s155821 < s155429.2))) rfl (p_lt rfl) rfl rfl ?_
              refine lend ?_
              refine nseq ?_
              refine dcond rfl rfl (fun k155856 => ?_) (fun k155856 => ?_)
              · refine dskip ?_
                refine nseq ?_
                refine dseq ?_
                refine dblock ?_
                refine dseq ?_
                refine ddraw 0 0 0 (by kernel_rfl) ?_
                refine spure (v := .pointer (some ⟨b152433, 2, none⟩)) rfl (p_fa fo_25_2 rfl) (lo_t (lo_own X155854 (j := 2) (o := 0) (s := none) (f := 0) rfl) rfl) rfl rfl ?_
                refine sload (v := .slice a152432 n152432 c152432) rfl rfl (q_load wd_23 rfl) (St.ld X155854 (j := 2) rfl rfl) (same_self 20 rfl) rfl ?_
                refine spure (v := .int .i64 s155821) rfl (p_move rfl) (lo_t rfl rfl) rfl rfl ?_
                refine Sim.bindM fun e155857 he155858 => ?_
                obtain ⟨p155859, cs155859, hp155859, hF155859, hR155859⟩ := RSl.ia H152432 he155858 (kd := .i64) (n := 4) rfl
                obtain rfl := eApiLink_el hR155859
                refine spure (v := p155859) rfl (p_ia rs_23 rfl) (lo_t (lo_sl X155854 H152432) (lo_t rfl rfl)) hp155859 rfl ?_
                refine sload (v := .agg #[.int .i64 e155857.A, .int .i64 e155857.B, .int .i64 e155857.Per, .int .i64 e155857.Delay]) rfl rfl (q_load wd_50 rfl) (FP.ldw X155854 hF155859 rfl rfl) (same_self 20 rfl) rfl ?_
                refine spure (v := .pointer (some ⟨b155750, 0, none⟩)) rfl (p_fa fo_50_0 rfl) (lo_t (lo_own X155854 (j := 0) (o := 0) (s := none) (f := 0) rfl) rfl) rfl rfl ?_
                refine sload (v := .int .i64 e155747.A) rfl rfl (q_load wd_3 rfl) (St.ld X155854 (j := 0) rfl rfl) (same_self 20 rfl) rfl ?_
                refine spure (v := .pointer (some ⟨b155750, 1, none⟩)) rfl (p_fa fo_50_1 rfl) (lo_t (lo_own X155854 (j := 0) (o := 0) (s := none) (f := 0) rfl) rfl) rfl rfl ?_
                refine sload (v := .int .i64 e155747.B) rfl rfl (q_load wd_3 rfl) (St.ld X155854 (j := 0) rfl rfl) (same_self 20 rfl) rfl ?_
                refine scall (en := fun d => (.bool d)) rfl rfl ca_44 rfl rfl (f44_ok X155854 e155857 (e155747.A) (e155747.B)) rfl (fun e155860 => ?_)
                refine send ?_
                refine nseq ?_
                refine dcond rfl rfl (fun k155864 => ?_) (fun k155864 => ?_)
                · refine dseq ?_
                  refine dreg ?_
                  refine lpure (v := .bool false) rfl (p_assign rfl) rfl rfl ?_
                  refine lend ?_
                  refine nseq ?_
                  refine dret ?_
                  refine rblock ?_
                  refine rseq ?_
                  refine rloop ?_
                  refine rblock ?_
                  refine rseq ?_
                  refine rblock ?_
                  refine rseq ?_
                  refine rloop ?_
                  refine rblock ?_
                  refine rseq ?_
                  exact kcut_r (res_1 resT) X155854 rfl rfl
                · refine dskip ?_
                  refine nblock ?_
                  refine nseq ?_
                  refine dreg ?_
                  refine lpure (v := .int .i64 s155821) rfl (p_move rfl) rfl rfl ?_
                  refine lpure (v := .int .i64 (w64 (s155821 + 1))) rfl (p_add rfl) rfl rfl ?_
                  refine lpure (v := .int .i64 (w64 (s155821 + 1))) rfl (p_assign rfl) rfl rfl ?_
                  refine lend ?_
                  exact kbackM ih155852 (w64 (s155821 + 1)) () (sub_cons rfl (sub_cons rfl (sub_cons rfl (sub_cons rfl (sub_cons rfl sub_nil))))) X155854
              · refine dexit ?_
                refine eseq ?_
                refine eloop ?_
                refine xblock ?_
                refine nseq ?_
                refine dseq ?_
                refine ddraw 1024 1024 0 (by kernel_rfl) ?_
                refine spure (v := .slice a155430 n155430 c155430) rfl (p_move rfl) (lo_t (lo_osl X155854 (j := 1) rfl O155430) rfl) rfl rfl ?_
                refine spure (v := .pointer (some ⟨b155750, 0, none⟩)) rfl (p_fa fo_50_0 rfl) (lo_t (lo_own X155854 (j := 0) (o := 0) (s := none) (f := 0) rfl) rfl) rfl rfl ?_
                refine sload (v := .int .i64 e155747.A) rfl rfl (q_load wd_3 rfl) (St.ld X155854 (j := 0) rfl rfl) (same_self 20 rfl) rfl ?_
                refine spure (v := .slice a155430 n155430 c155430) rfl (p_move rfl) (lo_t (lo_osl X155854 (j := 1) rfl O155430) rfl) rfl rfl ?_
                refine spure (v := .pointer (some ⟨b155750, 0, none⟩)) rfl (p_fa fo_50_0 rfl) (lo_t (lo_own X155854 (j := 0) (o := 0) (s := none) (f := 0) rfl) rfl) rfl rfl ?_
                refine sload (v := .int .i64 e155747.A) rfl rfl (q_load wd_3 rfl) (St.ld X155854 (j := 0) rfl rfl) (same_self 20 rfl) rfl ?_
                refine Sim.bindM fun e155865 he155866 => ?_
                obtain ⟨b155867, vs155867, m155867, off155867, cs155867, rfl, rfl, hp155867, hc155867, hR155867, hl155867, hm155867, hs155867⟩ := OSl.ia O155430 he155866 (kd := .i64) (n := 1) rfl
                have hR155867 : _ = [(.int .i64 e155865 : Value)] := hR155867
                subst hR155867
                refine spure (v := .pointer (some ⟨b155867, off155867, none⟩)) rfl (p_ia rs_28 rfl) (lo_t (lo_osl X155854 (j := 1) rfl O155430) (lo_t rfl rfl)) hp155867 rfl ?_
                refine sload (v := .int .i64 e155865) rfl rfl (q_load wd_3 rfl) (St.ld X155854 (j := 1) rfl (rdE1 hc155867 (k := 0) rfl rfl)) (same_self 20 rfl) rfl ?_
                refine spure (v := .int .i64 (w64 (e155865 + 1))) rfl (p_add rfl) (lo_t rfl (lo_c rfl)) rfl rfl ?_
                refine Sim.bindM fun e155868 he155869 => ?_
                obtain ⟨off155870, cs155870, hp155870, hc155870, hR155870, hl155870, hm155870, hs155870⟩ := OSl.iaC O155430 he155869 (kd := .i64) (n := 1) rfl
                have hR155870 : _ = [(.int .i64 e155868 : Value)] := hR155870
                subst hR155870
                refine spure (v := .pointer (some ⟨b155867, off155870, none⟩)) rfl (p_ia rs_28 rfl) (lo_t (lo_osl X155854 (j := 1) rfl O155430) (lo_t rfl rfl)) hp155870 rfl ?_
                have O155873 := hs155870 [.int .i64 (w64 (e155865 + 1))] ((w64 (e155865 + 1))) rfl
                refine sstore rfl rfl ts_3 rfl rfl (j := 1) rfl hm155870 rfl rfl (ble_iff.2 hl155870) rfl X155854 (fun h155871 X155872 => ?_)
                refine send ?_
                refine nseq ?_
                refine ddraw 1024 1024 0 (by kernel_rfl) ?_
                refine spure (v := .slice a155430 n155430 c155430) rfl (p_move rfl) (lo_t (lo_osl X155872 (j := 1) rfl O155873) rfl) rfl rfl ?_
                refine spure (v := .pointer (some ⟨b155750, 1, none⟩)) rfl (p_fa fo_50_1 rfl) (lo_t (lo_own X155872 (j := 0) (o := 0) (s := none) (f := 0) rfl) rfl) rfl rfl ?_
                refine sload (v := .int .i64 e155747.B) rfl rfl (q_load wd_3 rfl) (St.ld X155872 (j := 0) rfl rfl) (same_self 20 rfl) rfl ?_
                refine spure (v := .slice a155430 n155430 c155430) rfl (p_move rfl) (lo_t (lo_osl X155872 (j := 1) rfl O155873) rfl) rfl rfl ?_
                refine spure (v := .pointer (some ⟨b155750, 1, none⟩)) rfl (p_fa fo_50_1 rfl) (lo_t (lo_own X155872 (j := 0) (o := 0) (s := none) (f := 0) rfl) rfl) rfl rfl ?_
                refine sload (v := .int .i64 e155747.B) rfl rfl (q_load wd_3 rfl) (St.ld X155872 (j := 0) rfl rfl) (same_self 20 rfl) rfl ?_
                refine Sim.bindM fun e155874 he155875 => ?_
                obtain ⟨off155876, cs155876, hp155876, hc155876, hR155876, hl155876, hm155876, hs155876⟩ := OSl.iaC O155873 he155875 (kd := .i64) (n := 1) rfl
                have hR155876 : _ = [(.int .i64 e155874 : Value)] := hR155876
                subst hR155876
                refine spure (v := .pointer (some ⟨b155867, off155876, none⟩)) rfl (p_ia rs_28 rfl) (lo_t (lo_osl X155872 (j := 1) rfl O155873) (lo_t rfl rfl)) hp155876 rfl ?_
                refine sload (v := .int .i64 e155874) rfl rfl (q_load wd_3 rfl) (St.ld X155872 (j := 1) rfl (rdE1 hc155876 (k := 0) rfl rfl)) (same_self 20 rfl) rfl ?_
                refine spure (v := .int .i64 (w64 (e155874 + 1))) rfl (p_add rfl) (lo_t rfl (lo_c rfl)) rfl rfl ?_
                refine Sim.bindM fun e155877 he155878 => ?_
                obtain ⟨off155879, cs155879, hp155879, hc155879, hR155879, hl155879, hm155879, hs155879⟩ := OSl.iaC O155873 he155878 (kd := .i64) (n := 1) rfl
                have hR155879 : _ = [(.int .i64 e155877 : Value)] := hR155879
                subst hR155879
                refine spure (v := .pointer (some ⟨b155867, off155879, none⟩)) rfl (p_ia rs_28 rfl) (lo_t (lo_osl X155872 (j := 1) rfl O155873) (lo_t rfl rfl)) hp155879 rfl ?_
                have O155882 := hs155879 [.int .i64 (w64 (e155874 + 1))] ((w64 (e155874 + 1))) rfl
                refine sstore rfl rfl ts_3 rfl rfl (j := 1) rfl hm155879 rfl rfl (ble_iff.2 hl155879) rfl X155872 (fun h155880 X155881 => ?_)
                refine send ?_
                refine nblock ?_
                refine nseq ?_
                refine dreg ?_
                refine lpure (v := .int .i64 s155429.2) rfl (p_move rfl) rfl rfl ?_
                refine lpure (v := .int .i64 (w64 (s155429.2 + 1))) rfl (p_add rfl) rfl rfl ?_
                refine lpure (v := .int .i64 (w64 (s155429.2 + 1))) rfl (p_assign rfl) rfl rfl ?_
                refine lend ?_
                exact kbackM ih155742 (((s155429.1.set (e155747.A).toNat (w64 (e155865 + 1))).set (e155747.B).toNat (w64 (e155874 + 1))), (w64 (s155429.2 + 1))) (a155430, n155430, c155430, some b155867, (.cells (setAt (setAt vs155867 off155870 [.int .i64 (w64 (e155865 + 1))]) off155879 [.int .i64 (w64 (e155874 + 1))]) 3 m155867)) (sub_cons rfl (sub_cons rfl (sub_cons rfl sub_nil))) ⟨(St.pick X155881 (.skip _ (.keep _ (.keep _ (.nil _))))), O155882⟩
          · refine dexit ?_
            refine eseq ?_
            refine eloop ?_
            refine xblock ?_
            refine nseq ?_
            refine dseq ?_
            refine dreg ?_
            refine lread (v := .agg #[.int .i64 p152430.Nodes, .slice a152431 n152431 c152431, .slice a152432 n152432 c152432]) rfl (q_load wd_25 rfl) (St.ld X155744 (j := 1) rfl rfl) rfl ?_
            refine lcall rfl rfl ca_19 rfl rfl (f19_ok X155744 p152430 0 ([]) H152431 H152432 (.inl ⟨rfl, rfl⟩)) rfl ?_
            rintro e155883 _ h155885 ⟨φ155887, a155890, n155890, c155890, ob155890, blk155890, g155888, X155889, rfl, O155890⟩
            refine lpure (v := .slice a155890 n155890 c155890) rfl (p_assign rfl) rfl rfl ?_
            refine lend ?_
            refine nseq ?_
            refine dseq ?_
            refine dseq ?_
            refine dreg ?_
            refine lpure (v := .int .i64 0) rfl (p_assign rfl) rfl rfl ?_
            refine lend ?_
            refine nseq ?_
            refine dblock ?_
            refine dloopM (τ := (List Int) × (List Bool) × Int) (σ := Option Addr × Nat × Nat × Option Nat × Blk × Option Addr × Nat × Nat × Option Nat × Blk) (fun s155972 (a155973, n155973, c155973, ob155973, blk155973, a155974, n155974, c155974, ob155974, blk155974) => [(1, .pointer (some ⟨b152433, 0, none⟩)), (3, .slice a155973 n155973 c155973), (7, .slice a155974 n155974 c155974), (8, .int .i64 s155972.2.2)]) (fun s155972 (a155973, n155973, c155973, ob155973, blk155973, a155974, n155974, c155974, ob155974, blk155974) hh => St φ155887 h.n hh ([(ob155974, blk155974), (ob155973, blk155973), (some b152433, .cells [.int .i64 p152430.Nodes, .slice a152431 n152431 c152431, .slice a152432 n152432 c152432] 25 .exact)]) ∧ OSl (eInt .i64) φ155887 3 ob155973 blk155973 (.slice a155973 n155973 c155973) s155972.1 ∧ OSl eBool φ155887 4 ob155974 blk155974 (.slice a155974 n155974 c155974) s155972.2.1) (s155429.1, e155883, 0) (a155430, n155430, c155430, ob155430, blk155430, a155890, n155890, c155890, ob155890, blk155890) (sub_cons rfl (sub_cons rfl (sub_cons rfl (sub_cons rfl sub_nil)))) ⟨X155889, (O155430.mono g155888), O155890⟩ ?_
            rintro n156015 ih156014 s155972 ⟨a155973, n155973, c155973, ob155973, blk155973, a155974, n155974, c155974, ob155974, blk155974⟩ t0 h156017 ⟨X156016, O155973, O155974⟩
            refine dseq ?_
            refine dseq ?_
            refine dreg ?_
            refine lpure (v := .int .i64 s155972.2.2) rfl (p_move rfl) rfl rfl ?_
            refine lpure (v := .pointer (some ⟨b152433, 0, none⟩)) rfl (p_fa fo_25_0 rfl) rfl rfl ?_
            refine lread (v := .int .i64 p152430.Nodes) rfl (q_load wd_3 rfl) (St.ld X156016 (j := 2) rfl rfl) rfl ?_
            refine lpure (v := .bool (decide (s155972.2.2 < p152430.Nodes))) rfl (p_lt rfl) rfl rfl ?_
            refine lend ?_
            refine nseq ?_
            refine dcond rfl rfl (fun k156018 => ?_) (fun k156018 => ?_)
            · refine dskip ?_
              refine nseq ?_
              refine dseq ?_
              refine dblock ?_
              refine dseq ?_
              refine dreg ?_
              refine lpure (v := .slice a155974 n155974 c155974) rfl (p_move rfl) rfl rfl ?_
              refine lpure (v := .int .i64 s155972.2.2) rfl (p_move rfl) rfl rfl ?_
              refine Sim.bindM fun e156019 he156020 => ?_
              obtain ⟨b156021, vs156021, m156021, off156021, cs156021, rfl, rfl, hp156021, hc156021, hR156021, hl156021, hm156021, hs156021⟩ := OSl.ia O155974 he156020 (kd := .i64) (n := 1) rfl
              have hR156021 : _ = [(.bool e156019 : Value)] := hR156021
              subst hR156021
              refine lpure (v := .pointer (some ⟨b156021, off156021, none⟩)) rfl (p_ia rs_22 rfl) hp156021 rfl ?_
              refine lread (v := .bool e156019) rfl (q_load wd_4 rfl) (St.ld X156016 (j := 0) rfl (rdE1 hc156021 (k := 0) rfl rfl)) rfl ?_
              refine lpure (v := .bool (!e156019)) rfl (p_not rfl) rfl rfl ?_
              refine lpure (v := .bool (!e156019)) rfl (p_move rfl) rfl rfl ?_
              refine ljoinM (τ := (List Int) × Bool) (σ := Option Addr × Nat × Nat × Option Nat × Blk) (fun s156035 (a156036, n156036, c156036, ob156036, blk156036) => [(1, .pointer (some ⟨b152433, 0, none⟩)), (3, .slice a156036 n156036 c156036), (7, .slice a155974 n155974 c155974), (8, .int .i64 s155972.2.2), (118, .bool s156035.2)]) (fun s156035 (a156036, n156036, c156036, ob156036, blk156036) hh => St φ155887 h.n hh ([(some b156021, .cells vs156021 4 m156021), (ob156036, blk156036), (some b152433, .cells [.int .i64 p152430.Nodes, .slice a152431 n152431 c152431, .slice a152432 n152432 c152432] 25 .exact)]) ∧ OSl (eInt .i64) φ155887 3 ob156036 blk156036 (.slice a156036 n156036 c156036) s156035.1) 20 ?_ ?_
              · rintro s156035 ⟨a156036, n156036, c156036, ob156036, blk156036⟩ t0 h156038 ⟨X156037, O156036⟩
                refine lend ?_
                refine nseq ?_
                refine dcond rfl rfl (fun k156039 => ?_) (fun k156039 => ?_)
                · refine dseq ?_
                  refine dreg ?_
                  refine lpure (v := .bool false) rfl (p_assign rfl) rfl rfl ?_
                  refine lend ?_
                  refine nseq ?_
                  refine dret ?_
                  refine rblock ?_
                  refine rseq ?_
                  refine rloop ?_
                  refine rblock ?_
                  refine rseq ?_
                  exact kcut_r (res_1 resT) X156037 rfl rfl
                · refine dskip ?_
                  refine nblock ?_
                  refine nseq ?_
                  refine dreg ?_
                  refine lpure (v := .int .i64 s155972.2.2) rfl (p_move rfl) rfl rfl ?_
                  refine lpure (v := .int .i64 (w64 (s155972.2.2 + 1))) rfl (p_add rfl) rfl rfl ?_
                  refine lpure (v := .int .i64 (w64 (s155972.2.2 + 1))) rfl (p_assign rfl) rfl rfl ?_
                  refine lend ?_
                  exact kbackM ih156014 (s156035.1, s155972.2.1, (w64 (s155972.2.2 + 1))) (a156036, n156036, c156036, ob156036, blk156036, a155974, n155974, c155974, some b156021, .cells vs156021 4 m156021) (sub_cons rfl (sub_cons rfl (sub_cons rfl (sub_cons rfl sub_nil)))) ⟨X156037, O156036, O155974⟩
              · intro j156040 J156041
                refine lif (i := 98) (show _ = Value.bool (!e156019) from rfl) (fun k156042 => ?_) (fun k156042 => ?_)
                · refine lskip rfl rfl ?_
                  refine lskip rfl rfl ?_
                  refine lskip rfl rfl ?_
                  refine lskip rfl rfl ?_
                  refine lskip rfl rfl ?_
                  refine lskip rfl rfl ?_
                  refine lskip rfl rfl ?_
                  refine lskip rfl rfl ?_
                  refine lskip rfl rfl ?_
                  refine lskip rfl rfl ?_
                  refine lskip rfl rfl ?_
                  refine lskip rfl rfl ?_
                  refine lskip rfl rfl ?_
                  refine lskip rfl rfl ?_
                  refine lskip rfl rfl ?_
                  refine lskip rfl rfl ?_
                  refine lskip rfl rfl ?_
                  refine lskip rfl rfl ?_
                  refine lskip rfl rfl ?_
                  refine lpure (v := .bool true) rfl (p_pick rfl) rfl rfl ?_
                  exact ljmpM J156041 (s155972.1, true) (a155973, n155973, c155973, ob155973, blk155973) (sub_cons rfl (sub_cons rfl (sub_cons rfl (sub_cons rfl (sub_cons rfl sub_nil))))) ⟨X156016, O155973⟩
                · refine lpure (v := .pointer (some ⟨b152433, 1, none⟩)) rfl (p_fa fo_25_1 rfl) rfl rfl ?_
                  refine lread (v := .slice a152431 n152431 c152431) rfl (q_load wd_22 rfl) (St.ld X156016 (j := 2) rfl rfl) rfl ?_
                  refine lpure (v := .int .i64 s155972.2.2) rfl (p_move rfl) rfl rfl ?_
                  refine Sim.bindM fun e156043 he156044 => ?_
                  obtain ⟨p156045, cs156045, hp156045, hF156045, hR156045⟩ := RSl.ia (H152431.mono g155888) he156044 (kd := .i64) (n := 1) rfl
                  have hR156045 : _ = [(.bool e156043 : Value)] := hR156045
                  subst hR156045
                  refine lpure (v := p156045) rfl (p_ia rs_22 rfl) hp156045 rfl ?_
                  refine lread (v := .bool e156043) rfl (q_load wd_4 rfl) (FP.ld X156016 hF156045) rfl ?_
                  refine lpure (v := .bool e156043) rfl (p_move rfl) rfl rfl ?_
                  refine lif (i := 104) (show _ = Value.bool e156043 from rfl) (fun k156046 => ?_) (fun k156046 => ?_)
                  · refine lpure (v := .slice a155973 n155973 c155973) rfl (p_move rfl) rfl rfl ?_
                    refine lpure (v := .int .i64 s155972.2.2) rfl (p_move rfl) rfl rfl ?_
                    refine Sim.bindM fun e156047 he156048 => ?_
                    obtain ⟨b156049, vs156049, m156049, off156049, cs156049, rfl, rfl, hp156049, hc156049, hR156049, hl156049, hm156049, hs156049⟩ := OSl.ia O155973 he156048 (kd := .i64) (n := 1) rfl
                    have hR156049 : _ = [(.int .i64 e156047 : Value)] := hR156049
                    subst hR156049
                    refine lpure (v := .pointer (some ⟨b156049, off156049, none⟩)) rfl (p_ia rs_28 rfl) hp156049 rfl ?_
                    refine lread (v := .int .i64 e156047) rfl (q_load wd_3 rfl) (St.ld X156016 (j := 1) rfl (rdE1 hc156049 (k := 0) rfl rfl)) rfl ?_
                    refine lpure (v := .bool (decide (e156047 < 1))) rfl (p_lt rfl) rfl rfl ?_
                    refine lpure (v := .bool (decide (e156047 < 1))) rfl (p_move rfl) rfl rfl ?_
                    refine lif (i := 110) (show _ = Value.bool (decide (e156047 < 1)) from rfl) (fun k156050 => ?_) (fun k156050 => ?_)
                    · refine lskip rfl rfl ?_
                      refine lskip rfl rfl ?_
                      refine lskip rfl rfl ?_
                      refine lskip rfl rfl ?_
                      refine lskip rfl rfl ?_
                      refine lpure (v := .bool true) rfl (p_pick rfl) rfl rfl ?_
                      refine lpure (v := .bool true) rfl (p_pick rfl) rfl rfl ?_
                      refine lpure (v := .bool true) rfl (p_pick rfl) rfl rfl ?_
                      exact ljmpM J156041 (s155972.1, true) (a155973, n155973, c155973, some b156049, .cells vs156049 3 m156049) (sub_cons rfl (sub_cons rfl (sub_cons rfl (sub_cons rfl (sub_cons rfl sub_nil))))) ⟨X156016, O155973⟩
                    · refine lpure (v := .slice a155973 n155973 c155973) rfl (p_move rfl) rfl rfl ?_
                      refine lpure (v := .int .i64 s155972.2.2) rfl (p_move rfl) rfl rfl ?_
                      refine Sim.bindM fun e156051 he156052 => ?_
                      obtain ⟨off156053, cs156053, hp156053, hc156053, hR156053, hl156053, hm156053, hs156053⟩ := OSl.iaC O155973 he156052 (kd := .i64) (n := 1) rfl
                      have hR156053 : _ = [(.int .i64 e156051 : Value)] := hR156053
                      subst hR156053
                      refine lpure (v := .pointer (some ⟨b156049, off156053, none⟩)) rfl (p_ia rs_28 rfl) hp156053 rfl ?_
                      refine lread (v := .int .i64 e156051) rfl (q_load wd_3 rfl) (St.ld X156016 (j := 1) rfl (rdE1 hc156053 (k := 0) rfl rfl)) rfl ?_
                      refine lpure (v := .bool (decide (2 < e156051))) rfl (p_gt rfl) rfl rfl ?_
                      refine lpure (v := .bool (decide (2 < e156051))) rfl (p_pick rfl) rfl rfl ?_
                      refine lpure (v := .bool (decide (2 < e156051))) rfl (p_pick rfl) rfl rfl ?_
                      refine lpure (v := .bool (decide (2 < e156051))) rfl (p_pick rfl) rfl rfl ?_
                      exact ljmpM J156041 (s155972.1, (decide (2 < e156051))) (a155973, n155973, c155973, some b156049, .cells vs156049 3 m156049) (sub_cons rfl (sub_cons rfl (sub_cons rfl (sub_cons rfl (sub_cons rfl sub_nil))))) ⟨X156016, O155973⟩
                  · refine lskip rfl rfl ?_
                    refine lskip rfl rfl ?_
                    refine lskip rfl rfl ?_
                    refine lskip rfl rfl ?_
                    refine lskip rfl rfl ?_
                    refine lskip rfl rfl ?_
                    refine lskip rfl rfl ?_
                    refine lskip rfl rfl ?_
                    refine lskip rfl rfl ?_
                    refine lskip rfl rfl ?_
                    refine lskip rfl rfl ?_
                    refine lskip rfl rfl ?_
                    refine lpure (v := .bool false) rfl (p_pick rfl) rfl rfl ?_
                    refine lpure (v := .bool false) rfl (p_pick rfl) rfl rfl ?_
                    exact ljmpM J156041 (s155972.1, false) (a155973, n155973, c155973, ob155973, blk155973) (sub_cons rfl (sub_cons rfl (sub_cons rfl (sub_cons rfl (sub_cons rfl sub_nil))))) ⟨X156016, O155973⟩
            · refine dexit ?_
              refine eseq ?_
              refine eloop ?_
              refine xblock ?_
              refine nseq ?_
              refine dseq ?_
              refine dreg ?_
              refine lpure (v := .bool true) rfl (p_assign rfl) rfl rfl ?_
              refine lend ?_
              refine nseq ?_
              refine dret ?_
              exact kcut_r (res_1 resT) X156016 rfl rfl
      · intro j156054 J156055
        refine lcase (i := 25) (show _ = Value.bool s152442 from rfl) (fun k156056 => ?_) (fun k156056 => ?_)
        · refine lskip rfl rfl ?_
          refine lskip rfl rfl ?_
          refine lskip rfl rfl ?_
          refine lskip rfl rfl ?_
          refine lpure (v := .bool true) rfl (p_pick rfl) rfl rfl ?_
          refine Sim.of_eq (congrArg j156054 (show (s152442 || (decide (24 < (p152430.Links.length : Int)))) = true from by rw [k156056] <;> rfl)) ?_
          exact ljmpM J156055 true () (sub_cons rfl (sub_cons rfl sub_nil)) X152443
        · refine lpure (v := .pointer (some ⟨b152433, 2, none⟩)) rfl (p_fa fo_25_2 rfl) rfl rfl ?_
          refine lread (v := .slice a152432 n152432 c152432) rfl (q_load wd_23 rfl) (St.ld X152443 (j := 0) rfl rfl) rfl ?_
          refine lpure (v := .int .i64 (p152430.Links.length : Int)) rfl (p_len rfl rfl rfl un_23 rfl) (RSl.lenC H152432) rfl ?_
          refine lpure (v := .bool (decide (24 < (p152430.Links.length : Int)))) rfl (p_gt rfl) rfl rfl ?_
          refine lpure (v := .bool (decide (24 < (p152430.Links.length : Int)))) rfl (p_pick rfl) rfl rfl ?_
          refine Sim.of_eq (congrArg j156054 (show (s152442 || (decide (24 < (p152430.Links.length : Int)))) = (decide (24 < (p152430.Links.length : Int))) from by rw [k156056] <;> rfl)) ?_
          exact ljmpM J156055 (decide (24 < (p152430.Links.length : Int))) () (sub_cons rfl (sub_cons rfl sub_nil)) X152443
    · intro j156057 J156058
      refine lcase (i := 17) (show _ = Value.bool s152438 from rfl) (fun k156059 => ?_) (fun k156059 => ?_)
      · refine lskip rfl rfl ?_
        refine lskip rfl rfl ?_
        refine lskip rfl rfl ?_
        refine lskip rfl rfl ?_
        refine lskip rfl rfl ?_
        refine lskip rfl rfl ?_
        refine lpure (v := .bool true) rfl (p_pick rfl) rfl rfl ?_
        refine Sim.of_eq (congrArg j156057 (show (s152438 || (decide ((p152430.Station.length : Int) ≠ p152430.Nodes))) = true from by rw [k156059] <;> rfl)) ?_
        exact ljmpM J156058 true () (sub_cons rfl (sub_cons rfl sub_nil)) X152439
      · refine lpure (v := .pointer (some ⟨b152433, 1, none⟩)) rfl (p_fa fo_25_1 rfl) rfl rfl ?_
        refine lread (v := .slice a152431 n152431 c152431) rfl (q_load wd_22 rfl) (St.ld X152439 (j := 0) rfl rfl) rfl ?_
        refine lpure (v := .int .i64 (p152430.Station.length : Int)) rfl (p_len rfl rfl rfl un_22 rfl) (RSl.lenC H152431) rfl ?_
        refine lpure (v := .pointer (some ⟨b152433, 0, none⟩)) rfl (p_fa fo_25_0 rfl) rfl rfl ?_
        refine lread (v := .int .i64 p152430.Nodes) rfl (q_load wd_3 rfl) (St.ld X152439 (j := 0) rfl rfl) rfl ?_
        refine lpure (v := .bool (decide ((p152430.Station.length : Int) ≠ p152430.Nodes))) rfl (p_ne rfl) rfl rfl ?_
        refine lpure (v := .bool (decide ((p152430.Station.length : Int) ≠ p152430.Nodes))) rfl (p_pick rfl) rfl rfl ?_
        refine Sim.of_eq (congrArg j156057 (show (s152438 || (decide ((p152430.Station.length : Int) ≠ p152430.Nodes))) = (decide ((p152430.Station.length : Int) ≠ p152430.Nodes)) from by rw [k156059] <;> rfl)) ?_
        exact ljmpM J156058 (decide ((p152430.Station.length : Int) ≠ p152430.Nodes)) () (sub_cons rfl (sub_cons rfl sub_nil)) X152439
  · intro j156060 J156061
    refine lcase (i := 12) (show _ = Value.bool (decide (p152430.Nodes < 2)) from rfl) (fun k156062 => ?_) (fun k156062 => ?_)
    · refine lskip rfl rfl ?_
      refine lskip rfl rfl ?_
      refine lskip rfl rfl ?_
      refine lpure (v := .bool true) rfl (p_pick rfl) rfl rfl ?_
      refine Sim.of_eq (congrArg j156060 (show ((decide (p152430.Nodes < 2)) || (decide (12 < p152430.Nodes))) = true from by rw [k156062] <;> rfl)) ?_
      exact ljmpM J156061 true () (sub_cons rfl (sub_cons rfl sub_nil)) X152436
    · refine lpure (v := .pointer (some ⟨b152433, 0, none⟩)) rfl (p_fa fo_25_0 rfl) rfl rfl ?_
      refine lread (v := .int .i64 p152430.Nodes) rfl (q_load wd_3 rfl) (St.ld X152436 (j := 0) rfl rfl) rfl ?_
      refine lpure (v := .bool (decide (12 < p152430.Nodes))) rfl (p_gt rfl) rfl rfl ?_
      refine lpure (v := .bool (decide (12 < p152430.Nodes))) rfl (p_pick rfl) rfl rfl ?_
      refine Sim.of_eq (congrArg j156060 (show ((decide (p152430.Nodes < 2)) || (decide (12 < p152430.Nodes))) = (decide (12 < p152430.Nodes)) from by rw [k156062] <;> rfl)) ?_
      exact ljmpM J156061 (decide (12 < p152430.Nodes)) () (sub_cons rfl (sub_cons rfl sub_nil)) X152436
end Go.AM
