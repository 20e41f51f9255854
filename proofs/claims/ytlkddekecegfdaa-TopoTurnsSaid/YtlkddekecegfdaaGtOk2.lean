/- Printed: functions of the given program as functions over plain data, and that the machine does what they say; no claim of its own; no condition. -/
import Derived.Test.YtlkddekecegfdaaGtOk1
set_option maxRecDepth 100000
set_option maxHeartbeats 4000000
set_option linter.unusedVariables false
set_option linter.unusedSimpArgs false
namespace Go.AM
open Go Go.Proofs

/-! slices.Equal[[]bool,bool] -/
theorem f33_ok {n : Nat} {φ : Fz} {lo : Nat} {h : Heap} {own : OwnL}  {a8685 : Option Addr} {n8685 c8685 : Nat} {a8687 : Option Addr} {n8687 c8687 : Nat} (X : St φ lo h (own)) (p8684 : (List Bool)) (p8686 : (List Bool)) (H8685 : RSl eBool φ (.slice a8685 n8685 c8685) p8684) (H8687 : RSl eBool φ (.slice a8687 n8687 c8687) p8686) : Sim ((recN Try.prog LL cutF (n + 1)).call 33 #[(.slice a8685 n8685 c8685), (.slice a8687 n8687 c8687)] h) (m_slices_Equal_bool_bool p8684 p8686) (fun (d : Bool) p => p = (.bool d, h)) := by
  refine fcut Try.func33 rfl rfl rfl rfl X ?_
  intro h0 X0
  refine dseq ?_
  refine dreg ?_
  refine lpure (v := .bool false) rfl (p_assign rfl) rfl rfl ?_
  refine lend ?_
  refine nseq ?_
  refine dseq ?_
  refine dseq ?_
  refine dreg ?_
  refine lpure (v := .slice a8685 n8685 c8685) rfl (p_move rfl) rfl rfl ?_
  refine lpure (v := .int .i64 (p8684.length : Int)) rfl (p_len rfl rfl rfl un_26 rfl) (RSl.lenC H8685) rfl ?_
  refine lpure (v := .slice a8687 n8687 c8687) rfl (p_move rfl) rfl rfl ?_
  refine lpure (v := .int .i64 (p8686.length : Int)) rfl (p_len rfl rfl rfl un_26 rfl) (RSl.lenC H8687) rfl ?_
  refine lpure (v := .bool (decide ((p8684.length : Int) ≠ (p8686.length : Int)))) rfl (p_ne rfl) rfl rfl ?_
  refine lend ?_
  refine nseq ?_
  refine dcond rfl rfl (fun k8688 => ?_) (fun k8688 => ?_)
  · refine dseq ?_
    refine dreg ?_
    refine lpure (v := .bool false) rfl (p_assign rfl) rfl rfl ?_
    refine lend ?_
    refine nseq ?_
    refine dret ?_
    refine rseq ?_
    exact kcut_r (res_1 resT) X0 rfl rfl
  · refine dskip ?_
    refine nseq ?_
    refine dseq ?_
    refine dseq ?_
    refine dreg ?_
    refine lpure (v := .slice a8685 n8685 c8685) rfl (p_move rfl) rfl rfl ?_
    refine lpure (v := .int .i64 (p8684.length : Int)) rfl (p_len rfl rfl rfl un_26 rfl) (RSl.lenC H8685) rfl ?_
    refine lpure (v := .int .i64 0) rfl (p_move rfl) rfl rfl ?_
    refine lend ?_
    refine nseq ?_
    refine dblock ?_
    refine dloopM (τ := Int) (σ := Unit) (fun s8711 (_ : Unit) => [(0, .slice a8685 n8685 c8685), (1, .slice a8687 n8687 c8687), (12, .int .i64 (p8684.length : Int)), (13, .int .i64 s8711)]) (fun s8711 (_ : Unit) hh => St φ h.n hh ([])) 0 () (sub_cons rfl (sub_cons rfl (sub_cons rfl (sub_cons rfl sub_nil)))) X0 ?_
    rintro n8724 ih8723 s8711 _ t0 h8726 X8725
    refine dseq ?_
    refine dreg ?_
    refine lpure (v := .bool (decide (s8711 < (p8684.length : Int)))) rfl (p_lt rfl) rfl rfl ?_
    refine lend ?_
    refine nseq ?_
    refine dseq ?_
    refine dcond rfl rfl (fun k8727 => ?_) (fun k8727 => ?_)
    · refine dskip ?_
      refine nseq ?_
      refine dseq ?_
      refine dblock ?_
      refine dseq ?_
      refine dreg ?_
      refine lpure (v := .int .i64 s8711) rfl (p_move rfl) rfl rfl ?_
      refine lpure (v := .int .i64 s8711) rfl (p_assign rfl) rfl rfl ?_
      refine lend ?_
      refine nseq ?_
      refine dseq ?_
      refine ddraw 0 0 0 (by kernel_rfl) ?_
      refine spure (v := .slice a8685 n8685 c8685) rfl (p_move rfl) (lo_t (lo_sl X8725 H8685) rfl) rfl rfl ?_
      refine spure (v := .int .i64 s8711) rfl (p_move rfl) (lo_t rfl rfl) rfl rfl ?_
      refine Sim.bindM fun e8728 he8729 => ?_
      obtain ⟨p8730, cs8730, hp8730, hF8730, hR8730⟩ := RSl.ia H8685 he8729 (kd := .i64) (n := 1) rfl
      have hR8730 : _ = [(.bool e8728 : Value)] := hR8730
      subst hR8730
      refine spure (v := p8730) rfl (p_ia rs_26 rfl) (lo_t (lo_sl X8725 H8685) (lo_t rfl rfl)) hp8730 rfl ?_
      refine sload (v := .bool e8728) rfl rfl (q_load wd_4 rfl) (FP.ld X8725 hF8730) (same_self 20 rfl) rfl ?_
      refine spure (v := .slice a8687 n8687 c8687) rfl (p_move rfl) (lo_t (lo_sl X8725 H8687) rfl) rfl rfl ?_
      refine spure (v := .int .i64 s8711) rfl (p_move rfl) (lo_t rfl rfl) rfl rfl ?_
      refine Sim.bindM fun e8731 he8732 => ?_
      obtain ⟨p8733, cs8733, hp8733, hF8733, hR8733⟩ := RSl.ia H8687 he8732 (kd := .i64) (n := 1) rfl
      have hR8733 : _ = [(.bool e8731 : Value)] := hR8733
      subst hR8733
      refine spure (v := p8733) rfl (p_ia rs_26 rfl) (lo_t (lo_sl X8725 H8687) (lo_t rfl rfl)) hp8733 rfl ?_
      refine sload (v := .bool e8731) rfl rfl (q_load wd_4 rfl) (FP.ld X8725 hF8733) (same_self 20 rfl) rfl ?_
      refine spure (v := .bool (!(e8728 == e8731))) rfl (p_bin rfl) (lo_t rfl (lo_t rfl rfl)) (bin_neB un_4) rfl ?_
      refine send ?_
      refine nseq ?_
      refine dcond rfl rfl (fun k8734 => ?_) (fun k8734 => ?_)
      · refine dseq ?_
        refine dreg ?_
        refine lpure (v := .bool false) rfl (p_assign rfl) rfl rfl ?_
        refine lend ?_
        refine nseq ?_
        refine dret ?_
        refine rblock ?_
        refine rseq ?_
        refine rloop ?_
        refine rblock ?_
        refine rseq ?_
        exact kcut_r (res_1 resT) X8725 rfl rfl
      · refine dskip ?_
        refine nblock ?_
        refine nseq ?_
        refine dreg ?_
        refine lpure (v := .int .i64 (w64 (s8711 + 1))) rfl (p_add rfl) rfl rfl ?_
        refine lpure (v := .int .i64 (w64 (s8711 + 1))) rfl (p_move rfl) rfl rfl ?_
        refine lend ?_
        exact kbackM ih8723 (w64 (s8711 + 1)) () (sub_cons rfl (sub_cons rfl (sub_cons rfl (sub_cons rfl sub_nil)))) X8725
    · refine dexit ?_
      refine eseq ?_
      refine eloop ?_
      refine xblock ?_
      refine nseq ?_
      refine dseq ?_
      refine dreg ?_
      refine lpure (v := .bool true) rfl (p_assign rfl) rfl rfl ?_
      refine lend ?_
      refine nseq ?_
      refine dret ?_
      exact kcut_r (res_1 resT) X8725 rfl rfl
/-! isochron/isochronlaw16.wakes -/
theorem f7_ok {n : Nat} {φ : Fz} {lo : Nat} {h : Heap} {own : OwnL}  (X : St φ lo h (own)) : Sim ((recN Try.prog LL cutF (n + 9)).call 7 #[] h) (m_isochronlaw16_wakes) (fun (d : Bool) p => p = (.bool d, h)) := by
  refine fcut Try.func7 rfl rfl rfl rfl X ?_
  intro h0 X0
  refine dseq ?_
  refine dreg ?_
  refine lpure (v := .bool false) rfl (p_assign rfl) rfl rfl ?_
  refine lend ?_
  refine nseq ?_
  refine dseq ?_
  refine dreg ?_
  refine lcall rfl rfl ca_29 rfl rfl (f29_ok X0) rfl ?_
  rintro e34 _ h36 ⟨φ38, a41, n41, c41, ob41, blk41, a43, n43, c43, ob43, blk43, g39, X40, rfl, O41, O43⟩
  refine lalloc rfl tz_29 rfl rfl rfl X40 (fun b45 h47 X48 => ?_)
  refine lstore rfl ts_29 rfl rfl (j := 0) rfl rfl rfl rfl rfl rfl X48 (fun h49 X50 => ?_)
  refine lend ?_
  refine nseq ?_
  refine dseq ?_
  refine dreg ?_
  refine lread (v := .agg #[.int .i64 e34.Nodes, .slice a41 n41 c41, .slice a43 n43 c43]) rfl (q_load wd_29 rfl) (St.ld X50 (j := 0) rfl rfl) rfl ?_
  obtain ⟨φ6847, g6848, X6849, H6850⟩ := OSl.freeze X50 (j := 1) rfl O41
  obtain ⟨φ6851, g6852, X6853, H6854⟩ := OSl.freeze X6849 (j := 2) rfl (O43.mono g6848)
  refine lcall rfl rfl ca_11 rfl rfl (f11_ok X6853 e34 0 (H6850.mono g6852) H6854) rfl (fun e6855 v6856 h6857 hq6858 => ?_)
  cases hq6858
  refine lpure (v := .tuple #[.int .i64 e6855.1, .int .i64 e6855.2]) rfl (p_move rfl) rfl rfl ?_
  refine lpure (v := .int .i64 e6855.1) rfl (p_extract rfl) rfl rfl ?_
  refine lpure (v := .int .i64 e6855.2) rfl (p_extract rfl) rfl rfl ?_
  refine lpure (v := .int .i64 e6855.1) rfl (p_assign rfl) rfl rfl ?_
  refine lpure (v := .int .i64 e6855.2) rfl (p_assign rfl) rfl rfl ?_
  refine lend ?_
  refine nseq ?_
  refine dseq ?_
  refine dreg ?_
  refine lread (v := .agg #[.int .i64 e34.Nodes, .slice a41 n41 c41, .slice a43 n43 c43]) rfl (q_load wd_29 rfl) (St.ld X50 (j := 0) rfl rfl) rfl ?_
  obtain ⟨φ6891, g6892, X6893, H6894⟩ := OSl.freeze X50 (j := 1) rfl O41
  obtain ⟨φ6895, g6896, X6897, H6898⟩ := OSl.freeze X6893 (j := 2) rfl (O43.mono g6892)
  refine lcall rfl rfl ca_12 rfl rfl (f12_ok X6897 e34 3 (H6894.mono g6896) H6898) rfl (fun e6899 v6900 h6901 hq6902 => ?_)
  cases hq6902
  refine lpure (v := .tuple #[.int .i64 e6899.1, .int .i64 e6899.2]) rfl (p_move rfl) rfl rfl ?_
  refine lpure (v := .int .i64 e6899.1) rfl (p_extract rfl) rfl rfl ?_
  refine lpure (v := .int .i64 e6899.2) rfl (p_extract rfl) rfl rfl ?_
  refine lpure (v := .int .i64 e6899.1) rfl (p_assign rfl) rfl rfl ?_
  refine lpure (v := .int .i64 e6899.2) rfl (p_assign rfl) rfl rfl ?_
  refine lend ?_
  refine nseq ?_
  refine dseq ?_
  refine dreg ?_
  refine lread (v := .agg #[.int .i64 e34.Nodes, .slice a41 n41 c41, .slice a43 n43 c43]) rfl (q_load wd_29 rfl) (St.ld X50 (j := 0) rfl rfl) rfl ?_
  obtain ⟨φ6940, g6941, X6942, H6943⟩ := OSl.freeze X50 (j := 1) rfl O41
  obtain ⟨φ6944, g6945, X6946, H6947⟩ := OSl.freeze X6942 (j := 2) rfl (O43.mono g6941)
  refine lcall rfl rfl ca_30 rfl rfl (f30_ok X6946 e34 5 (H6943.mono g6945) H6947) rfl (fun e6948 v6949 h6950 hq6951 => ?_)
  cases hq6951
  refine lpure (v := .tuple #[.int .i64 e6948.1, .int .i64 e6948.2]) rfl (p_move rfl) rfl rfl ?_
  refine lpure (v := .int .i64 e6948.1) rfl (p_extract rfl) rfl rfl ?_
  refine lpure (v := .int .i64 e6948.2) rfl (p_extract rfl) rfl rfl ?_
  refine lpure (v := .int .i64 e6948.1) rfl (p_assign rfl) rfl rfl ?_
  refine lpure (v := .int .i64 e6948.2) rfl (p_assign rfl) rfl rfl ?_
  refine lend ?_
  refine nseq ?_
  refine dseq ?_
  refine dreg ?_
  refine lread (v := .agg #[.int .i64 e34.Nodes, .slice a41 n41 c41, .slice a43 n43 c43]) rfl (q_load wd_29 rfl) (St.ld X50 (j := 0) rfl rfl) rfl ?_
  obtain ⟨φ6989, g6990, X6991, H6992⟩ := OSl.freeze X50 (j := 1) rfl O41
  obtain ⟨φ6993, g6994, X6995, H6996⟩ := OSl.freeze X6991 (j := 2) rfl (O43.mono g6990)
  refine lcall rfl rfl ca_31 rfl rfl (f31_ok X6995 e34 4 (H6992.mono g6994) H6996) rfl (fun e6997 v6998 h6999 hq7000 => ?_)
  cases hq7000
  refine lpure (v := .tuple #[.int .i64 e6997.1, .int .i64 e6997.2]) rfl (p_move rfl) rfl rfl ?_
  refine lpure (v := .int .i64 e6997.1) rfl (p_extract rfl) rfl rfl ?_
  refine lpure (v := .int .i64 e6997.2) rfl (p_extract rfl) rfl rfl ?_
  refine lpure (v := .int .i64 e6997.1) rfl (p_assign rfl) rfl rfl ?_
  refine lpure (v := .int .i64 e6997.2) rfl (p_assign rfl) rfl rfl ?_
  refine lend ?_
  refine nseq ?_
  refine dseq ?_
  refine dreg ?_
  refine lread (v := .agg #[.int .i64 e34.Nodes, .slice a41 n41 c41, .slice a43 n43 c43]) rfl (q_load wd_29 rfl) (St.ld X50 (j := 0) rfl rfl) rfl ?_
  obtain ⟨φ7733, g7734, X7735, H7736⟩ := OSl.freeze X50 (j := 1) rfl O41
  obtain ⟨φ7737, g7738, X7739, H7740⟩ := OSl.freeze X7735 (j := 2) rfl (O43.mono g7734)
  refine lcall rfl rfl ca_10 rfl rfl (f10_ok X7739 e34 1 (H7736.mono g7738) H7740) rfl ?_
  rintro e7741 _ h7743 ⟨φ7745, a7748, n7748, c7748, ob7748, blk7748, g7746, X7747, rfl, O7748⟩
  refine lpure (v := .tuple #[.slice a7748 n7748 c7748, .int .i64 e7741.2]) rfl (p_move rfl) rfl rfl ?_
  refine lpure (v := .slice a7748 n7748 c7748) rfl (p_extract rfl) rfl rfl ?_
  refine lpure (v := .int .i64 e7741.2) rfl (p_extract rfl) rfl rfl ?_
  refine lpure (v := .slice a7748 n7748 c7748) rfl (p_assign rfl) rfl rfl ?_
  refine lpure (v := .int .i64 e7741.2) rfl (p_assign rfl) rfl rfl ?_
  refine lend ?_
  refine nseq ?_
  refine dseq ?_
  refine dreg ?_
  refine lread (v := .agg #[.int .i64 e34.Nodes, .slice a41 n41 c41, .slice a43 n43 c43]) rfl (q_load wd_29 rfl) (St.ld X7747 (j := 1) rfl rfl) rfl ?_
  refine lcall rfl rfl ca_14 rfl rfl (f14_ok X7747 e34 2 1 (H7736.mono (g7738.trans g7746)) (H7740.mono g7746)) rfl (fun e8219 v8220 h8221 hq8222 => ?_)
  cases hq8222
  refine lpure (v := .tuple #[.int .i64 e8219.1, .int .i64 e8219.2]) rfl (p_move rfl) rfl rfl ?_
  refine lpure (v := .int .i64 e8219.1) rfl (p_extract rfl) rfl rfl ?_
  refine lpure (v := .int .i64 e8219.2) rfl (p_extract rfl) rfl rfl ?_
  refine lpure (v := .int .i64 e8219.1) rfl (p_assign rfl) rfl rfl ?_
  refine lpure (v := .int .i64 e8219.2) rfl (p_assign rfl) rfl rfl ?_
  refine lend ?_
  refine nseq ?_
  refine dseq ?_
  refine dreg ?_
  refine lread (v := .agg #[.int .i64 e34.Nodes, .slice a41 n41 c41, .slice a43 n43 c43]) rfl (q_load wd_29 rfl) (St.ld X7747 (j := 1) rfl rfl) rfl ?_
  obtain ⟨h8223, b8223, hv8223, X8223, O8223⟩ := OSl.lay (E := (eInt .i64)) (φ := φ7745) (cs := [.int .i64 1]) (l := [1]) (len := 1) (parts := [(0, .int .i64 1)]) un_33 ts_3 rfl rfl rfl tz_3 rfl rfl (show RowD (eInt .i64) φ7745 [.int .i64 1] [1] from ⟨[.int .i64 1], _, rfl, rfl, rfl⟩) rfl rfl X7747
  refine lheap rfl (h_buildSlice rfl) hv8223 rfl ?_
  obtain ⟨φ8549, g8550, X8551, H8552⟩ := OSl.freeze X8223 (j := 0) rfl O8223
  refine lcall rfl rfl ca_32 rfl rfl (f32_ok X8551 e34 0 ([1]) (H7736.mono ((g7738.trans g7746).trans g8550)) (H7740.mono (g7746.trans g8550)) H8552) rfl ?_
  rintro e8553 _ h8555 ⟨φ8557, a8560, n8560, c8560, ob8560, blk8560, g8558, X8559, rfl, O8560⟩
  refine lpure (v := .tuple #[.slice a8560 n8560 c8560, .int .i64 e8553.2]) rfl (p_move rfl) rfl rfl ?_
  refine lpure (v := .slice a8560 n8560 c8560) rfl (p_extract rfl) rfl rfl ?_
  refine lpure (v := .int .i64 e8553.2) rfl (p_extract rfl) rfl rfl ?_
  refine lpure (v := .slice a8560 n8560 c8560) rfl (p_assign rfl) rfl rfl ?_
  refine lpure (v := .int .i64 e8553.2) rfl (p_assign rfl) rfl rfl ?_
  refine lend ?_
  refine nseq ?_
  refine dseq ?_
  refine dreg ?_
  refine lread (v := .agg #[.int .i64 e34.Nodes, .slice a41 n41 c41, .slice a43 n43 c43]) rfl (q_load wd_29 rfl) (St.ld X8559 (j := 3) rfl rfl) rfl ?_
  refine lcall rfl rfl ca_11 rfl rfl (f11_ok X8559 e34 6 (H7736.mono (((g7738.trans g7746).trans g8550).trans g8558)) (H7740.mono ((g7746.trans g8550).trans g8558))) rfl (fun e8562 v8563 h8564 hq8565 => ?_)
  cases hq8565
  refine lpure (v := .tuple #[.int .i64 e8562.1, .int .i64 e8562.2]) rfl (p_move rfl) rfl rfl ?_
  refine lpure (v := .int .i64 e8562.1) rfl (p_extract rfl) rfl rfl ?_
  refine lpure (v := .int .i64 e8562.2) rfl (p_extract rfl) rfl rfl ?_
  refine lpure (v := .int .i64 e8562.1) rfl (p_assign rfl) rfl rfl ?_
  refine lpure (v := .int .i64 e8562.2) rfl (p_assign rfl) rfl rfl ?_
  refine lend ?_
  refine nseq ?_
  refine dseq ?_
  refine dreg ?_
  refine lpure (v := .int .i64 e6855.2) rfl (p_move rfl) rfl rfl ?_
  refine lpure (v := .bool (decide (e6855.2 = 0))) rfl (p_eq rfl) rfl rfl ?_
  refine lpure (v := .bool (decide (e6855.2 = 0))) rfl (p_move rfl) rfl rfl ?_
  refine lsh (τ := Bool) (σ := Unit) (fun s8567 (_ : Unit) => [(2, .int .i64 e6855.1), (4, .int .i64 e6899.1), (6, .int .i64 e6948.1), (7, .int .i64 e6948.2), (8, .int .i64 e6997.1), (9, .int .i64 e6997.2), (10, .slice a7748 n7748 c7748), (11, .int .i64 e7741.2), (12, .int .i64 e8219.1), (13, .int .i64 e8219.2), (14, .slice a8560 n8560 c8560), (15, .int .i64 e8553.2), (17, .int .i64 e8562.2), (66, .bool s8567)]) (fun s8567 (_ : Unit) hh => St φ8557 h.n hh ([(ob8560, blk8560), (none, .dead), (ob7748, blk7748), (some b45, .cells [.int .i64 e34.Nodes, .slice a41 n41 c41, .slice a43 n43 c43] 29 .exact), (none, .dead), (none, .dead)])) 3 ?_ ?_
  · rintro s8567 _ t0 h8569 X8568
    refine lpure (v := .bool s8567) rfl (p_move rfl) rfl rfl ?_
    refine lsh (τ := Bool) (σ := Unit) (fun s8571 (_ : Unit) => [(2, .int .i64 e6855.1), (4, .int .i64 e6899.1), (6, .int .i64 e6948.1), (8, .int .i64 e6997.1), (9, .int .i64 e6997.2), (10, .slice a7748 n7748 c7748), (11, .int .i64 e7741.2), (12, .int .i64 e8219.1), (13, .int .i64 e8219.2), (14, .slice a8560 n8560 c8560), (15, .int .i64 e8553.2), (17, .int .i64 e8562.2), (70, .bool s8571)]) (fun s8571 (_ : Unit) hh => St φ8557 h.n hh ([(ob8560, blk8560), (none, .dead), (ob7748, blk7748), (some b45, .cells [.int .i64 e34.Nodes, .slice a41 n41 c41, .slice a43 n43 c43] 29 .exact), (none, .dead), (none, .dead)])) 3 ?_ ?_
    · rintro s8571 _ t0 h8573 X8572
      refine lpure (v := .bool s8571) rfl (p_move rfl) rfl rfl ?_
      refine lsh (τ := Bool) (σ := Unit) (fun s8575 (_ : Unit) => [(2, .int .i64 e6855.1), (4, .int .i64 e6899.1), (6, .int .i64 e6948.1), (8, .int .i64 e6997.1), (10, .slice a7748 n7748 c7748), (11, .int .i64 e7741.2), (12, .int .i64 e8219.1), (13, .int .i64 e8219.2), (14, .slice a8560 n8560 c8560), (15, .int .i64 e8553.2), (17, .int .i64 e8562.2), (74, .bool s8575)]) (fun s8575 (_ : Unit) hh => St φ8557 h.n hh ([(ob8560, blk8560), (none, .dead), (ob7748, blk7748), (some b45, .cells [.int .i64 e34.Nodes, .slice a41 n41 c41, .slice a43 n43 c43] 29 .exact), (none, .dead), (none, .dead)])) 3 ?_ ?_
      · rintro s8575 _ t0 h8577 X8576
        refine lpure (v := .bool s8575) rfl (p_move rfl) rfl rfl ?_
        refine lsh (τ := Bool) (σ := Unit) (fun s8579 (_ : Unit) => [(2, .int .i64 e6855.1), (4, .int .i64 e6899.1), (6, .int .i64 e6948.1), (8, .int .i64 e6997.1), (10, .slice a7748 n7748 c7748), (12, .int .i64 e8219.1), (13, .int .i64 e8219.2), (14, .slice a8560 n8560 c8560), (15, .int .i64 e8553.2), (17, .int .i64 e8562.2), (78, .bool s8579)]) (fun s8579 (_ : Unit) hh => St φ8557 h.n hh ([(ob8560, blk8560), (none, .dead), (ob7748, blk7748), (some b45, .cells [.int .i64 e34.Nodes, .slice a41 n41 c41, .slice a43 n43 c43] 29 .exact), (none, .dead), (none, .dead)])) 3 ?_ ?_
        · rintro s8579 _ t0 h8581 X8580
          refine lpure (v := .bool s8579) rfl (p_move rfl) rfl rfl ?_
          refine lsh (τ := Bool) (σ := Unit) (fun s8583 (_ : Unit) => [(2, .int .i64 e6855.1), (4, .int .i64 e6899.1), (6, .int .i64 e6948.1), (8, .int .i64 e6997.1), (10, .slice a7748 n7748 c7748), (12, .int .i64 e8219.1), (14, .slice a8560 n8560 c8560), (15, .int .i64 e8553.2), (17, .int .i64 e8562.2), (82, .bool s8583)]) (fun s8583 (_ : Unit) hh => St φ8557 h.n hh ([(ob8560, blk8560), (none, .dead), (ob7748, blk7748), (some b45, .cells [.int .i64 e34.Nodes, .slice a41 n41 c41, .slice a43 n43 c43] 29 .exact), (none, .dead), (none, .dead)])) 3 ?_ ?_
          · rintro s8583 _ t0 h8585 X8584
            refine lpure (v := .bool s8583) rfl (p_move rfl) rfl rfl ?_
            refine lsh (τ := Bool) (σ := Unit) (fun s8587 (_ : Unit) => [(2, .int .i64 e6855.1), (4, .int .i64 e6899.1), (6, .int .i64 e6948.1), (8, .int .i64 e6997.1), (10, .slice a7748 n7748 c7748), (12, .int .i64 e8219.1), (14, .slice a8560 n8560 c8560), (17, .int .i64 e8562.2), (86, .bool s8587)]) (fun s8587 (_ : Unit) hh => St φ8557 h.n hh ([(ob8560, blk8560), (none, .dead), (ob7748, blk7748), (some b45, .cells [.int .i64 e34.Nodes, .slice a41 n41 c41, .slice a43 n43 c43] 29 .exact), (none, .dead), (none, .dead)])) 3 ?_ ?_
            · rintro s8587 _ t0 h8589 X8588
              refine lpure (v := .bool s8587) rfl (p_assign rfl) rfl rfl ?_
              refine lend ?_
              refine nseq ?_
              refine dseq ?_
              refine dreg ?_
              refine lpure (v := .bool s8587) rfl (p_move rfl) rfl rfl ?_
              refine lpure (v := .bool s8587) rfl (p_move rfl) rfl rfl ?_
              refine lsh (τ := Bool) (σ := Unit) (fun s8591 (_ : Unit) => [(4, .int .i64 e6899.1), (6, .int .i64 e6948.1), (8, .int .i64 e6997.1), (10, .slice a7748 n7748 c7748), (12, .int .i64 e8219.1), (14, .slice a8560 n8560 c8560), (17, .int .i64 e8562.2), (91, .bool s8591)]) (fun s8591 (_ : Unit) hh => St φ8557 h.n hh ([(ob8560, blk8560), (none, .dead), (ob7748, blk7748), (some b45, .cells [.int .i64 e34.Nodes, .slice a41 n41 c41, .slice a43 n43 c43] 29 .exact), (none, .dead), (none, .dead)])) 3 ?_ ?_
              · rintro s8591 _ t0 h8593 X8592
                refine lpure (v := .bool s8591) rfl (p_move rfl) rfl rfl ?_
                refine lsh (τ := Bool) (σ := Unit) (fun s8595 (_ : Unit) => [(6, .int .i64 e6948.1), (8, .int .i64 e6997.1), (10, .slice a7748 n7748 c7748), (12, .int .i64 e8219.1), (14, .slice a8560 n8560 c8560), (17, .int .i64 e8562.2), (95, .bool s8595)]) (fun s8595 (_ : Unit) hh => St φ8557 h.n hh ([(ob8560, blk8560), (none, .dead), (ob7748, blk7748), (some b45, .cells [.int .i64 e34.Nodes, .slice a41 n41 c41, .slice a43 n43 c43] 29 .exact), (none, .dead), (none, .dead)])) 3 ?_ ?_
                · rintro s8595 _ t0 h8597 X8596
                  refine lpure (v := .bool s8595) rfl (p_move rfl) rfl rfl ?_
                  refine lsh (τ := Bool) (σ := Unit) (fun s8599 (_ : Unit) => [(8, .int .i64 e6997.1), (10, .slice a7748 n7748 c7748), (12, .int .i64 e8219.1), (14, .slice a8560 n8560 c8560), (17, .int .i64 e8562.2), (99, .bool s8599)]) (fun s8599 (_ : Unit) hh => St φ8557 h.n hh ([(ob8560, blk8560), (none, .dead), (ob7748, blk7748), (some b45, .cells [.int .i64 e34.Nodes, .slice a41 n41 c41, .slice a43 n43 c43] 29 .exact), (none, .dead), (none, .dead)])) 3 ?_ ?_
                  · rintro s8599 _ t0 h8601 X8600
                    refine lpure (v := .bool s8599) rfl (p_move rfl) rfl rfl ?_
                    refine lsh (τ := Bool) (σ := Unit) (fun s8603 (_ : Unit) => [(10, .slice a7748 n7748 c7748), (12, .int .i64 e8219.1), (14, .slice a8560 n8560 c8560), (17, .int .i64 e8562.2), (103, .bool s8603)]) (fun s8603 (_ : Unit) hh => St φ8557 h.n hh ([(ob8560, blk8560), (none, .dead), (ob7748, blk7748), (some b45, .cells [.int .i64 e34.Nodes, .slice a41 n41 c41, .slice a43 n43 c43] 29 .exact), (none, .dead), (none, .dead)])) 3 ?_ ?_
                    · rintro s8603 _ t0 h8605 X8604
                      refine lpure (v := .bool s8603) rfl (p_move rfl) rfl rfl ?_
                      refine ljoinM (τ := Bool) (σ := Unit) (fun s8673 (_ : Unit) => [(12, .int .i64 e8219.1), (14, .slice a8560 n8560 c8560), (17, .int .i64 e8562.2), (108, .bool s8673)]) (fun s8673 (_ : Unit) hh => St φ8557 h.n hh ([(ob8560, blk8560), (none, .dead), (ob7748, blk7748), (some b45, .cells [.int .i64 e34.Nodes, .slice a41 n41 c41, .slice a43 n43 c43] 29 .exact), (none, .dead), (none, .dead)])) 4 ?_ ?_
                      · rintro s8673 _ t0 h8675 X8674
                        refine lpure (v := .bool s8673) rfl (p_move rfl) rfl rfl ?_
                        refine lsh (τ := Bool) (σ := Unit) (fun s8677 (_ : Unit) => [(14, .slice a8560 n8560 c8560), (17, .int .i64 e8562.2), (112, .bool s8677)]) (fun s8677 (_ : Unit) hh => St φ8557 h.n hh ([(ob8560, blk8560), (none, .dead), (ob7748, blk7748), (some b45, .cells [.int .i64 e34.Nodes, .slice a41 n41 c41, .slice a43 n43 c43] 29 .exact), (none, .dead), (none, .dead)])) 3 ?_ ?_
                        · rintro s8677 _ t0 h8679 X8678
                          refine lpure (v := .bool s8677) rfl (p_move rfl) rfl rfl ?_
                          refine ljoinM (τ := Bool) (σ := Unit) (fun s8747 (_ : Unit) => [(17, .int .i64 e8562.2), (117, .bool s8747)]) (fun s8747 (_ : Unit) hh => St φ8557 h.n hh ([(ob8560, blk8560), (none, .dead), (ob7748, blk7748), (some b45, .cells [.int .i64 e34.Nodes, .slice a41 n41 c41, .slice a43 n43 c43] 29 .exact), (none, .dead), (none, .dead)])) 4 ?_ ?_
                          · rintro s8747 _ t0 h8749 X8748
                            refine lpure (v := .bool s8747) rfl (p_move rfl) rfl rfl ?_
                            refine lsh (τ := Bool) (σ := Unit) (fun s8751 (_ : Unit) => [(121, .bool s8751)]) (fun s8751 (_ : Unit) hh => St φ8557 h.n hh ([(ob8560, blk8560), (none, .dead), (ob7748, blk7748), (some b45, .cells [.int .i64 e34.Nodes, .slice a41 n41 c41, .slice a43 n43 c43] 29 .exact), (none, .dead), (none, .dead)])) 3 ?_ ?_
                            · rintro s8751 _ t0 h8753 X8752
                              refine lpure (v := .bool s8751) rfl (p_move rfl) rfl rfl ?_
                              refine ljoinM (τ := Bool) (σ := Unit) (fun s8760 (_ : Unit) => [(126, .bool s8760)]) (fun s8760 (_ : Unit) hh => St φ8557 h.n hh ([(ob8560, blk8560), (none, .dead), (ob7748, blk7748), (some b45, .cells [.int .i64 e34.Nodes, .slice a41 n41 c41, .slice a43 n43 c43] 29 .exact), (none, .dead), (none, .dead)])) 4 ?_ ?_
                              · rintro s8760 _ t0 h8762 X8761
                                refine lpure (v := .bool s8760) rfl (p_assign rfl) rfl rfl ?_
                                refine lend ?_
                                refine nseq ?_
                                refine dret ?_
                                exact kcut_r (res_1 resT) X8761 rfl rfl
                              · intro j8763 J8764
                                refine lif (i := 122) (show _ = Value.bool s8751 from rfl) (fun k8765 => ?_) (fun k8765 => ?_)
                                · refine lpure (v := .agg #[.int .i64 0, .slice none 0 0, .slice none 0 0]) rfl (p_build rfl) (build_st' tz_29 pl_29 rfl) rfl ?_
                                  refine lcall rfl rfl ca_9 rfl rfl (f9_ok X8752 ((ApiTopo.mk 0 [] [])) (.inl ⟨rfl, rfl⟩) (.inl ⟨rfl, rfl⟩)) rfl (fun e8766 v8767 h8768 hq8769 => ?_)
                                  cases hq8769
                                  refine lpure (v := .bool (decide (e8766 = 260))) rfl (p_eq rfl) rfl rfl ?_
                                  refine lpure (v := .bool (decide (e8766 = 260))) rfl (p_pick rfl) rfl rfl ?_
                                  exact ljmpM J8764 (decide (e8766 = 260)) () (sub_cons rfl sub_nil) (St.pick X8752 (.keep _ (.none _ (.skip _ (.keep _ (.keep _ (.none _ (.none _ (.nil _)))))))))
                                · refine lskip rfl rfl ?_
                                  refine lskip rfl rfl ?_
                                  refine lskip rfl rfl ?_
                                  refine lpure (v := .bool false) rfl (p_pick rfl) rfl rfl ?_
                                  exact ljmpM J8764 false () (sub_cons rfl sub_nil) (St.pick X8752 (.keep _ (.none _ (.skip _ (.keep _ (.keep _ (.none _ (.none _ (.nil _)))))))))
                            · intro j8770 J8771
                              refine lcase (i := 118) (show _ = Value.bool s8747 from rfl) (fun k8772 => ?_) (fun k8772 => ?_)
                              · refine lpure (v := .int .i64 e8562.2) rfl (p_move rfl) rfl rfl ?_
                                refine lpure (v := .bool (decide (e8562.2 = 2))) rfl (p_eq rfl) rfl rfl ?_
                                refine lpure (v := .bool (decide (e8562.2 = 2))) rfl (p_pick rfl) rfl rfl ?_
                                refine Sim.of_eq (congrArg j8770 (show (s8747 && (decide (e8562.2 = 2))) = (decide (e8562.2 = 2)) from by rw [k8772] <;> rfl)) ?_
                                exact ljmpM J8771 (decide (e8562.2 = 2)) () (sub_cons rfl sub_nil) (St.pick X8748 (.keep _ (.none _ (.skip _ (.keep _ (.keep _ (.none _ (.none _ (.nil _)))))))))
                              · refine lskip rfl rfl ?_
                                refine lskip rfl rfl ?_
                                refine lpure (v := .bool false) rfl (p_pick rfl) rfl rfl ?_
                                refine Sim.of_eq (congrArg j8770 (show (s8747 && (decide (e8562.2 = 2))) = false from by rw [k8772] <;> rfl)) ?_
                                exact ljmpM J8771 false () (sub_cons rfl sub_nil) (St.pick X8748 (.keep _ (.none _ (.skip _ (.keep _ (.keep _ (.none _ (.none _ (.nil _)))))))))
                          · intro j8773 J8774
                            refine lif (i := 113) (show _ = Value.bool s8677 from rfl) (fun k8775 => ?_) (fun k8775 => ?_)
                            · refine lpure (v := .slice a8560 n8560 c8560) rfl (p_move rfl) rfl rfl ?_
                              obtain ⟨h8776, b8776, hv8776, X8776, O8776⟩ := OSl.lay (E := eBool) (φ := φ8557) (cs := [.bool true, .bool true, .bool false, .bool false]) (l := [true, true, false, false]) (len := 4) (parts := [(0, .bool true), (1, .bool true), (2, .bool false), (3, .bool false)]) un_26 ts_4 rfl rfl rfl tz_4 rfl rfl (show RowD eBool φ8557 [.bool true, .bool true, .bool false, .bool false] [true, true, false, false] from ⟨[.bool true], _, rfl, rfl, ⟨[.bool true], _, rfl, rfl, ⟨[.bool false], _, rfl, rfl, ⟨[.bool false], _, rfl, rfl, rfl⟩⟩⟩⟩) rfl rfl X8678
                              refine lheap rfl (h_buildSlice rfl) hv8776 rfl ?_
                              obtain ⟨φ8778, g8779, X8780, H8781⟩ := OSl.freeze X8776 (j := 1) rfl O8560
                              obtain ⟨φ8782, g8783, X8784, H8785⟩ := OSl.freeze X8780 (j := 0) rfl (O8776.mono g8779)
                              refine lcall rfl rfl ca_33 rfl rfl (f33_ok X8784 (e8553.1) ([true, true, false, false]) (H8781.mono g8783) H8785) rfl (fun e8786 v8787 h8788 hq8789 => ?_)
                              cases hq8789
                              refine lpure (v := .bool e8786) rfl (p_pick rfl) rfl rfl ?_
                              exact ljmpM J8774 e8786 () (sub_cons rfl (sub_cons rfl sub_nil)) (St.pick X8776 (.skip _ (.keep _ (.none _ (.skip _ (.keep _ (.keep _ (.none _ (.none _ (.nil _))))))))))
                            · refine lskip rfl rfl ?_
                              refine lskip rfl rfl ?_
                              refine lskip rfl rfl ?_
                              refine lpure (v := .bool false) rfl (p_pick rfl) rfl rfl ?_
                              exact ljmpM J8774 false () (sub_cons rfl (sub_cons rfl sub_nil)) (St.pick X8678 (.keep _ (.none _ (.skip _ (.keep _ (.keep _ (.none _ (.none _ (.nil _)))))))))
                        · intro j8790 J8791
                          refine lcase (i := 109) (show _ = Value.bool s8673 from rfl) (fun k8792 => ?_) (fun k8792 => ?_)
                          · refine lpure (v := .int .i64 e8219.1) rfl (p_move rfl) rfl rfl ?_
                            refine lpure (v := .bool (decide (e8219.1 = 3))) rfl (p_eq rfl) rfl rfl ?_
                            refine lpure (v := .bool (decide (e8219.1 = 3))) rfl (p_pick rfl) rfl rfl ?_
                            refine Sim.of_eq (congrArg j8790 (show (s8673 && (decide (e8219.1 = 3))) = (decide (e8219.1 = 3)) from by rw [k8792] <;> rfl)) ?_
                            exact ljmpM J8791 (decide (e8219.1 = 3)) () (sub_cons rfl (sub_cons rfl (sub_cons rfl sub_nil))) (St.pick X8674 (.keep _ (.none _ (.skip _ (.keep _ (.keep _ (.none _ (.none _ (.nil _)))))))))
                          · refine lskip rfl rfl ?_
                            refine lskip rfl rfl ?_
                            refine lpure (v := .bool false) rfl (p_pick rfl) rfl rfl ?_
                            refine Sim.of_eq (congrArg j8790 (show (s8673 && (decide (e8219.1 = 3))) = false from by rw [k8792] <;> rfl)) ?_
                            exact ljmpM J8791 false () (sub_cons rfl (sub_cons rfl (sub_cons rfl sub_nil))) (St.pick X8674 (.keep _ (.none _ (.skip _ (.keep _ (.keep _ (.none _ (.none _ (.nil _)))))))))
                      · intro j8793 J8794
                        refine lif (i := 104) (show _ = Value.bool s8603 from rfl) (fun k8795 => ?_) (fun k8795 => ?_)
                        · refine lpure (v := .slice a7748 n7748 c7748) rfl (p_move rfl) rfl rfl ?_
                          obtain ⟨h8796, b8796, hv8796, X8796, O8796⟩ := OSl.lay (E := (eInt .i64)) (φ := φ8557) (cs := [.int .i64 1, .int .i64 2]) (l := [1, 2]) (len := 2) (parts := [(0, .int .i64 1), (1, .int .i64 2)]) un_33 ts_3 rfl rfl rfl tz_3 rfl rfl (show RowD (eInt .i64) φ8557 [.int .i64 1, .int .i64 2] [1, 2] from ⟨[.int .i64 1], _, rfl, rfl, ⟨[.int .i64 2], _, rfl, rfl, rfl⟩⟩) rfl rfl X8604
                          refine lheap rfl (h_buildSlice rfl) hv8796 rfl ?_
                          obtain ⟨φ8798, g8799, X8800, H8801⟩ := OSl.freeze X8796 (j := 3) rfl (O7748.mono (g8550.trans g8558))
                          obtain ⟨φ8802, g8803, X8804, H8805⟩ := OSl.freeze X8800 (j := 0) rfl (O8796.mono g8799)
                          refine lcall rfl rfl ca_28 rfl rfl (f28_ok X8804 (e7741.1) ([1, 2]) (H8801.mono g8803) H8805) rfl (fun e8806 v8807 h8808 hq8809 => ?_)
                          cases hq8809
                          refine lpure (v := .bool e8806) rfl (p_pick rfl) rfl rfl ?_
                          exact ljmpM J8794 e8806 () (sub_cons rfl (sub_cons rfl (sub_cons rfl (sub_cons rfl sub_nil)))) (St.pick X8796 (.skip _ (.keep _ (.none _ (.skip _ (.keep _ (.keep _ (.none _ (.none _ (.nil _))))))))))
                        · refine lskip rfl rfl ?_
                          refine lskip rfl rfl ?_
                          refine lskip rfl rfl ?_
                          refine lpure (v := .bool false) rfl (p_pick rfl) rfl rfl ?_
                          exact ljmpM J8794 false () (sub_cons rfl (sub_cons rfl (sub_cons rfl (sub_cons rfl sub_nil)))) (St.pick X8604 (.keep _ (.none _ (.skip _ (.keep _ (.keep _ (.none _ (.none _ (.nil _)))))))))
                    · intro j8810 J8811
                      refine lcase (i := 100) (show _ = Value.bool s8599 from rfl) (fun k8812 => ?_) (fun k8812 => ?_)
                      · refine lpure (v := .int .i64 e6997.1) rfl (p_move rfl) rfl rfl ?_
                        refine lpure (v := .bool (decide (e6997.1 = 7))) rfl (p_eq rfl) rfl rfl ?_
                        refine lpure (v := .bool (decide (e6997.1 = 7))) rfl (p_pick rfl) rfl rfl ?_
                        refine Sim.of_eq (congrArg j8810 (show (s8599 && (decide (e6997.1 = 7))) = (decide (e6997.1 = 7)) from by rw [k8812] <;> rfl)) ?_
                        exact ljmpM J8811 (decide (e6997.1 = 7)) () (sub_cons rfl (sub_cons rfl (sub_cons rfl (sub_cons rfl (sub_cons rfl sub_nil))))) (St.pick X8600 (.keep _ (.none _ (.skip _ (.keep _ (.keep _ (.none _ (.none _ (.nil _)))))))))
                      · refine lskip rfl rfl ?_
                        refine lskip rfl rfl ?_
                        refine lpure (v := .bool false) rfl (p_pick rfl) rfl rfl ?_
                        refine Sim.of_eq (congrArg j8810 (show (s8599 && (decide (e6997.1 = 7))) = false from by rw [k8812] <;> rfl)) ?_
                        exact ljmpM J8811 false () (sub_cons rfl (sub_cons rfl (sub_cons rfl (sub_cons rfl (sub_cons rfl sub_nil))))) (St.pick X8600 (.keep _ (.none _ (.skip _ (.keep _ (.keep _ (.none _ (.none _ (.nil _)))))))))
                  · intro j8813 J8814
                    refine lcase (i := 96) (show _ = Value.bool s8595 from rfl) (fun k8815 => ?_) (fun k8815 => ?_)
                    · refine lpure (v := .int .i64 e6948.1) rfl (p_move rfl) rfl rfl ?_
                      refine lpure (v := .bool (decide (e6948.1 = 80))) rfl (p_eq rfl) rfl rfl ?_
                      refine lpure (v := .bool (decide (e6948.1 = 80))) rfl (p_pick rfl) rfl rfl ?_
                      refine Sim.of_eq (congrArg j8813 (show (s8595 && (decide (e6948.1 = 80))) = (decide (e6948.1 = 80)) from by rw [k8815] <;> rfl)) ?_
                      exact ljmpM J8814 (decide (e6948.1 = 80)) () (sub_cons rfl (sub_cons rfl (sub_cons rfl (sub_cons rfl (sub_cons rfl (sub_cons rfl sub_nil)))))) (St.pick X8596 (.keep _ (.none _ (.skip _ (.keep _ (.keep _ (.none _ (.none _ (.nil _)))))))))
                    · refine lskip rfl rfl ?_
                      refine lskip rfl rfl ?_
                      refine lpure (v := .bool false) rfl (p_pick rfl) rfl rfl ?_
                      refine Sim.of_eq (congrArg j8813 (show (s8595 && (decide (e6948.1 = 80))) = false from by rw [k8815] <;> rfl)) ?_
                      exact ljmpM J8814 false () (sub_cons rfl (sub_cons rfl (sub_cons rfl (sub_cons rfl (sub_cons rfl (sub_cons rfl sub_nil)))))) (St.pick X8596 (.keep _ (.none _ (.skip _ (.keep _ (.keep _ (.none _ (.none _ (.nil _)))))))))
                · intro j8816 J8817
                  refine lcase (i := 92) (show _ = Value.bool s8591 from rfl) (fun k8818 => ?_) (fun k8818 => ?_)
                  · refine lpure (v := .int .i64 e6899.1) rfl (p_move rfl) rfl rfl ?_
                    refine lpure (v := .bool (decide (e6899.1 = 1))) rfl (p_eq rfl) rfl rfl ?_
                    refine lpure (v := .bool (decide (e6899.1 = 1))) rfl (p_pick rfl) rfl rfl ?_
                    refine Sim.of_eq (congrArg j8816 (show (s8591 && (decide (e6899.1 = 1))) = (decide (e6899.1 = 1)) from by rw [k8818] <;> rfl)) ?_
                    exact ljmpM J8817 (decide (e6899.1 = 1)) () (sub_cons rfl (sub_cons rfl (sub_cons rfl (sub_cons rfl (sub_cons rfl (sub_cons rfl (sub_cons rfl sub_nil))))))) (St.pick X8592 (.keep _ (.none _ (.skip _ (.keep _ (.keep _ (.none _ (.none _ (.nil _)))))))))
                  · refine lskip rfl rfl ?_
                    refine lskip rfl rfl ?_
                    refine lpure (v := .bool false) rfl (p_pick rfl) rfl rfl ?_
                    refine Sim.of_eq (congrArg j8816 (show (s8591 && (decide (e6899.1 = 1))) = false from by rw [k8818] <;> rfl)) ?_
                    exact ljmpM J8817 false () (sub_cons rfl (sub_cons rfl (sub_cons rfl (sub_cons rfl (sub_cons rfl (sub_cons rfl (sub_cons rfl sub_nil))))))) (St.pick X8592 (.keep _ (.none _ (.skip _ (.keep _ (.keep _ (.none _ (.none _ (.nil _)))))))))
              · intro j8819 J8820
                refine lcase (i := 88) (show _ = Value.bool s8587 from rfl) (fun k8821 => ?_) (fun k8821 => ?_)
                · refine lpure (v := .int .i64 e6855.1) rfl (p_move rfl) rfl rfl ?_
                  refine lpure (v := .bool (decide (e6855.1 = 0))) rfl (p_eq rfl) rfl rfl ?_
                  refine lpure (v := .bool (decide (e6855.1 = 0))) rfl (p_pick rfl) rfl rfl ?_
                  refine Sim.of_eq (congrArg j8819 (show (s8587 && (decide (e6855.1 = 0))) = (decide (e6855.1 = 0)) from by rw [k8821] <;> rfl)) ?_
                  exact ljmpM J8820 (decide (e6855.1 = 0)) () (sub_cons rfl (sub_cons rfl (sub_cons rfl (sub_cons rfl (sub_cons rfl (sub_cons rfl (sub_cons rfl (sub_cons rfl sub_nil)))))))) (St.pick X8588 (.keep _ (.none _ (.skip _ (.keep _ (.keep _ (.none _ (.none _ (.nil _)))))))))
                · refine lskip rfl rfl ?_
                  refine lskip rfl rfl ?_
                  refine lpure (v := .bool false) rfl (p_pick rfl) rfl rfl ?_
                  refine Sim.of_eq (congrArg j8819 (show (s8587 && (decide (e6855.1 = 0))) = false from by rw [k8821] <;> rfl)) ?_
                  exact ljmpM J8820 false () (sub_cons rfl (sub_cons rfl (sub_cons rfl (sub_cons rfl (sub_cons rfl (sub_cons rfl (sub_cons rfl (sub_cons rfl sub_nil)))))))) (St.pick X8588 (.keep _ (.none _ (.skip _ (.keep _ (.keep _ (.none _ (.none _ (.nil _)))))))))
            · intro j8822 J8823
              refine lcase (i := 83) (show _ = Value.bool s8583 from rfl) (fun k8824 => ?_) (fun k8824 => ?_)
              · refine lpure (v := .int .i64 e8553.2) rfl (p_move rfl) rfl rfl ?_
                refine lpure (v := .bool (decide (e8553.2 = 0))) rfl (p_eq rfl) rfl rfl ?_
                refine lpure (v := .bool (decide (e8553.2 = 0))) rfl (p_pick rfl) rfl rfl ?_
                refine Sim.of_eq (congrArg j8822 (show (s8583 && (decide (e8553.2 = 0))) = (decide (e8553.2 = 0)) from by rw [k8824] <;> rfl)) ?_
                exact ljmpM J8823 (decide (e8553.2 = 0)) () (sub_cons rfl (sub_cons rfl (sub_cons rfl (sub_cons rfl (sub_cons rfl (sub_cons rfl (sub_cons rfl (sub_cons rfl (sub_cons rfl sub_nil))))))))) (St.pick X8584 (.keep _ (.none _ (.skip _ (.keep _ (.keep _ (.none _ (.none _ (.nil _)))))))))
              · refine lskip rfl rfl ?_
                refine lskip rfl rfl ?_
                refine lpure (v := .bool false) rfl (p_pick rfl) rfl rfl ?_
                refine Sim.of_eq (congrArg j8822 (show (s8583 && (decide (e8553.2 = 0))) = false from by rw [k8824] <;> rfl)) ?_
                exact ljmpM J8823 false () (sub_cons rfl (sub_cons rfl (sub_cons rfl (sub_cons rfl (sub_cons rfl (sub_cons rfl (sub_cons rfl (sub_cons rfl (sub_cons rfl sub_nil))))))))) (St.pick X8584 (.keep _ (.none _ (.skip _ (.keep _ (.keep _ (.none _ (.none _ (.nil _)))))))))
          · intro j8825 J8826
            refine lcase (i := 79) (show _ = Value.bool s8579 from rfl) (fun k8827 => ?_) (fun k8827 => ?_)
            · refine lpure (v := .int .i64 e8219.2) rfl (p_move rfl) rfl rfl ?_
              refine lpure (v := .bool (decide (e8219.2 = 0))) rfl (p_eq rfl) rfl rfl ?_
              refine lpure (v := .bool (decide (e8219.2 = 0))) rfl (p_pick rfl) rfl rfl ?_
              refine Sim.of_eq (congrArg j8825 (show (s8579 && (decide (e8219.2 = 0))) = (decide (e8219.2 = 0)) from by rw [k8827] <;> rfl)) ?_
              exact ljmpM J8826 (decide (e8219.2 = 0)) () (sub_cons rfl (sub_cons rfl (sub_cons rfl (sub_cons rfl (sub_cons rfl (sub_cons rfl (sub_cons rfl (sub_cons rfl (sub_cons rfl (sub_cons rfl sub_nil)))))))))) (St.pick X8580 (.keep _ (.none _ (.skip _ (.keep _ (.keep _ (.none _ (.none _ (.nil _)))))))))
            · refine lskip rfl rfl ?_
              refine lskip rfl rfl ?_
              refine lpure (v := .bool false) rfl (p_pick rfl) rfl rfl ?_
              refine Sim.of_eq (congrArg j8825 (show (s8579 && (decide (e8219.2 = 0))) = false from by rw [k8827] <;> rfl)) ?_
              exact ljmpM J8826 false () (sub_cons rfl (sub_cons rfl (sub_cons rfl (sub_cons rfl (sub_cons rfl (sub_cons rfl (sub_cons rfl (sub_cons rfl (sub_cons rfl (sub_cons rfl sub_nil)))))))))) (St.pick X8580 (.keep _ (.none _ (.skip _ (.keep _ (.keep _ (.none _ (.none _ (.nil _)))))))))
        · intro j8828 J8829
          refine lcase (i := 75) (show _ = Value.bool s8575 from rfl) (fun k8830 => ?_) (fun k8830 => ?_)
          · refine lpure (v := .int .i64 e7741.2) rfl (p_move rfl) rfl rfl ?_
            refine lpure (v := .bool (decide (e7741.2 = 0))) rfl (p_eq rfl) rfl rfl ?_
            refine lpure (v := .bool (decide (e7741.2 = 0))) rfl (p_pick rfl) rfl rfl ?_
            refine Sim.of_eq (congrArg j8828 (show (s8575 && (decide (e7741.2 = 0))) = (decide (e7741.2 = 0)) from by rw [k8830] <;> rfl)) ?_
            exact ljmpM J8829 (decide (e7741.2 = 0)) () (sub_cons rfl (sub_cons rfl (sub_cons rfl (sub_cons rfl (sub_cons rfl (sub_cons rfl (sub_cons rfl (sub_cons rfl (sub_cons rfl (sub_cons rfl (sub_cons rfl sub_nil))))))))))) (St.pick X8576 (.keep _ (.none _ (.skip _ (.keep _ (.keep _ (.none _ (.none _ (.nil _)))))))))
          · refine lskip rfl rfl ?_
            refine lskip rfl rfl ?_
            refine lpure (v := .bool false) rfl (p_pick rfl) rfl rfl ?_
            refine Sim.of_eq (congrArg j8828 (show (s8575 && (decide (e7741.2 = 0))) = false from by rw [k8830] <;> rfl)) ?_
            exact ljmpM J8829 false () (sub_cons rfl (sub_cons rfl (sub_cons rfl (sub_cons rfl (sub_cons rfl (sub_cons rfl (sub_cons rfl (sub_cons rfl (sub_cons rfl (sub_cons rfl (sub_cons rfl sub_nil))))))))))) (St.pick X8576 (.keep _ (.none _ (.skip _ (.keep _ (.keep _ (.none _ (.none _ (.nil _)))))))))
      · intro j8831 J8832
        refine lcase (i := 71) (show _ = Value.bool s8571 from rfl) (fun k8833 => ?_) (fun k8833 => ?_)
        · refine lpure (v := .int .i64 e6997.2) rfl (p_move rfl) rfl rfl ?_
          refine lpure (v := .bool (decide (e6997.2 = 0))) rfl (p_eq rfl) rfl rfl ?_
          refine lpure (v := .bool (decide (e6997.2 = 0))) rfl (p_pick rfl) rfl rfl ?_
          refine Sim.of_eq (congrArg j8831 (show (s8571 && (decide (e6997.2 = 0))) = (decide (e6997.2 = 0)) from by rw [k8833] <;> rfl)) ?_
          exact ljmpM J8832 (decide (e6997.2 = 0)) () (sub_cons rfl (sub_cons rfl (sub_cons rfl (sub_cons rfl (sub_cons rfl (sub_cons rfl (sub_cons rfl (sub_cons rfl (sub_cons rfl (sub_cons rfl (sub_cons rfl (sub_cons rfl sub_nil)))))))))))) (St.pick X8572 (.keep _ (.none _ (.skip _ (.keep _ (.keep _ (.none _ (.none _ (.nil _)))))))))
        · refine lskip rfl rfl ?_
          refine lskip rfl rfl ?_
          refine lpure (v := .bool false) rfl (p_pick rfl) rfl rfl ?_
          refine Sim.of_eq (congrArg j8831 (show (s8571 && (decide (e6997.2 = 0))) = false from by rw [k8833] <;> rfl)) ?_
          exact ljmpM J8832 false () (sub_cons rfl (sub_cons rfl (sub_cons rfl (sub_cons rfl (sub_cons rfl (sub_cons rfl (sub_cons rfl (sub_cons rfl (sub_cons rfl (sub_cons rfl (sub_cons rfl (sub_cons rfl sub_nil)))))))))))) (St.pick X8572 (.keep _ (.none _ (.skip _ (.keep _ (.keep _ (.none _ (.none _ (.nil _)))))))))
    · intro j8834 J8835
      refine lcase (i := 67) (show _ = Value.bool s8567 from rfl) (fun k8836 => ?_) (fun k8836 => ?_)
      · refine lpure (v := .int .i64 e6948.2) rfl (p_move rfl) rfl rfl ?_
        refine lpure (v := .bool (decide (e6948.2 = 0))) rfl (p_eq rfl) rfl rfl ?_
        refine lpure (v := .bool (decide (e6948.2 = 0))) rfl (p_pick rfl) rfl rfl ?_
        refine Sim.of_eq (congrArg j8834 (show (s8567 && (decide (e6948.2 = 0))) = (decide (e6948.2 = 0)) from by rw [k8836] <;> rfl)) ?_
        exact ljmpM J8835 (decide (e6948.2 = 0)) () (sub_cons rfl (sub_cons rfl (sub_cons rfl (sub_cons rfl (sub_cons rfl (sub_cons rfl (sub_cons rfl (sub_cons rfl (sub_cons rfl (sub_cons rfl (sub_cons rfl (sub_cons rfl (sub_cons rfl sub_nil))))))))))))) (St.pick X8568 (.keep _ (.none _ (.skip _ (.keep _ (.keep _ (.none _ (.none _ (.nil _)))))))))
      · refine lskip rfl rfl ?_
        refine lskip rfl rfl ?_
        refine lpure (v := .bool false) rfl (p_pick rfl) rfl rfl ?_
        refine Sim.of_eq (congrArg j8834 (show (s8567 && (decide (e6948.2 = 0))) = false from by rw [k8836] <;> rfl)) ?_
        exact ljmpM J8835 false () (sub_cons rfl (sub_cons rfl (sub_cons rfl (sub_cons rfl (sub_cons rfl (sub_cons rfl (sub_cons rfl (sub_cons rfl (sub_cons rfl (sub_cons rfl (sub_cons rfl (sub_cons rfl (sub_cons rfl sub_nil))))))))))))) (St.pick X8568 (.keep _ (.none _ (.skip _ (.keep _ (.keep _ (.none _ (.none _ (.nil _)))))))))
  · intro j8837 J8838
    refine lcase (i := 63) (show _ = Value.bool (decide (e6855.2 = 0)) from rfl) (fun k8839 => ?_) (fun k8839 => ?_)
    · refine lpure (v := .int .i64 e6899.2) rfl (p_move rfl) rfl rfl ?_
      refine lpure (v := .bool (decide (e6899.2 = 0))) rfl (p_eq rfl) rfl rfl ?_
      refine lpure (v := .bool (decide (e6899.2 = 0))) rfl (p_pick rfl) rfl rfl ?_
      refine Sim.of_eq (congrArg j8837 (show ((decide (e6855.2 = 0)) && (decide (e6899.2 = 0))) = (decide (e6899.2 = 0)) from by rw [k8839] <;> rfl)) ?_
      exact ljmpM J8838 (decide (e6899.2 = 0)) () (sub_cons rfl (sub_cons rfl (sub_cons rfl (sub_cons rfl (sub_cons rfl (sub_cons rfl (sub_cons rfl (sub_cons rfl (sub_cons rfl (sub_cons rfl (sub_cons rfl (sub_cons rfl (sub_cons rfl (sub_cons rfl sub_nil)))))))))))))) (St.pick X8559 (.keep _ (.none _ (.skip _ (.keep _ (.keep _ (.none _ (.none _ (.nil _)))))))))
    · refine lskip rfl rfl ?_
      refine lskip rfl rfl ?_
      refine lpure (v := .bool false) rfl (p_pick rfl) rfl rfl ?_
      refine Sim.of_eq (congrArg j8837 (show ((decide (e6855.2 = 0)) && (decide (e6899.2 = 0))) = false from by rw [k8839] <;> rfl)) ?_
      exact ljmpM J8838 false () (sub_cons rfl (sub_cons rfl (sub_cons rfl (sub_cons rfl (sub_cons rfl (sub_cons rfl (sub_cons rfl (sub_cons rfl (sub_cons rfl (sub_cons rfl (sub_cons rfl (sub_cons rfl (sub_cons rfl (sub_cons rfl sub_nil)))))))))))))) (St.pick X8559 (.keep _ (.none _ (.skip _ (.keep _ (.keep _ (.none _ (.none _ (.nil _)))))))))
/-! isochron/isochronref16.pick -/
theorem f35_ok {n : Nat} {φ : Fz} {lo : Nat} {h : Heap} {own : OwnL}  {a8902 : Option Addr} {n8902 c8902 : Nat} (X : St φ lo h (own)) (p8901 : (List Int)) (p8903 : Int) (H8902 : RSl (eInt .u8) φ (.slice a8902 n8902 c8902) p8901) : Sim ((recN Try.prog LL cutF (n + 1)).call 35 #[(.slice a8902 n8902 c8902), (.int .i64 p8903)] h) (m_isochronref16_pick p8901 p8903) (fun (d : Int) p => p = (.int .i64 d, h)) := by
  refine fcut Try.func35 rfl rfl rfl rfl X ?_
  intro h0 X0
  refine dseq ?_
  refine dreg ?_
  refine lpure (v := .int .i64 0) rfl (p_assign rfl) rfl rfl ?_
  refine lend ?_
  refine nseq ?_
  refine dseq ?_
  refine dseq ?_
  refine dreg ?_
  refine lpure (v := .int .i64 p8903) rfl (p_move rfl) rfl rfl ?_
  refine lpure (v := .slice a8902 n8902 c8902) rfl (p_move rfl) rfl rfl ?_
  refine lpure (v := .int .i64 (p8901.length : Int)) rfl (p_len rfl rfl rfl un_22 rfl) (RSl.lenC H8902) rfl ?_
  refine lpure (v := .bool (decide (p8903 < (p8901.length : Int)))) rfl (p_lt rfl) rfl rfl ?_
  refine lend ?_
  refine nseq ?_
  refine dcond rfl rfl (fun k8904 => ?_) (fun k8904 => ?_)
  · refine dseq ?_
    refine dreg ?_
    refine lpure (v := .slice a8902 n8902 c8902) rfl (p_move rfl) rfl rfl ?_
    refine lpure (v := .int .i64 p8903) rfl (p_move rfl) rfl rfl ?_
    refine Sim.bindM fun e8905 he8906 => ?_
    obtain ⟨p8907, cs8907, hp8907, hF8907, hR8907⟩ := RSl.ia H8902 he8906 (kd := .i64) (n := 1) rfl
    have hR8907 : _ = [(.int .u8 e8905 : Value)] := hR8907
    subst hR8907
    refine lpure (v := p8907) rfl (p_ia rs_22 rfl) hp8907 rfl ?_
    refine lread (v := .int .u8 e8905) rfl (q_load wd_5 rfl) (FP.ld X0 hF8907) rfl ?_
    refine lpure (v := .int .i64 (w64 e8905)) rfl (p_conv un_5 un_3 rfl) rfl rfl ?_
    refine lpure (v := .int .i64 (w64 e8905)) rfl (p_assign rfl) rfl rfl ?_
    refine lend ?_
    refine nseq ?_
    refine dret ?_
    refine rseq ?_
    exact kcut_r (res_1 resT) X0 rfl rfl
  · refine dskip ?_
    refine nseq ?_
    refine dseq ?_
    refine dreg ?_
    refine lpure (v := .int .i64 0) rfl (p_assign rfl) rfl rfl ?_
    refine lend ?_
    refine nseq ?_
    refine dret ?_
    exact kcut_r (res_1 resT) X0 rfl rfl
/-! isochron/isochronref16.node -/
theorem f107_ok {n : Nat} {φ : Fz} {lo : Nat} {h : Heap} {own : OwnL}  {a8938 : Option Addr} {n8938 c8938 : Nat} {a8939 : Option Addr} {n8939 c8939 : Nat} (X : St φ lo h (own)) (p8937 : ApiTopo) (p8940 : Int) (H8938 : RSl eBool φ (.slice a8938 n8938 c8938) p8937.Station) (H8939 : RSl eApiLink φ (.slice a8939 n8939 c8939) p8937.Links) : Sim ((recN Try.prog LL cutF (n + 1)).call 107 #[(.agg #[.int .i64 p8937.Nodes, .slice a8938 n8938 c8938, .slice a8939 n8939 c8939]), (.int .i64 p8940)] h) (m_isochronref16_node p8937 p8940) (fun (d : Bool) p => p = (.bool d, h)) := by
  refine fcut Try.func107 rfl rfl rfl rfl X ?_
  intro h0 X0
  refine dseq ?_
  refine dreg ?_
  refine lbox rfl rfl rfl rfl rfl X0 (fun b8941 h8943 X8944 => ?_)
  refine lpure (v := .bool false) rfl (p_assign rfl) rfl rfl ?_
  refine lend ?_
  refine nseq ?_
  refine dseq ?_
  refine dreg ?_
  refine lpure (v := .int .i64 p8940) rfl (p_move rfl) rfl rfl ?_
  refine lpure (v := .bool (decide (0 ≤ p8940))) rfl (p_ge rfl) rfl rfl ?_
  refine lpure (v := .bool (decide (0 ≤ p8940))) rfl (p_move rfl) rfl rfl ?_
  refine lsh (τ := Bool) (σ := Unit) (fun s8946 (_ : Unit) => [(12, .bool s8946)]) (fun s8946 (_ : Unit) hh => St φ h.n hh ([(some b8941, .cells [.int .i64 p8937.Nodes, .slice a8938 n8938 c8938, .slice a8939 n8939 c8939] 29 .exact)])) 5 ?_ ?_
  · rintro s8946 _ t0 h8948 X8947
    refine lpure (v := .bool s8946) rfl (p_assign rfl) rfl rfl ?_
    refine lend ?_
    refine nseq ?_
    refine dret ?_
    exact kcut_r (res_1 resT) X8947 rfl rfl
  · intro j8949 J8950
    refine lcase (i := 7) (show _ = Value.bool (decide (0 ≤ p8940)) from rfl) (fun k8951 => ?_) (fun k8951 => ?_)
    · refine lpure (v := .int .i64 p8940) rfl (p_move rfl) rfl rfl ?_
      refine lpure (v := .pointer (some ⟨b8941, 0, none⟩)) rfl (p_fa fo_29_0 rfl) rfl rfl ?_
      refine lread (v := .int .i64 p8937.Nodes) rfl (q_load wd_3 rfl) (St.ld X8944 (j := 0) rfl rfl) rfl ?_
      refine lpure (v := .bool (decide (p8940 < p8937.Nodes))) rfl (p_lt rfl) rfl rfl ?_
      refine lpure (v := .bool (decide (p8940 < p8937.Nodes))) rfl (p_pick rfl) rfl rfl ?_
      refine Sim.of_eq (congrArg j8949 (show ((decide (0 ≤ p8940)) && (decide (p8940 < p8937.Nodes))) = (decide (p8940 < p8937.Nodes)) from by rw [k8951] <;> rfl)) ?_
      exact ljmpM J8950 (decide (p8940 < p8937.Nodes)) () (sub_cons rfl sub_nil) X8944
    · refine lskip rfl rfl ?_
      refine lskip rfl rfl ?_
      refine lskip rfl rfl ?_
      refine lskip rfl rfl ?_
      refine lpure (v := .bool false) rfl (p_pick rfl) rfl rfl ?_
      refine Sim.of_eq (congrArg j8949 (show ((decide (0 ≤ p8940)) && (decide (p8940 < p8937.Nodes))) = false from by rw [k8951] <;> rfl)) ?_
      exact ljmpM J8950 false () (sub_cons rfl sub_nil) X8944
/-! isochron/isochronref16.link -/
theorem f75_ok {n : Nat} {φ : Fz} {lo : Nat} {h : Heap} {own : OwnL}  {a8926 : Option Addr} {n8926 c8926 : Nat} {a8927 : Option Addr} {n8927 c8927 : Nat} (X : St φ lo h (own)) (p8925 : ApiTopo) (p8928 : ApiLink) (H8926 : RSl eBool φ (.slice a8926 n8926 c8926) p8925.Station) (H8927 : RSl eApiLink φ (.slice a8927 n8927 c8927) p8925.Links) : Sim ((recN Try.prog LL cutF (n + 2)).call 75 #[(.agg #[.int .i64 p8925.Nodes, .slice a8926 n8926 c8926, .slice a8927 n8927 c8927]), (.agg #[.int .i64 p8928.A, .int .i64 p8928.B, .int .i64 p8928.Per, .int .i64 p8928.Delay])] h) (m_isochronref16_link p8925 p8928) (fun (d : Bool) p => p = (.bool d, h)) := by
  refine fcut Try.func75 rfl rfl rfl rfl X ?_
  intro h0 X0
  refine dseq ?_
  refine dreg ?_
  refine lbox rfl rfl rfl rfl rfl X0 (fun b8929 h8931 X8932 => ?_)
  refine lbox rfl rfl rfl rfl rfl X8932 (fun b8933 h8935 X8936 => ?_)
  refine lpure (v := .bool false) rfl (p_assign rfl) rfl rfl ?_
  refine lend ?_
  refine nseq ?_
  refine dseq ?_
  refine dseq ?_
  refine dreg ?_
  refine lread (v := .agg #[.int .i64 p8925.Nodes, .slice a8926 n8926 c8926, .slice a8927 n8927 c8927]) rfl (q_load wd_29 rfl) (St.ld X8936 (j := 1) rfl rfl) rfl ?_
  refine lpure (v := .pointer (some ⟨b8933, 0, none⟩)) rfl (p_fa fo_75_0 rfl) rfl rfl ?_
  refine lread (v := .int .i64 p8928.A) rfl (q_load wd_3 rfl) (St.ld X8936 (j := 0) rfl rfl) rfl ?_
  refine lcall rfl rfl ca_107 rfl rfl (f107_ok X8936 p8925 (p8928.A) H8926 H8927) rfl (fun e8952 v8953 h8954 hq8955 => ?_)
  cases hq8955
  refine lpure (v := .bool (!e8952)) rfl (p_not rfl) rfl rfl ?_
  refine lpure (v := .bool (!e8952)) rfl (p_move rfl) rfl rfl ?_
  refine ljoinM (τ := Bool) (σ := Unit) (fun s8962 (_ : Unit) => [(2, .pointer (some ⟨b8929, 0, none⟩)), (3, .pointer (some ⟨b8933, 0, none⟩)), (16, .bool s8962)]) (fun s8962 (_ : Unit) hh => St φ h.n hh ([(some b8933, .cells [.int .i64 p8928.A, .int .i64 p8928.B, .int .i64 p8928.Per, .int .i64 p8928.Delay] 75 .exact), (some b8929, .cells [.int .i64 p8925.Nodes, .slice a8926 n8926 c8926, .slice a8927 n8927 c8927] 29 .exact)])) 6 ?_ ?_
  · rintro s8962 _ t0 h8964 X8963
    refine lpure (v := .bool s8962) rfl (p_move rfl) rfl rfl ?_
    refine lsh (τ := Bool) (σ := Unit) (fun s8966 (_ : Unit) => [(2, .pointer (some ⟨b8929, 0, none⟩)), (3, .pointer (some ⟨b8933, 0, none⟩)), (23, .bool s8966)]) (fun s8966 (_ : Unit) hh => St φ h.n hh ([(some b8933, .cells [.int .i64 p8928.A, .int .i64 p8928.B, .int .i64 p8928.Per, .int .i64 p8928.Delay] 75 .exact), (some b8929, .cells [.int .i64 p8925.Nodes, .slice a8926 n8926 c8926, .slice a8927 n8927 c8927] 29 .exact)])) 6 ?_ ?_
    · rintro s8966 _ t0 h8968 X8967
      refine lpure (v := .bool s8966) rfl (p_move rfl) rfl rfl ?_
      refine ljoinM (τ := Bool) (σ := Unit) (fun s8978 (_ : Unit) => [(3, .pointer (some ⟨b8933, 0, none⟩)), (39, .bool s8978)]) (fun s8978 (_ : Unit) hh => St φ h.n hh ([(some b8933, .cells [.int .i64 p8928.A, .int .i64 p8928.B, .int .i64 p8928.Per, .int .i64 p8928.Delay] 75 .exact), (some b8929, .cells [.int .i64 p8925.Nodes, .slice a8926 n8926 c8926, .slice a8927 n8927 c8927] 29 .exact)])) 15 ?_ ?_
      · rintro s8978 _ t0 h8980 X8979
        refine lend ?_
        refine nseq ?_
        refine dcond rfl rfl (fun k8981 => ?_) (fun k8981 => ?_)
        · refine dseq ?_
          refine dreg ?_
          refine lpure (v := .bool false) rfl (p_assign rfl) rfl rfl ?_
          refine lend ?_
          refine nseq ?_
          refine dret ?_
          refine rseq ?_
          exact kcut_r (res_1 resT) X8979 rfl rfl
        · refine dskip ?_
          refine nseq ?_
          refine dseq ?_
          refine dreg ?_
          refine lpure (v := .pointer (some ⟨b8933, 2, none⟩)) rfl (p_fa fo_75_2 rfl) rfl rfl ?_
          refine lread (v := .int .i64 p8928.Per) rfl (q_load wd_3 rfl) (St.ld X8979 (j := 0) rfl rfl) rfl ?_
          refine lpure (v := .bool (decide (1 ≤ p8928.Per))) rfl (p_ge rfl) rfl rfl ?_
          refine lpure (v := .bool (decide (1 ≤ p8928.Per))) rfl (p_move rfl) rfl rfl ?_
          refine lsh (τ := Bool) (σ := Unit) (fun s8983 (_ : Unit) => [(3, .pointer (some ⟨b8933, 0, none⟩)), (47, .bool s8983)]) (fun s8983 (_ : Unit) hh => St φ h.n hh ([(some b8933, .cells [.int .i64 p8928.A, .int .i64 p8928.B, .int .i64 p8928.Per, .int .i64 p8928.Delay] 75 .exact), (some b8929, .cells [.int .i64 p8925.Nodes, .slice a8926 n8926 c8926, .slice a8927 n8927 c8927] 29 .exact)])) 4 ?_ ?_
          · rintro s8983 _ t0 h8985 X8984
            refine lpure (v := .bool s8983) rfl (p_move rfl) rfl rfl ?_
            refine lsh (τ := Bool) (σ := Unit) (fun s8987 (_ : Unit) => [(3, .pointer (some ⟨b8933, 0, none⟩)), (52, .bool s8987)]) (fun s8987 (_ : Unit) hh => St φ h.n hh ([(some b8933, .cells [.int .i64 p8928.A, .int .i64 p8928.B, .int .i64 p8928.Per, .int .i64 p8928.Delay] 75 .exact), (some b8929, .cells [.int .i64 p8925.Nodes, .slice a8926 n8926 c8926, .slice a8927 n8927 c8927] 29 .exact)])) 4 ?_ ?_
            · rintro s8987 _ t0 h8989 X8988
              refine lpure (v := .bool s8987) rfl (p_move rfl) rfl rfl ?_
              refine lsh (τ := Bool) (σ := Unit) (fun s8991 (_ : Unit) => [(57, .bool s8991)]) (fun s8991 (_ : Unit) hh => St φ h.n hh ([(some b8933, .cells [.int .i64 p8928.A, .int .i64 p8928.B, .int .i64 p8928.Per, .int .i64 p8928.Delay] 75 .exact), (some b8929, .cells [.int .i64 p8925.Nodes, .slice a8926 n8926 c8926, .slice a8927 n8927 c8927] 29 .exact)])) 4 ?_ ?_
              · rintro s8991 _ t0 h8993 X8992
                refine lpure (v := .bool s8991) rfl (p_assign rfl) rfl rfl ?_
                refine lend ?_
                refine nseq ?_
                refine dret ?_
                exact kcut_r (res_1 resT) X8992 rfl rfl
              · intro j8994 J8995
                refine lcase (i := 53) (show _ = Value.bool s8987 from rfl) (fun k8996 => ?_) (fun k8996 => ?_)
                · refine lpure (v := .pointer (some ⟨b8933, 3, none⟩)) rfl (p_fa fo_75_3 rfl) rfl rfl ?_
                  refine lread (v := .int .i64 p8928.Delay) rfl (q_load wd_3 rfl) (St.ld X8988 (j := 0) rfl rfl) rfl ?_
                  refine lpure (v := .bool (decide (p8928.Delay ≤ 10000))) rfl (p_le rfl) rfl rfl ?_
                  refine lpure (v := .bool (decide (p8928.Delay ≤ 10000))) rfl (p_pick rfl) rfl rfl ?_
                  refine Sim.of_eq (congrArg j8994 (show (s8987 && (decide (p8928.Delay ≤ 10000))) = (decide (p8928.Delay ≤ 10000)) from by rw [k8996] <;> rfl)) ?_
                  exact ljmpM J8995 (decide (p8928.Delay ≤ 10000)) () (sub_cons rfl sub_nil) X8988
                · refine lskip rfl rfl ?_
                  refine lskip rfl rfl ?_
                  refine lskip rfl rfl ?_
                  refine lpure (v := .bool false) rfl (p_pick rfl) rfl rfl ?_
                  refine Sim.of_eq (congrArg j8994 (show (s8987 && (decide (p8928.Delay ≤ 10000))) = false from by rw [k8996] <;> rfl)) ?_
                  exact ljmpM J8995 false () (sub_cons rfl sub_nil) X8988
            · intro j8997 J8998
              refine lcase (i := 48) (show _ = Value.bool s8983 from rfl) (fun k8999 => ?_) (fun k8999 => ?_)
              · refine lpure (v := .pointer (some ⟨b8933, 3, none⟩)) rfl (p_fa fo_75_3 rfl) rfl rfl ?_
                refine lread (v := .int .i64 p8928.Delay) rfl (q_load wd_3 rfl) (St.ld X8984 (j := 0) rfl rfl) rfl ?_
                refine lpure (v := .bool (decide (0 ≤ p8928.Delay))) rfl (p_ge rfl) rfl rfl ?_
                refine lpure (v := .bool (decide (0 ≤ p8928.Delay))) rfl (p_pick rfl) rfl rfl ?_
                refine Sim.of_eq (congrArg j8997 (show (s8983 && (decide (0 ≤ p8928.Delay))) = (decide (0 ≤ p8928.Delay)) from by rw [k8999] <;> rfl)) ?_
                exact ljmpM J8998 (decide (0 ≤ p8928.Delay)) () (sub_cons rfl (sub_cons rfl sub_nil)) X8984
              · refine lskip rfl rfl ?_
                refine lskip rfl rfl ?_
                refine lskip rfl rfl ?_
                refine lpure (v := .bool false) rfl (p_pick rfl) rfl rfl ?_
                refine Sim.of_eq (congrArg j8997 (show (s8983 && (decide (0 ≤ p8928.Delay))) = false from by rw [k8999] <;> rfl)) ?_
                exact ljmpM J8998 false () (sub_cons rfl (sub_cons rfl sub_nil)) X8984
          · intro j9000 J9001
            refine lcase (i := 43) (show _ = Value.bool (decide (1 ≤ p8928.Per)) from rfl) (fun k9002 => ?_) (fun k9002 => ?_)
            · refine lpure (v := .pointer (some ⟨b8933, 2, none⟩)) rfl (p_fa fo_75_2 rfl) rfl rfl ?_
              refine lread (v := .int .i64 p8928.Per) rfl (q_load wd_3 rfl) (St.ld X8979 (j := 0) rfl rfl) rfl ?_
              refine lpure (v := .bool (decide (p8928.Per ≤ 1000))) rfl (p_le rfl) rfl rfl ?_
              refine lpure (v := .bool (decide (p8928.Per ≤ 1000))) rfl (p_pick rfl) rfl rfl ?_
              refine Sim.of_eq (congrArg j9000 (show ((decide (1 ≤ p8928.Per)) && (decide (p8928.Per ≤ 1000))) = (decide (p8928.Per ≤ 1000)) from by rw [k9002] <;> rfl)) ?_
              exact ljmpM J9001 (decide (p8928.Per ≤ 1000)) () (sub_cons rfl (sub_cons rfl sub_nil)) X8979
            · refine lskip rfl rfl ?_
              refine lskip rfl rfl ?_
              refine lskip rfl rfl ?_
              refine lpure (v := .bool false) rfl (p_pick rfl) rfl rfl ?_
              refine Sim.of_eq (congrArg j9000 (show ((decide (1 ≤ p8928.Per)) && (decide (p8928.Per ≤ 1000))) = false from by rw [k9002] <;> rfl)) ?_
              exact ljmpM J9001 false () (sub_cons rfl (sub_cons rfl sub_nil)) X8979
      · intro j9003 J9004
        refine lif (i := 24) (show _ = Value.bool s8966 from rfl) (fun k9005 => ?_) (fun k9005 => ?_)
        · refine lskip rfl rfl ?_
          refine lskip rfl rfl ?_
          refine lskip rfl rfl ?_
          refine lskip rfl rfl ?_
          refine lskip rfl rfl ?_
          refine lskip rfl rfl ?_
          refine lskip rfl rfl ?_
          refine lskip rfl rfl ?_
          refine lskip rfl rfl ?_
          refine lskip rfl rfl ?_
          refine lskip rfl rfl ?_
          refine lskip rfl rfl ?_
          refine lskip rfl rfl ?_
          refine lskip rfl rfl ?_
          refine lpure (v := .bool true) rfl (p_pick rfl) rfl rfl ?_
          exact ljmpM J9004 true () (sub_cons rfl (sub_cons rfl sub_nil)) X8967
        · refine lpure (v := .pointer (some ⟨b8929, 1, none⟩)) rfl (p_fa fo_29_1 rfl) rfl rfl ?_
          refine lread (v := .slice a8926 n8926 c8926) rfl (q_load wd_26 rfl) (St.ld X8967 (j := 1) rfl rfl) rfl ?_
          refine lpure (v := .pointer (some ⟨b8933, 0, none⟩)) rfl (p_fa fo_75_0 rfl) rfl rfl ?_
          refine lread (v := .int .i64 p8928.A) rfl (q_load wd_3 rfl) (St.ld X8967 (j := 0) rfl rfl) rfl ?_
          refine Sim.bindM fun e9006 he9007 => ?_
          obtain ⟨p9008, cs9008, hp9008, hF9008, hR9008⟩ := RSl.ia H8926 he9007 (kd := .i64) (n := 1) rfl
          have hR9008 : _ = [(.bool e9006 : Value)] := hR9008
          subst hR9008
          refine lpure (v := p9008) rfl (p_ia rs_26 rfl) hp9008 rfl ?_
          refine lread (v := .bool e9006) rfl (q_load wd_4 rfl) (FP.ld X8967 hF9008) rfl ?_
          refine lpure (v := .bool e9006) rfl (p_move rfl) rfl rfl ?_
          refine lif (i := 31) (show _ = Value.bool e9006 from rfl) (fun k9009 => ?_) (fun k9009 => ?_)
          · refine lpure (v := .pointer (some ⟨b8929, 1, none⟩)) rfl (p_fa fo_29_1 rfl) rfl rfl ?_
            refine lread (v := .slice a8926 n8926 c8926) rfl (q_load wd_26 rfl) (St.ld X8967 (j := 1) rfl rfl) rfl ?_
            refine lpure (v := .pointer (some ⟨b8933, 1, none⟩)) rfl (p_fa fo_75_1 rfl) rfl rfl ?_
            refine lread (v := .int .i64 p8928.B) rfl (q_load wd_3 rfl) (St.ld X8967 (j := 0) rfl rfl) rfl ?_
            refine Sim.bindM fun e9010 he9011 => ?_
            obtain ⟨p9012, cs9012, hp9012, hF9012, hR9012⟩ := RSl.ia H8926 he9011 (kd := .i64) (n := 1) rfl
            have hR9012 : _ = [(.bool e9010 : Value)] := hR9012
            subst hR9012
            refine lpure (v := p9012) rfl (p_ia rs_26 rfl) hp9012 rfl ?_
            refine lread (v := .bool e9010) rfl (q_load wd_4 rfl) (FP.ld X8967 hF9012) rfl ?_
            refine lpure (v := .bool e9010) rfl (p_pick rfl) rfl rfl ?_
            refine lpure (v := .bool e9010) rfl (p_pick rfl) rfl rfl ?_
            exact ljmpM J9004 e9010 () (sub_cons rfl (sub_cons rfl sub_nil)) X8967
          · refine lskip rfl rfl ?_
            refine lskip rfl rfl ?_
            refine lskip rfl rfl ?_
            refine lskip rfl rfl ?_
            refine lskip rfl rfl ?_
            refine lskip rfl rfl ?_
            refine lpure (v := .bool false) rfl (p_pick rfl) rfl rfl ?_
            refine lpure (v := .bool false) rfl (p_pick rfl) rfl rfl ?_
            exact ljmpM J9004 false () (sub_cons rfl (sub_cons rfl sub_nil)) X8967
    · intro j9013 J9014
      refine lcase (i := 17) (show _ = Value.bool s8962 from rfl) (fun k9015 => ?_) (fun k9015 => ?_)
      · refine lskip rfl rfl ?_
        refine lskip rfl rfl ?_
        refine lskip rfl rfl ?_
        refine lskip rfl rfl ?_
        refine lskip rfl rfl ?_
        refine lpure (v := .bool true) rfl (p_pick rfl) rfl rfl ?_
        refine Sim.of_eq (congrArg j9013 (show (s8962 || (decide (p8928.A = p8928.B))) = true from by rw [k9015] <;> rfl)) ?_
        exact ljmpM J9014 true () (sub_cons rfl (sub_cons rfl (sub_cons rfl sub_nil))) X8963
      · refine lpure (v := .pointer (some ⟨b8933, 0, none⟩)) rfl (p_fa fo_75_0 rfl) rfl rfl ?_
        refine lread (v := .int .i64 p8928.A) rfl (q_load wd_3 rfl) (St.ld X8963 (j := 0) rfl rfl) rfl ?_
        refine lpure (v := .pointer (some ⟨b8933, 1, none⟩)) rfl (p_fa fo_75_1 rfl) rfl rfl ?_
        refine lread (v := .int .i64 p8928.B) rfl (q_load wd_3 rfl) (St.ld X8963 (j := 0) rfl rfl) rfl ?_
        refine lpure (v := .bool (decide (p8928.A = p8928.B))) rfl (p_eq rfl) rfl rfl ?_
        refine lpure (v := .bool (decide (p8928.A = p8928.B))) rfl (p_pick rfl) rfl rfl ?_
        refine Sim.of_eq (congrArg j9013 (show (s8962 || (decide (p8928.A = p8928.B))) = (decide (p8928.A = p8928.B)) from by rw [k9015] <;> rfl)) ?_
        exact ljmpM J9014 (decide (p8928.A = p8928.B)) () (sub_cons rfl (sub_cons rfl (sub_cons rfl sub_nil))) X8963
  · intro j9016 J9017
    refine lif (i := 10) (show _ = Value.bool (!e8952) from rfl) (fun k9018 => ?_) (fun k9018 => ?_)
    · refine lskip rfl rfl ?_
      refine lskip rfl rfl ?_
      refine lskip rfl rfl ?_
      refine lskip rfl rfl ?_
      refine lskip rfl rfl ?_
      refine lpure (v := .bool true) rfl (p_pick rfl) rfl rfl ?_
      exact ljmpM J9017 true () (sub_cons rfl (sub_cons rfl (sub_cons rfl sub_nil))) X8936
    · refine lread (v := .agg #[.int .i64 p8925.Nodes, .slice a8926 n8926 c8926, .slice a8927 n8927 c8927]) rfl (q_load wd_29 rfl) (St.ld X8936 (j := 1) rfl rfl) rfl ?_
      refine lpure (v := .pointer (some ⟨b8933, 1, none⟩)) rfl (p_fa fo_75_1 rfl) rfl rfl ?_
      refine lread (v := .int .i64 p8928.B) rfl (q_load wd_3 rfl) (St.ld X8936 (j := 0) rfl rfl) rfl ?_
      refine lcall rfl rfl ca_107 rfl rfl (f107_ok X8936 p8925 (p8928.B) H8926 H8927) rfl (fun e9019 v9020 h9021 hq9022 => ?_)
      cases hq9022
      refine lpure (v := .bool (!e9019)) rfl (p_not rfl) rfl rfl ?_
      refine lpure (v := .bool (!e9019)) rfl (p_pick rfl) rfl rfl ?_
      exact ljmpM J9017 (!e9019) () (sub_cons rfl (sub_cons rfl (sub_cons rfl sub_nil))) X8936
/-! isochron/isochronref16.Joins -/
theorem f76_ok {n : Nat} {φ : Fz} {lo : Nat} {h : Heap} {own : OwnL}  (X : St φ lo h (own)) (p9040 : ApiLink) (p9041 : Int) (p9042 : Int) : Sim ((recN Try.prog LL cutF (n + 1)).call 76 #[(.agg #[.int .i64 p9040.A, .int .i64 p9040.B, .int .i64 p9040.Per, .int .i64 p9040.Delay]), (.int .i64 p9041), (.int .i64 p9042)] h) (m_isochronref16_Joins p9040 p9041 p9042) (fun (d : Bool) p => p = (.bool d, h)) := by
  refine fcut Try.func76 rfl rfl rfl rfl X ?_
  intro h0 X0
  refine dseq ?_
  refine dreg ?_
  refine lbox rfl rfl rfl rfl rfl X0 (fun b9043 h9045 X9046 => ?_)
  refine lpure (v := .bool false) rfl (p_assign rfl) rfl rfl ?_
  refine lend ?_
  refine nseq ?_
  refine dseq ?_
  refine dreg ?_
  refine lpure (v := .pointer (some ⟨b9043, 0, none⟩)) rfl (p_fa fo_75_0 rfl) rfl rfl ?_
  refine lread (v := .int .i64 p9040.A) rfl (q_load wd_3 rfl) (St.ld X9046 (j := 0) rfl rfl) rfl ?_
  refine lpure (v := .int .i64 p9041) rfl (p_move rfl) rfl rfl ?_
  refine lpure (v := .bool (decide (p9040.A = p9041))) rfl (p_eq rfl) rfl rfl ?_
  refine lpure (v := .bool (decide (p9040.A = p9041))) rfl (p_move rfl) rfl rfl ?_
  refine lsh (τ := Bool) (σ := Unit) (fun s9048 (_ : Unit) => [(1, .int .i64 p9041), (2, .int .i64 p9042), (3, .pointer (some ⟨b9043, 0, none⟩)), (16, .bool s9048)]) (fun s9048 (_ : Unit) hh => St φ h.n hh ([(some b9043, .cells [.int .i64 p9040.A, .int .i64 p9040.B, .int .i64 p9040.Per, .int .i64 p9040.Delay] 75 .exact)])) 5 ?_ ?_
  · rintro s9048 _ t0 h9050 X9049
    refine lpure (v := .bool s9048) rfl (p_move rfl) rfl rfl ?_
    refine lsh (τ := Bool) (σ := Unit) (fun s9052 (_ : Unit) => [(28, .bool s9052)]) (fun s9052 (_ : Unit) hh => St φ h.n hh ([(some b9043, .cells [.int .i64 p9040.A, .int .i64 p9040.B, .int .i64 p9040.Per, .int .i64 p9040.Delay] 75 .exact)])) 11 ?_ ?_
    · rintro s9052 _ t0 h9054 X9053
      refine lpure (v := .bool s9052) rfl (p_assign rfl) rfl rfl ?_
      refine lend ?_
      refine nseq ?_
      refine dret ?_
      exact kcut_r (res_1 resT) X9053 rfl rfl
    · intro j9055 J9056
      refine lcase (i := 17) (show _ = Value.bool s9048 from rfl) (fun k9057 => ?_) (fun k9057 => ?_)
      · refine lskip rfl rfl ?_
        refine lskip rfl rfl ?_
        refine lskip rfl rfl ?_
        refine lskip rfl rfl ?_
        refine lskip rfl rfl ?_
        refine lskip rfl rfl ?_
        refine lskip rfl rfl ?_
        refine lskip rfl rfl ?_
        refine lskip rfl rfl ?_
        refine lskip rfl rfl ?_
        refine lpure (v := .bool true) rfl (p_pick rfl) rfl rfl ?_
        refine Sim.of_eq (congrArg j9055 (show (s9048 || ((decide (p9040.A = p9042)) && (decide (p9040.B = p9041)))) = true from by rw [k9057] <;> rfl)) ?_
        exact ljmpM J9056 true () (sub_cons rfl sub_nil) X9049
      · refine lpure (v := .pointer (some ⟨b9043, 0, none⟩)) rfl (p_fa fo_75_0 rfl) rfl rfl ?_
        refine lread (v := .int .i64 p9040.A) rfl (q_load wd_3 rfl) (St.ld X9049 (j := 0) rfl rfl) rfl ?_
        refine lpure (v := .int .i64 p9042) rfl (p_move rfl) rfl rfl ?_
        refine lpure (v := .bool (decide (p9040.A = p9042))) rfl (p_eq rfl) rfl rfl ?_
        refine lpure (v := .bool (decide (p9040.A = p9042))) rfl (p_move rfl) rfl rfl ?_
        refine lcase (i := 22) (show _ = Value.bool (decide (p9040.A = p9042)) from rfl) (fun k9058 => ?_) (fun k9058 => ?_)
        · refine lpure (v := .pointer (some ⟨b9043, 1, none⟩)) rfl (p_fa fo_75_1 rfl) rfl rfl ?_
          refine lread (v := .int .i64 p9040.B) rfl (q_load wd_3 rfl) (St.ld X9049 (j := 0) rfl rfl) rfl ?_
          refine lpure (v := .int .i64 p9041) rfl (p_move rfl) rfl rfl ?_
          refine lpure (v := .bool (decide (p9040.B = p9041))) rfl (p_eq rfl) rfl rfl ?_
          refine lpure (v := .bool (decide (p9040.B = p9041))) rfl (p_pick rfl) rfl rfl ?_
          refine lpure (v := .bool (decide (p9040.B = p9041))) rfl (p_pick rfl) rfl rfl ?_
          refine Sim.of_eq (congrArg j9055 (show (s9048 || ((decide (p9040.A = p9042)) && (decide (p9040.B = p9041)))) = (decide (p9040.B = p9041)) from by rw [k9057, k9058] <;> rfl)) ?_
          exact ljmpM J9056 (decide (p9040.B = p9041)) () (sub_cons rfl sub_nil) X9049
        · refine lskip rfl rfl ?_
          refine lskip rfl rfl ?_
          refine lskip rfl rfl ?_
          refine lskip rfl rfl ?_
          refine lpure (v := .bool false) rfl (p_pick rfl) rfl rfl ?_
          refine lpure (v := .bool false) rfl (p_pick rfl) rfl rfl ?_
          refine Sim.of_eq (congrArg j9055 (show (s9048 || ((decide (p9040.A = p9042)) && (decide (p9040.B = p9041)))) = false from by rw [k9057, k9058] <;> rfl)) ?_
          exact ljmpM J9056 false () (sub_cons rfl sub_nil) X9049
  · intro j9059 J9060
    refine lcase (i := 11) (show _ = Value.bool (decide (p9040.A = p9041)) from rfl) (fun k9061 => ?_) (fun k9061 => ?_)
    · refine lpure (v := .pointer (some ⟨b9043, 1, none⟩)) rfl (p_fa fo_75_1 rfl) rfl rfl ?_
      refine lread (v := .int .i64 p9040.B) rfl (q_load wd_3 rfl) (St.ld X9046 (j := 0) rfl rfl) rfl ?_
      refine lpure (v := .int .i64 p9042) rfl (p_move rfl) rfl rfl ?_
      refine lpure (v := .bool (decide (p9040.B = p9042))) rfl (p_eq rfl) rfl rfl ?_
      refine lpure (v := .bool (decide (p9040.B = p9042))) rfl (p_pick rfl) rfl rfl ?_
      refine Sim.of_eq (congrArg j9059 (show ((decide (p9040.A = p9041)) && (decide (p9040.B = p9042))) = (decide (p9040.B = p9042)) from by rw [k9061] <;> rfl)) ?_
      exact ljmpM J9060 (decide (p9040.B = p9042)) () (sub_cons rfl (sub_cons rfl (sub_cons rfl (sub_cons rfl sub_nil)))) X9046
    · refine lskip rfl rfl ?_
      refine lskip rfl rfl ?_
      refine lskip rfl rfl ?_
      refine lskip rfl rfl ?_
      refine lpure (v := .bool false) rfl (p_pick rfl) rfl rfl ?_
      refine Sim.of_eq (congrArg j9059 (show ((decide (p9040.A = p9041)) && (decide (p9040.B = p9042))) = false from by rw [k9061] <;> rfl)) ?_
      exact ljmpM J9060 false () (sub_cons rfl (sub_cons rfl (sub_cons rfl (sub_cons rfl sub_nil)))) X9046
/-! (isochron/isochronref16.Draft).with -/
theorem f34_ok {n : Nat} {φ : Fz} {lo : Nat} {h : Heap} {own : OwnL}  {a9228 : Option Addr} {n9228 c9228 : Nat} {a9229 : Option Addr} {n9229 c9229 : Nat} {a9230 : Option Addr} {n9230 c9230 : Nat} {a9231 : Option Addr} {n9231 c9231 : Nat} {a9233 : Option Addr} {n9233 c9233 : Nat} {a9234 : Option Addr} {n9234 c9234 : Nat} {ob9236 : Option Nat} {blk9237 : Blk} (X : St φ lo h ((ob9236, blk9237) :: own)) (p9227 : Isochronref16Draft) (p9232 : ApiTopo) (p9239 : Int) (p9240 : Int) (H9228 : RSl (eInt .u8) φ (.slice a9228 n9228 c9228) p9227.Chords) (H9229 : RSl (eInt .u8) φ (.slice a9229 n9229 c9229) p9227.Homes) (H9230 : RSl (eInt .u8) φ (.slice a9230 n9230 c9230) p9227.Pers) (H9231 : RSl (eInt .u8) φ (.slice a9231 n9231 c9231) p9227.Delays) (H9233 : RSl eBool φ (.slice a9233 n9233 c9233) p9232.Station) (O9238 : OSl eApiLink φ 75 ob9236 blk9237 (.slice a9234 n9234 c9234) p9232.Links) : Sim ((recN Try.prog LL cutF (n + 3)).call 34 #[(.agg #[.int .u8 p9227.Bridges, .int .u8 p9227.Stations, .slice a9228 n9228 c9228, .slice a9229 n9229 c9229, .slice a9230 n9230 c9230, .slice a9231 n9231 c9231]), (.agg #[.int .i64 p9232.Nodes, .slice a9233 n9233 c9233, .slice a9234 n9234 c9234]), (.int .i64 p9239), (.int .i64 p9240)] h) (m_isochronref16_Draft_with p9227 p9232 p9239 p9240) (fun (d : ApiTopo) p => ∃ φ2 : Fz, ∃ a9383 : Option Addr, ∃ n9383 : Nat, ∃ c9383 : Nat, ∃ a9384 : Option Addr, ∃ n9384 : Nat, ∃ c9384 : Nat, ∃ ob9384 : Option Nat, ∃ blk9384 : Blk, Fz.le φ φ2 ∧ St φ2 lo p.2 ((ob9384, blk9384) :: own) ∧ p.1 = .agg #[.int .i64 d.Nodes, .slice a9383 n9383 c9383, .slice a9384 n9384 c9384] ∧ RSl eBool φ2 (.slice a9383 n9383 c9383) d.Station ∧ OSl eApiLink φ2 75 ob9384 blk9384 (.slice a9384 n9384 c9384) d.Links) := by
  refine fopen Try.func34 rfl rfl rfl rfl ?_
  refine dseq ?_
  refine dreg ?_
  refine lbox rfl rfl rfl rfl rfl X (fun b9241 h9243 X9244 => ?_)
  refine lbox rfl rfl rfl rfl rfl X9244 (fun b9245 h9247 X9248 => ?_)
  refine lalloc rfl tz_29 rfl rfl rfl X9248 (fun b9249 h9251 X9252 => ?_)
  refine lend ?_
  refine nseq ?_
  refine dseq ?_
  refine dreg ?_
  refine lpure (v := .pointer (some ⟨b9245, 2, none⟩)) rfl (p_fa fo_29_2 rfl) rfl rfl ?_
  refine lread (v := .slice a9234 n9234 c9234) rfl (q_load wd_27 rfl) (St.ld X9252 (j := 1) rfl rfl) rfl ?_
  refine lpure (v := .int .i64 (p9232.Links.length : Int)) rfl (p_len rfl rfl rfl un_27 rfl) (OSl.len O9238) rfl ?_
  refine lpure (v := .int .i64 (p9232.Links.length : Int)) rfl (p_assign rfl) rfl rfl ?_
  refine lend ?_
  refine nseq ?_
  refine dseq ?_
  refine dgo_start (n := 16) rfl (by kernel_rfl) ?_
  refine gpure (v := .int .i64 p9239) rfl (p_move rfl) (lo_t rfl rfl) rfl rfl ?_
  refine gpure (v := .int .i64 p9240) rfl (p_move rfl) (lo_t rfl rfl) rfl rfl ?_
  refine gpure (v := .pointer (some ⟨b9241, 4, none⟩)) rfl (p_fa fo_24_4 rfl) (lo_t (lo_own X9252 (j := 2) (o := 0) (s := none) (f := 0) rfl) rfl) rfl rfl ?_
  refine gload (v := .slice a9230 n9230 c9230) rfl (q_load wd_22 rfl) (St.ld X9252 (j := 2) rfl rfl) rfl ?_
  refine gpure (v := .int .i64 (p9232.Links.length : Int)) rfl (p_move rfl) (lo_t rfl rfl) rfl rfl ?_
  refine gwait rfl (still_call rfl rfl ca_35 rfl) rfl ?_
  refine dgo_skip ?_
  refine dgo_skip ?_
  refine gpure (v := .pointer (some ⟨b9241, 5, none⟩)) rfl (p_fa fo_24_5 rfl) (lo_t (lo_own X9252 (j := 2) (o := 0) (s := none) (f := 0) rfl) rfl) rfl rfl ?_
  refine gload (v := .slice a9231 n9231 c9231) rfl (q_load wd_22 rfl) (St.ld X9252 (j := 2) rfl rfl) rfl ?_
  refine gpure (v := .int .i64 (p9232.Links.length : Int)) rfl (p_move rfl) (lo_t rfl rfl) rfl rfl ?_
  refine dgo_skip ?_
  refine dgo_skip ?_
  refine dgo_skip ?_
  refine galloc rfl tz_75 rfl rfl rfl X9252 (fun b9253 h9255 X9256 => ?_)
  refine dgo_skip ?_
  refine gcall (m := 15) [true, false] (rk_cons (q_load wd_22 rfl) (St.ld X9256 (j := 3) rfl rfl) (same_self 20 rfl) (rk_cons (q_load wd_22 rfl) (St.ld X9256 (j := 3) rfl rfl) (same_self 20 rfl) rk_nil)) rfl rfl rfl rfl rfl ca_35 rfl rfl (f35_ok X9256 (p9227.Pers) ((p9232.Links.length : Int)) H9230) rfl (fun e9257 v9258 h9259 hq9260 => ?_)
  cases hq9260
  refine dgo_skip ?_
  refine dgo_skip ?_
  refine dgo_skip ?_
  refine dgo_skip ?_
  refine dgo_skip ?_
  refine dgo_skip ?_
  refine gpure (v := .int .i64 (Int.tmod e9257 20)) rfl (p_rem rfl) (lo_t rfl (lo_c rfl)) rfl rfl ?_
  refine gpure (v := .int .i64 (w64 (1 + (Int.tmod e9257 20)))) rfl (p_add rfl) (lo_c (lo_t rfl rfl)) rfl rfl ?_
  refine dgo_skip ?_
  refine dgo_skip ?_
  refine dgo_skip ?_
  refine gwait rfl (still_call rfl rfl ca_35 rfl) rfl ?_
  refine dgo_skip ?_
  refine dgo_skip ?_
  refine dgo_skip ?_
  refine dgo_skip ?_
  refine gcall (m := 14) [false] (rk_cons (q_load wd_22 rfl) (St.ld X9256 (j := 3) rfl rfl) (same_self 20 rfl) rk_nil) rfl rfl rfl rfl rfl ca_35 rfl rfl (f35_ok X9256 (p9227.Delays) ((p9232.Links.length : Int)) H9231) rfl (fun e9261 v9262 h9263 hq9264 => ?_)
  cases hq9264
  refine dgo_skip ?_
  refine dgo_skip ?_
  refine dgo_skip ?_
  refine dgo_skip ?_
  refine dgo_skip ?_
  refine dgo_skip ?_
  refine dgo_skip ?_
  refine dgo_skip ?_
  refine dgo_skip ?_
  refine dgo_skip ?_
  refine dgo_skip ?_
  refine dgo_skip ?_
  refine gpure (v := .int .i64 (Int.tmod e9261 50)) rfl (p_rem rfl) (lo_t rfl (lo_c rfl)) rfl rfl ?_
  refine gpure (v := .agg #[.int .i64 p9239, .int .i64 p9240, .int .i64 (w64 (1 + (Int.tmod e9257 20))), .int .i64 (Int.tmod e9261 50)]) rfl (p_build rfl) (lo_t rfl (lo_t rfl (lo_t rfl (lo_t rfl rfl)))) (build_st' tz_75 pl_75 rfl) rfl ?_
  refine dgo_skip ?_
  refine gwait rfl (still_store rfl rfl rfl) rfl ?_
  obtain ⟨h9265, hst9267, X9266⟩ := St.st X9256 (j := 0) (o := 0) (n := 4) (x := .agg #[.int .i64 p9239, .int .i64 p9240, .int .i64 (w64 (1 + (Int.tmod e9257 20))), .int .i64 (Int.tmod e9261 50)]) rfl rfl rfl rfl rfl rfl
  refine gact0 (m := 13) [] rk_nil rfl rfl rfl rfl (h_store ts_75 rfl) hst9267 ?_
  refine dgo_skip ?_
  refine dgo_skip ?_
  refine dgo_skip ?_
  refine dgo_skip ?_
  refine dgo_skip ?_
  refine dgo_skip ?_
  refine dgo_skip ?_
  refine dgo_skip ?_
  refine dgo_skip ?_
  refine dgo_skip ?_
  refine dgo_skip ?_
  refine dgo_skip ?_
  refine dgo_skip ?_
  refine dgo_skip ?_
  refine dgo_skip ?_
  refine dgo_skip ?_
  refine gend rk_nil ?_
  refine nseq ?_
  refine dseq ?_
  refine dseq ?_
  refine dreg ?_
  refine lpure (v := .int .i64 (p9232.Links.length : Int)) rfl (p_move rfl) rfl rfl ?_
  refine lpure (v := .bool (decide ((p9232.Links.length : Int) = 24))) rfl (p_eq rfl) rfl rfl ?_
  refine lpure (v := .bool (decide ((p9232.Links.length : Int) = 24))) rfl (p_move rfl) rfl rfl ?_
  refine ljoinM (τ := Bool) (σ := Unit) (fun s9278 (_ : Unit) => [(2, .int .i64 p9239), (3, .int .i64 p9240), (5, .pointer (some ⟨b9245, 0, none⟩)), (8, .pointer (some ⟨b9249, 0, none⟩)), (9, .int .i64 (p9232.Links.length : Int)), (10, .pointer (some ⟨b9253, 0, none⟩)), (36, .bool s9278)]) (fun s9278 (_ : Unit) hh => St φ lo hh ((some b9253, .cells [.int .i64 p9239, .int .i64 p9240, .int .i64 (w64 (1 + (Int.tmod e9257 20))), .int .i64 (Int.tmod e9261 50)] 75 .exact) :: (some b9249, .cells [.int .i64 0, .slice none 0 0, .slice none 0 0] 29 .exact) :: (some b9245, .cells [.int .i64 p9232.Nodes, .slice a9233 n9233 c9233, .slice a9234 n9234 c9234] 29 .exact) :: (some b9241, .cells [.int .u8 p9227.Bridges, .int .u8 p9227.Stations, .slice a9228 n9228 c9228, .slice a9229 n9229 c9229, .slice a9230 n9230 c9230, .slice a9231 n9231 c9231] 24 .exact) :: (ob9236, blk9237) :: own)) 5 ?_ ?_
  · rintro s9278 _ t0 h9280 X9279
    refine lend ?_
    refine nseq ?_
    refine dcond rfl rfl (fun k9281 => ?_) (fun k9281 => ?_)
    · refine dseq ?_
      refine dreg ?_
      refine lread (v := .agg #[.int .i64 p9232.Nodes, .slice a9233 n9233 c9233, .slice a9234 n9234 c9234]) rfl (q_load wd_29 rfl) (St.ld X9279 (j := 2) rfl rfl) rfl ?_
      refine lstore rfl ts_29 rfl rfl (j := 1) rfl rfl rfl rfl rfl rfl X9279 (fun h9282 X9283 => ?_)
      refine lend ?_
      refine nseq ?_
      refine dret ?_
      refine rseq ?_
      exact kopen_r (res_1 (resC wd_29 (St.ld X9283 (j := 1) rfl rfl))) ⟨φ, a9233, n9233, c9233, a9234, n9234, c9234, ob9236, blk9237, (Fz.le_refl _), St.pick (St.front X9283 (j := 4) rfl) (.keep _ (.skip _ (.skip _ (.skip _ (.skip _ (.refl _)))))), rfl, H9233, O9238⟩
    · refine dskip ?_
      refine nseq ?_
      refine dseq ?_
      refine dseq ?_
      refine dreg ?_
      refine lpure (v := .int .i64 0) rfl (p_assign rfl) rfl rfl ?_
      refine lend ?_
      refine nseq ?_
      refine dblock ?_
      refine dloopM (τ := Int × (List ApiLink)) (σ := Blk) (fun s9327 blk9328 => [(2, .int .i64 p9239), (3, .int .i64 p9240), (5, .pointer (some ⟨b9245, 0, none⟩)), (8, .pointer (some ⟨b9249, 0, none⟩)), (9, .int .i64 (p9232.Links.length : Int)), (10, .pointer (some ⟨b9253, 0, none⟩)), (11, .int .i64 s9327.1)]) (fun s9327 blk9328 hh => St φ lo hh ((some b9253, .cells [.int .i64 p9239, .int .i64 p9240, .int .i64 (w64 (1 + (Int.tmod e9257 20))), .int .i64 (Int.tmod e9261 50)] 75 .exact) :: (some b9249, .cells [.int .i64 0, .slice none 0 0, .slice none 0 0] 29 .exact) :: (some b9245, .cells [.int .i64 p9232.Nodes, .slice a9233 n9233 c9233, .slice a9234 n9234 c9234] 29 .exact) :: (some b9241, .cells [.int .u8 p9227.Bridges, .int .u8 p9227.Stations, .slice a9228 n9228 c9228, .slice a9229 n9229 c9229, .slice a9230 n9230 c9230, .slice a9231 n9231 c9231] 24 .exact) :: (ob9236, blk9328) :: own) ∧ OSl eApiLink φ 75 ob9236 blk9328 (.slice a9234 n9234 c9234) s9327.2) (0, p9232.Links) blk9237 (sub_cons rfl (sub_cons rfl (sub_cons rfl (sub_cons rfl (sub_cons rfl (sub_cons rfl (sub_cons rfl sub_nil))))))) ⟨X9279, O9238⟩ ?_
      rintro n9351 ih9350 s9327 blk9328 t0 h9353 ⟨X9352, O9328⟩
      refine dseq ?_
      refine dseq ?_
      refine dreg ?_
      refine lpure (v := .int .i64 s9327.1) rfl (p_move rfl) rfl rfl ?_
      refine lpure (v := .int .i64 (p9232.Links.length : Int)) rfl (p_move rfl) rfl rfl ?_
      refine lpure (v := .bool (decide (s9327.1 < (p9232.Links.length : Int)))) rfl (p_lt rfl) rfl rfl ?_
      refine lend ?_
      refine nseq ?_
      refine dcond rfl rfl (fun k9354 => ?_) (fun k9354 => ?_)
      · refine dskip ?_
        refine nseq ?_
        refine dseq ?_
        refine dblock ?_
        refine dseq ?_
        refine dreg ?_
        refine lpure (v := .pointer (some ⟨b9245, 2, none⟩)) rfl (p_fa fo_29_2 rfl) rfl rfl ?_
        refine lread (v := .slice a9234 n9234 c9234) rfl (q_load wd_27 rfl) (St.ld X9352 (j := 2) rfl rfl) rfl ?_
        refine lpure (v := .int .i64 s9327.1) rfl (p_move rfl) rfl rfl ?_
        refine Sim.bindM fun e9355 he9356 => ?_
        obtain ⟨b9357, vs9357, m9357, off9357, cs9357, rfl, rfl, hp9357, hc9357, hR9357, hl9357, hm9357, hs9357⟩ := OSl.ia O9328 he9356 (kd := .i64) (n := 4) rfl
        obtain rfl := eApiLink_el hR9357
        refine lpure (v := .pointer (some ⟨b9357, off9357, none⟩)) rfl (p_ia rs_27 rfl) hp9357 rfl ?_
        refine lread (v := .agg #[.int .i64 e9355.A, .int .i64 e9355.B, .int .i64 e9355.Per, .int .i64 e9355.Delay]) rfl (q_load wd_75 rfl) (St.ld X9352 (j := 4) rfl (rdEw hc9357 (k := 0) rfl rfl)) rfl ?_
        refine lpure (v := .int .i64 p9239) rfl (p_move rfl) rfl rfl ?_
        refine lpure (v := .int .i64 p9240) rfl (p_move rfl) rfl rfl ?_
        refine lcall rfl rfl ca_76 rfl rfl (f76_ok X9352 e9355 p9239 p9240) rfl (fun e9358 v9359 h9360 hq9361 => ?_)
        cases hq9361
        refine lend ?_
        refine nseq ?_
        refine dcond rfl rfl (fun k9362 => ?_) (fun k9362 => ?_)
        · refine dseq ?_
          refine dreg ?_
          refine lread (v := .agg #[.int .i64 p9232.Nodes, .slice a9233 n9233 c9233, .slice a9234 n9234 c9234]) rfl (q_load wd_29 rfl) (St.ld X9352 (j := 2) rfl rfl) rfl ?_
          refine lstore rfl ts_29 rfl rfl (j := 1) rfl rfl rfl rfl rfl rfl X9352 (fun h9363 X9364 => ?_)
          refine lend ?_
          refine nseq ?_
          refine dret ?_
          refine rblock ?_
          refine rseq ?_
          refine rloop ?_
          refine rblock ?_
          refine rseq ?_
          exact kopen_r (res_1 (resC wd_29 (St.ld X9364 (j := 1) rfl rfl))) ⟨φ, a9233, n9233, c9233, a9234, n9234, c9234, (some b9357), (.cells vs9357 75 m9357), (Fz.le_refl _), St.pick (St.front X9364 (j := 4) rfl) (.keep _ (.skip _ (.skip _ (.skip _ (.skip _ (.refl _)))))), rfl, H9233, O9328⟩
        · refine dskip ?_
          refine nblock ?_
          refine nseq ?_
          refine dreg ?_
          refine lpure (v := .int .i64 s9327.1) rfl (p_move rfl) rfl rfl ?_
          refine lpure (v := .int .i64 (w64 (s9327.1 + 1))) rfl (p_add rfl) rfl rfl ?_
          refine lpure (v := .int .i64 (w64 (s9327.1 + 1))) rfl (p_assign rfl) rfl rfl ?_
          refine lend ?_
          exact kbackM ih9350 ((w64 (s9327.1 + 1)), s9327.2) (.cells vs9357 75 m9357) (sub_cons rfl (sub_cons rfl (sub_cons rfl (sub_cons rfl (sub_cons rfl (sub_cons rfl (sub_cons rfl sub_nil))))))) ⟨X9352, O9328⟩
      · refine dexit ?_
        refine eseq ?_
        refine eloop ?_
        refine xblock ?_
        refine nseq ?_
        refine dseq ?_
        refine dreg ?_
        refine lpure (v := .pointer (some ⟨b9245, 2, none⟩)) rfl (p_fa fo_29_2 rfl) rfl rfl ?_
        refine lread (v := .slice a9234 n9234 c9234) rfl (q_load wd_27 rfl) (St.ld X9352 (j := 2) rfl rfl) rfl ?_
        refine lread (v := .agg #[.int .i64 p9239, .int .i64 p9240, .int .i64 (w64 (1 + (Int.tmod e9257 20))), .int .i64 (Int.tmod e9261 50)]) rfl (q_load wd_75 rfl) (St.ld X9352 (j := 0) rfl rfl) rfl ?_
        obtain ⟨h9365, b9365, hv9365, X9365, O9365⟩ := OSl.lay (E := eApiLink) (φ := φ) (cs := [.int .i64 p9239, .int .i64 p9240, .int .i64 (w64 (1 + (Int.tmod e9257 20))), .int .i64 (Int.tmod e9261 50)]) (l := [(ApiLink.mk p9239 p9240 (w64 (1 + (Int.tmod e9257 20))) (Int.tmod e9261 50))]) (len := 1) (parts := [(0, .agg #[.int .i64 p9239, .int .i64 p9240, .int .i64 (w64 (1 + (Int.tmod e9257 20))), .int .i64 (Int.tmod e9261 50)])]) un_27 ts_75 rfl rfl rfl tz_75 rfl rfl (show RowD eApiLink φ [.int .i64 p9239, .int .i64 p9240, .int .i64 (w64 (1 + (Int.tmod e9257 20))), .int .i64 (Int.tmod e9261 50)] [(ApiLink.mk p9239 p9240 (w64 (1 + (Int.tmod e9257 20))) (Int.tmod e9261 50))] from ⟨[.int .i64 p9239, .int .i64 p9240, .int .i64 (w64 (1 + (Int.tmod e9257 20))), .int .i64 (Int.tmod e9261 50)], _, rfl, ⟨_, _, rfl, rfl, ⟨_, _, rfl, rfl, ⟨_, _, rfl, rfl, ⟨_, _, rfl, rfl, rfl⟩⟩⟩⟩, rfl⟩) rfl rfl X9352
        refine lheap rfl (h_buildSlice rfl) hv9365 rfl ?_
        obtain ⟨ws9367, hw9367⟩ := OSl.read O9365 X9365 (k := 0) rfl (n := 4) rfl
        refine Sim.mustM fun k9367 => ?_
        obtain ⟨h9367, a9367, c9367, ob9367, blk9367, hv9367, X9367, O9367⟩ := OSl.append O9328 X9365 (j := 5) rfl hw9367 k9367 (ts := #[27, 27]) rfl un_27 (argOk_of ax_27_27) ts_75 rfl rfl tb_75 rfl tz_75 rfl
        refine lheap rfl (h_builtin rfl rfl) hv9367 rfl ?_
        refine lpure (v := .pointer (some ⟨b9245, 2, none⟩)) rfl (p_fa fo_29_2 rfl) rfl rfl ?_
        refine lstore rfl ts_27 rfl rfl (j := 3) rfl rfl rfl rfl rfl rfl X9367 (fun h9368 X9369 => ?_)
        refine lend ?_
        refine nseq ?_
        refine dseq ?_
        refine dreg ?_
        refine lread (v := .agg #[.int .i64 p9232.Nodes, .slice a9233 n9233 c9233, .slice a9367 (s9327.2.length + ([(ApiLink.mk p9239 p9240 (w64 (1 + (Int.tmod e9257 20))) (Int.tmod e9261 50))]).length) c9367]) rfl (q_load wd_29 rfl) (St.ld X9369 (j := 3) rfl rfl) rfl ?_
        refine lstore rfl ts_29 rfl rfl (j := 2) rfl rfl rfl rfl rfl rfl X9369 (fun h9370 X9371 => ?_)
        refine lend ?_
        refine nseq ?_
        refine dret ?_
        exact kopen_r (res_1 (resC wd_29 (St.ld X9371 (j := 2) rfl rfl))) ⟨φ, a9233, n9233, c9233, a9367, ((s9327.2.length + ([(ApiLink.mk p9239 p9240 (w64 (1 + (Int.tmod e9257 20))) (Int.tmod e9261 50))]).length)), c9367, ob9367, blk9367, (Fz.le_refl _), St.pick (St.front X9371 (j := 5) rfl) (.keep _ (.skip _ (.skip _ (.skip _ (.skip _ (.skip _ (.refl _))))))), rfl, H9233, O9367⟩
  · intro j9372 J9373
    refine lif (i := 31) (show _ = Value.bool (decide ((p9232.Links.length : Int) = 24)) from rfl) (fun k9374 => ?_) (fun k9374 => ?_)
    · refine lskip rfl rfl ?_
      refine lskip rfl rfl ?_
      refine lskip rfl rfl ?_
      refine lskip rfl rfl ?_
      refine lpure (v := .bool true) rfl (p_pick rfl) rfl rfl ?_
      exact ljmpM J9373 true () (sub_cons rfl (sub_cons rfl (sub_cons rfl (sub_cons rfl (sub_cons rfl (sub_cons rfl (sub_cons rfl sub_nil))))))) X9266
    · refine lread (v := .agg #[.int .i64 p9232.Nodes, .slice a9233 n9233 c9233, .slice a9234 n9234 c9234]) rfl (q_load wd_29 rfl) (St.ld X9266 (j := 2) rfl rfl) rfl ?_
      refine lread (v := .agg #[.int .i64 p9239, .int .i64 p9240, .int .i64 (w64 (1 + (Int.tmod e9257 20))), .int .i64 (Int.tmod e9261 50)]) rfl (q_load wd_75 rfl) (St.ld X9266 (j := 0) rfl rfl) rfl ?_
      obtain ⟨φ9375, g9376, X9377, H9378⟩ := OSl.freeze X9266 (j := 4) rfl O9238
      refine lcall rfl rfl ca_75 rfl rfl (f75_ok X9377 p9232 ((ApiLink.mk p9239 p9240 (w64 (1 + (Int.tmod e9257 20))) (Int.tmod e9261 50))) (H9233.mono g9376) H9378) rfl (fun e9379 v9380 h9381 hq9382 => ?_)
      cases hq9382
      refine lpure (v := .bool (!e9379)) rfl (p_not rfl) rfl rfl ?_
      refine lpure (v := .bool (!e9379)) rfl (p_pick rfl) rfl rfl ?_
      exact ljmpM J9373 (!e9379) () (sub_cons rfl (sub_cons rfl (sub_cons rfl (sub_cons rfl (sub_cons rfl (sub_cons rfl (sub_cons rfl sub_nil))))))) X9266
/-! (isochron/isochronref16.Draft).Topo -/
theorem f8_ok {n : Nat} {φ : Fz} {lo : Nat} {h : Heap} {own : OwnL}  {a80238 : Option Addr} {n80238 c80238 : Nat} {a80239 : Option Addr} {n80239 c80239 : Nat} {a80240 : Option Addr} {n80240 c80240 : Nat} {a80241 : Option Addr} {n80241 c80241 : Nat} (X : St φ lo h (own)) (p80237 : Isochronref16Draft) (H80238 : RSl (eInt .u8) φ (.slice a80238 n80238 c80238) p80237.Chords) (H80239 : RSl (eInt .u8) φ (.slice a80239 n80239 c80239) p80237.Homes) (H80240 : RSl (eInt .u8) φ (.slice a80240 n80240 c80240) p80237.Pers) (H80241 : RSl (eInt .u8) φ (.slice a80241 n80241 c80241) p80237.Delays) : Sim ((recN Try.prog LL cutF (n + 4)).call 8 #[(.agg #[.int .u8 p80237.Bridges, .int .u8 p80237.Stations, .slice a80238 n80238 c80238, .slice a80239 n80239 c80239, .slice a80240 n80240 c80240, .slice a80241 n80241 c80241])] h) (m_isochronref16_Draft_Topo p80237) (fun (d : ApiTopo) p => ∃ φ2 : Fz, ∃ a151122 : Option Addr, ∃ n151122 : Nat, ∃ c151122 : Nat, ∃ a151123 : Option Addr, ∃ n151123 : Nat, ∃ c151123 : Nat, ∃ ob151123 : Option Nat, ∃ blk151123 : Blk, Fz.le φ φ2 ∧ St φ2 lo p.2 ((ob151123, blk151123) :: own) ∧ p.1 = .agg #[.int .i64 d.Nodes, .slice a151122 n151122 c151122, .slice a151123 n151123 c151123] ∧ RSl eBool φ2 (.slice a151122 n151122 c151122) d.Station ∧ OSl eApiLink φ2 75 ob151123 blk151123 (.slice a151123 n151123 c151123) d.Links) := by
  refine fopen Try.func8 rfl rfl rfl rfl ?_
  refine dseq ?_
  refine dreg ?_
  refine lbox rfl rfl rfl rfl rfl X (fun b80242 h80244 X80245 => ?_)
  refine lalloc rfl tz_29 rfl rfl rfl X80245 (fun b80246 h80248 X80249 => ?_)
  refine lend ?_
  refine nseq ?_
  refine dseq ?_
  refine dreg ?_
  refine lpure (v := .pointer (some ⟨b80242, 0, none⟩)) rfl (p_fa fo_24_0 rfl) rfl rfl ?_
  refine lread (v := .int .u8 p80237.Bridges) rfl (q_load wd_5 rfl) (St.ld X80249 (j := 1) rfl rfl) rfl ?_
  refine lpure (v := .int .u8 (Int.tmod p80237.Bridges 6)) rfl (p_rem rfl) rfl rfl ?_
  refine lpure (v := .int .i64 (w64 (Int.tmod p80237.Bridges 6))) rfl (p_conv un_5 un_3 rfl) rfl rfl ?_
  refine lpure (v := .int .i64 (w64 (1 + (w64 (Int.tmod p80237.Bridges 6))))) rfl (p_add rfl) rfl rfl ?_
  refine lpure (v := .int .i64 (w64 (1 + (w64 (Int.tmod p80237.Bridges 6))))) rfl (p_assign rfl) rfl rfl ?_
  refine lend ?_
  refine nseq ?_
  refine dseq ?_
  refine dreg ?_
  refine lpure (v := .pointer (some ⟨b80242, 1, none⟩)) rfl (p_fa fo_24_1 rfl) rfl rfl ?_
  refine lread (v := .int .u8 p80237.Stations) rfl (q_load wd_5 rfl) (St.ld X80249 (j := 1) rfl rfl) rfl ?_
  refine lpure (v := .int .u8 (Int.tmod p80237.Stations 5)) rfl (p_rem rfl) rfl rfl ?_
  refine lpure (v := .int .i64 (w64 (Int.tmod p80237.Stations 5))) rfl (p_conv un_5 un_3 rfl) rfl rfl ?_
  refine lpure (v := .int .i64 (w64 (2 + (w64 (Int.tmod p80237.Stations 5))))) rfl (p_add rfl) rfl rfl ?_
  refine lpure (v := .int .i64 (w64 (2 + (w64 (Int.tmod p80237.Stations 5))))) rfl (p_assign rfl) rfl rfl ?_
  refine lend ?_
  refine nseq ?_
  refine dseq ?_
  refine dreg ?_
  refine lpure (v := .int .i64 (w64 (1 + (w64 (Int.tmod p80237.Bridges 6))))) rfl (p_move rfl) rfl rfl ?_
  refine lpure (v := .int .i64 (w64 (2 + (w64 (Int.tmod p80237.Stations 5))))) rfl (p_move rfl) rfl rfl ?_
  refine lpure (v := .int .i64 (w64 ((w64 (1 + (w64 (Int.tmod p80237.Bridges 6)))) + (w64 (2 + (w64 (Int.tmod p80237.Stations 5))))))) rfl (p_add rfl) rfl rfl ?_
  refine lpure (v := .agg #[.int .i64 (w64 ((w64 (1 + (w64 (Int.tmod p80237.Bridges 6)))) + (w64 (2 + (w64 (Int.tmod p80237.Stations 5)))))), .slice none 0 0, .slice none 0 0]) rfl (p_build rfl) (build_st' tz_29 pl_29 rfl) rfl ?_
  refine lalloc rfl tz_29 rfl rfl rfl X80249 (fun b80250 h80252 X80253 => ?_)
  refine lstore rfl ts_29 rfl rfl (j := 0) rfl rfl rfl rfl rfl rfl X80253 (fun h80254 X80255 => ?_)
  refine lend ?_
  refine nseq ?_
  refine dseq ?_
  refine dseq ?_
  refine dreg ?_
  refine lpure (v := .int .i64 0) rfl (p_assign rfl) rfl rfl ?_
  refine lend ?_
  refine nseq ?_
  refine dblock ?_
  refine dloopM (τ := Int × (List Bool)) (σ := Option Addr × Nat × Nat × Option Nat × Blk) (fun s113440 (a113442, n113442, c113442, ob113442, blk113442) => [(1, .pointer (some ⟨b80242, 0, none⟩)), (2, .pointer (some ⟨b80246, 0, none⟩)), (3, .int .i64 (w64 (1 + (w64 (Int.tmod p80237.Bridges 6))))), (4, .int .i64 (w64 (2 + (w64 (Int.tmod p80237.Stations 5))))), (5, .pointer (some ⟨b80250, 0, none⟩)), (6, .int .i64 s113440.1)]) (fun s113440 (a113442, n113442, c113442, ob113442, blk113442) hh => St φ lo hh ((ob113442, blk113442) :: (some b80250, .cells [.int .i64 (w64 ((w64 (1 + (w64 (Int.tmod p80237.Bridges 6)))) + (w64 (2 + (w64 (Int.tmod p80237.Stations 5)))))), .slice a113442 n113442 c113442, .slice none 0 0] 29 .exact) :: (some b80246, .cells [.int .i64 0, .slice none 0 0, .slice none 0 0] 29 .exact) :: (some b80242, .cells [.int .u8 p80237.Bridges, .int .u8 p80237.Stations, .slice a80238 n80238 c80238, .slice a80239 n80239 c80239, .slice a80240 n80240 c80240, .slice a80241 n80241 c80241] 24 .exact) :: own) ∧ OSl eBool φ 4 ob113442 blk113442 (.slice a113442 n113442 c113442) s113440.2) (0, []) (none, 0, 0, none, .dead) (sub_cons rfl (sub_cons rfl (sub_cons rfl (sub_cons rfl (sub_cons rfl (sub_cons rfl sub_nil)))))) ⟨(St.pick X80255 (.none _ (.keep _ (.keep _ (.keep _ (.refl _)))))), OSl.nil⟩ ?_
  rintro n132283 ih132282 s113440 ⟨a113442, n113442, c113442, ob113442, blk113442⟩ t0 h132285 ⟨X132284, O113442⟩
  refine dseq ?_
  refine dseq ?_
  refine dreg ?_
  refine lpure (v := .int .i64 s113440.1) rfl (p_move rfl) rfl rfl ?_
  refine lpure (v := .pointer (some ⟨b80250, 0, none⟩)) rfl (p_fa fo_29_0 rfl) rfl rfl ?_
  refine lread (v := .int .i64 (w64 ((w64 (1 + (w64 (Int.tmod p80237.Bridges 6)))) + (w64 (2 + (w64 (Int.tmod p80237.Stations 5))))))) rfl (q_load wd_3 rfl) (St.ld X132284 (j := 1) rfl rfl) rfl ?_
  refine lpure (v := .bool (decide (s113440.1 < (w64 ((w64 (1 + (w64 (Int.tmod p80237.Bridges 6)))) + (w64 (2 + (w64 (Int.tmod p80237.Stations 5))))))))) rfl (p_lt rfl) rfl rfl ?_
  refine lend ?_
  refine nseq ?_
  refine dcond rfl rfl (fun k132286 => ?_) (fun k132286 => ?_)
  · refine dskip ?_
    refine nseq ?_
    refine dseq ?_
    refine dblock ?_
    refine dreg ?_
    refine lpure (v := .pointer (some ⟨b80250, 1, none⟩)) rfl (p_fa fo_29_1 rfl) rfl rfl ?_
    refine lread (v := .slice a113442 n113442 c113442) rfl (q_load wd_26 rfl) (St.ld X132284 (j := 1) rfl rfl) rfl ?_
    refine lpure (v := .int .i64 s113440.1) rfl (p_move rfl) rfl rfl ?_
    refine lpure (v := .int .i64 (w64 (1 + (w64 (Int.tmod p80237.Bridges 6))))) rfl (p_move rfl) rfl rfl ?_
    refine lpure (v := .bool (decide ((w64 (1 + (w64 (Int.tmod p80237.Bridges 6)))) ≤ s113440.1))) rfl (p_ge rfl) rfl rfl ?_
    obtain ⟨h132287, b132287, hv132287, X132287, O132287⟩ := OSl.lay (E := eBool) (φ := φ) (cs := [.bool (decide ((w64 (1 + (w64 (Int.tmod p80237.Bridges 6)))) ≤ s113440.1))]) (l := [(decide ((w64 (1 + (w64 (Int.tmod p80237.Bridges 6)))) ≤ s113440.1))]) (len := 1) (parts := [(0, .bool (decide ((w64 (1 + (w64 (Int.tmod p80237.Bridges 6)))) ≤ s113440.1)))]) un_26 ts_4 rfl rfl rfl tz_4 rfl rfl (show RowD eBool φ [.bool (decide ((w64 (1 + (w64 (Int.tmod p80237.Bridges 6)))) ≤ s113440.1))] [(decide ((w64 (1 + (w64 (Int.tmod p80237.Bridges 6)))) ≤ s113440.1))] from ⟨[.bool (decide ((w64 (1 + (w64 (Int.tmod p80237.Bridges 6)))) ≤ s113440.1))], _, rfl, rfl, rfl⟩) rfl rfl X132284
    refine lheap rfl (h_buildSlice rfl) hv132287 rfl ?_
    obtain ⟨ws132289, hw132289⟩ := OSl.read O132287 X132287 (k := 0) rfl (n := 1) rfl
    refine Sim.mustM fun k132289 => ?_
    obtain ⟨h132289, a132289, c132289, ob132289, blk132289, hv132289, X132289, O132289⟩ := OSl.append O113442 X132287 (j := 1) rfl hw132289 k132289 (ts := #[26, 26]) rfl un_26 (argOk_of ax_26_26) ts_4 rfl rfl tb_4 rfl tz_4 rfl
    refine lheap rfl (h_builtin rfl rfl) hv132289 rfl ?_
    refine lpure (v := .pointer (some ⟨b80250, 1, none⟩)) rfl (p_fa fo_29_1 rfl) rfl rfl ?_
    refine lstore rfl ts_26 rfl rfl (j := 2) rfl rfl rfl rfl rfl rfl X132289 (fun h132290 X132291 => ?_)
    refine lend ?_
    refine nblock ?_
    refine nseq ?_
    refine dreg ?_
    refine lpure (v := .int .i64 s113440.1) rfl (p_move rfl) rfl rfl ?_
    refine lpure (v := .int .i64 (w64 (s113440.1 + 1))) rfl (p_add rfl) rfl rfl ?_
    refine lpure (v := .int .i64 (w64 (s113440.1 + 1))) rfl (p_assign rfl) rfl rfl ?_
    refine lend ?_
    exact kbackM ih132282 ((w64 (s113440.1 + 1)), (s113440.2 ++ ([(decide ((w64 (1 + (w64 (Int.tmod p80237.Bridges 6)))) ≤ s113440.1))]))) (a132289, (s113440.2.length + ([(decide ((w64 (1 + (w64 (Int.tmod p80237.Bridges 6)))) ≤ s113440.1))]).length), c132289, ob132289, blk132289) (sub_cons rfl (sub_cons rfl (sub_cons rfl (sub_cons rfl (sub_cons rfl (sub_cons rfl sub_nil)))))) ⟨(St.pick X132291 (.skip _ (.keep _ (.keep _ (.keep _ (.keep _ (.refl _))))))), O132289⟩
  · refine dexit ?_
    refine eseq ?_
    refine eloop ?_
    refine xblock ?_
    refine nseq ?_
    refine dseq ?_
    refine dseq ?_
    refine dreg ?_
    refine lpure (v := .int .i64 1) rfl (p_assign rfl) rfl rfl ?_
    refine lend ?_
    refine nseq ?_
    refine dblock ?_
    obtain ⟨φ136786, g136787, X136788, H136789⟩ := OSl.freeze X132284 (j := 0) rfl O113442
    refine dloopM (τ := Int × Int × (List Bool) × (List ApiLink)) (σ := Fz × Option Addr × Nat × Nat × Option Nat × Blk × Option Addr × Nat × Nat) (fun s143955 (φ143959, a143958, n143958, c143958, ob143958, blk143958, a143956, n143956, c143956) => [(1, .pointer (some ⟨b80242, 0, none⟩)), (2, .pointer (some ⟨b80246, 0, none⟩)), (3, .int .i64 (w64 (1 + (w64 (Int.tmod p80237.Bridges 6))))), (4, .int .i64 (w64 (2 + (w64 (Int.tmod p80237.Stations 5))))), (5, .pointer (some ⟨b80250, 0, none⟩)), (7, .int .i64 s143955.1)]) (fun s143955 (φ143959, a143958, n143958, c143958, ob143958, blk143958, a143956, n143956, c143956) hh => St φ143959 lo hh ((ob143958, blk143958) :: (none, .dead) :: (some b80250, .cells [.int .i64 s143955.2.1, .slice a143956 n143956 c143956, .slice a143958 n143958 c143958] 29 .exact) :: (some b80246, .cells [.int .i64 0, .slice none 0 0, .slice none 0 0] 29 .exact) :: (some b80242, .cells [.int .u8 p80237.Bridges, .int .u8 p80237.Stations, .slice a80238 n80238 c80238, .slice a80239 n80239 c80239, .slice a80240 n80240 c80240, .slice a80241 n80241 c80241] 24 .exact) :: own) ∧ Fz.le φ136786 φ143959 ∧ OSl eApiLink φ143959 75 ob143958 blk143958 (.slice a143958 n143958 c143958) s143955.2.2.2 ∧ RSl eBool φ143959 (.slice a143956 n143956 c143956) s143955.2.2.1) (1, (w64 ((w64 (1 + (w64 (Int.tmod p80237.Bridges 6)))) + (w64 (2 + (w64 (Int.tmod p80237.Stations 5)))))), s113440.2, []) (φ136786, none, 0, 0, none, .dead, a113442, n113442, c113442) (sub_cons rfl (sub_cons rfl (sub_cons rfl (sub_cons rfl (sub_cons rfl (sub_cons rfl sub_nil)))))) ⟨(St.pick X136788 (.none _ (.none _ (.skip _ (.keep _ (.keep _ (.keep _ (.refl _)))))))), (Fz.le_refl _), OSl.nil, H136789⟩ ?_
    rintro n147542 ih147541 s143955 ⟨φ143959, a143958, n143958, c143958, ob143958, blk143958, a143956, n143956, c143956⟩ t0 h147544 ⟨X147543, g143960, O143958, H143956⟩
    refine dseq ?_
    refine dseq ?_
    refine dreg ?_
    refine lpure (v := .int .i64 s143955.1) rfl (p_move rfl) rfl rfl ?_
    refine lpure (v := .int .i64 (w64 (1 + (w64 (Int.tmod p80237.Bridges 6))))) rfl (p_move rfl) rfl rfl ?_
    refine lpure (v := .bool (decide (s143955.1 < (w64 (1 + (w64 (Int.tmod p80237.Bridges 6))))))) rfl (p_lt rfl) rfl rfl ?_
    refine lend ?_
    refine nseq ?_
    refine dcond rfl rfl (fun k147545 => ?_) (fun k147545 => ?_)
    · refine dskip ?_
      refine nseq ?_
      refine dseq ?_
      refine dblock ?_
      refine dreg ?_
      refine lread (v := .agg #[.int .u8 p80237.Bridges, .int .u8 p80237.Stations, .slice a80238 n80238 c80238, .slice a80239 n80239 c80239, .slice a80240 n80240 c80240, .slice a80241 n80241 c80241]) rfl (q_load wd_24 rfl) (St.ld X147543 (j := 4) rfl rfl) rfl ?_
      refine lread (v := .agg #[.int .i64 s143955.2.1, .slice a143956 n143956 c143956, .slice a143958 n143958 c143958]) rfl (q_load wd_29 rfl) (St.ld X147543 (j := 2) rfl rfl) rfl ?_
      refine lpure (v := .int .i64 s143955.1) rfl (p_move rfl) rfl rfl ?_
      refine lpure (v := .int .i64 (w64 (s143955.1 - 1))) rfl (p_sub rfl) rfl rfl ?_
      refine lpure (v := .int .i64 s143955.1) rfl (p_move rfl) rfl rfl ?_
      refine lcall rfl rfl ca_34 rfl rfl (f34_ok X147543 p80237 ((ApiTopo.mk s143955.2.1 s143955.2.2.1 s143955.2.2.2)) ((w64 (s143955.1 - 1))) (s143955.1) (H80238.mono (g136787.trans g143960)) (H80239.mono (g136787.trans g143960)) (H80240.mono (g136787.trans g143960)) (H80241.mono (g136787.trans g143960)) H143956 O143958) rfl ?_
      rintro e147546 _ h147548 ⟨φ147550, a147553, n147553, c147553, a147554, n147554, c147554, ob147554, blk147554, g147551, X147552, rfl, H147553, O147554⟩
      refine lstore rfl ts_29 rfl rfl (j := 2) rfl rfl rfl rfl rfl rfl X147552 (fun h147556 X147557 => ?_)
      refine lend ?_
      refine nblock ?_
      refine nseq ?_
      refine dreg ?_
      refine lpure (v := .int .i64 s143955.1) rfl (p_move rfl) rfl rfl ?_
      refine lpure (v := .int .i64 (w64 (s143955.1 + 1))) rfl (p_add rfl) rfl rfl ?_
      refine lpure (v := .int .i64 (w64 (s143955.1 + 1))) rfl (p_assign rfl) rfl rfl ?_
      refine lend ?_
      exact kbackM ih147541 ((w64 (s143955.1 + 1)), e147546.Nodes, e147546.Station, e147546.Links) (φ147550, a147554, n147554, c147554, ob147554, blk147554, a147553, n147553, c147553) (sub_cons rfl (sub_cons rfl (sub_cons rfl (sub_cons rfl (sub_cons rfl (sub_cons rfl sub_nil)))))) ⟨(St.pick X147557 (.keep _ (.none _ (.skip _ (.keep _ (.keep _ (.keep _ (.refl _)))))))), (g143960.trans g147551), O147554, H147553⟩
    · refine dexit ?_
      refine eseq ?_
      refine eloop ?_
      refine xblock ?_
      refine nseq ?_
      refine dseq ?_
      refine dseq ?_
      refine dreg ?_
      refine lpure (v := .int .i64 0) rfl (p_assign rfl) rfl rfl ?_
      refine lend ?_
      refine nseq ?_
      refine dblock ?_
      refine dloopM (τ := Int × Int × (List Bool) × (List ApiLink)) (σ := Fz × Option Addr × Nat × Nat × Option Nat × Blk × Option Addr × Nat × Nat) (fun s149339 (φ149343, a149342, n149342, c149342, ob149342, blk149342, a149340, n149340, c149340) => [(1, .pointer (some ⟨b80242, 0, none⟩)), (2, .pointer (some ⟨b80246, 0, none⟩)), (3, .int .i64 (w64 (1 + (w64 (Int.tmod p80237.Bridges 6))))), (4, .int .i64 (w64 (2 + (w64 (Int.tmod p80237.Stations 5))))), (5, .pointer (some ⟨b80250, 0, none⟩)), (8, .int .i64 s149339.1)]) (fun s149339 (φ149343, a149342, n149342, c149342, ob149342, blk149342, a149340, n149340, c149340) hh => St φ149343 lo hh ((ob149342, blk149342) :: (none, .dead) :: (none, .dead) :: (some b80250, .cells [.int .i64 s149339.2.1, .slice a149340 n149340 c149340, .slice a149342 n149342 c149342] 29 .exact) :: (some b80246, .cells [.int .i64 0, .slice none 0 0, .slice none 0 0] 29 .exact) :: (some b80242, .cells [.int .u8 p80237.Bridges, .int .u8 p80237.Stations, .slice a80238 n80238 c80238, .slice a80239 n80239 c80239, .slice a80240 n80240 c80240, .slice a80241 n80241 c80241] 24 .exact) :: own) ∧ Fz.le φ143959 φ149343 ∧ OSl eApiLink φ149343 75 ob149342 blk149342 (.slice a149342 n149342 c149342) s149339.2.2.2 ∧ RSl eBool φ149343 (.slice a149340 n149340 c149340) s149339.2.2.1) (0, s143955.2.1, s143955.2.2.1, s143955.2.2.2) (φ143959, a143958, n143958, c143958, ob143958, blk143958, a143956, n143956, c143956) (sub_cons rfl (sub_cons rfl (sub_cons rfl (sub_cons rfl (sub_cons rfl (sub_cons rfl sub_nil)))))) ⟨(St.pick X147543 (.keep _ (.none _ (.none _ (.skip _ (.keep _ (.keep _ (.keep _ (.refl _))))))))), (Fz.le_refl _), O143958, H143956⟩ ?_
      rintro n150234 ih150233 s149339 ⟨φ149343, a149342, n149342, c149342, ob149342, blk149342, a149340, n149340, c149340⟩ t0 h150236 ⟨X150235, g149344, O149342, H149340⟩
      refine dseq ?_
      refine dseq ?_
      refine dreg ?_
      refine lpure (v := .int .i64 s149339.1) rfl (p_move rfl) rfl rfl ?_
      refine lpure (v := .int .i64 (w64 (2 + (w64 (Int.tmod p80237.Stations 5))))) rfl (p_move rfl) rfl rfl ?_
      refine lpure (v := .bool (decide (s149339.1 < (w64 (2 + (w64 (Int.tmod p80237.Stations 5))))))) rfl (p_lt rfl) rfl rfl ?_
      refine lend ?_
      refine nseq ?_
      refine dcond rfl rfl (fun k150237 => ?_) (fun k150237 => ?_)
      · refine dskip ?_
        refine nseq ?_
        refine dseq ?_
        refine dblock ?_
        refine dgo_start (n := 14) rfl (by kernel_rfl) ?_
        refine gload (v := .agg #[.int .u8 p80237.Bridges, .int .u8 p80237.Stations, .slice a80238 n80238 c80238, .slice a80239 n80239 c80239, .slice a80240 n80240 c80240, .slice a80241 n80241 c80241]) rfl (q_load wd_24 rfl) (St.ld X150235 (j := 5) rfl rfl) rfl ?_
        refine gload (v := .agg #[.int .i64 s149339.2.1, .slice a149340 n149340 c149340, .slice a149342 n149342 c149342]) rfl (q_load wd_29 rfl) (St.ld X150235 (j := 3) rfl rfl) rfl ?_
        refine gpure (v := .int .i64 (w64 (1 + (w64 (Int.tmod p80237.Bridges 6))))) rfl (p_move rfl) (lo_t rfl rfl) rfl rfl ?_
        refine gpure (v := .int .i64 s149339.1) rfl (p_move rfl) (lo_t rfl rfl) rfl rfl ?_
        refine gpure (v := .int .i64 (w64 ((w64 (1 + (w64 (Int.tmod p80237.Bridges 6)))) + s149339.1))) rfl (p_add rfl) (lo_t rfl (lo_t rfl rfl)) rfl rfl ?_
        refine gpure (v := .pointer (some ⟨b80242, 3, none⟩)) rfl (p_fa fo_24_3 rfl) (lo_t (lo_own X150235 (j := 5) (o := 0) (s := none) (f := 0) rfl) rfl) rfl rfl ?_
        refine gload (v := .slice a80239 n80239 c80239) rfl (q_load wd_22 rfl) (St.ld X150235 (j := 5) rfl rfl) rfl ?_
        refine gpure (v := .int .i64 s149339.1) rfl (p_move rfl) (lo_t rfl rfl) rfl rfl ?_
        refine gpure (v := .int .i64 (w64 (2 * s149339.1))) rfl (p_mul rfl) (lo_c (lo_t rfl rfl)) rfl rfl ?_
        refine gwait rfl (still_call rfl rfl ca_35 rfl) rfl ?_
        refine gpure (v := .int .i64 (w64 (1 + (w64 (Int.tmod p80237.Bridges 6))))) rfl (p_move rfl) (lo_t rfl rfl) rfl rfl ?_
        refine dgo_skip ?_
        refine dgo_skip ?_
        refine dgo_skip ?_
        refine gcall (m := 13) [false, true, true] (rk_cons (q_load wd_22 rfl) (St.ld X150235 (j := 5) rfl rfl) (same_self 20 rfl) (rk_cons (q_load wd_29 rfl) (St.ld X150235 (j := 3) rfl rfl) (same_self 20 rfl) (rk_cons (q_load wd_24 rfl) (St.ld X150235 (j := 5) rfl rfl) (same_self 20 rfl) rk_nil))) rfl rfl rfl rfl rfl ca_35 rfl rfl (f35_ok X150235 (p80237.Homes) ((w64 (2 * s149339.1))) (H80239.mono ((g136787.trans g143960).trans g149344))) rfl (fun e150238 v150239 h150240 hq150241 => ?_)
        cases hq150241
        refine dgo_skip ?_
        refine dgo_skip ?_
        refine dgo_skip ?_
        refine dgo_skip ?_
        refine dgo_skip ?_
        refine dgo_skip ?_
        refine dgo_skip ?_
        refine dgo_skip ?_
        refine dgo_skip ?_
        refine dgo_skip ?_
        refine dgo_skip ?_
        refine Sim.mustM fun k150242 => ?_
        refine gpure (v := .int .i64 (Int.tmod e150238 (w64 (1 + (w64 (Int.tmod p80237.Bridges 6)))))) rfl (p_rem rfl) (lo_t rfl (lo_t rfl rfl)) (rem_ok (of_decide_eq_true k150242)) rfl ?_
        refine gwait rfl (still_call rfl rfl ca_34 rfl) rfl ?_
        refine dgo_skip ?_
        refine gcall (m := 12) [false, false] (rk_cons (q_load wd_29 rfl) (St.ld X150235 (j := 3) rfl rfl) (same_self 20 rfl) (rk_cons (q_load wd_24 rfl) (St.ld X150235 (j := 5) rfl rfl) (same_self 20 rfl) rk_nil)) rfl rfl rfl rfl rfl ca_34 rfl rfl (f34_ok X150235 p80237 ((ApiTopo.mk s149339.2.1 s149339.2.2.1 s149339.2.2.2)) ((w64 ((w64 (1 + (w64 (Int.tmod p80237.Bridges 6)))) + s149339.1))) ((Int.tmod e150238 (w64 (1 + (w64 (Int.tmod p80237.Bridges 6)))))) (H80238.mono ((g136787.trans g143960).trans g149344)) (H80239.mono ((g136787.trans g143960).trans g149344)) (H80240.mono ((g136787.trans g143960).trans g149344)) (H80241.mono ((g136787.trans g143960).trans g149344)) H149340 O149342) rfl ?_
        rintro e150243 _ h150245 ⟨φ150247, a150250, n150250, c150250, a150251, n150251, c150251, ob150251, blk150251, g150248, X150249, rfl, H150250, O150251⟩
        refine dgo_skip ?_
        refine dgo_skip ?_
        refine dgo_skip ?_
        refine dgo_skip ?_
        refine dgo_skip ?_
        refine dgo_skip ?_
        refine dgo_skip ?_
        refine dgo_skip ?_
        refine dgo_skip ?_
        refine dgo_skip ?_
        refine dgo_skip ?_
        refine dgo_skip ?_
        refine dgo_skip ?_
        refine gwait rfl (still_store rfl rfl rfl) rfl ?_
        obtain ⟨h150253, hst150255, X150254⟩ := St.st X150249 (j := 3) (o := 0) (n := 3) (x := .agg #[.int .i64 e150243.Nodes, .slice a150250 n150250 c150250, .slice a150251 n150251 c150251]) rfl rfl rfl rfl rfl rfl
        refine gact0 (m := 11) [] rk_nil rfl rfl rfl rfl (h_store ts_29 rfl) hst150255 ?_
        refine dgo_skip ?_
        refine dgo_skip ?_
        refine dgo_skip ?_
        refine dgo_skip ?_
        refine dgo_skip ?_
        refine dgo_skip ?_
        refine dgo_skip ?_
        refine dgo_skip ?_
        refine dgo_skip ?_
        refine dgo_skip ?_
        refine dgo_skip ?_
        refine dgo_skip ?_
        refine dgo_skip ?_
        refine dgo_skip ?_
        refine gend rk_nil ?_
        refine nblock ?_
        refine nseq ?_
        refine dreg ?_
        refine lpure (v := .int .i64 s149339.1) rfl (p_move rfl) rfl rfl ?_
        refine lpure (v := .int .i64 (w64 (s149339.1 + 1))) rfl (p_add rfl) rfl rfl ?_
        refine lpure (v := .int .i64 (w64 (s149339.1 + 1))) rfl (p_assign rfl) rfl rfl ?_
        refine lend ?_
        exact kbackM ih150233 ((w64 (s149339.1 + 1)), e150243.Nodes, e150243.Station, e150243.Links) (φ150247, a150251, n150251, c150251, ob150251, blk150251, a150250, n150250, c150250) (sub_cons rfl (sub_cons rfl (sub_cons rfl (sub_cons rfl (sub_cons rfl (sub_cons rfl sub_nil)))))) ⟨(St.pick X150254 (.keep _ (.none _ (.none _ (.skip _ (.skip _ (.keep _ (.keep _ (.keep _ (.refl _)))))))))), (g149344.trans g150248), O150251, H150250⟩
      · refine dexit ?_
        refine eseq ?_
        refine eloop ?_
        refine xblock ?_
        refine nseq ?_
        refine dseq ?_
        refine dseq ?_
        refine dreg ?_
        refine lpure (v := .int .i64 (w64 (1 + (w64 (Int.tmod p80237.Bridges 6))))) rfl (p_move rfl) rfl rfl ?_
        refine lpure (v := .bool (decide (2 < (w64 (1 + (w64 (Int.tmod p80237.Bridges 6))))))) rfl (p_gt rfl) rfl rfl ?_
        refine lpure (v := .bool (decide (2 < (w64 (1 + (w64 (Int.tmod p80237.Bridges 6))))))) rfl (p_move rfl) rfl rfl ?_
        refine lsh (τ := Bool) (σ := Unit) (fun s150257 (_ : Unit) => [(1, .pointer (some ⟨b80242, 0, none⟩)), (2, .pointer (some ⟨b80246, 0, none⟩)), (3, .int .i64 (w64 (1 + (w64 (Int.tmod p80237.Bridges 6))))), (4, .int .i64 (w64 (2 + (w64 (Int.tmod p80237.Stations 5))))), (5, .pointer (some ⟨b80250, 0, none⟩)), (75, .bool s150257)]) (fun s150257 (_ : Unit) hh => St φ149343 lo hh ((ob149342, blk149342) :: (none, .dead) :: (none, .dead) :: (some b80250, .cells [.int .i64 s149339.2.1, .slice a149340 n149340 c149340, .slice a149342 n149342 c149342] 29 .exact) :: (some b80246, .cells [.int .i64 0, .slice none 0 0, .slice none 0 0] 29 .exact) :: (some b80242, .cells [.int .u8 p80237.Bridges, .int .u8 p80237.Stations, .slice a80238 n80238 c80238, .slice a80239 n80239 c80239, .slice a80240 n80240 c80240, .slice a80241 n80241 c80241] 24 .exact) :: own)) 5 ?_ ?_
        · rintro s150257 _ t0 h150259 X150258
          refine lend ?_
          refine nseq ?_
          refine djoinM (τ := Int × (List Bool) × (List ApiLink)) (σ := Fz × Option Addr × Nat × Nat × Option Nat × Blk × Option Addr × Nat × Nat) (fun s150273 (φ150277, a150276, n150276, c150276, ob150276, blk150276, a150274, n150274, c150274) => [(1, .pointer (some ⟨b80242, 0, none⟩)), (2, .pointer (some ⟨b80246, 0, none⟩)), (3, .int .i64 (w64 (1 + (w64 (Int.tmod p80237.Bridges 6))))), (4, .int .i64 (w64 (2 + (w64 (Int.tmod p80237.Stations 5))))), (5, .pointer (some ⟨b80250, 0, none⟩))]) (fun s150273 (φ150277, a150276, n150276, c150276, ob150276, blk150276, a150274, n150274, c150274) hh => St φ150277 lo hh ((ob150276, blk150276) :: (none, .dead) :: (none, .dead) :: (none, .dead) :: (some b80250, .cells [.int .i64 s150273.1, .slice a150274 n150274 c150274, .slice a150276 n150276 c150276] 29 .exact) :: (some b80246, .cells [.int .i64 0, .slice none 0 0, .slice none 0 0] 29 .exact) :: (some b80242, .cells [.int .u8 p80237.Bridges, .int .u8 p80237.Stations, .slice a80238 n80238 c80238, .slice a80239 n80239 c80239, .slice a80240 n80240 c80240, .slice a80241 n80241 c80241] 24 .exact) :: own) ∧ Fz.le φ149343 φ150277 ∧ OSl eApiLink φ150277 75 ob150276 blk150276 (.slice a150276 n150276 c150276) s150273.2.2 ∧ RSl eBool φ150277 (.slice a150274 n150274 c150274) s150273.2.1) ?_ ?_
          · rintro s150273 ⟨φ150277, a150276, n150276, c150276, ob150276, blk150276, a150274, n150274, c150274⟩ t0 h150280 ⟨X150279, g150278, O150276, H150274⟩
            refine nseq ?_
            refine dseq ?_
            refine dseq ?_
            refine dreg ?_
            refine lpure (v := .int .i64 0) rfl (p_assign rfl) rfl rfl ?_
            refine lend ?_
            refine nseq ?_
            refine dblock ?_
            refine dloopM (τ := Int × Int × (List Bool) × (List ApiLink)) (σ := Fz × Option Addr × Nat × Nat × Option Nat × Blk × Option Addr × Nat × Nat) (fun s150694 (φ150698, a150697, n150697, c150697, ob150697, blk150697, a150695, n150695, c150695) => [(1, .pointer (some ⟨b80242, 0, none⟩)), (2, .pointer (some ⟨b80246, 0, none⟩)), (3, .int .i64 (w64 (1 + (w64 (Int.tmod p80237.Bridges 6))))), (4, .int .i64 (w64 (2 + (w64 (Int.tmod p80237.Stations 5))))), (5, .pointer (some ⟨b80250, 0, none⟩)), (9, .int .i64 s150694.1)]) (fun s150694 (φ150698, a150697, n150697, c150697, ob150697, blk150697, a150695, n150695, c150695) hh => St φ150698 lo hh ((ob150697, blk150697) :: (none, .dead) :: (none, .dead) :: (none, .dead) :: (none, .dead) :: (some b80250, .cells [.int .i64 s150694.2.1, .slice a150695 n150695 c150695, .slice a150697 n150697 c150697] 29 .exact) :: (some b80246, .cells [.int .i64 0, .slice none 0 0, .slice none 0 0] 29 .exact) :: (some b80242, .cells [.int .u8 p80237.Bridges, .int .u8 p80237.Stations, .slice a80238 n80238 c80238, .slice a80239 n80239 c80239, .slice a80240 n80240 c80240, .slice a80241 n80241 c80241] 24 .exact) :: own) ∧ Fz.le φ150277 φ150698 ∧ OSl eApiLink φ150698 75 ob150697 blk150697 (.slice a150697 n150697 c150697) s150694.2.2.2 ∧ RSl eBool φ150698 (.slice a150695 n150695 c150695) s150694.2.2.1) (0, s150273.1, s150273.2.1, s150273.2.2) (φ150277, a150276, n150276, c150276, ob150276, blk150276, a150274, n150274, c150274) (sub_cons rfl (sub_cons rfl (sub_cons rfl (sub_cons rfl (sub_cons rfl (sub_cons rfl sub_nil)))))) ⟨(St.pick X150279 (.keep _ (.none _ (.none _ (.none _ (.none _ (.skip _ (.skip _ (.skip _ (.keep _ (.keep _ (.keep _ (.refl _))))))))))))), (Fz.le_refl _), O150276, H150274⟩ ?_
            rintro n150904 ih150903 s150694 ⟨φ150698, a150697, n150697, c150697, ob150697, blk150697, a150695, n150695, c150695⟩ t0 h150906 ⟨X150905, g150699, O150697, H150695⟩
            refine dseq ?_
            refine dseq ?_
            refine dreg ?_
            refine lpure (v := .int .i64 s150694.1) rfl (p_move rfl) rfl rfl ?_
            refine lpure (v := .int .i64 (w64 (2 + (w64 (Int.tmod p80237.Stations 5))))) rfl (p_move rfl) rfl rfl ?_
            refine lpure (v := .bool (decide (s150694.1 < (w64 (2 + (w64 (Int.tmod p80237.Stations 5))))))) rfl (p_lt rfl) rfl rfl ?_
            refine lend ?_
            refine nseq ?_
            refine dcond rfl rfl (fun k150907 => ?_) (fun k150907 => ?_)
            · refine dskip ?_
              refine nseq ?_
              refine dseq ?_
              refine dblock ?_
              refine dseq ?_
              refine dreg ?_
              refine lpure (v := .pointer (some ⟨b80242, 3, none⟩)) rfl (p_fa fo_24_3 rfl) rfl rfl ?_
              refine lread (v := .slice a80239 n80239 c80239) rfl (q_load wd_22 rfl) (St.ld X150905 (j := 7) rfl rfl) rfl ?_
              refine lpure (v := .int .i64 s150694.1) rfl (p_move rfl) rfl rfl ?_
              refine lpure (v := .int .i64 (w64 (2 * s150694.1))) rfl (p_mul rfl) rfl rfl ?_
              refine lpure (v := .int .i64 (w64 ((w64 (2 * s150694.1)) + 1))) rfl (p_add rfl) rfl rfl ?_
              refine lcall rfl rfl ca_35 rfl rfl (f35_ok X150905 (p80237.Homes) ((w64 ((w64 (2 * s150694.1)) + 1))) (H80239.mono ((((g136787.trans g143960).trans g149344).trans g150278).trans g150699))) rfl (fun e150908 v150909 h150910 hq150911 => ?_)
              cases hq150911
              refine lpure (v := .int .i64 (Int.tmod e150908 3)) rfl (p_rem rfl) rfl rfl ?_
              refine lpure (v := .bool (decide (0 < (Int.tmod e150908 3)))) rfl (p_gt rfl) rfl rfl ?_
              refine lend ?_
              refine nseq ?_
              refine djoinM (τ := Int × (List Bool) × (List ApiLink)) (σ := Fz × Option Addr × Nat × Nat × Option Nat × Blk × Option Addr × Nat × Nat) (fun s150931 (φ150935, a150934, n150934, c150934, ob150934, blk150934, a150932, n150932, c150932) => [(1, .pointer (some ⟨b80242, 0, none⟩)), (2, .pointer (some ⟨b80246, 0, none⟩)), (3, .int .i64 (w64 (1 + (w64 (Int.tmod p80237.Bridges 6))))), (4, .int .i64 (w64 (2 + (w64 (Int.tmod p80237.Stations 5))))), (5, .pointer (some ⟨b80250, 0, none⟩)), (9, .int .i64 s150694.1)]) (fun s150931 (φ150935, a150934, n150934, c150934, ob150934, blk150934, a150932, n150932, c150932) hh => St φ150935 lo hh ((ob150934, blk150934) :: (none, .dead) :: (none, .dead) :: (none, .dead) :: (none, .dead) :: (none, .dead) :: (some b80250, .cells [.int .i64 s150931.1, .slice a150932 n150932 c150932, .slice a150934 n150934 c150934] 29 .exact) :: (some b80246, .cells [.int .i64 0, .slice none 0 0, .slice none 0 0] 29 .exact) :: (some b80242, .cells [.int .u8 p80237.Bridges, .int .u8 p80237.Stations, .slice a80238 n80238 c80238, .slice a80239 n80239 c80239, .slice a80240 n80240 c80240, .slice a80241 n80241 c80241] 24 .exact) :: own) ∧ Fz.le φ150698 φ150935 ∧ OSl eApiLink φ150935 75 ob150934 blk150934 (.slice a150934 n150934 c150934) s150931.2.2 ∧ RSl eBool φ150935 (.slice a150932 n150932 c150932) s150931.2.1) ?_ ?_
              · rintro s150931 ⟨φ150935, a150934, n150934, c150934, ob150934, blk150934, a150932, n150932, c150932⟩ t0 h150938 ⟨X150937, g150936, O150934, H150932⟩
                refine nblock ?_
                refine nseq ?_
                refine dreg ?_
                refine lpure (v := .int .i64 s150694.1) rfl (p_move rfl) rfl rfl ?_
                refine lpure (v := .int .i64 (w64 (s150694.1 + 1))) rfl (p_add rfl) rfl rfl ?_
                refine lpure (v := .int .i64 (w64 (s150694.1 + 1))) rfl (p_assign rfl) rfl rfl ?_
                refine lend ?_
                exact kbackM ih150903 ((w64 (s150694.1 + 1)), s150931.1, s150931.2.1, s150931.2.2) (φ150935, a150934, n150934, c150934, ob150934, blk150934, a150932, n150932, c150932) (sub_cons rfl (sub_cons rfl (sub_cons rfl (sub_cons rfl (sub_cons rfl (sub_cons rfl sub_nil)))))) ⟨(St.pick X150937 (.keep _ (.none _ (.none _ (.none _ (.none _ (.skip _ (.skip _ (.skip _ (.skip _ (.skip _ (.keep _ (.keep _ (.keep _ (.refl _))))))))))))))), (g150699.trans g150936), O150934, H150932⟩
              · intro j150939 J150940
                refine dcond rfl rfl (fun k150912 => ?_) (fun k150912 => ?_)
                · refine dgo_start (n := 15) rfl (by kernel_rfl) ?_
                  refine gload (v := .agg #[.int .u8 p80237.Bridges, .int .u8 p80237.Stations, .slice a80238 n80238 c80238, .slice a80239 n80239 c80239, .slice a80240 n80240 c80240, .slice a80241 n80241 c80241]) rfl (q_load wd_24 rfl) (St.ld X150905 (j := 7) rfl rfl) rfl ?_
                  refine gload (v := .agg #[.int .i64 s150694.2.1, .slice a150695 n150695 c150695, .slice a150697 n150697 c150697]) rfl (q_load wd_29 rfl) (St.ld X150905 (j := 5) rfl rfl) rfl ?_
                  refine gpure (v := .int .i64 (w64 (1 + (w64 (Int.tmod p80237.Bridges 6))))) rfl (p_move rfl) (lo_t rfl rfl) rfl rfl ?_
                  refine gpure (v := .int .i64 s150694.1) rfl (p_move rfl) (lo_t rfl rfl) rfl rfl ?_
                  refine gpure (v := .int .i64 (w64 ((w64 (1 + (w64 (Int.tmod p80237.Bridges 6)))) + s150694.1))) rfl (p_add rfl) (lo_t rfl (lo_t rfl rfl)) rfl rfl ?_
                  refine gpure (v := .pointer (some ⟨b80242, 3, none⟩)) rfl (p_fa fo_24_3 rfl) (lo_t (lo_own X150905 (j := 7) (o := 0) (s := none) (f := 0) rfl) rfl) rfl rfl ?_
                  refine gload (v := .slice a80239 n80239 c80239) rfl (q_load wd_22 rfl) (St.ld X150905 (j := 7) rfl rfl) rfl ?_
                  refine gpure (v := .int .i64 s150694.1) rfl (p_move rfl) (lo_t rfl rfl) rfl rfl ?_
                  refine gpure (v := .int .i64 (w64 (2 * s150694.1))) rfl (p_mul rfl) (lo_c (lo_t rfl rfl)) rfl rfl ?_
                  refine gpure (v := .int .i64 (w64 ((w64 (2 * s150694.1)) + 1))) rfl (p_add rfl) (lo_t rfl (lo_c rfl)) rfl rfl ?_
                  refine gwait rfl (still_call rfl rfl ca_35 rfl) rfl ?_
                  refine gpure (v := .int .i64 (w64 (1 + (w64 (Int.tmod p80237.Bridges 6))))) rfl (p_move rfl) (lo_t rfl rfl) rfl rfl ?_
                  refine dgo_skip ?_
                  refine dgo_skip ?_
                  refine dgo_skip ?_
                  refine gcall (m := 14) [false, true, true] (rk_cons (q_load wd_22 rfl) (St.ld X150905 (j := 7) rfl rfl) (same_self 20 rfl) (rk_cons (q_load wd_29 rfl) (St.ld X150905 (j := 5) rfl rfl) (same_self 20 rfl) (rk_cons (q_load wd_24 rfl) (St.ld X150905 (j := 7) rfl rfl) (same_self 20 rfl) rk_nil))) rfl rfl rfl rfl rfl ca_35 rfl rfl (f35_ok X150905 (p80237.Homes) ((w64 ((w64 (2 * s150694.1)) + 1))) (H80239.mono ((((g136787.trans g143960).trans g149344).trans g150278).trans g150699))) rfl (fun e150941 v150942 h150943 hq150944 => ?_)
                  cases hq150944
                  refine dgo_skip ?_
                  refine dgo_skip ?_
                  refine dgo_skip ?_
                  refine dgo_skip ?_
                  refine dgo_skip ?_
                  refine dgo_skip ?_
                  refine dgo_skip ?_
                  refine dgo_skip ?_
                  refine dgo_skip ?_
                  refine dgo_skip ?_
                  refine dgo_skip ?_
                  refine dgo_skip ?_
                  refine Sim.mustM fun k150945 => ?_
                  refine gpure (v := .int .i64 (Int.tmod e150941 (w64 (1 + (w64 (Int.tmod p80237.Bridges 6)))))) rfl (p_rem rfl) (lo_t rfl (lo_t rfl rfl)) (rem_ok (of_decide_eq_true k150945)) rfl ?_
                  refine gwait rfl (still_call rfl rfl ca_34 rfl) rfl ?_
                  refine dgo_skip ?_
                  refine gcall (m := 13) [false, false] (rk_cons (q_load wd_29 rfl) (St.ld X150905 (j := 5) rfl rfl) (same_self 20 rfl) (rk_cons (q_load wd_24 rfl) (St.ld X150905 (j := 7) rfl rfl) (same_self 20 rfl) rk_nil)) rfl rfl rfl rfl rfl ca_34 rfl rfl (f34_ok X150905 p80237 ((ApiTopo.mk s150694.2.1 s150694.2.2.1 s150694.2.2.2)) ((w64 ((w64 (1 + (w64 (Int.tmod p80237.Bridges 6)))) + s150694.1))) ((Int.tmod e150941 (w64 (1 + (w64 (Int.tmod p80237.Bridges 6)))))) (H80238.mono ((((g136787.trans g143960).trans g149344).trans g150278).trans g150699)) (H80239.mono ((((g136787.trans g143960).trans g149344).trans g150278).trans g150699)) (H80240.mono ((((g136787.trans g143960).trans g149344).trans g150278).trans g150699)) (H80241.mono ((((g136787.trans g143960).trans g149344).trans g150278).trans g150699)) H150695 O150697) rfl ?_
                  rintro e150946 _ h150948 ⟨φ150950, a150953, n150953, c150953, a150954, n150954, c150954, ob150954, blk150954, g150951, X150952, rfl, H150953, O150954⟩
                  refine dgo_skip ?_
                  refine dgo_skip ?_
                  refine dgo_skip ?_
                  refine dgo_skip ?_
                  refine dgo_skip ?_
                  refine dgo_skip ?_
                  refine dgo_skip ?_
                  refine dgo_skip ?_
                  refine dgo_skip ?_
                  refine dgo_skip ?_
                  refine dgo_skip ?_
                  refine dgo_skip ?_
                  refine dgo_skip ?_
                  refine dgo_skip ?_
                  refine gwait rfl (still_store rfl rfl rfl) rfl ?_
                  obtain ⟨h150956, hst150958, X150957⟩ := St.st X150952 (j := 5) (o := 0) (n := 3) (x := .agg #[.int .i64 e150946.Nodes, .slice a150953 n150953 c150953, .slice a150954 n150954 c150954]) rfl rfl rfl rfl rfl rfl
                  refine gact0 (m := 12) [] rk_nil rfl rfl rfl rfl (h_store ts_29 rfl) hst150958 ?_
                  refine dgo_skip ?_
                  refine dgo_skip ?_
                  refine dgo_skip ?_
                  refine dgo_skip ?_
                  refine dgo_skip ?_
                  refine dgo_skip ?_
                  refine dgo_skip ?_
                  refine dgo_skip ?_
                  refine dgo_skip ?_
                  refine dgo_skip ?_
                  refine dgo_skip ?_
                  refine dgo_skip ?_
                  refine dgo_skip ?_
                  refine dgo_skip ?_
                  refine dgo_skip ?_
                  refine gend rk_nil ?_
                  exact jmpM J150940 (e150946.Nodes, e150946.Station, e150946.Links) (φ150950, a150954, n150954, c150954, ob150954, blk150954, a150953, n150953, c150953) (sub_cons rfl (sub_cons rfl (sub_cons rfl (sub_cons rfl (sub_cons rfl (sub_cons rfl sub_nil)))))) ⟨(St.pick X150957 (.keep _ (.none _ (.none _ (.none _ (.none _ (.none _ (.skip _ (.skip _ (.skip _ (.skip _ (.keep _ (.keep _ (.keep _ (.refl _))))))))))))))), g150951, O150954, H150953⟩
                · refine dskip ?_
                  exact jmpM J150940 (s150694.2.1, s150694.2.2.1, s150694.2.2.2) (φ150698, a150697, n150697, c150697, ob150697, blk150697, a150695, n150695, c150695) (sub_cons rfl (sub_cons rfl (sub_cons rfl (sub_cons rfl (sub_cons rfl (sub_cons rfl sub_nil)))))) ⟨(St.pick X150905 (.keep _ (.none _ (.none _ (.none _ (.none _ (.none _ (.skip _ (.skip _ (.skip _ (.skip _ (.keep _ (.keep _ (.keep _ (.refl _))))))))))))))), (Fz.le_refl _), O150697, H150695⟩
            · refine dexit ?_
              refine eseq ?_
              refine eloop ?_
              refine xblock ?_
              refine nseq ?_
              refine dseq ?_
              refine dseq ?_
              refine dreg ?_
              refine lpure (v := .int .i64 0) rfl (p_assign rfl) rfl rfl ?_
              refine lend ?_
              refine nseq ?_
              refine dblock ?_
              refine dloopM (τ := Int × Int × (List Bool) × (List ApiLink)) (σ := Fz × Option Addr × Nat × Nat × Option Nat × Blk × Option Addr × Nat × Nat) (fun s151032 (φ151036, a151035, n151035, c151035, ob151035, blk151035, a151033, n151033, c151033) => [(1, .pointer (some ⟨b80242, 0, none⟩)), (2, .pointer (some ⟨b80246, 0, none⟩)), (3, .int .i64 (w64 (1 + (w64 (Int.tmod p80237.Bridges 6))))), (5, .pointer (some ⟨b80250, 0, none⟩)), (10, .int .i64 s151032.1)]) (fun s151032 (φ151036, a151035, n151035, c151035, ob151035, blk151035, a151033, n151033, c151033) hh => St φ151036 lo hh ((ob151035, blk151035) :: (none, .dead) :: (none, .dead) :: (none, .dead) :: (none, .dead) :: (none, .dead) :: (some b80250, .cells [.int .i64 s151032.2.1, .slice a151033 n151033 c151033, .slice a151035 n151035 c151035] 29 .exact) :: (some b80246, .cells [.int .i64 0, .slice none 0 0, .slice none 0 0] 29 .exact) :: (some b80242, .cells [.int .u8 p80237.Bridges, .int .u8 p80237.Stations, .slice a80238 n80238 c80238, .slice a80239 n80239 c80239, .slice a80240 n80240 c80240, .slice a80241 n80241 c80241] 24 .exact) :: own) ∧ Fz.le φ150698 φ151036 ∧ OSl eApiLink φ151036 75 ob151035 blk151035 (.slice a151035 n151035 c151035) s151032.2.2.2 ∧ RSl eBool φ151036 (.slice a151033 n151033 c151033) s151032.2.2.1) (0, s150694.2.1, s150694.2.2.1, s150694.2.2.2) (φ150698, a150697, n150697, c150697, ob150697, blk150697, a150695, n150695, c150695) (sub_cons rfl (sub_cons rfl (sub_cons rfl (sub_cons rfl (sub_cons rfl sub_nil))))) ⟨(St.pick X150905 (.keep _ (.none _ (.none _ (.none _ (.none _ (.none _ (.skip _ (.skip _ (.skip _ (.skip _ (.keep _ (.keep _ (.keep _ (.refl _))))))))))))))), (Fz.le_refl _), O150697, H150695⟩ ?_
              rintro n151073 ih151072 s151032 ⟨φ151036, a151035, n151035, c151035, ob151035, blk151035, a151033, n151033, c151033⟩ t0 h151075 ⟨X151074, g151037, O151035, H151033⟩
              refine dseq ?_
              refine dseq ?_
              refine dreg ?_
              refine lpure (v := .int .i64 s151032.1) rfl (p_move rfl) rfl rfl ?_
              refine lpure (v := .int .i64 (w64 (s151032.1 + 1))) rfl (p_add rfl) rfl rfl ?_
              refine lpure (v := .pointer (some ⟨b80242, 2, none⟩)) rfl (p_fa fo_24_2 rfl) rfl rfl ?_
              refine lread (v := .slice a80238 n80238 c80238) rfl (q_load wd_22 rfl) (St.ld X151074 (j := 8) rfl rfl) rfl ?_
              refine lpure (v := .int .i64 (p80237.Chords.length : Int)) rfl (p_len rfl rfl rfl un_22 rfl) (RSl.lenC (H80238.mono (((((g136787.trans g143960).trans g149344).trans g150278).trans g150699).trans g151037))) rfl ?_
              refine lpure (v := .bool (decide ((w64 (s151032.1 + 1)) < (p80237.Chords.length : Int)))) rfl (p_lt rfl) rfl rfl ?_
              refine lpure (v := .bool (decide ((w64 (s151032.1 + 1)) < (p80237.Chords.length : Int)))) rfl (p_move rfl) rfl rfl ?_
              refine lsh (τ := Bool) (σ := Unit) (fun s151077 (_ : Unit) => [(1, .pointer (some ⟨b80242, 0, none⟩)), (2, .pointer (some ⟨b80246, 0, none⟩)), (3, .int .i64 (w64 (1 + (w64 (Int.tmod p80237.Bridges 6))))), (5, .pointer (some ⟨b80250, 0, none⟩)), (10, .int .i64 s151032.1), (117, .bool s151077)]) (fun s151077 (_ : Unit) hh => St φ151036 lo hh ((ob151035, blk151035) :: (none, .dead) :: (none, .dead) :: (none, .dead) :: (none, .dead) :: (none, .dead) :: (some b80250, .cells [.int .i64 s151032.2.1, .slice a151033 n151033 c151033, .slice a151035 n151035 c151035] 29 .exact) :: (some b80246, .cells [.int .i64 0, .slice none 0 0, .slice none 0 0] 29 .exact) :: (some b80242, .cells [.int .u8 p80237.Bridges, .int .u8 p80237.Stations, .slice a80238 n80238 c80238, .slice a80239 n80239 c80239, .slice a80240 n80240 c80240, .slice a80241 n80241 c80241] 24 .exact) :: own)) 3 ?_ ?_
              · rintro s151077 _ t0 h151079 X151078
                refine lend ?_
                refine nseq ?_
                refine dcond rfl rfl (fun k151080 => ?_) (fun k151080 => ?_)
                · refine dskip ?_
                  refine nseq ?_
                  refine dseq ?_
                  refine dblock ?_
                  refine dgo_start (n := 21) rfl (by kernel_rfl) ?_
                  refine gload (v := .agg #[.int .u8 p80237.Bridges, .int .u8 p80237.Stations, .slice a80238 n80238 c80238, .slice a80239 n80239 c80239, .slice a80240 n80240 c80240, .slice a80241 n80241 c80241]) rfl (q_load wd_24 rfl) (St.ld X151078 (j := 8) rfl rfl) rfl ?_
                  refine gload (v := .agg #[.int .i64 s151032.2.1, .slice a151033 n151033 c151033, .slice a151035 n151035 c151035]) rfl (q_load wd_29 rfl) (St.ld X151078 (j := 6) rfl rfl) rfl ?_
                  refine gpure (v := .pointer (some ⟨b80242, 2, none⟩)) rfl (p_fa fo_24_2 rfl) (lo_t (lo_own X151078 (j := 8) (o := 0) (s := none) (f := 0) rfl) rfl) rfl rfl ?_
                  refine gload (v := .slice a80238 n80238 c80238) rfl (q_load wd_22 rfl) (St.ld X151078 (j := 8) rfl rfl) rfl ?_
                  refine gpure (v := .int .i64 s151032.1) rfl (p_move rfl) (lo_t rfl rfl) rfl rfl ?_
                  refine Sim.bindM fun e151081 he151082 => ?_
                  obtain ⟨p151083, cs151083, hp151083, hF151083, hR151083⟩ := RSl.ia (H80238.mono (((((g136787.trans g143960).trans g149344).trans g150278).trans g150699).trans g151037)) he151082 (kd := .i64) (n := 1) rfl
                  have hR151083 : _ = [(.int .u8 e151081 : Value)] := hR151083
                  subst hR151083
                  refine gpure (v := p151083) rfl (p_ia rs_22 rfl) (lo_t (lo_sl X151078 (H80238.mono (((((g136787.trans g143960).trans g149344).trans g150278).trans g150699).trans g151037))) (lo_t rfl rfl)) hp151083 rfl ?_
                  refine gload (v := .int .u8 e151081) rfl (q_load wd_5 rfl) (FP.ld X151078 hF151083) rfl ?_
                  refine gpure (v := .int .i64 (w64 e151081)) rfl (p_conv un_5 un_3 rfl) (lo_t rfl rfl) rfl rfl ?_
                  refine gpure (v := .int .i64 (w64 (1 + (w64 (Int.tmod p80237.Bridges 6))))) rfl (p_move rfl) (lo_t rfl rfl) rfl rfl ?_
                  refine Sim.mustM fun k151084 => ?_
                  refine gpure (v := .int .i64 (Int.tmod (w64 e151081) (w64 (1 + (w64 (Int.tmod p80237.Bridges 6)))))) rfl (p_rem rfl) (lo_t rfl (lo_t rfl rfl)) (rem_ok (of_decide_eq_true k151084)) rfl ?_
                  refine gpure (v := .pointer (some ⟨b80242, 2, none⟩)) rfl (p_fa fo_24_2 rfl) (lo_t (lo_own X151078 (j := 8) (o := 0) (s := none) (f := 0) rfl) rfl) rfl rfl ?_
                  refine gload (v := .slice a80238 n80238 c80238) rfl (q_load wd_22 rfl) (St.ld X151078 (j := 8) rfl rfl) rfl ?_
                  refine gpure (v := .int .i64 s151032.1) rfl (p_move rfl) (lo_t rfl rfl) rfl rfl ?_
                  refine gpure (v := .int .i64 (w64 (s151032.1 + 1))) rfl (p_add rfl) (lo_t rfl (lo_c rfl)) rfl rfl ?_
                  refine Sim.bindM fun e151085 he151086 => ?_
                  obtain ⟨p151087, cs151087, hp151087, hF151087, hR151087⟩ := RSl.ia (H80238.mono (((((g136787.trans g143960).trans g149344).trans g150278).trans g150699).trans g151037)) he151086 (kd := .i64) (n := 1) rfl
                  have hR151087 : _ = [(.int .u8 e151085 : Value)] := hR151087
                  subst hR151087
                  refine gpure (v := p151087) rfl (p_ia rs_22 rfl) (lo_t (lo_sl X151078 (H80238.mono (((((g136787.trans g143960).trans g149344).trans g150278).trans g150699).trans g151037))) (lo_t rfl rfl)) hp151087 rfl ?_
                  refine gload (v := .int .u8 e151085) rfl (q_load wd_5 rfl) (FP.ld X151078 hF151087) rfl ?_
                  refine gpure (v := .int .i64 (w64 e151085)) rfl (p_conv un_5 un_3 rfl) (lo_t rfl rfl) rfl rfl ?_
                  refine gpure (v := .int .i64 (w64 (1 + (w64 (Int.tmod p80237.Bridges 6))))) rfl (p_move rfl) (lo_t rfl rfl) rfl rfl ?_
                  refine Sim.mustM fun k151088 => ?_
                  refine gpure (v := .int .i64 (Int.tmod (w64 e151085) (w64 (1 + (w64 (Int.tmod p80237.Bridges 6)))))) rfl (p_rem rfl) (lo_t rfl (lo_t rfl rfl)) (rem_ok (of_decide_eq_true k151088)) rfl ?_
                  refine gwait rfl (still_call rfl rfl ca_34 rfl) rfl ?_
                  refine dgo_skip ?_
                  refine gcall (m := 20) [false, false, false, false, false, false] (rk_cons (q_load wd_5 rfl) (FP.ld X151078 hF151087) (same_self 20 rfl) (rk_cons (q_load wd_22 rfl) (St.ld X151078 (j := 8) rfl rfl) (same_self 20 rfl) (rk_cons (q_load wd_5 rfl) (FP.ld X151078 hF151083) (same_self 20 rfl) (rk_cons (q_load wd_22 rfl) (St.ld X151078 (j := 8) rfl rfl) (same_self 20 rfl) (rk_cons (q_load wd_29 rfl) (St.ld X151078 (j := 6) rfl rfl) (same_self 20 rfl) (rk_cons (q_load wd_24 rfl) (St.ld X151078 (j := 8) rfl rfl) (same_self 20 rfl) rk_nil)))))) rfl rfl rfl rfl rfl ca_34 rfl rfl (f34_ok X151078 p80237 ((ApiTopo.mk s151032.2.1 s151032.2.2.1 s151032.2.2.2)) ((Int.tmod (w64 e151081) (w64 (1 + (w64 (Int.tmod p80237.Bridges 6)))))) ((Int.tmod (w64 e151085) (w64 (1 + (w64 (Int.tmod p80237.Bridges 6)))))) (H80238.mono (((((g136787.trans g143960).trans g149344).trans g150278).trans g150699).trans g151037)) (H80239.mono (((((g136787.trans g143960).trans g149344).trans g150278).trans g150699).trans g151037)) (H80240.mono (((((g136787.trans g143960).trans g149344).trans g150278).trans g150699).trans g151037)) (H80241.mono (((((g136787.trans g143960).trans g149344).trans g150278).trans g150699).trans g151037)) H151033 O151035) rfl ?_
                  rintro e151089 _ h151091 ⟨φ151093, a151096, n151096, c151096, a151097, n151097, c151097, ob151097, blk151097, g151094, X151095, rfl, H151096, O151097⟩
                  refine dgo_skip ?_
                  refine dgo_skip ?_
                  refine dgo_skip ?_
                  refine dgo_skip ?_
                  refine dgo_skip ?_
                  refine dgo_skip ?_
                  refine dgo_skip ?_
                  refine dgo_skip ?_
                  refine dgo_skip ?_
                  refine dgo_skip ?_
                  refine dgo_skip ?_
                  refine dgo_skip ?_
                  refine dgo_skip ?_
                  refine dgo_skip ?_
                  refine dgo_skip ?_
                  refine dgo_skip ?_
                  refine dgo_skip ?_
                  refine dgo_skip ?_
                  refine dgo_skip ?_
                  refine dgo_skip ?_
                  refine gwait rfl (still_store rfl rfl rfl) rfl ?_
                  obtain ⟨h151099, hst151101, X151100⟩ := St.st X151095 (j := 6) (o := 0) (n := 3) (x := .agg #[.int .i64 e151089.Nodes, .slice a151096 n151096 c151096, .slice a151097 n151097 c151097]) rfl rfl rfl rfl rfl rfl
                  refine gact0 (m := 19) [] rk_nil rfl rfl rfl rfl (h_store ts_29 rfl) hst151101 ?_
                  refine dgo_skip ?_
                  refine dgo_skip ?_
                  refine dgo_skip ?_
                  refine dgo_skip ?_
                  refine dgo_skip ?_
                  refine dgo_skip ?_
                  refine dgo_skip ?_
                  refine dgo_skip ?_
                  refine dgo_skip ?_
                  refine dgo_skip ?_
                  refine dgo_skip ?_
                  refine dgo_skip ?_
                  refine dgo_skip ?_
                  refine dgo_skip ?_
                  refine dgo_skip ?_
                  refine dgo_skip ?_
                  refine dgo_skip ?_
                  refine dgo_skip ?_
                  refine dgo_skip ?_
                  refine dgo_skip ?_
                  refine dgo_skip ?_
                  refine gend rk_nil ?_
                  refine nblock ?_
                  refine nseq ?_
                  refine dreg ?_
                  refine lpure (v := .int .i64 s151032.1) rfl (p_move rfl) rfl rfl ?_
                  refine lpure (v := .int .i64 (w64 (s151032.1 + 2))) rfl (p_add rfl) rfl rfl ?_
                  refine lpure (v := .int .i64 (w64 (s151032.1 + 2))) rfl (p_assign rfl) rfl rfl ?_
                  refine lend ?_
                  exact kbackM ih151072 ((w64 (s151032.1 + 2)), e151089.Nodes, e151089.Station, e151089.Links) (φ151093, a151097, n151097, c151097, ob151097, blk151097, a151096, n151096, c151096) (sub_cons rfl (sub_cons rfl (sub_cons rfl (sub_cons rfl (sub_cons rfl sub_nil))))) ⟨(St.pick X151100 (.keep _ (.none _ (.none _ (.none _ (.none _ (.none _ (.skip _ (.skip _ (.skip _ (.skip _ (.skip _ (.keep _ (.keep _ (.keep _ (.refl _)))))))))))))))), (g151037.trans g151094), O151097, H151096⟩
                · refine dexit ?_
                  refine eseq ?_
                  refine eloop ?_
                  refine xblock ?_
                  refine nseq ?_
                  refine dseq ?_
                  refine dreg ?_
                  refine lread (v := .agg #[.int .i64 s151032.2.1, .slice a151033 n151033 c151033, .slice a151035 n151035 c151035]) rfl (q_load wd_29 rfl) (St.ld X151078 (j := 6) rfl rfl) rfl ?_
                  refine lstore rfl ts_29 rfl rfl (j := 7) rfl rfl rfl rfl rfl rfl X151078 (fun h151102 X151103 => ?_)
                  refine lend ?_
                  refine nseq ?_
                  refine dret ?_
                  exact kopen_r (res_1 (resC wd_29 (St.ld X151103 (j := 7) rfl rfl))) ⟨φ151036, a151033, n151033, c151033, a151035, n151035, c151035, ob151035, blk151035, (((((g136787.trans g143960).trans g149344).trans g150278).trans g150699).trans g151037), St.pick X151103 (.keep _ (.skip _ (.skip _ (.skip _ (.skip _ (.skip _ (.skip _ (.skip _ (.skip _ (.refl _)))))))))), rfl, H151033, O151035⟩
              · intro j151104 J151105
                refine lcase (i := 114) (show _ = Value.bool (decide ((w64 (s151032.1 + 1)) < (p80237.Chords.length : Int))) from rfl) (fun k151106 => ?_) (fun k151106 => ?_)
                · refine lpure (v := .int .i64 s151032.1) rfl (p_move rfl) rfl rfl ?_
                  refine lpure (v := .bool (decide (s151032.1 < 12))) rfl (p_lt rfl) rfl rfl ?_
                  refine lpure (v := .bool (decide (s151032.1 < 12))) rfl (p_pick rfl) rfl rfl ?_
                  refine Sim.of_eq (congrArg j151104 (show ((decide ((w64 (s151032.1 + 1)) < (p80237.Chords.length : Int))) && (decide (s151032.1 < 12))) = (decide (s151032.1 < 12)) from by rw [k151106] <;> rfl)) ?_
                  exact ljmpM J151105 (decide (s151032.1 < 12)) () (sub_cons rfl (sub_cons rfl (sub_cons rfl (sub_cons rfl (sub_cons rfl (sub_cons rfl sub_nil)))))) (St.pick X151074 (.keep _ (.none _ (.none _ (.none _ (.none _ (.none _ (.skip _ (.skip _ (.skip _ (.skip _ (.skip _ (.keep _ (.keep _ (.keep _ (.refl _))))))))))))))))
                · refine lskip rfl rfl ?_
                  refine lskip rfl rfl ?_
                  refine lpure (v := .bool false) rfl (p_pick rfl) rfl rfl ?_
                  refine Sim.of_eq (congrArg j151104 (show ((decide ((w64 (s151032.1 + 1)) < (p80237.Chords.length : Int))) && (decide (s151032.1 < 12))) = false from by rw [k151106] <;> rfl)) ?_
                  exact ljmpM J151105 false () (sub_cons rfl (sub_cons rfl (sub_cons rfl (sub_cons rfl (sub_cons rfl (sub_cons rfl sub_nil)))))) (St.pick X151074 (.keep _ (.none _ (.none _ (.none _ (.none _ (.none _ (.skip _ (.skip _ (.skip _ (.skip _ (.skip _ (.keep _ (.keep _ (.keep _ (.refl _))))))))))))))))
          · intro j150281 J150282
            refine dcond rfl rfl (fun k150260 => ?_) (fun k150260 => ?_)
            · refine dreg ?_
              refine lread (v := .agg #[.int .u8 p80237.Bridges, .int .u8 p80237.Stations, .slice a80238 n80238 c80238, .slice a80239 n80239 c80239, .slice a80240 n80240 c80240, .slice a80241 n80241 c80241]) rfl (q_load wd_24 rfl) (St.ld X150258 (j := 5) rfl rfl) rfl ?_
              refine lread (v := .agg #[.int .i64 s149339.2.1, .slice a149340 n149340 c149340, .slice a149342 n149342 c149342]) rfl (q_load wd_29 rfl) (St.ld X150258 (j := 3) rfl rfl) rfl ?_
              refine lpure (v := .int .i64 (w64 (1 + (w64 (Int.tmod p80237.Bridges 6))))) rfl (p_move rfl) rfl rfl ?_
              refine lpure (v := .int .i64 (w64 ((w64 (1 + (w64 (Int.tmod p80237.Bridges 6)))) - 1))) rfl (p_sub rfl) rfl rfl ?_
              refine lcall rfl rfl ca_34 rfl rfl (f34_ok X150258 p80237 ((ApiTopo.mk s149339.2.1 s149339.2.2.1 s149339.2.2.2)) ((w64 ((w64 (1 + (w64 (Int.tmod p80237.Bridges 6)))) - 1))) 0 (H80238.mono ((g136787.trans g143960).trans g149344)) (H80239.mono ((g136787.trans g143960).trans g149344)) (H80240.mono ((g136787.trans g143960).trans g149344)) (H80241.mono ((g136787.trans g143960).trans g149344)) H149340 O149342) rfl ?_
              rintro e151107 _ h151109 ⟨φ151111, a151114, n151114, c151114, a151115, n151115, c151115, ob151115, blk151115, g151112, X151113, rfl, H151114, O151115⟩
              refine lstore rfl ts_29 rfl rfl (j := 3) rfl rfl rfl rfl rfl rfl X151113 (fun h151117 X151118 => ?_)
              refine lend ?_
              exact jmpM J150282 (e151107.Nodes, e151107.Station, e151107.Links) (φ151111, a151115, n151115, c151115, ob151115, blk151115, a151114, n151114, c151114) (sub_cons rfl (sub_cons rfl (sub_cons rfl (sub_cons rfl (sub_cons rfl sub_nil))))) ⟨(St.pick X151118 (.keep _ (.none _ (.none _ (.none _ (.skip _ (.skip _ (.keep _ (.keep _ (.keep _ (.refl _))))))))))), g151112, O151115, H151114⟩
            · refine dskip ?_
              exact jmpM J150282 (s149339.2.1, s149339.2.2.1, s149339.2.2.2) (φ149343, a149342, n149342, c149342, ob149342, blk149342, a149340, n149340, c149340) (sub_cons rfl (sub_cons rfl (sub_cons rfl (sub_cons rfl (sub_cons rfl sub_nil))))) ⟨(St.pick X150258 (.keep _ (.none _ (.none _ (.none _ (.skip _ (.skip _ (.keep _ (.keep _ (.keep _ (.refl _))))))))))), (Fz.le_refl _), O149342, H149340⟩
        · intro j151119 J151120
          refine lcase (i := 70) (show _ = Value.bool (decide (2 < (w64 (1 + (w64 (Int.tmod p80237.Bridges 6)))))) from rfl) (fun k151121 => ?_) (fun k151121 => ?_)
          · refine lpure (v := .pointer (some ⟨b80242, 0, none⟩)) rfl (p_fa fo_24_0 rfl) rfl rfl ?_
            refine lread (v := .int .u8 p80237.Bridges) rfl (q_load wd_5 rfl) (St.ld X150235 (j := 5) rfl rfl) rfl ?_
            refine lpure (v := .int .u8 (Int.tmod p80237.Bridges 2)) rfl (p_rem rfl) rfl rfl ?_
            refine lpure (v := .bool (decide ((Int.tmod p80237.Bridges 2) = 0))) rfl (p_eq rfl) rfl rfl ?_
            refine lpure (v := .bool (decide ((Int.tmod p80237.Bridges 2) = 0))) rfl (p_pick rfl) rfl rfl ?_
            refine Sim.of_eq (congrArg j151119 (show ((decide (2 < (w64 (1 + (w64 (Int.tmod p80237.Bridges 6)))))) && (decide ((Int.tmod p80237.Bridges 2) = 0))) = (decide ((Int.tmod p80237.Bridges 2) = 0)) from by rw [k151121] <;> rfl)) ?_
            exact ljmpM J151120 (decide ((Int.tmod p80237.Bridges 2) = 0)) () (sub_cons rfl (sub_cons rfl (sub_cons rfl (sub_cons rfl (sub_cons rfl (sub_cons rfl sub_nil)))))) (St.pick X150235 (.keep _ (.none _ (.none _ (.skip _ (.skip _ (.keep _ (.keep _ (.keep _ (.refl _))))))))))
          · refine lskip rfl rfl ?_
            refine lskip rfl rfl ?_
            refine lskip rfl rfl ?_
            refine lskip rfl rfl ?_
            refine lpure (v := .bool false) rfl (p_pick rfl) rfl rfl ?_
            refine Sim.of_eq (congrArg j151119 (show ((decide (2 < (w64 (1 + (w64 (Int.tmod p80237.Bridges 6)))))) && (decide ((Int.tmod p80237.Bridges 2) = 0))) = false from by rw [k151121] <;> rfl)) ?_
            exact ljmpM J151120 false () (sub_cons rfl (sub_cons rfl (sub_cons rfl (sub_cons rfl (sub_cons rfl (sub_cons rfl sub_nil)))))) (St.pick X150235 (.keep _ (.none _ (.none _ (.skip _ (.skip _ (.keep _ (.keep _ (.keep _ (.refl _))))))))))
/-! (isochron/topo.end).back -/
theorem f45_ok {n : Nat} {φ : Fz} {lo : Nat} {h : Heap} {own : OwnL}  (X : St φ lo h (own)) (p151218 : TopoEnd) : Sim ((recN Try.prog LL cutF (n + 1)).call 45 #[(.agg #[.int .i64 p151218.Link.A, .int .i64 p151218.Link.B, .int .i64 p151218.Link.Per, .int .i64 p151218.Link.Delay, .int .i64 p151218.port])] h) (m_topo_end_back p151218) (fun (d : Int) p => p = (.int .i64 d, h)) := by
  refine fcut Try.func45 rfl rfl rfl rfl X ?_
  intro h0 X0
  refine dseq ?_
  refine dreg ?_
  refine lbox rfl rfl rfl rfl rfl X0 (fun b151219 h151221 X151222 => ?_)
  refine lpure (v := .int .i64 0) rfl (p_assign rfl) rfl rfl ?_
  refine lend ?_
  refine nseq ?_
  refine dseq ?_
  refine dreg ?_
  refine lpure (v := .pointer (some ⟨b151219, 4, none⟩)) rfl (p_fa fo_77_1 rfl) rfl rfl ?_
  refine lread (v := .int .i64 p151218.port) rfl (q_load wd_3 rfl) (St.ld X151222 (j := 0) rfl rfl) rfl ?_
  refine lpure (v := .int .i64 (bitXor .i64 p151218.port 1)) rfl (p_bin rfl) bin_xor rfl ?_
  refine lpure (v := .int .i64 (bitXor .i64 p151218.port 1)) rfl (p_assign rfl) rfl rfl ?_
  refine lend ?_
  refine nseq ?_
  refine dret ?_
  exact kcut_r (res_1 resT) X151222 rfl rfl
/-! isochron/topo.Back -/
theorem f13_ok {n : Nat} {φ : Fz} {lo : Nat} {h : Heap} {own : OwnL}  {a151194 : Option Addr} {n151194 c151194 : Nat} {a151195 : Option Addr} {n151195 c151195 : Nat} (X : St φ lo h (own)) (p151193 : ApiTopo) (p151196 : Int) (H151194 : RSl eBool φ (.slice a151194 n151194 c151194) p151193.Station) (H151195 : RSl eApiLink φ (.slice a151195 n151195 c151195) p151193.Links) : Sim ((recN Try.prog LL cutF (n + 8)).call 13 #[(.agg #[.int .i64 p151193.Nodes, .slice a151194 n151194 c151194, .slice a151195 n151195 c151195]), (.int .i64 p151196)] h) (m_topo_Back p151193 p151196) (fun (d : (Int × Int)) p => p = (.tuple #[.int .i64 d.1, .int .i64 d.2], h)) := by
  refine fcut Try.func13 rfl rfl rfl rfl X ?_
  intro h0 X0
  refine dseq ?_
  refine dreg ?_
  refine lbox rfl rfl rfl rfl rfl X0 (fun b151197 h151199 X151200 => ?_)
  refine lpure (v := .int .i64 0) rfl (p_assign rfl) rfl rfl ?_
  refine lpure (v := .int .i64 0) rfl (p_assign rfl) rfl rfl ?_
  refine lend ?_
  refine nseq ?_
  refine dseq ?_
  refine dreg ?_
  refine lread (v := .agg #[.int .i64 p151193.Nodes, .slice a151194 n151194 c151194, .slice a151195 n151195 c151195]) rfl (q_load wd_29 rfl) (St.ld X151200 (j := 0) rfl rfl) rfl ?_
  refine lpure (v := .int .i64 p151196) rfl (p_move rfl) rfl rfl ?_
  refine linl rfl rfl rfl rfl ca_43 rfl Try.func43 rfl rfl rfl rfl rfl ?_
  refine dseq ?_
  refine dreg ?_
  refine lbox rfl rfl rfl rfl rfl X151200 (fun b151201 h151203 X151204 => ?_)
  refine lpure (v := .int .i64 0) rfl (p_assign rfl) rfl rfl ?_
  refine lpure (v := .int .i64 0) rfl (p_assign rfl) rfl rfl ?_
  refine lend ?_
  refine nseq ?_
  refine dseq ?_
  refine dreg ?_
  refine lpure (v := .int .i64 0) rfl (p_assign rfl) rfl rfl ?_
  refine lend ?_
  refine nseq ?_
  refine dseq ?_
  refine dseq ?_
  refine dreg ?_
  refine lread (v := .agg #[.int .i64 p151193.Nodes, .slice a151194 n151194 c151194, .slice a151195 n151195 c151195]) rfl (q_load wd_29 rfl) (St.ld X151204 (j := 0) rfl rfl) rfl ?_
  refine lcall rfl rfl ca_9 rfl rfl (f9_ok X151204 p151193 H151194 H151195) rfl (fun e151205 v151206 h151207 hq151208 => ?_)
  cases hq151208
  refine lpure (v := .int .i64 e151205) rfl (p_assign rfl) rfl rfl ?_
  refine lend ?_
  refine nseq ?_
  refine dseq ?_
  refine dreg ?_
  refine lpure (v := .int .i64 e151205) rfl (p_move rfl) rfl rfl ?_
  refine lpure (v := .bool (decide (e151205 ≠ 0))) rfl (p_ne rfl) rfl rfl ?_
  refine lend ?_
  refine nseq ?_
  refine dcond rfl rfl (fun k151209 => ?_) (fun k151209 => ?_)
  · refine dseq ?_
    refine dreg ?_
    refine lpure (v := .int .i64 0) rfl (p_move rfl) rfl rfl ?_
    refine lpure (v := .int .i64 e151205) rfl (p_move rfl) rfl rfl ?_
    refine lpure (v := .int .i64 0) rfl (p_assign rfl) rfl rfl ?_
    refine lpure (v := .int .i64 e151205) rfl (p_assign rfl) rfl rfl ?_
    refine lend ?_
    refine nseq ?_
    refine dret ?_
    refine rseq ?_
    refine kin_r (res_2 resT resT) ?_
    refine lpure (v := .int .i64 0) rfl (p_extract rfl) rfl rfl ?_
    refine lpure (v := .int .i64 e151205) rfl (p_extract rfl) rfl rfl ?_
    refine lpure (v := .int .i64 0) rfl (p_assign rfl) rfl rfl ?_
    refine lpure (v := .int .i64 e151205) rfl (p_assign rfl) rfl rfl ?_
    refine lend ?_
    refine nseq ?_
    refine dret ?_
    exact kcut_r (res_2 resT resT) X151204 rfl rfl
  · refine dskip ?_
    refine nseq ?_
    refine dseq ?_
    refine dseq ?_
    refine dreg ?_
    refine lpure (v := .int .i64 p151196) rfl (p_move rfl) rfl rfl ?_
    refine lpure (v := .bool (decide (p151196 < 0))) rfl (p_lt rfl) rfl rfl ?_
    refine lpure (v := .bool (decide (p151196 < 0))) rfl (p_move rfl) rfl rfl ?_
    refine lsh (τ := Bool) (σ := Unit) (fun s151211 (_ : Unit) => [(1, .int .i64 p151196), (2, .func (.func 45) #[] #[]), (3, .pointer (some ⟨b151201, 0, none⟩)), (8, .int .i64 0), (25, .bool s151211)]) (fun s151211 (_ : Unit) hh => St φ h.n hh ([(some b151201, .cells [.int .i64 p151193.Nodes, .slice a151194 n151194 c151194, .slice a151195 n151195 c151195] 29 .exact), (some b151197, .cells [.int .i64 p151193.Nodes, .slice a151194 n151194 c151194, .slice a151195 n151195 c151195] 29 .exact)])) 7 ?_ ?_
    · rintro s151211 _ t0 h151213 X151212
      refine lend ?_
      refine nseq ?_
      refine dcond rfl rfl (fun k151214 => ?_) (fun k151214 => ?_)
      · refine dseq ?_
        refine dreg ?_
        refine lpure (v := .int .i64 0) rfl (p_move rfl) rfl rfl ?_
        refine lpure (v := .int .i64 0) rfl (p_assign rfl) rfl rfl ?_
        refine lpure (v := .int .i64 2) rfl (p_assign rfl) rfl rfl ?_
        refine lend ?_
        refine nseq ?_
        refine dret ?_
        refine rseq ?_
        refine kin_r (res_2 resT resT) ?_
        refine lpure (v := .int .i64 0) rfl (p_extract rfl) rfl rfl ?_
        refine lpure (v := .int .i64 2) rfl (p_extract rfl) rfl rfl ?_
        refine lpure (v := .int .i64 0) rfl (p_assign rfl) rfl rfl ?_
        refine lpure (v := .int .i64 2) rfl (p_assign rfl) rfl rfl ?_
        refine lend ?_
        refine nseq ?_
        refine dret ?_
        exact kcut_r (res_2 resT resT) X151212 rfl rfl
      · refine dskip ?_
        refine nseq ?_
        refine dseq ?_
        refine dreg ?_
        refine lpure (v := .func (.func 45) #[] #[]) rfl (p_move rfl) rfl rfl ?_
        refine lpure (v := .pointer (some ⟨b151201, 2, none⟩)) rfl (p_fa fo_29_2 rfl) rfl rfl ?_
        refine lread (v := .slice a151195 n151195 c151195) rfl (q_load wd_27 rfl) (St.ld X151212 (j := 0) rfl rfl) rfl ?_
        refine lpure (v := .int .i64 p151196) rfl (p_move rfl) rfl rfl ?_
        refine lpure (v := .int .i64 (w64 (Int.tdiv p151196 2))) rfl (p_quo rfl) rfl rfl ?_
        refine Sim.bindM fun e151215 he151216 => ?_
        obtain ⟨p151217, cs151217, hp151217, hF151217, hR151217⟩ := RSl.ia H151195 he151216 (kd := .i64) (n := 4) rfl
        obtain rfl := eApiLink_el hR151217
        refine lpure (v := p151217) rfl (p_ia rs_27 rfl) hp151217 rfl ?_
        refine lread (v := .agg #[.int .i64 e151215.A, .int .i64 e151215.B, .int .i64 e151215.Per, .int .i64 e151215.Delay]) rfl (q_load wd_75 rfl) (FP.ldw X151212 hF151217 rfl rfl) rfl ?_
        refine lpure (v := .int .i64 p151196) rfl (p_move rfl) rfl rfl ?_
        refine lpure (v := .agg #[.int .i64 e151215.A, .int .i64 e151215.B, .int .i64 e151215.Per, .int .i64 e151215.Delay, .int .i64 p151196]) rfl (p_build rfl) (build_st' tz_77 pl_77 rfl) rfl ?_
        refine lcallv rfl rfl rfl rfl ca_45 rfl rfl (f45_ok X151212 ((TopoEnd.mk e151215 p151196))) rfl (fun e151223 v151224 h151225 hq151226 => ?_)
        cases hq151226
        refine lpure (v := .int .i64 e151223) rfl (p_assign rfl) rfl rfl ?_
        refine lpure (v := .int .i64 0) rfl (p_assign rfl) rfl rfl ?_
        refine lend ?_
        refine nseq ?_
        refine dret ?_
        refine kin_r (res_2 resT resT) ?_
        refine lpure (v := .int .i64 e151223) rfl (p_extract rfl) rfl rfl ?_
        refine lpure (v := .int .i64 0) rfl (p_extract rfl) rfl rfl ?_
        refine lpure (v := .int .i64 e151223) rfl (p_assign rfl) rfl rfl ?_
        refine lpure (v := .int .i64 0) rfl (p_assign rfl) rfl rfl ?_
        refine lend ?_
        refine nseq ?_
        refine dret ?_
        exact kcut_r (res_2 resT resT) X151212 rfl rfl
    · intro j151227 J151228
      refine lcase (i := 18) (show _ = Value.bool (decide (p151196 < 0)) from rfl) (fun k151229 => ?_) (fun k151229 => ?_)
      · refine lskip rfl rfl ?_
        refine lskip rfl rfl ?_
        refine lskip rfl rfl ?_
        refine lskip rfl rfl ?_
        refine lskip rfl rfl ?_
        refine lskip rfl rfl ?_
        refine lpure (v := .bool true) rfl (p_pick rfl) rfl rfl ?_
        refine Sim.of_eq (congrArg j151227 (show ((decide (p151196 < 0)) || (decide ((w64 (2 * (p151193.Links.length : Int))) ≤ p151196))) = true from by rw [k151229] <;> rfl)) ?_
        exact ljmpM J151228 true () (sub_cons rfl (sub_cons rfl (sub_cons rfl (sub_cons rfl (sub_cons rfl sub_nil))))) X151204
      · refine lpure (v := .int .i64 p151196) rfl (p_move rfl) rfl rfl ?_
        refine lpure (v := .pointer (some ⟨b151201, 2, none⟩)) rfl (p_fa fo_29_2 rfl) rfl rfl ?_
        refine lread (v := .slice a151195 n151195 c151195) rfl (q_load wd_27 rfl) (St.ld X151204 (j := 0) rfl rfl) rfl ?_
        refine lpure (v := .int .i64 (p151193.Links.length : Int)) rfl (p_len rfl rfl rfl un_27 rfl) (RSl.lenC H151195) rfl ?_
        refine lpure (v := .int .i64 (w64 (2 * (p151193.Links.length : Int)))) rfl (p_mul rfl) rfl rfl ?_
        refine lpure (v := .bool (decide ((w64 (2 * (p151193.Links.length : Int))) ≤ p151196))) rfl (p_ge rfl) rfl rfl ?_
        refine lpure (v := .bool (decide ((w64 (2 * (p151193.Links.length : Int))) ≤ p151196))) rfl (p_pick rfl) rfl rfl ?_
        refine Sim.of_eq (congrArg j151227 (show ((decide (p151196 < 0)) || (decide ((w64 (2 * (p151193.Links.length : Int))) ≤ p151196))) = (decide ((w64 (2 * (p151193.Links.length : Int))) ≤ p151196)) from by rw [k151229] <;> rfl)) ?_
        exact ljmpM J151228 (decide ((w64 (2 * (p151193.Links.length : Int))) ≤ p151196)) () (sub_cons rfl (sub_cons rfl (sub_cons rfl (sub_cons rfl (sub_cons rfl sub_nil))))) X151204
/-! isochron/isochronlaw16.TopoTurns -/
theorem f3_ok {n : Nat} {φ : Fz} {lo : Nat} {h : Heap} {own : OwnL}  {a2 : Option Addr} {n2 c2 : Nat} {a3 : Option Addr} {n3 c3 : Nat} {a4 : Option Addr} {n4 c4 : Nat} {a5 : Option Addr} {n5 c5 : Nat} (X : St φ lo h (own)) (p1 : Isochronref16Draft) (H2 : RSl (eInt .u8) φ (.slice a2 n2 c2) p1.Chords) (H3 : RSl (eInt .u8) φ (.slice a3 n3 c3) p1.Homes) (H4 : RSl (eInt .u8) φ (.slice a4 n4 c4) p1.Pers) (H5 : RSl (eInt .u8) φ (.slice a5 n5 c5) p1.Delays) : Sim ((recN Try.prog LL cutF (n + 10)).call 3 #[(.agg #[.int .u8 p1.Bridges, .int .u8 p1.Stations, .slice a2 n2 c2, .slice a3 n3 c3, .slice a4 n4 c4, .slice a5 n5 c5])] h) (m_isochronlaw16_TopoTurns p1) (fun (d : Bool) p => p = (.bool d, h)) := by
  refine fcut Try.func3 rfl rfl rfl rfl X ?_
  intro h0 X0
  refine dseq ?_
  refine dreg ?_
  refine lbox rfl rfl rfl rfl rfl X0 (fun b6 h8 X9 => ?_)
  refine lpure (v := .bool false) rfl (p_assign rfl) rfl rfl ?_
  refine lend ?_
  refine nseq ?_
  refine dseq ?_
  refine dseq ?_
  refine dreg ?_
  refine lcall rfl rfl ca_7 rfl rfl (f7_ok X9) rfl (fun e8840 v8841 h8842 hq8843 => ?_)
  cases hq8843
  refine lpure (v := .bool (!e8840)) rfl (p_not rfl) rfl rfl ?_
  refine lend ?_
  refine nseq ?_
  refine dcond rfl rfl (fun k8844 => ?_) (fun k8844 => ?_)
  · refine dseq ?_
    refine dreg ?_
    refine lpure (v := .bool false) rfl (p_assign rfl) rfl rfl ?_
    refine lend ?_
    refine nseq ?_
    refine dret ?_
    refine rseq ?_
    exact kcut_r (res_1 resT) X9 rfl rfl
  · refine dskip ?_
    refine nseq ?_
    refine dseq ?_
    refine dreg ?_
    refine lread (v := .agg #[.int .u8 p1.Bridges, .int .u8 p1.Stations, .slice a2 n2 c2, .slice a3 n3 c3, .slice a4 n4 c4, .slice a5 n5 c5]) rfl (q_load wd_24 rfl) (St.ld X9 (j := 0) rfl rfl) rfl ?_
    refine lcall rfl rfl ca_8 rfl rfl (f8_ok X9 p1 H2 H3 H4 H5) rfl ?_
    rintro e151125 _ h151127 ⟨φ151129, a151132, n151132, c151132, a151133, n151133, c151133, ob151133, blk151133, g151130, X151131, rfl, H151132, O151133⟩
    refine lalloc rfl tz_29 rfl rfl rfl X151131 (fun b151135 h151137 X151138 => ?_)
    refine lstore rfl ts_29 rfl rfl (j := 0) rfl rfl rfl rfl rfl rfl X151138 (fun h151139 X151140 => ?_)
    refine lend ?_
    refine nseq ?_
    refine dseq ?_
    refine dseq ?_
    refine dreg ?_
    refine lread (v := .agg #[.int .i64 e151125.Nodes, .slice a151132 n151132 c151132, .slice a151133 n151133 c151133]) rfl (q_load wd_29 rfl) (St.ld X151140 (j := 0) rfl rfl) rfl ?_
    obtain ⟨φ151141, g151142, X151143, H151144⟩ := OSl.freeze X151140 (j := 1) rfl O151133
    refine lcall rfl rfl ca_9 rfl rfl (f9_ok X151143 e151125 (H151132.mono g151142) H151144) rfl (fun e151145 v151146 h151147 hq151148 => ?_)
    cases hq151148
    refine lpure (v := .bool (decide (e151145 ≠ 0))) rfl (p_ne rfl) rfl rfl ?_
    refine lend ?_
    refine nseq ?_
    refine dcond rfl rfl (fun k151149 => ?_) (fun k151149 => ?_)
    · refine dseq ?_
      refine dreg ?_
      refine lpure (v := .bool false) rfl (p_assign rfl) rfl rfl ?_
      refine lend ?_
      refine nseq ?_
      refine dret ?_
      refine rseq ?_
      exact kcut_r (res_1 resT) X151140 rfl rfl
    · refine dskip ?_
      refine nseq ?_
      refine dseq ?_
      refine dreg ?_
      refine lpure (v := .slice none 0 0) rfl (p_assign rfl) rfl rfl ?_
      refine lend ?_
      refine nseq ?_
      refine dseq ?_
      refine dseq ?_
      refine dreg ?_
      refine lpure (v := .pointer (some ⟨b151135, 0, none⟩)) rfl (p_fa fo_29_0 rfl) rfl rfl ?_
      refine lread (v := .int .i64 e151125.Nodes) rfl (q_load wd_3 rfl) (St.ld X151140 (j := 0) rfl rfl) rfl ?_
      refine lpure (v := .int .i64 0) rfl (p_move rfl) rfl rfl ?_
      refine lend ?_
      refine nseq ?_
      refine dblock ?_
      obtain ⟨φ151642, g151643, X151644, H151645⟩ := OSl.freeze X151140 (j := 1) rfl O151133
      refine dloopM (τ := (List Int) × Int) (σ := Fz × Option Addr × Nat × Nat × Option Nat × Blk) (fun s152562 (φ152565, a152564, n152564, c152564, ob152564, blk152564) => [(3, .pointer (some ⟨b151135, 0, none⟩)), (4, .slice a152564 n152564 c152564), (32, .int .i64 e151125.Nodes), (33, .int .i64 s152562.2)]) (fun s152562 (φ152565, a152564, n152564, c152564, ob152564, blk152564) hh => St φ152565 h.n hh ([(ob152564, blk152564), (some b151135, .cells [.int .i64 e151125.Nodes, .slice a151132 n151132 c151132, .slice a151133 n151133 c151133] 29 .exact), (none, .dead), (some b6, .cells [.int .u8 p1.Bridges, .int .u8 p1.Stations, .slice a2 n2 c2, .slice a3 n3 c3, .slice a4 n4 c4, .slice a5 n5 c5] 24 .exact)]) ∧ Fz.le φ151642 φ152565 ∧ OSl (eInt .i64) φ152565 3 ob152564 blk152564 (.slice a152564 n152564 c152564) s152562.1) ([], 0) (φ151642, none, 0, 0, none, .dead) (sub_cons rfl (sub_cons rfl (sub_cons rfl (sub_cons rfl sub_nil)))) ⟨(St.pick X151644 (.none _ (.keep _ (.none _ (.skip _ (.keep _ (.nil _))))))), (Fz.le_refl _), OSl.nil⟩ ?_
      rintro n153032 ih153031 s152562 ⟨φ152565, a152564, n152564, c152564, ob152564, blk152564⟩ t0 h153034 ⟨X153033, g152566, O152564⟩
      refine dseq ?_
      refine dreg ?_
      refine lpure (v := .bool (decide (s152562.2 < e151125.Nodes))) rfl (p_lt rfl) rfl rfl ?_
      refine lend ?_
      refine nseq ?_
      refine dseq ?_
      refine dcond rfl rfl (fun k153035 => ?_) (fun k153035 => ?_)
      · refine dskip ?_
        refine nseq ?_
        refine dseq ?_
        refine dblock ?_
        refine dseq ?_
        refine dreg ?_
        refine lpure (v := .int .i64 s152562.2) rfl (p_move rfl) rfl rfl ?_
        refine lpure (v := .int .i64 s152562.2) rfl (p_assign rfl) rfl rfl ?_
        refine lend ?_
        refine nseq ?_
        refine dseq ?_
        refine dreg ?_
        refine lread (v := .agg #[.int .i64 e151125.Nodes, .slice a151132 n151132 c151132, .slice a151133 n151133 c151133]) rfl (q_load wd_29 rfl) (St.ld X153033 (j := 1) rfl rfl) rfl ?_
        refine lpure (v := .int .i64 s152562.2) rfl (p_move rfl) rfl rfl ?_
        refine lcall rfl rfl ca_10 rfl rfl (f10_ok X153033 e151125 (s152562.2) (H151132.mono (g151643.trans g152566)) (H151645.mono g152566)) rfl ?_
        rintro e153036 _ h153038 ⟨φ153040, a153043, n153043, c153043, ob153043, blk153043, g153041, X153042, rfl, O153043⟩
        refine lpure (v := .tuple #[.slice a153043 n153043 c153043, .int .i64 e153036.2]) rfl (p_move rfl) rfl rfl ?_
        refine lpure (v := .slice a153043 n153043 c153043) rfl (p_extract rfl) rfl rfl ?_
        refine lpure (v := .int .i64 e153036.2) rfl (p_extract rfl) rfl rfl ?_
        refine lpure (v := .slice a153043 n153043 c153043) rfl (p_assign rfl) rfl rfl ?_
        refine lpure (v := .int .i64 e153036.2) rfl (p_assign rfl) rfl rfl ?_
        refine lend ?_
        refine nseq ?_
        refine dseq ?_
        refine dseq ?_
        refine dreg ?_
        refine lpure (v := .int .i64 e153036.2) rfl (p_move rfl) rfl rfl ?_
        refine lpure (v := .bool (decide (e153036.2 ≠ 0))) rfl (p_ne rfl) rfl rfl ?_
        refine lpure (v := .bool (decide (e153036.2 ≠ 0))) rfl (p_move rfl) rfl rfl ?_
        refine ljoinM (τ := Bool) (σ := Unit) (fun s153052 (_ : Unit) => [(3, .pointer (some ⟨b151135, 0, none⟩)), (4, .slice a152564 n152564 c152564), (5, .int .i64 s152562.2), (6, .slice a153043 n153043 c153043), (32, .int .i64 e151125.Nodes), (33, .int .i64 s152562.2), (60, .bool s153052)]) (fun s153052 (_ : Unit) hh => St φ153040 h.n hh ([(ob153043, blk153043), (ob152564, blk152564), (some b151135, .cells [.int .i64 e151125.Nodes, .slice a151132 n151132 c151132, .slice a151133 n151133 c151133] 29 .exact), (none, .dead), (some b6, .cells [.int .u8 p1.Bridges, .int .u8 p1.Stations, .slice a2 n2 c2, .slice a3 n3 c3, .slice a4 n4 c4, .slice a5 n5 c5] 24 .exact)])) 16 ?_ ?_
        · rintro s153052 _ t0 h153054 X153053
          refine lend ?_
          refine nseq ?_
          refine dcond rfl rfl (fun k153055 => ?_) (fun k153055 => ?_)
          · refine dseq ?_
            refine dreg ?_
            refine lpure (v := .bool false) rfl (p_assign rfl) rfl rfl ?_
            refine lend ?_
            refine nseq ?_
            refine dret ?_
            refine rseq ?_
            refine rblock ?_
            refine rseq ?_
            refine rloop ?_
            refine rblock ?_
            refine rseq ?_
            exact kcut_r (res_1 resT) X153053 rfl rfl
          · refine dskip ?_
            refine nseq ?_
            refine dseq ?_
            refine dseq ?_
            refine dreg ?_
            refine lpure (v := .slice a153043 n153043 c153043) rfl (p_move rfl) rfl rfl ?_
            refine lpure (v := .int .i64 (e153036.1.length : Int)) rfl (p_len rfl rfl rfl un_33 rfl) (OSl.len O153043) rfl ?_
            refine lpure (v := .int .i64 0) rfl (p_move rfl) rfl rfl ?_
            refine lend ?_
            refine nseq ?_
            refine dblock ?_
            refine dloopM (τ := (List Int) × Int) (σ := Blk) (fun s153249 blk153250 => [(3, .pointer (some ⟨b151135, 0, none⟩)), (4, .slice a152564 n152564 c152564), (5, .int .i64 s152562.2), (6, .slice a153043 n153043 c153043), (32, .int .i64 e151125.Nodes), (33, .int .i64 s152562.2), (61, .slice a153043 n153043 c153043), (62, .int .i64 (e153036.1.length : Int)), (63, .int .i64 s153249.2)]) (fun s153249 blk153250 hh => St φ153040 h.n hh ([(ob153043, blk153250), (ob152564, blk152564), (some b151135, .cells [.int .i64 e151125.Nodes, .slice a151132 n151132 c151132, .slice a151133 n151133 c151133] 29 .exact), (none, .dead), (some b6, .cells [.int .u8 p1.Bridges, .int .u8 p1.Stations, .slice a2 n2 c2, .slice a3 n3 c3, .slice a4 n4 c4, .slice a5 n5 c5] 24 .exact)]) ∧ OSl (eInt .i64) φ153040 3 ob153043 blk153250 (.slice a153043 n153043 c153043) s153249.1) (e153036.1, 0) blk153043 (sub_cons rfl (sub_cons rfl (sub_cons rfl (sub_cons rfl (sub_cons rfl (sub_cons rfl (sub_cons rfl (sub_cons rfl (sub_cons rfl sub_nil))))))))) ⟨(St.pick X153053 (.keep _ (.keep _ (.keep _ (.none _ (.skip _ (.keep _ (.nil _)))))))), O153043⟩ ?_
            rintro n153348 ih153347 s153249 blk153250 t0 h153350 ⟨X153349, O153250⟩
            refine dseq ?_
            refine dreg ?_
            refine lpure (v := .bool (decide (s153249.2 < (e153036.1.length : Int)))) rfl (p_lt rfl) rfl rfl ?_
            refine lend ?_
            refine nseq ?_
            refine dseq ?_
            refine dcond rfl rfl (fun k153351 => ?_) (fun k153351 => ?_)
            · refine dskip ?_
              refine nseq ?_
              refine dseq ?_
              refine dblock ?_
              refine dseq ?_
              refine dreg ?_
              refine Sim.bindM fun e153352 he153353 => ?_
              obtain ⟨b153354, vs153354, m153354, off153354, cs153354, rfl, rfl, hp153354, hc153354, hR153354, hl153354, hm153354, hs153354⟩ := OSl.ia O153250 he153353 (kd := .i64) (n := 1) rfl
              have hR153354 : _ = [(.int .i64 e153352 : Value)] := hR153354
              subst hR153354
              refine lpure (v := .pointer (some ⟨b153354, off153354, none⟩)) rfl (p_ia rs_33 rfl) hp153354 rfl ?_
              refine lread (v := .int .i64 e153352) rfl (q_load wd_3 rfl) (St.ld X153349 (j := 0) rfl (rdE1 hc153354 (k := 0) rfl rfl)) rfl ?_
              refine lpure (v := .int .i64 e153352) rfl (p_assign rfl) rfl rfl ?_
              refine lend ?_
              refine nseq ?_
              refine dseq ?_
              refine dreg ?_
              refine lread (v := .agg #[.int .i64 e151125.Nodes, .slice a151132 n151132 c151132, .slice a151133 n151133 c151133]) rfl (q_load wd_29 rfl) (St.ld X153349 (j := 2) rfl rfl) rfl ?_
              refine lpure (v := .int .i64 e153352) rfl (p_move rfl) rfl rfl ?_
              refine lcall rfl rfl ca_11 rfl rfl (f11_ok X153349 e151125 e153352 (H151132.mono ((g151643.trans g152566).trans g153041)) (H151645.mono (g152566.trans g153041))) rfl (fun e153355 v153356 h153357 hq153358 => ?_)
              cases hq153358
              refine lpure (v := .tuple #[.int .i64 e153355.1, .int .i64 e153355.2]) rfl (p_move rfl) rfl rfl ?_
              refine lpure (v := .int .i64 e153355.1) rfl (p_extract rfl) rfl rfl ?_
              refine lpure (v := .int .i64 e153355.2) rfl (p_extract rfl) rfl rfl ?_
              refine lpure (v := .int .i64 e153355.1) rfl (p_assign rfl) rfl rfl ?_
              refine lpure (v := .int .i64 e153355.2) rfl (p_assign rfl) rfl rfl ?_
              refine lend ?_
              refine nseq ?_
              refine dseq ?_
              refine dreg ?_
              refine lread (v := .agg #[.int .i64 e151125.Nodes, .slice a151132 n151132 c151132, .slice a151133 n151133 c151133]) rfl (q_load wd_29 rfl) (St.ld X153349 (j := 2) rfl rfl) rfl ?_
              refine lpure (v := .int .i64 e153352) rfl (p_move rfl) rfl rfl ?_
              refine lcall rfl rfl ca_12 rfl rfl (f12_ok X153349 e151125 e153352 (H151132.mono ((g151643.trans g152566).trans g153041)) (H151645.mono (g152566.trans g153041))) rfl (fun e153359 v153360 h153361 hq153362 => ?_)
              cases hq153362
              refine lpure (v := .tuple #[.int .i64 e153359.1, .int .i64 e153359.2]) rfl (p_move rfl) rfl rfl ?_
              refine lpure (v := .int .i64 e153359.1) rfl (p_extract rfl) rfl rfl ?_
              refine lpure (v := .int .i64 e153359.2) rfl (p_extract rfl) rfl rfl ?_
              refine lpure (v := .int .i64 e153359.1) rfl (p_assign rfl) rfl rfl ?_
              refine lpure (v := .int .i64 e153359.2) rfl (p_assign rfl) rfl rfl ?_
              refine lend ?_
              refine nseq ?_
              refine dseq ?_
              refine dreg ?_
              refine lread (v := .agg #[.int .i64 e151125.Nodes, .slice a151132 n151132 c151132, .slice a151133 n151133 c151133]) rfl (q_load wd_29 rfl) (St.ld X153349 (j := 2) rfl rfl) rfl ?_
              refine lpure (v := .int .i64 e153352) rfl (p_move rfl) rfl rfl ?_
              refine lcall rfl rfl ca_13 rfl rfl (f13_ok X153349 e151125 e153352 (H151132.mono ((g151643.trans g152566).trans g153041)) (H151645.mono (g152566.trans g153041))) rfl (fun e153363 v153364 h153365 hq153366 => ?_)
              cases hq153366
              refine lpure (v := .tuple #[.int .i64 e153363.1, .int .i64 e153363.2]) rfl (p_move rfl) rfl rfl ?_
              refine lpure (v := .int .i64 e153363.1) rfl (p_extract rfl) rfl rfl ?_
              refine lpure (v := .int .i64 e153363.2) rfl (p_extract rfl) rfl rfl ?_
              refine lpure (v := .int .i64 e153363.1) rfl (p_assign rfl) rfl rfl ?_
              refine lpure (v := .int .i64 e153363.2) rfl (p_assign rfl) rfl rfl ?_
              refine lend ?_
              refine nseq ?_
              refine dseq ?_
              refine dreg ?_
              refine lread (v := .agg #[.int .i64 e151125.Nodes, .slice a151132 n151132 c151132, .slice a151133 n151133 c151133]) rfl (q_load wd_29 rfl) (St.ld X153349 (j := 2) rfl rfl) rfl ?_
              refine lpure (v := .int .i64 e153363.1) rfl (p_move rfl) rfl rfl ?_
              refine lcall rfl rfl ca_11 rfl rfl (f11_ok X153349 e151125 (e153363.1) (H151132.mono ((g151643.trans g152566).trans g153041)) (H151645.mono (g152566.trans g153041))) rfl (fun e153367 v153368 h153369 hq153370 => ?_)
              cases hq153370
              refine lpure (v := .tuple #[.int .i64 e153367.1, .int .i64 e153367.2]) rfl (p_move rfl) rfl rfl ?_
              refine lpure (v := .int .i64 e153367.1) rfl (p_extract rfl) rfl rfl ?_
              refine lpure (v := .int .i64 e153367.2) rfl (p_extract rfl) rfl rfl ?_
              refine lpure (v := .int .i64 e153367.1) rfl (p_assign rfl) rfl rfl ?_
              refine lpure (v := .int .i64 e153367.2) rfl (p_assign rfl) rfl rfl ?_
              refine lend ?_
              refine nseq ?_
              refine dseq ?_
              refine dreg ?_
              refine lread (v := .agg #[.int .i64 e151125.Nodes, .slice a151132 n151132 c151132, .slice a151133 n151133 c151133]) rfl (q_load wd_29 rfl) (St.ld X153349 (j := 2) rfl rfl) rfl ?_
              refine lpure (v := .int .i64 e153363.1) rfl (p_move rfl) rfl rfl ?_
              refine lcall rfl rfl ca_13 rfl rfl (f13_ok X153349 e151125 (e153363.1) (H151132.mono ((g151643.trans g152566).trans g153041)) (H151645.mono (g152566.trans g153041))) rfl (fun e153371 v153372 h153373 hq153374 => ?_)
              cases hq153374
              refine lpure (v := .tuple #[.int .i64 e153371.1, .int .i64 e153371.2]) rfl (p_move rfl) rfl rfl ?_
              refine lpure (v := .int .i64 e153371.1) rfl (p_extract rfl) rfl rfl ?_
              refine lpure (v := .int .i64 e153371.2) rfl (p_extract rfl) rfl rfl ?_
              refine lpure (v := .int .i64 e153371.1) rfl (p_assign rfl) rfl rfl ?_
              refine lpure (v := .int .i64 e153371.2) rfl (p_assign rfl) rfl rfl ?_
              refine lend ?_
              refine nseq ?_
              refine dseq ?_
              refine dreg ?_
              refine lread (v := .agg #[.int .i64 e151125.Nodes, .slice a151132 n151132 c151132, .slice a151133 n151133 c151133]) rfl (q_load wd_29 rfl) (St.ld X153349 (j := 2) rfl rfl) rfl ?_
              refine lpure (v := .int .i64 e153355.1) rfl (p_move rfl) rfl rfl ?_
              refine lpure (v := .int .i64 e153359.1) rfl (p_move rfl) rfl rfl ?_
              refine lcall rfl rfl ca_14 rfl rfl (f14_ok X153349 e151125 (e153355.1) (e153359.1) (H151132.mono ((g151643.trans g152566).trans g153041)) (H151645.mono (g152566.trans g153041))) rfl (fun e153375 v153376 h153377 hq153378 => ?_)
              cases hq153378
              refine lpure (v := .tuple #[.int .i64 e153375.1, .int .i64 e153375.2]) rfl (p_move rfl) rfl rfl ?_
              refine lpure (v := .int .i64 e153375.1) rfl (p_extract rfl) rfl rfl ?_
              refine lpure (v := .int .i64 e153375.2) rfl (p_extract rfl) rfl rfl ?_
              refine lpure (v := .int .i64 e153375.1) rfl (p_assign rfl) rfl rfl ?_
              refine lpure (v := .int .i64 e153375.2) rfl (p_assign rfl) rfl rfl ?_
              refine lend ?_
              refine nseq ?_
              refine dseq ?_
              refine dreg ?_
              refine lpure (v := .int .i64 e153355.2) rfl (p_move rfl) rfl rfl ?_
              refine lpure (v := .bool (decide (e153355.2 ≠ 0))) rfl (p_ne rfl) rfl rfl ?_
              refine lpure (v := .bool (decide (e153355.2 ≠ 0))) rfl (p_move rfl) rfl rfl ?_
              refine lsh (τ := Bool) (σ := Unit) (fun s153380 (_ : Unit) => [(3, .pointer (some ⟨b151135, 0, none⟩)), (4, .slice a152564 n152564 c152564), (5, .int .i64 s152562.2), (6, .slice a153043 n153043 c153043), (9, .int .i64 e153352), (10, .int .i64 e153355.1), (12, .int .i64 e153359.1), (15, .int .i64 e153363.2), (16, .int .i64 e153367.1), (17, .int .i64 e153367.2), (18, .int .i64 e153371.1), (19, .int .i64 e153371.2), (20, .int .i64 e153375.1), (21, .int .i64 e153375.2), (32, .int .i64 e151125.Nodes), (33, .int .i64 s152562.2), (61, .slice a153043 n153043 c153043), (62, .int .i64 (e153036.1.length : Int)), (63, .int .i64 s153249.2), (109, .bool s153380)]) (fun s153380 (_ : Unit) hh => St φ153040 h.n hh ([(some b153354, .cells vs153354 3 m153354), (ob152564, blk152564), (some b151135, .cells [.int .i64 e151125.Nodes, .slice a151132 n151132 c151132, .slice a151133 n151133 c151133] 29 .exact), (none, .dead), (some b6, .cells [.int .u8 p1.Bridges, .int .u8 p1.Stations, .slice a2 n2 c2, .slice a3 n3 c3, .slice a4 n4 c4, .slice a5 n5 c5] 24 .exact)])) 3 ?_ ?_
              · rintro s153380 _ t0 h153382 X153381
                refine lpure (v := .bool s153380) rfl (p_move rfl) rfl rfl ?_
                refine lsh (τ := Bool) (σ := Unit) (fun s153384 (_ : Unit) => [(3, .pointer (some ⟨b151135, 0, none⟩)), (4, .slice a152564 n152564 c152564), (5, .int .i64 s152562.2), (6, .slice a153043 n153043 c153043), (9, .int .i64 e153352), (10, .int .i64 e153355.1), (12, .int .i64 e153359.1), (16, .int .i64 e153367.1), (17, .int .i64 e153367.2), (18, .int .i64 e153371.1), (19, .int .i64 e153371.2), (20, .int .i64 e153375.1), (21, .int .i64 e153375.2), (32, .int .i64 e151125.Nodes), (33, .int .i64 s152562.2), (61, .slice a153043 n153043 c153043), (62, .int .i64 (e153036.1.length : Int)), (63, .int .i64 s153249.2), (113, .bool s153384)]) (fun s153384 (_ : Unit) hh => St φ153040 h.n hh ([(some b153354, .cells vs153354 3 m153354), (ob152564, blk152564), (some b151135, .cells [.int .i64 e151125.Nodes, .slice a151132 n151132 c151132, .slice a151133 n151133 c151133] 29 .exact), (none, .dead), (some b6, .cells [.int .u8 p1.Bridges, .int .u8 p1.Stations, .slice a2 n2 c2, .slice a3 n3 c3, .slice a4 n4 c4, .slice a5 n5 c5] 24 .exact)])) 3 ?_ ?_
                · rintro s153384 _ t0 h153386 X153385
                  refine lpure (v := .bool s153384) rfl (p_move rfl) rfl rfl ?_
                  refine lsh (τ := Bool) (σ := Unit) (fun s153388 (_ : Unit) => [(3, .pointer (some ⟨b151135, 0, none⟩)), (4, .slice a152564 n152564 c152564), (5, .int .i64 s152562.2), (6, .slice a153043 n153043 c153043), (9, .int .i64 e153352), (10, .int .i64 e153355.1), (12, .int .i64 e153359.1), (16, .int .i64 e153367.1), (18, .int .i64 e153371.1), (19, .int .i64 e153371.2), (20, .int .i64 e153375.1), (21, .int .i64 e153375.2), (32, .int .i64 e151125.Nodes), (33, .int .i64 s152562.2), (61, .slice a153043 n153043 c153043), (62, .int .i64 (e153036.1.length : Int)), (63, .int .i64 s153249.2), (117, .bool s153388)]) (fun s153388 (_ : Unit) hh => St φ153040 h.n hh ([(some b153354, .cells vs153354 3 m153354), (ob152564, blk152564), (some b151135, .cells [.int .i64 e151125.Nodes, .slice a151132 n151132 c151132, .slice a151133 n151133 c151133] 29 .exact), (none, .dead), (some b6, .cells [.int .u8 p1.Bridges, .int .u8 p1.Stations, .slice a2 n2 c2, .slice a3 n3 c3, .slice a4 n4 c4, .slice a5 n5 c5] 24 .exact)])) 3 ?_ ?_
                  · rintro s153388 _ t0 h153390 X153389
                    refine lpure (v := .bool s153388) rfl (p_move rfl) rfl rfl ?_
                    refine lsh (τ := Bool) (σ := Unit) (fun s153392 (_ : Unit) => [(3, .pointer (some ⟨b151135, 0, none⟩)), (4, .slice a152564 n152564 c152564), (5, .int .i64 s152562.2), (6, .slice a153043 n153043 c153043), (9, .int .i64 e153352), (10, .int .i64 e153355.1), (12, .int .i64 e153359.1), (16, .int .i64 e153367.1), (18, .int .i64 e153371.1), (20, .int .i64 e153375.1), (21, .int .i64 e153375.2), (32, .int .i64 e151125.Nodes), (33, .int .i64 s152562.2), (61, .slice a153043 n153043 c153043), (62, .int .i64 (e153036.1.length : Int)), (63, .int .i64 s153249.2), (121, .bool s153392)]) (fun s153392 (_ : Unit) hh => St φ153040 h.n hh ([(some b153354, .cells vs153354 3 m153354), (ob152564, blk152564), (some b151135, .cells [.int .i64 e151125.Nodes, .slice a151132 n151132 c151132, .slice a151133 n151133 c151133] 29 .exact), (none, .dead), (some b6, .cells [.int .u8 p1.Bridges, .int .u8 p1.Stations, .slice a2 n2 c2, .slice a3 n3 c3, .slice a4 n4 c4, .slice a5 n5 c5] 24 .exact)])) 3 ?_ ?_
                    · rintro s153392 _ t0 h153394 X153393
                      refine lpure (v := .bool s153392) rfl (p_move rfl) rfl rfl ?_
                      refine lsh (τ := Bool) (σ := Unit) (fun s153396 (_ : Unit) => [(3, .pointer (some ⟨b151135, 0, none⟩)), (4, .slice a152564 n152564 c152564), (5, .int .i64 s152562.2), (6, .slice a153043 n153043 c153043), (9, .int .i64 e153352), (10, .int .i64 e153355.1), (12, .int .i64 e153359.1), (16, .int .i64 e153367.1), (18, .int .i64 e153371.1), (20, .int .i64 e153375.1), (32, .int .i64 e151125.Nodes), (33, .int .i64 s152562.2), (61, .slice a153043 n153043 c153043), (62, .int .i64 (e153036.1.length : Int)), (63, .int .i64 s153249.2), (125, .bool s153396)]) (fun s153396 (_ : Unit) hh => St φ153040 h.n hh ([(some b153354, .cells vs153354 3 m153354), (ob152564, blk152564), (some b151135, .cells [.int .i64 e151125.Nodes, .slice a151132 n151132 c151132, .slice a151133 n151133 c151133] 29 .exact), (none, .dead), (some b6, .cells [.int .u8 p1.Bridges, .int .u8 p1.Stations, .slice a2 n2 c2, .slice a3 n3 c3, .slice a4 n4 c4, .slice a5 n5 c5] 24 .exact)])) 3 ?_ ?_
                      · rintro s153396 _ t0 h153398 X153397
                        refine lpure (v := .bool s153396) rfl (p_move rfl) rfl rfl ?_
                        refine lsh (τ := Bool) (σ := Unit) (fun s153400 (_ : Unit) => [(3, .pointer (some ⟨b151135, 0, none⟩)), (4, .slice a152564 n152564 c152564), (5, .int .i64 s152562.2), (6, .slice a153043 n153043 c153043), (9, .int .i64 e153352), (12, .int .i64 e153359.1), (16, .int .i64 e153367.1), (18, .int .i64 e153371.1), (20, .int .i64 e153375.1), (32, .int .i64 e151125.Nodes), (33, .int .i64 s152562.2), (61, .slice a153043 n153043 c153043), (62, .int .i64 (e153036.1.length : Int)), (63, .int .i64 s153249.2), (130, .bool s153400)]) (fun s153400 (_ : Unit) hh => St φ153040 h.n hh ([(some b153354, .cells vs153354 3 m153354), (ob152564, blk152564), (some b151135, .cells [.int .i64 e151125.Nodes, .slice a151132 n151132 c151132, .slice a151133 n151133 c151133] 29 .exact), (none, .dead), (some b6, .cells [.int .u8 p1.Bridges, .int .u8 p1.Stations, .slice a2 n2 c2, .slice a3 n3 c3, .slice a4 n4 c4, .slice a5 n5 c5] 24 .exact)])) 4 ?_ ?_
                        · rintro s153400 _ t0 h153402 X153401
                          refine lpure (v := .bool s153400) rfl (p_move rfl) rfl rfl ?_
                          refine lsh (τ := Bool) (σ := Unit) (fun s153404 (_ : Unit) => [(3, .pointer (some ⟨b151135, 0, none⟩)), (4, .slice a152564 n152564 c152564), (5, .int .i64 s152562.2), (6, .slice a153043 n153043 c153043), (9, .int .i64 e153352), (18, .int .i64 e153371.1), (20, .int .i64 e153375.1), (32, .int .i64 e151125.Nodes), (33, .int .i64 s152562.2), (61, .slice a153043 n153043 c153043), (62, .int .i64 (e153036.1.length : Int)), (63, .int .i64 s153249.2), (135, .bool s153404)]) (fun s153404 (_ : Unit) hh => St φ153040 h.n hh ([(some b153354, .cells vs153354 3 m153354), (ob152564, blk152564), (some b151135, .cells [.int .i64 e151125.Nodes, .slice a151132 n151132 c151132, .slice a151133 n151133 c151133] 29 .exact), (none, .dead), (some b6, .cells [.int .u8 p1.Bridges, .int .u8 p1.Stations, .slice a2 n2 c2, .slice a3 n3 c3, .slice a4 n4 c4, .slice a5 n5 c5] 24 .exact)])) 4 ?_ ?_
                          · rintro s153404 _ t0 h153406 X153405
                            refine lpure (v := .bool s153404) rfl (p_move rfl) rfl rfl ?_
                            refine lsh (τ := Bool) (σ := Unit) (fun s153408 (_ : Unit) => [(3, .pointer (some ⟨b151135, 0, none⟩)), (4, .slice a152564 n152564 c152564), (5, .int .i64 s152562.2), (6, .slice a153043 n153043 c153043), (9, .int .i64 e153352), (20, .int .i64 e153375.1), (32, .int .i64 e151125.Nodes), (33, .int .i64 s152562.2), (61, .slice a153043 n153043 c153043), (62, .int .i64 (e153036.1.length : Int)), (63, .int .i64 s153249.2), (140, .bool s153408)]) (fun s153408 (_ : Unit) hh => St φ153040 h.n hh ([(some b153354, .cells vs153354 3 m153354), (ob152564, blk152564), (some b151135, .cells [.int .i64 e151125.Nodes, .slice a151132 n151132 c151132, .slice a151133 n151133 c151133] 29 .exact), (none, .dead), (some b6, .cells [.int .u8 p1.Bridges, .int .u8 p1.Stations, .slice a2 n2 c2, .slice a3 n3 c3, .slice a4 n4 c4, .slice a5 n5 c5] 24 .exact)])) 4 ?_ ?_
                            · rintro s153408 _ t0 h153410 X153409
                              refine lpure (v := .bool s153408) rfl (p_move rfl) rfl rfl ?_
                              refine lsh (τ := Bool) (σ := Unit) (fun s153412 (_ : Unit) => [(3, .pointer (some ⟨b151135, 0, none⟩)), (4, .slice a152564 n152564 c152564), (5, .int .i64 s152562.2), (6, .slice a153043 n153043 c153043), (32, .int .i64 e151125.Nodes), (33, .int .i64 s152562.2), (61, .slice a153043 n153043 c153043), (62, .int .i64 (e153036.1.length : Int)), (63, .int .i64 s153249.2), (145, .bool s153412)]) (fun s153412 (_ : Unit) hh => St φ153040 h.n hh ([(some b153354, .cells vs153354 3 m153354), (ob152564, blk152564), (some b151135, .cells [.int .i64 e151125.Nodes, .slice a151132 n151132 c151132, .slice a151133 n151133 c151133] 29 .exact), (none, .dead), (some b6, .cells [.int .u8 p1.Bridges, .int .u8 p1.Stations, .slice a2 n2 c2, .slice a3 n3 c3, .slice a4 n4 c4, .slice a5 n5 c5] 24 .exact)])) 4 ?_ ?_
                              · rintro s153412 _ t0 h153414 X153413
                                refine lend ?_
                                refine nseq ?_
                                refine dcond rfl rfl (fun k153415 => ?_) (fun k153415 => ?_)
                                · refine dseq ?_
                                  refine dreg ?_
                                  refine lpure (v := .bool false) rfl (p_assign rfl) rfl rfl ?_
                                  refine lend ?_
                                  refine nseq ?_
                                  refine dret ?_
                                  refine rblock ?_
                                  refine rseq ?_
                                  refine rloop ?_
                                  refine rblock ?_
                                  refine rseq ?_
                                  refine rblock ?_
                                  refine rseq ?_
                                  refine rloop ?_
                                  refine rblock ?_
                                  refine rseq ?_
                                  exact kcut_r (res_1 resT) X153413 rfl rfl
                                · refine dskip ?_
                                  refine nblock ?_
                                  refine nseq ?_
                                  refine dreg ?_
                                  refine lpure (v := .int .i64 (w64 (s153249.2 + 1))) rfl (p_add rfl) rfl rfl ?_
                                  refine lpure (v := .int .i64 (w64 (s153249.2 + 1))) rfl (p_move rfl) rfl rfl ?_
                                  refine lend ?_
                                  exact kbackM ih153347 (s153249.1, (w64 (s153249.2 + 1))) (.cells vs153354 3 m153354) (sub_cons rfl (sub_cons rfl (sub_cons rfl (sub_cons rfl (sub_cons rfl (sub_cons rfl (sub_cons rfl (sub_cons rfl (sub_cons rfl sub_nil))))))))) ⟨(St.pick X153413 (.keep _ (.keep _ (.keep _ (.none _ (.skip _ (.keep _ (.nil _)))))))), O153250⟩
                              · intro j153416 J153417
                                refine lcase (i := 141) (show _ = Value.bool s153408 from rfl) (fun k153418 => ?_) (fun k153418 => ?_)
                                · refine lskip rfl rfl ?_
                                  refine lskip rfl rfl ?_
                                  refine lskip rfl rfl ?_
                                  refine lpure (v := .bool true) rfl (p_pick rfl) rfl rfl ?_
                                  refine Sim.of_eq (congrArg j153416 (show (s153408 || (decide (e153375.1 ≠ e153352))) = true from by rw [k153418] <;> rfl)) ?_
                                  exact ljmpM J153417 true () (sub_cons rfl (sub_cons rfl (sub_cons rfl (sub_cons rfl (sub_cons rfl (sub_cons rfl (sub_cons rfl (sub_cons rfl (sub_cons rfl (sub_cons rfl sub_nil)))))))))) (St.pick X153409 (.keep _ (.keep _ (.keep _ (.none _ (.skip _ (.keep _ (.nil _))))))))
                                · refine lpure (v := .int .i64 e153375.1) rfl (p_move rfl) rfl rfl ?_
                                  refine lpure (v := .int .i64 e153352) rfl (p_move rfl) rfl rfl ?_
                                  refine lpure (v := .bool (decide (e153375.1 ≠ e153352))) rfl (p_ne rfl) rfl rfl ?_
                                  refine lpure (v := .bool (decide (e153375.1 ≠ e153352))) rfl (p_pick rfl) rfl rfl ?_
                                  refine Sim.of_eq (congrArg j153416 (show (s153408 || (decide (e153375.1 ≠ e153352))) = (decide (e153375.1 ≠ e153352)) from by rw [k153418] <;> rfl)) ?_
                                  exact ljmpM J153417 (decide (e153375.1 ≠ e153352)) () (sub_cons rfl (sub_cons rfl (sub_cons rfl (sub_cons rfl (sub_cons rfl (sub_cons rfl (sub_cons rfl (sub_cons rfl (sub_cons rfl (sub_cons rfl sub_nil)))))))))) (St.pick X153409 (.keep _ (.keep _ (.keep _ (.none _ (.skip _ (.keep _ (.nil _))))))))
                            · intro j153419 J153420
                              refine lcase (i := 136) (show _ = Value.bool s153404 from rfl) (fun k153421 => ?_) (fun k153421 => ?_)
                              · refine lskip rfl rfl ?_
                                refine lskip rfl rfl ?_
                                refine lskip rfl rfl ?_
                                refine lpure (v := .bool true) rfl (p_pick rfl) rfl rfl ?_
                                refine Sim.of_eq (congrArg j153419 (show (s153404 || (decide (e153371.1 ≠ e153352))) = true from by rw [k153421] <;> rfl)) ?_
                                exact ljmpM J153420 true () (sub_cons rfl (sub_cons rfl (sub_cons rfl (sub_cons rfl (sub_cons rfl (sub_cons rfl (sub_cons rfl (sub_cons rfl (sub_cons rfl (sub_cons rfl (sub_cons rfl (sub_cons rfl sub_nil)))))))))))) (St.pick X153405 (.keep _ (.keep _ (.keep _ (.none _ (.skip _ (.keep _ (.nil _))))))))
                              · refine lpure (v := .int .i64 e153371.1) rfl (p_move rfl) rfl rfl ?_
                                refine lpure (v := .int .i64 e153352) rfl (p_move rfl) rfl rfl ?_
                                refine lpure (v := .bool (decide (e153371.1 ≠ e153352))) rfl (p_ne rfl) rfl rfl ?_
                                refine lpure (v := .bool (decide (e153371.1 ≠ e153352))) rfl (p_pick rfl) rfl rfl ?_
                                refine Sim.of_eq (congrArg j153419 (show (s153404 || (decide (e153371.1 ≠ e153352))) = (decide (e153371.1 ≠ e153352)) from by rw [k153421] <;> rfl)) ?_
                                exact ljmpM J153420 (decide (e153371.1 ≠ e153352)) () (sub_cons rfl (sub_cons rfl (sub_cons rfl (sub_cons rfl (sub_cons rfl (sub_cons rfl (sub_cons rfl (sub_cons rfl (sub_cons rfl (sub_cons rfl (sub_cons rfl (sub_cons rfl sub_nil)))))))))))) (St.pick X153405 (.keep _ (.keep _ (.keep _ (.none _ (.skip _ (.keep _ (.nil _))))))))
                          · intro j153422 J153423
                            refine lcase (i := 131) (show _ = Value.bool s153400 from rfl) (fun k153424 => ?_) (fun k153424 => ?_)
                            · refine lskip rfl rfl ?_
                              refine lskip rfl rfl ?_
                              refine lskip rfl rfl ?_
                              refine lpure (v := .bool true) rfl (p_pick rfl) rfl rfl ?_
                              refine Sim.of_eq (congrArg j153422 (show (s153400 || (decide (e153367.1 ≠ e153359.1))) = true from by rw [k153424] <;> rfl)) ?_
                              exact ljmpM J153423 true () (sub_cons rfl (sub_cons rfl (sub_cons rfl (sub_cons rfl (sub_cons rfl (sub_cons rfl (sub_cons rfl (sub_cons rfl (sub_cons rfl (sub_cons rfl (sub_cons rfl (sub_cons rfl (sub_cons rfl sub_nil))))))))))))) (St.pick X153401 (.keep _ (.keep _ (.keep _ (.none _ (.skip _ (.keep _ (.nil _))))))))
                            · refine lpure (v := .int .i64 e153367.1) rfl (p_move rfl) rfl rfl ?_
                              refine lpure (v := .int .i64 e153359.1) rfl (p_move rfl) rfl rfl ?_
                              refine lpure (v := .bool (decide (e153367.1 ≠ e153359.1))) rfl (p_ne rfl) rfl rfl ?_
                              refine lpure (v := .bool (decide (e153367.1 ≠ e153359.1))) rfl (p_pick rfl) rfl rfl ?_
                              refine Sim.of_eq (congrArg j153422 (show (s153400 || (decide (e153367.1 ≠ e153359.1))) = (decide (e153367.1 ≠ e153359.1)) from by rw [k153424] <;> rfl)) ?_
                              exact ljmpM J153423 (decide (e153367.1 ≠ e153359.1)) () (sub_cons rfl (sub_cons rfl (sub_cons rfl (sub_cons rfl (sub_cons rfl (sub_cons rfl (sub_cons rfl (sub_cons rfl (sub_cons rfl (sub_cons rfl (sub_cons rfl (sub_cons rfl (sub_cons rfl sub_nil))))))))))))) (St.pick X153401 (.keep _ (.keep _ (.keep _ (.none _ (.skip _ (.keep _ (.nil _))))))))
                        · intro j153425 J153426
                          refine lcase (i := 126) (show _ = Value.bool s153396 from rfl) (fun k153427 => ?_) (fun k153427 => ?_)
                          · refine lskip rfl rfl ?_
                            refine lskip rfl rfl ?_
                            refine lskip rfl rfl ?_
                            refine lpure (v := .bool true) rfl (p_pick rfl) rfl rfl ?_
                            refine Sim.of_eq (congrArg j153425 (show (s153396 || (decide (e153355.1 ≠ s152562.2))) = true from by rw [k153427] <;> rfl)) ?_
                            exact ljmpM J153426 true () (sub_cons rfl (sub_cons rfl (sub_cons rfl (sub_cons rfl (sub_cons rfl (sub_cons rfl (sub_cons rfl (sub_cons rfl (sub_cons rfl (sub_cons rfl (sub_cons rfl (sub_cons rfl (sub_cons rfl (sub_cons rfl (sub_cons rfl sub_nil))))))))))))))) (St.pick X153397 (.keep _ (.keep _ (.keep _ (.none _ (.skip _ (.keep _ (.nil _))))))))
                          · refine lpure (v := .int .i64 e153355.1) rfl (p_move rfl) rfl rfl ?_
                            refine lpure (v := .int .i64 s152562.2) rfl (p_move rfl) rfl rfl ?_
                            refine lpure (v := .bool (decide (e153355.1 ≠ s152562.2))) rfl (p_ne rfl) rfl rfl ?_
                            refine lpure (v := .bool (decide (e153355.1 ≠ s152562.2))) rfl (p_pick rfl) rfl rfl ?_
                            refine Sim.of_eq (congrArg j153425 (show (s153396 || (decide (e153355.1 ≠ s152562.2))) = (decide (e153355.1 ≠ s152562.2)) from by rw [k153427] <;> rfl)) ?_
                            exact ljmpM J153426 (decide (e153355.1 ≠ s152562.2)) () (sub_cons rfl (sub_cons rfl (sub_cons rfl (sub_cons rfl (sub_cons rfl (sub_cons rfl (sub_cons rfl (sub_cons rfl (sub_cons rfl (sub_cons rfl (sub_cons rfl (sub_cons rfl (sub_cons rfl (sub_cons rfl (sub_cons rfl sub_nil))))))))))))))) (St.pick X153397 (.keep _ (.keep _ (.keep _ (.none _ (.skip _ (.keep _ (.nil _))))))))
                      · intro j153428 J153429
                        refine lcase (i := 122) (show _ = Value.bool s153392 from rfl) (fun k153430 => ?_) (fun k153430 => ?_)
                        · refine lskip rfl rfl ?_
                          refine lskip rfl rfl ?_
                          refine lpure (v := .bool true) rfl (p_pick rfl) rfl rfl ?_
                          refine Sim.of_eq (congrArg j153428 (show (s153392 || (decide (e153375.2 ≠ 0))) = true from by rw [k153430] <;> rfl)) ?_
                          exact ljmpM J153429 true () (sub_cons rfl (sub_cons rfl (sub_cons rfl (sub_cons rfl (sub_cons rfl (sub_cons rfl (sub_cons rfl (sub_cons rfl (sub_cons rfl (sub_cons rfl (sub_cons rfl (sub_cons rfl (sub_cons rfl (sub_cons rfl (sub_cons rfl (sub_cons rfl sub_nil)))))))))))))))) (St.pick X153393 (.keep _ (.keep _ (.keep _ (.none _ (.skip _ (.keep _ (.nil _))))))))
                        · refine lpure (v := .int .i64 e153375.2) rfl (p_move rfl) rfl rfl ?_
                          refine lpure (v := .bool (decide (e153375.2 ≠ 0))) rfl (p_ne rfl) rfl rfl ?_
                          refine lpure (v := .bool (decide (e153375.2 ≠ 0))) rfl (p_pick rfl) rfl rfl ?_
                          refine Sim.of_eq (congrArg j153428 (show (s153392 || (decide (e153375.2 ≠ 0))) = (decide (e153375.2 ≠ 0)) from by rw [k153430] <;> rfl)) ?_
                          exact ljmpM J153429 (decide (e153375.2 ≠ 0)) () (sub_cons rfl (sub_cons rfl (sub_cons rfl (sub_cons rfl (sub_cons rfl (sub_cons rfl (sub_cons rfl (sub_cons rfl (sub_cons rfl (sub_cons rfl (sub_cons rfl (sub_cons rfl (sub_cons rfl (sub_cons rfl (sub_cons rfl (sub_cons rfl sub_nil)))))))))))))))) (St.pick X153393 (.keep _ (.keep _ (.keep _ (.none _ (.skip _ (.keep _ (.nil _))))))))
                    · intro j153431 J153432
                      refine lcase (i := 118) (show _ = Value.bool s153388 from rfl) (fun k153433 => ?_) (fun k153433 => ?_)
                      · refine lskip rfl rfl ?_
                        refine lskip rfl rfl ?_
                        refine lpure (v := .bool true) rfl (p_pick rfl) rfl rfl ?_
                        refine Sim.of_eq (congrArg j153431 (show (s153388 || (decide (e153371.2 ≠ 0))) = true from by rw [k153433] <;> rfl)) ?_
                        exact ljmpM J153432 true () (sub_cons rfl (sub_cons rfl (sub_cons rfl (sub_cons rfl (sub_cons rfl (sub_cons rfl (sub_cons rfl (sub_cons rfl (sub_cons rfl (sub_cons rfl (sub_cons rfl (sub_cons rfl (sub_cons rfl (sub_cons rfl (sub_cons rfl (sub_cons rfl (sub_cons rfl sub_nil))))))))))))))))) (St.pick X153389 (.keep _ (.keep _ (.keep _ (.none _ (.skip _ (.keep _ (.nil _))))))))
                      · refine lpure (v := .int .i64 e153371.2) rfl (p_move rfl) rfl rfl ?_
                        refine lpure (v := .bool (decide (e153371.2 ≠ 0))) rfl (p_ne rfl) rfl rfl ?_
                        refine lpure (v := .bool (decide (e153371.2 ≠ 0))) rfl (p_pick rfl) rfl rfl ?_
                        refine Sim.of_eq (congrArg j153431 (show (s153388 || (decide (e153371.2 ≠ 0))) = (decide (e153371.2 ≠ 0)) from by rw [k153433] <;> rfl)) ?_
                        exact ljmpM J153432 (decide (e153371.2 ≠ 0)) () (sub_cons rfl (sub_cons rfl (sub_cons rfl (sub_cons rfl (sub_cons rfl (sub_cons rfl (sub_cons rfl (sub_cons rfl (sub_cons rfl (sub_cons rfl (sub_cons rfl (sub_cons rfl (sub_cons rfl (sub_cons rfl (sub_cons rfl (sub_cons rfl (sub_cons rfl sub_nil))))))))))))))))) (St.pick X153389 (.keep _ (.keep _ (.keep _ (.none _ (.skip _ (.keep _ (.nil _))))))))
                  · intro j153434 J153435
                    refine lcase (i := 114) (show _ = Value.bool s153384 from rfl) (fun k153436 => ?_) (fun k153436 => ?_)
                    · refine lskip rfl rfl ?_
                      refine lskip rfl rfl ?_
                      refine lpure (v := .bool true) rfl (p_pick rfl) rfl rfl ?_
                      refine Sim.of_eq (congrArg j153434 (show (s153384 || (decide (e153367.2 ≠ 0))) = true from by rw [k153436] <;> rfl)) ?_
                      exact ljmpM J153435 true () (sub_cons rfl (sub_cons rfl (sub_cons rfl (sub_cons rfl (sub_cons rfl (sub_cons rfl (sub_cons rfl (sub_cons rfl (sub_cons rfl (sub_cons rfl (sub_cons rfl (sub_cons rfl (sub_cons rfl (sub_cons rfl (sub_cons rfl (sub_cons rfl (sub_cons rfl (sub_cons rfl sub_nil)))))))))))))))))) (St.pick X153385 (.keep _ (.keep _ (.keep _ (.none _ (.skip _ (.keep _ (.nil _))))))))
                    · refine lpure (v := .int .i64 e153367.2) rfl (p_move rfl) rfl rfl ?_
                      refine lpure (v := .bool (decide (e153367.2 ≠ 0))) rfl (p_ne rfl) rfl rfl ?_
                      refine lpure (v := .bool (decide (e153367.2 ≠ 0))) rfl (p_pick rfl) rfl rfl ?_
                      refine Sim.of_eq (congrArg j153434 (show (s153384 || (decide (e153367.2 ≠ 0))) = (decide (e153367.2 ≠ 0)) from by rw [k153436] <;> rfl)) ?_
                      exact ljmpM J153435 (decide (e153367.2 ≠ 0)) () (sub_cons rfl (sub_cons rfl (sub_cons rfl (sub_cons rfl (sub_cons rfl (sub_cons rfl (sub_cons rfl (sub_cons rfl (sub_cons rfl (sub_cons rfl (sub_cons rfl (sub_cons rfl (sub_cons rfl (sub_cons rfl (sub_cons rfl (sub_cons rfl (sub_cons rfl (sub_cons rfl sub_nil)))))))))))))))))) (St.pick X153385 (.keep _ (.keep _ (.keep _ (.none _ (.skip _ (.keep _ (.nil _))))))))
                · intro j153437 J153438
                  refine lcase (i := 110) (show _ = Value.bool s153380 from rfl) (fun k153439 => ?_) (fun k153439 => ?_)
                  · refine lskip rfl rfl ?_
                    refine lskip rfl rfl ?_
                    refine lpure (v := .bool true) rfl (p_pick rfl) rfl rfl ?_
                    refine Sim.of_eq (congrArg j153437 (show (s153380 || (decide (e153363.2 ≠ 0))) = true from by rw [k153439] <;> rfl)) ?_
                    exact ljmpM J153438 true () (sub_cons rfl (sub_cons rfl (sub_cons rfl (sub_cons rfl (sub_cons rfl (sub_cons rfl (sub_cons rfl (sub_cons rfl (sub_cons rfl (sub_cons rfl (sub_cons rfl (sub_cons rfl (sub_cons rfl (sub_cons rfl (sub_cons rfl (sub_cons rfl (sub_cons rfl (sub_cons rfl (sub_cons rfl sub_nil))))))))))))))))))) (St.pick X153381 (.keep _ (.keep _ (.keep _ (.none _ (.skip _ (.keep _ (.nil _))))))))
                  · refine lpure (v := .int .i64 e153363.2) rfl (p_move rfl) rfl rfl ?_
                    refine lpure (v := .bool (decide (e153363.2 ≠ 0))) rfl (p_ne rfl) rfl rfl ?_
                    refine lpure (v := .bool (decide (e153363.2 ≠ 0))) rfl (p_pick rfl) rfl rfl ?_
                    refine Sim.of_eq (congrArg j153437 (show (s153380 || (decide (e153363.2 ≠ 0))) = (decide (e153363.2 ≠ 0)) from by rw [k153439] <;> rfl)) ?_
                    exact ljmpM J153438 (decide (e153363.2 ≠ 0)) () (sub_cons rfl (sub_cons rfl (sub_cons rfl (sub_cons rfl (sub_cons rfl (sub_cons rfl (sub_cons rfl (sub_cons rfl (sub_cons rfl (sub_cons rfl (sub_cons rfl (sub_cons rfl (sub_cons rfl (sub_cons rfl (sub_cons rfl (sub_cons rfl (sub_cons rfl (sub_cons rfl (sub_cons rfl sub_nil))))))))))))))))))) (St.pick X153381 (.keep _ (.keep _ (.keep _ (.none _ (.skip _ (.keep _ (.nil _))))))))
              · intro j153440 J153441
                refine lcase (i := 106) (show _ = Value.bool (decide (e153355.2 ≠ 0)) from rfl) (fun k153442 => ?_) (fun k153442 => ?_)
                · refine lskip rfl rfl ?_
                  refine lskip rfl rfl ?_
                  refine lpure (v := .bool true) rfl (p_pick rfl) rfl rfl ?_
                  refine Sim.of_eq (congrArg j153440 (show ((decide (e153355.2 ≠ 0)) || (decide (e153359.2 ≠ 0))) = true from by rw [k153442] <;> rfl)) ?_
                  exact ljmpM J153441 true () (sub_cons rfl (sub_cons rfl (sub_cons rfl (sub_cons rfl (sub_cons rfl (sub_cons rfl (sub_cons rfl (sub_cons rfl (sub_cons rfl (sub_cons rfl (sub_cons rfl (sub_cons rfl (sub_cons rfl (sub_cons rfl (sub_cons rfl (sub_cons rfl (sub_cons rfl (sub_cons rfl (sub_cons rfl (sub_cons rfl sub_nil)))))))))))))))))))) (St.pick X153349 (.keep _ (.keep _ (.keep _ (.none _ (.skip _ (.keep _ (.nil _))))))))
                · refine lpure (v := .int .i64 e153359.2) rfl (p_move rfl) rfl rfl ?_
                  refine lpure (v := .bool (decide (e153359.2 ≠ 0))) rfl (p_ne rfl) rfl rfl ?_
                  refine lpure (v := .bool (decide (e153359.2 ≠ 0))) rfl (p_pick rfl) rfl rfl ?_
                  refine Sim.of_eq (congrArg j153440 (show ((decide (e153355.2 ≠ 0)) || (decide (e153359.2 ≠ 0))) = (decide (e153359.2 ≠ 0)) from by rw [k153442] <;> rfl)) ?_
                  exact ljmpM J153441 (decide (e153359.2 ≠ 0)) () (sub_cons rfl (sub_cons rfl (sub_cons rfl (sub_cons rfl (sub_cons rfl (sub_cons rfl (sub_cons rfl (sub_cons rfl (sub_cons rfl (sub_cons rfl (sub_cons rfl (sub_cons rfl (sub_cons rfl (sub_cons rfl (sub_cons rfl (sub_cons rfl (sub_cons rfl (sub_cons rfl (sub_cons rfl (sub_cons rfl sub_nil)))))))))))))))))))) (St.pick X153349 (.keep _ (.keep _ (.keep _ (.none _ (.skip _ (.keep _ (.nil _))))))))
            · refine dexit ?_
              refine eseq ?_
              refine eloop ?_
              refine xblock ?_
              refine nseq ?_
              refine dreg ?_
              refine lpure (v := .slice a152564 n152564 c152564) rfl (p_move rfl) rfl rfl ?_
              refine lpure (v := .slice a153043 n153043 c153043) rfl (p_move rfl) rfl rfl ?_
              obtain ⟨ws153443, hw153443⟩ := OSl.read O153250 X153349 (k := 0) rfl (n := 1) rfl
              refine Sim.mustM fun k153443 => ?_
              obtain ⟨h153443, a153443, c153443, ob153443, blk153443, hv153443, X153443, O153443⟩ := OSl.append (O152564.mono g153041) X153349 (j := 1) rfl hw153443 k153443 (ts := #[33, 33]) rfl un_33 (argOk_of ax_33_33) ts_3 rfl rfl tb_3 rfl tz_3 rfl
              refine lheap rfl (h_builtin rfl rfl) hv153443 rfl ?_
              refine lpure (v := .slice a153443 (s152562.1.length + s153249.1.length) c153443) rfl (p_assign rfl) rfl rfl ?_
              refine lend ?_
              refine nblock ?_
              refine nseq ?_
              refine dreg ?_
              refine lpure (v := .int .i64 (w64 (s152562.2 + 1))) rfl (p_add rfl) rfl rfl ?_
              refine lpure (v := .int .i64 (w64 (s152562.2 + 1))) rfl (p_move rfl) rfl rfl ?_
              refine lend ?_
              exact kbackM ih153031 ((s152562.1 ++ s153249.1), (w64 (s152562.2 + 1))) (φ153040, a153443, (s152562.1.length + s153249.1.length), c153443, ob153443, blk153443) (sub_cons rfl (sub_cons rfl (sub_cons rfl (sub_cons rfl sub_nil)))) ⟨(St.pick X153443 (.skip _ (.keep _ (.keep _ (.none _ (.skip _ (.keep _ (.nil _)))))))), (g152566.trans g153041), O153443⟩
        · intro j153444 J153445
          refine lif (i := 44) (show _ = Value.bool (decide (e153036.2 ≠ 0)) from rfl) (fun k153446 => ?_) (fun k153446 => ?_)
          · refine lskip rfl rfl ?_
            refine lskip rfl rfl ?_
            refine lskip rfl rfl ?_
            refine lskip rfl rfl ?_
            refine lskip rfl rfl ?_
            refine lskip rfl rfl ?_
            refine lskip rfl rfl ?_
            refine lskip rfl rfl ?_
            refine lskip rfl rfl ?_
            refine lskip rfl rfl ?_
            refine lskip rfl rfl ?_
            refine lskip rfl rfl ?_
            refine lskip rfl rfl ?_
            refine lskip rfl rfl ?_
            refine lskip rfl rfl ?_
            refine lpure (v := .bool true) rfl (p_pick rfl) rfl rfl ?_
            exact ljmpM J153445 true () (sub_cons rfl (sub_cons rfl (sub_cons rfl (sub_cons rfl (sub_cons rfl (sub_cons rfl (sub_cons rfl sub_nil))))))) (St.pick X153042 (.keep _ (.keep _ (.keep _ (.none _ (.skip _ (.keep _ (.nil _))))))))
          · refine lpure (v := .pointer (some ⟨b151135, 1, none⟩)) rfl (p_fa fo_29_1 rfl) rfl rfl ?_
            refine lread (v := .slice a151132 n151132 c151132) rfl (q_load wd_26 rfl) (St.ld X153042 (j := 2) rfl rfl) rfl ?_
            refine lpure (v := .int .i64 s152562.2) rfl (p_move rfl) rfl rfl ?_
            refine Sim.bindM fun e153447 he153448 => ?_
            obtain ⟨p153449, cs153449, hp153449, hF153449, hR153449⟩ := RSl.ia (H151132.mono ((g151643.trans g152566).trans g153041)) he153448 (kd := .i64) (n := 1) rfl
            have hR153449 : _ = [(.bool e153447 : Value)] := hR153449
            subst hR153449
            refine lpure (v := p153449) rfl (p_ia rs_26 rfl) hp153449 rfl ?_
            refine lread (v := .bool e153447) rfl (q_load wd_4 rfl) (FP.ld X153042 hF153449) rfl ?_
            refine lpure (v := .bool e153447) rfl (p_move rfl) rfl rfl ?_
            refine lif (i := 50) (show _ = Value.bool e153447 from rfl) (fun k153450 => ?_) (fun k153450 => ?_)
            · refine lpure (v := .slice a153043 n153043 c153043) rfl (p_move rfl) rfl rfl ?_
              refine lpure (v := .int .i64 (e153036.1.length : Int)) rfl (p_len rfl rfl rfl un_33 rfl) (OSl.len O153043) rfl ?_
              refine lpure (v := .bool (decide ((e153036.1.length : Int) < 1))) rfl (p_lt rfl) rfl rfl ?_
              refine lpure (v := .bool (decide ((e153036.1.length : Int) < 1))) rfl (p_move rfl) rfl rfl ?_
              refine lif (i := 54) (show _ = Value.bool (decide ((e153036.1.length : Int) < 1)) from rfl) (fun k153451 => ?_) (fun k153451 => ?_)
              · refine lskip rfl rfl ?_
                refine lskip rfl rfl ?_
                refine lskip rfl rfl ?_
                refine lpure (v := .bool true) rfl (p_pick rfl) rfl rfl ?_
                refine lpure (v := .bool true) rfl (p_pick rfl) rfl rfl ?_
                refine lpure (v := .bool true) rfl (p_pick rfl) rfl rfl ?_
                exact ljmpM J153445 true () (sub_cons rfl (sub_cons rfl (sub_cons rfl (sub_cons rfl (sub_cons rfl (sub_cons rfl (sub_cons rfl sub_nil))))))) (St.pick X153042 (.keep _ (.keep _ (.keep _ (.none _ (.skip _ (.keep _ (.nil _))))))))
              · refine lpure (v := .slice a153043 n153043 c153043) rfl (p_move rfl) rfl rfl ?_
                refine lpure (v := .int .i64 (e153036.1.length : Int)) rfl (p_len rfl rfl rfl un_33 rfl) (OSl.len O153043) rfl ?_
                refine lpure (v := .bool (decide (2 < (e153036.1.length : Int)))) rfl (p_gt rfl) rfl rfl ?_
                refine lpure (v := .bool (decide (2 < (e153036.1.length : Int)))) rfl (p_pick rfl) rfl rfl ?_
                refine lpure (v := .bool (decide (2 < (e153036.1.length : Int)))) rfl (p_pick rfl) rfl rfl ?_
                refine lpure (v := .bool (decide (2 < (e153036.1.length : Int)))) rfl (p_pick rfl) rfl rfl ?_
                exact ljmpM J153445 (decide (2 < (e153036.1.length : Int))) () (sub_cons rfl (sub_cons rfl (sub_cons rfl (sub_cons rfl (sub_cons rfl (sub_cons rfl (sub_cons rfl sub_nil))))))) (St.pick X153042 (.keep _ (.keep _ (.keep _ (.none _ (.skip _ (.keep _ (.nil _))))))))
            · refine lskip rfl rfl ?_
              refine lskip rfl rfl ?_
              refine lskip rfl rfl ?_
              refine lskip rfl rfl ?_
              refine lskip rfl rfl ?_
              refine lskip rfl rfl ?_
              refine lskip rfl rfl ?_
              refine lskip rfl rfl ?_
              refine lpure (v := .bool false) rfl (p_pick rfl) rfl rfl ?_
              refine lpure (v := .bool false) rfl (p_pick rfl) rfl rfl ?_
              exact ljmpM J153445 false () (sub_cons rfl (sub_cons rfl (sub_cons rfl (sub_cons rfl (sub_cons rfl (sub_cons rfl (sub_cons rfl sub_nil))))))) (St.pick X153042 (.keep _ (.keep _ (.keep _ (.none _ (.skip _ (.keep _ (.nil _))))))))
      · refine dexit ?_
        refine eseq ?_
        refine eloop ?_
        refine xblock ?_
        refine nseq ?_
        refine dseq ?_
        refine dreg ?_
        refine lpure (v := .slice a152564 n152564 c152564) rfl (p_move rfl) rfl rfl ?_
        refine lcall rfl rfl ca_15 rfl rfl (sort_ok (f := 15) rfl X153033 (s152562.1) O152564) rfl ?_
        rintro e153452 _ h153454 ⟨φ153456, blk153459, g153457, X153458, rfl, O153459⟩
        refine lend ?_
        refine nseq ?_
        refine dseq ?_
        refine dseq ?_
        refine dreg ?_
        refine lpure (v := .slice a152564 n152564 c152564) rfl (p_move rfl) rfl rfl ?_
        refine lpure (v := .int .i64 (e153452.length : Int)) rfl (p_len rfl rfl rfl un_33 rfl) (OSl.len O153459) rfl ?_
        refine lpure (v := .int .i64 0) rfl (p_move rfl) rfl rfl ?_
        refine lend ?_
        refine nseq ?_
        refine dblock ?_
        refine dloopM (τ := (List Int) × Int) (σ := Blk) (fun s153477 blk153478 => [(3, .pointer (some ⟨b151135, 0, none⟩)), (4, .slice a152564 n152564 c152564), (153, .slice a152564 n152564 c152564), (154, .int .i64 (e153452.length : Int)), (155, .int .i64 s153477.2)]) (fun s153477 blk153478 hh => St φ153456 h.n hh ([(ob152564, blk153478), (some b151135, .cells [.int .i64 e151125.Nodes, .slice a151132 n151132 c151132, .slice a151133 n151133 c151133] 29 .exact), (none, .dead), (some b6, .cells [.int .u8 p1.Bridges, .int .u8 p1.Stations, .slice a2 n2 c2, .slice a3 n3 c3, .slice a4 n4 c4, .slice a5 n5 c5] 24 .exact)]) ∧ OSl (eInt .i64) φ153456 3 ob152564 blk153478 (.slice a152564 n152564 c152564) s153477.1) (e153452, 0) blk153459 (sub_cons rfl (sub_cons rfl (sub_cons rfl (sub_cons rfl (sub_cons rfl sub_nil))))) ⟨(St.pick X153458 (.keep _ (.keep _ (.none _ (.skip _ (.keep _ (.nil _))))))), O153459⟩ ?_
        rintro n153488 ih153487 s153477 blk153478 t0 h153490 ⟨X153489, O153478⟩
        refine dseq ?_
        refine dreg ?_
        refine lpure (v := .bool (decide (s153477.2 < (e153452.length : Int)))) rfl (p_lt rfl) rfl rfl ?_
        refine lend ?_
        refine nseq ?_
        refine dseq ?_
        refine dcond rfl rfl (fun k153491 => ?_) (fun k153491 => ?_)
        · refine dskip ?_
          refine nseq ?_
          refine dseq ?_
          refine dblock ?_
          refine dseq ?_
          refine dreg ?_
          refine lpure (v := .int .i64 s153477.2) rfl (p_move rfl) rfl rfl ?_
          refine Sim.bindM fun e153492 he153493 => ?_
          obtain ⟨b153494, vs153494, m153494, off153494, cs153494, rfl, rfl, hp153494, hc153494, hR153494, hl153494, hm153494, hs153494⟩ := OSl.ia O153478 he153493 (kd := .i64) (n := 1) rfl
          have hR153494 : _ = [(.int .i64 e153492 : Value)] := hR153494
          subst hR153494
          refine lpure (v := .pointer (some ⟨b153494, off153494, none⟩)) rfl (p_ia rs_33 rfl) hp153494 rfl ?_
          refine lread (v := .int .i64 e153492) rfl (q_load wd_3 rfl) (St.ld X153489 (j := 0) rfl (rdE1 hc153494 (k := 0) rfl rfl)) rfl ?_
          refine lpure (v := .int .i64 s153477.2) rfl (p_assign rfl) rfl rfl ?_
          refine lpure (v := .int .i64 e153492) rfl (p_assign rfl) rfl rfl ?_
          refine lend ?_
          refine nseq ?_
          refine dseq ?_
          refine dreg ?_
          refine lpure (v := .int .i64 e153492) rfl (p_move rfl) rfl rfl ?_
          refine lpure (v := .int .i64 s153477.2) rfl (p_move rfl) rfl rfl ?_
          refine lpure (v := .bool (decide (e153492 ≠ s153477.2))) rfl (p_ne rfl) rfl rfl ?_
          refine lend ?_
          refine nseq ?_
          refine dcond rfl rfl (fun k153495 => ?_) (fun k153495 => ?_)
          · refine dseq ?_
            refine dreg ?_
            refine lpure (v := .bool false) rfl (p_assign rfl) rfl rfl ?_
            refine lend ?_
            refine nseq ?_
            refine dret ?_
            refine rblock ?_
            refine rseq ?_
            refine rloop ?_
            refine rblock ?_
            refine rseq ?_
            exact kcut_r (res_1 resT) X153489 rfl rfl
          · refine dskip ?_
            refine nblock ?_
            refine nseq ?_
            refine dreg ?_
            refine lpure (v := .int .i64 (w64 (s153477.2 + 1))) rfl (p_add rfl) rfl rfl ?_
            refine lpure (v := .int .i64 (w64 (s153477.2 + 1))) rfl (p_move rfl) rfl rfl ?_
            refine lend ?_
            exact kbackM ih153487 (s153477.1, (w64 (s153477.2 + 1))) (.cells vs153494 3 m153494) (sub_cons rfl (sub_cons rfl (sub_cons rfl (sub_cons rfl (sub_cons rfl sub_nil))))) ⟨(St.pick X153489 (.keep _ (.keep _ (.none _ (.skip _ (.keep _ (.nil _))))))), O153478⟩
        · refine dexit ?_
          refine eseq ?_
          refine eloop ?_
          refine xblock ?_
          refine nseq ?_
          refine dseq ?_
          refine dreg ?_
          refine lpure (v := .slice a152564 n152564 c152564) rfl (p_move rfl) rfl rfl ?_
          refine lpure (v := .int .i64 (s153477.1.length : Int)) rfl (p_len rfl rfl rfl un_33 rfl) (OSl.len O153478) rfl ?_
          refine lpure (v := .pointer (some ⟨b151135, 2, none⟩)) rfl (p_fa fo_29_2 rfl) rfl rfl ?_
          refine lread (v := .slice a151133 n151133 c151133) rfl (q_load wd_27 rfl) (St.ld X153489 (j := 1) rfl rfl) rfl ?_
          refine lpure (v := .int .i64 (e151125.Links.length : Int)) rfl (p_len rfl rfl rfl un_27 rfl) (RSl.lenC (H151645.mono (g152566.trans g153457))) rfl ?_
          refine lpure (v := .int .i64 (w64 (2 * (e151125.Links.length : Int)))) rfl (p_mul rfl) rfl rfl ?_
          refine lpure (v := .bool (decide ((s153477.1.length : Int) = (w64 (2 * (e151125.Links.length : Int)))))) rfl (p_eq rfl) rfl rfl ?_
          refine lpure (v := .bool (decide ((s153477.1.length : Int) = (w64 (2 * (e151125.Links.length : Int)))))) rfl (p_assign rfl) rfl rfl ?_
          refine lend ?_
          refine nseq ?_
          refine dret ?_
          exact kcut_r (res_1 resT) X153489 rfl rfl
end Go.AM
