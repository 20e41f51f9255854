/- Printed: functions of the given program as functions over plain data, and that the machine does what they say; no claim of its own; no condition. -/
import Derived.Test.YtjemelnmlbcmeaaGfOk1
set_option maxRecDepth 100000
set_option maxHeartbeats 4000000
set_option linter.unusedVariables false
set_option linter.unusedSimpArgs false
namespace Go.AM
open Go Go.Proofs

/-! slices.Equal[[]bool,bool] -/
theorem f18_ok {n : Nat} {φ : Fz} {lo : Nat} {h : Heap} {own : OwnL} (X : St φ lo h own) (p8684 : (List Bool)) (p8686 : (List Bool)) {a8685 : Option Addr} {n8685 c8685 : Nat} {a8687 : Option Addr} {n8687 c8687 : Nat} (H8685 : RSl eBool φ (.slice a8685 n8685 c8685) p8684) (H8687 : RSl eBool φ (.slice a8687 n8687 c8687) p8686) : Sim ((recN Try.prog LL cutF (n + 1)).call 18 #[(.slice a8685 n8685 c8685), (.slice a8687 n8687 c8687)] h) (m_slices_Equal_bool_bool p8684 p8686) (fun (d : Bool) p => p = (.bool d, h)) := by
  refine fcut Try.func18 rfl rfl rfl rfl X ?_
  intro h0 X0
  refine dseq ?_
  refine dreg ?_
  refine lpure (v := .bool false) rfl (p_assign rfl) rfl rfl ?_
  refine lend ?_
  refine nseq ?_
  refine dseq ?_
  refine dseq ?_
  refine dreg ?_
  refine lpure (v := .slice a8685 n8685 c8685) rfl (p_move rfl) rfl rfl ?_
  refine lpure (v := .int .i64 (p8684.length : Int)) rfl (p_len rfl rfl rfl un_22 rfl) (RSl.lenC H8685) rfl ?_
  refine lpure (v := .slice a8687 n8687 c8687) rfl (p_move rfl) rfl rfl ?_
  refine lpure (v := .int .i64 (p8686.length : Int)) rfl (p_len rfl rfl rfl un_22 rfl) (RSl.lenC H8687) rfl ?_
  refine lpure (v := .bool (decide ((p8684.length : Int) ≠ (p8686.length : Int)))) rfl (p_ne rfl) rfl rfl ?_
  refine lend ?_
  refine nseq ?_
  refine dcond rfl rfl (fun k8688 => ?_) (fun k8688 => ?_)
  · refine dseq ?_
    refine dreg ?_
    refine lpure (v := .bool false) rfl (p_assign rfl) rfl rfl ?_
    refine lend ?_
    refine nseq ?_
    refine dret ?_
    refine rseq ?_
    exact kcut_r (res_1 resT) X0 rfl rfl
  · refine dskip ?_
    refine nseq ?_
    refine dseq ?_
    refine dseq ?_
    refine dreg ?_
    refine lpure (v := .slice a8685 n8685 c8685) rfl (p_move rfl) rfl rfl ?_
    refine lpure (v := .int .i64 (p8684.length : Int)) rfl (p_len rfl rfl rfl un_22 rfl) (RSl.lenC H8685) rfl ?_
    refine lpure (v := .int .i64 0) rfl (p_move rfl) rfl rfl ?_
    refine lend ?_
    refine nseq ?_
    refine dblock ?_
    refine dloopM (τ := Int) (σ := Unit) (fun s8711 (_ : Unit) => [(0, .slice a8685 n8685 c8685), (1, .slice a8687 n8687 c8687), (12, .int .i64 (p8684.length : Int)), (13, .int .i64 s8711)]) (fun s8711 (_ : Unit) hh => St φ h.n hh ([])) 0 () (sub_cons rfl (sub_cons rfl (sub_cons rfl (sub_cons rfl sub_nil)))) X0 ?_
    rintro n8724 ih8723 s8711 _ t0 h8726 X8725
    refine dseq ?_
    refine dreg ?_
    refine lpure (v := .bool (decide (s8711 < (p8684.length : Int)))) rfl (p_lt rfl) rfl rfl ?_
    refine lend ?_
    refine nseq ?_
    refine dseq ?_
    refine dcond rfl rfl (fun k8727 => ?_) (fun k8727 => ?_)
    · refine dskip ?_
      refine nseq ?_
      refine dseq ?_
      refine dblock ?_
      refine dseq ?_
      refine dreg ?_
      refine lpure (v := .int .i64 s8711) rfl (p_move rfl) rfl rfl ?_
      refine lpure (v := .int .i64 s8711) rfl (p_assign rfl) rfl rfl ?_
      refine lend ?_
      refine nseq ?_
      refine dseq ?_
      refine ddraw 0 0 0 (by kernel_rfl) ?_
      refine spure (v := .slice a8685 n8685 c8685) rfl (p_move rfl) (lo_t (lo_sl X8725 H8685) rfl) rfl rfl ?_
      refine spure (v := .int .i64 s8711) rfl (p_move rfl) (lo_t rfl rfl) rfl rfl ?_
      refine Sim.bindM fun e8728 he8729 => ?_
      obtain ⟨p8730, cs8730, hp8730, hF8730, hR8730⟩ := RSl.ia H8685 he8729 (kd := .i64) (n := 1) rfl
      have hR8730 : _ = [(.bool e8728 : Value)] := hR8730
      subst hR8730
      refine spure (v := p8730) rfl (p_ia rs_22 rfl) (lo_t (lo_sl X8725 H8685) (lo_t rfl rfl)) hp8730 rfl ?_
      refine sload (v := .bool e8728) rfl rfl (q_load wd_4 rfl) (FP.ld X8725 hF8730) (same_self 20 rfl) rfl ?_
      refine spure (v := .slice a8687 n8687 c8687) rfl (p_move rfl) (lo_t (lo_sl X8725 H8687) rfl) rfl rfl ?_
      refine spure (v := .int .i64 s8711) rfl (p_move rfl) (lo_t rfl rfl) rfl rfl ?_
      refine Sim.bindM fun e8731 he8732 => ?_
      obtain ⟨p8733, cs8733, hp8733, hF8733, hR8733⟩ := RSl.ia H8687 he8732 (kd := .i64) (n := 1) rfl
      have hR8733 : _ = [(.bool e8731 : Value)] := hR8733
      subst hR8733
      refine spure (v := p8733) rfl (p_ia rs_22 rfl) (lo_t (lo_sl X8725 H8687) (lo_t rfl rfl)) hp8733 rfl ?_
      refine sload (v := .bool e8731) rfl rfl (q_load wd_4 rfl) (FP.ld X8725 hF8733) (same_self 20 rfl) rfl ?_
      refine spure (v := .bool (!(e8728 == e8731))) rfl (p_bin rfl) (lo_t rfl (lo_t rfl rfl)) (bin_neB un_4) rfl ?_
      refine send ?_
      refine nseq ?_
      refine dcond rfl rfl (fun k8734 => ?_) (fun k8734 => ?_)
      · refine dseq ?_
        refine dreg ?_
        refine lpure (v := .bool false) rfl (p_assign rfl) rfl rfl ?_
        refine lend ?_
        refine nseq ?_
        refine dret ?_
        refine rblock ?_
        refine rseq ?_
        refine rloop ?_
        refine rblock ?_
        refine rseq ?_
        exact kcut_r (res_1 resT) X8725 rfl rfl
      · refine dskip ?_
        refine nblock ?_
        refine nseq ?_
        refine dreg ?_
        refine lpure (v := .int .i64 (w64 (s8711 + 1))) rfl (p_add rfl) rfl rfl ?_
        refine lpure (v := .int .i64 (w64 (s8711 + 1))) rfl (p_move rfl) rfl rfl ?_
        refine lend ?_
        exact kbackM ih8723 (w64 (s8711 + 1)) () (sub_cons rfl (sub_cons rfl (sub_cons rfl (sub_cons rfl sub_nil)))) X8725
    · refine dexit ?_
      refine eseq ?_
      refine eloop ?_
      refine xblock ?_
      refine nseq ?_
      refine dseq ?_
      refine dreg ?_
      refine lpure (v := .bool true) rfl (p_assign rfl) rfl rfl ?_
      refine lend ?_
      refine nseq ?_
      refine dret ?_
      exact kcut_r (res_1 resT) X8725 rfl rfl
/-! isochron/isochronlaw16.wakes -/
theorem f9_ok {n : Nat} {φ : Fz} {lo : Nat} {h : Heap} {own : OwnL} (X : St φ lo h own) : Sim ((recN Try.prog LL cutF (n + 9)).call 9 #[] h) (m_isochronlaw16_wakes) (fun (d : Bool) p => p = (.bool d, h)) := by
  refine fcut Try.func9 rfl rfl rfl rfl X ?_
  intro h0 X0
  refine dseq ?_
  refine dreg ?_
  refine lpure (v := .bool false) rfl (p_assign rfl) rfl rfl ?_
  refine lend ?_
  refine nseq ?_
  refine dseq ?_
  refine dreg ?_
  refine lcall rfl rfl ca_38 rfl rfl (f38_ok X0) rfl ?_
  rintro e34 _ h36 ⟨φ38, a41, n41, c41, ob41, blk41, a43, n43, c43, ob43, blk43, g39, X40, rfl, O41, O43⟩
  refine lalloc rfl tz_25 rfl rfl rfl X40 (fun b45 h47 X48 => ?_)
  refine lstore rfl ts_25 rfl rfl (j := 0) rfl rfl rfl rfl rfl rfl X48 (fun h49 X50 => ?_)
  refine lend ?_
  refine nseq ?_
  refine dseq ?_
  refine dreg ?_
  refine lread (v := .agg #[.int .i64 e34.Nodes, .slice a41 n41 c41, .slice a43 n43 c43]) rfl (q_load wd_25 rfl) (St.ld X50 (j := 0) rfl rfl) rfl ?_
  obtain ⟨φ6847, g6848, X6849, H6850⟩ := OSl.freeze X50 (j := 1) rfl O41
  obtain ⟨φ6851, g6852, X6853, H6854⟩ := OSl.freeze X6849 (j := 2) rfl (O43.mono g6848)
  refine lcall rfl rfl ca_23 rfl rfl (f23_ok X6853 e34 0 (H6850.mono g6852) H6854) rfl (fun e6855 v6856 h6857 hq6858 => ?_)
  cases hq6858
  refine lpure (v := .tuple #[.int .i64 e6855.1, .int .i64 e6855.2]) rfl (p_move rfl) rfl rfl ?_
  refine lpure (v := .int .i64 e6855.1) rfl (p_extract rfl) rfl rfl ?_
  refine lpure (v := .int .i64 e6855.2) rfl (p_extract rfl) rfl rfl ?_
  refine lpure (v := .int .i64 e6855.1) rfl (p_assign rfl) rfl rfl ?_
  refine lpure (v := .int .i64 e6855.2) rfl (p_assign rfl) rfl rfl ?_
  refine lend ?_
  refine nseq ?_
  refine dseq ?_
  refine dreg ?_
  refine lread (v := .agg #[.int .i64 e34.Nodes, .slice a41 n41 c41, .slice a43 n43 c43]) rfl (q_load wd_25 rfl) (St.ld X50 (j := 0) rfl rfl) rfl ?_
  obtain ⟨φ6891, g6892, X6893, H6894⟩ := OSl.freeze X50 (j := 1) rfl O41
  obtain ⟨φ6895, g6896, X6897, H6898⟩ := OSl.freeze X6893 (j := 2) rfl (O43.mono g6892)
  refine lcall rfl rfl ca_24 rfl rfl (f24_ok X6897 e34 3 (H6894.mono g6896) H6898) rfl (fun e6899 v6900 h6901 hq6902 => ?_)
  cases hq6902
  refine lpure (v := .tuple #[.int .i64 e6899.1, .int .i64 e6899.2]) rfl (p_move rfl) rfl rfl ?_
  refine lpure (v := .int .i64 e6899.1) rfl (p_extract rfl) rfl rfl ?_
  refine lpure (v := .int .i64 e6899.2) rfl (p_extract rfl) rfl rfl ?_
  refine lpure (v := .int .i64 e6899.1) rfl (p_assign rfl) rfl rfl ?_
  refine lpure (v := .int .i64 e6899.2) rfl (p_assign rfl) rfl rfl ?_
  refine lend ?_
  refine nseq ?_
  refine dseq ?_
  refine dreg ?_
  refine lread (v := .agg #[.int .i64 e34.Nodes, .slice a41 n41 c41, .slice a43 n43 c43]) rfl (q_load wd_25 rfl) (St.ld X50 (j := 0) rfl rfl) rfl ?_
  obtain ⟨φ6940, g6941, X6942, H6943⟩ := OSl.freeze X50 (j := 1) rfl O41
  obtain ⟨φ6944, g6945, X6946, H6947⟩ := OSl.freeze X6942 (j := 2) rfl (O43.mono g6941)
  refine lcall rfl rfl ca_25 rfl rfl (f25_ok X6946 e34 5 (H6943.mono g6945) H6947) rfl (fun e6948 v6949 h6950 hq6951 => ?_)
  cases hq6951
  refine lpure (v := .tuple #[.int .i64 e6948.1, .int .i64 e6948.2]) rfl (p_move rfl) rfl rfl ?_
  refine lpure (v := .int .i64 e6948.1) rfl (p_extract rfl) rfl rfl ?_
  refine lpure (v := .int .i64 e6948.2) rfl (p_extract rfl) rfl rfl ?_
  refine lpure (v := .int .i64 e6948.1) rfl (p_assign rfl) rfl rfl ?_
  refine lpure (v := .int .i64 e6948.2) rfl (p_assign rfl) rfl rfl ?_
  refine lend ?_
  refine nseq ?_
  refine dseq ?_
  refine dreg ?_
  refine lread (v := .agg #[.int .i64 e34.Nodes, .slice a41 n41 c41, .slice a43 n43 c43]) rfl (q_load wd_25 rfl) (St.ld X50 (j := 0) rfl rfl) rfl ?_
  obtain ⟨φ6989, g6990, X6991, H6992⟩ := OSl.freeze X50 (j := 1) rfl O41
  obtain ⟨φ6993, g6994, X6995, H6996⟩ := OSl.freeze X6991 (j := 2) rfl (O43.mono g6990)
  refine lcall rfl rfl ca_26 rfl rfl (f26_ok X6995 e34 4 (H6992.mono g6994) H6996) rfl (fun e6997 v6998 h6999 hq7000 => ?_)
  cases hq7000
  refine lpure (v := .tuple #[.int .i64 e6997.1, .int .i64 e6997.2]) rfl (p_move rfl) rfl rfl ?_
  refine lpure (v := .int .i64 e6997.1) rfl (p_extract rfl) rfl rfl ?_
  refine lpure (v := .int .i64 e6997.2) rfl (p_extract rfl) rfl rfl ?_
  refine lpure (v := .int .i64 e6997.1) rfl (p_assign rfl) rfl rfl ?_
  refine lpure (v := .int .i64 e6997.2) rfl (p_assign rfl) rfl rfl ?_
  refine lend ?_
  refine nseq ?_
  refine dseq ?_
  refine dreg ?_
  refine lread (v := .agg #[.int .i64 e34.Nodes, .slice a41 n41 c41, .slice a43 n43 c43]) rfl (q_load wd_25 rfl) (St.ld X50 (j := 0) rfl rfl) rfl ?_
  obtain ⟨φ7733, g7734, X7735, H7736⟩ := OSl.freeze X50 (j := 1) rfl O41
  obtain ⟨φ7737, g7738, X7739, H7740⟩ := OSl.freeze X7735 (j := 2) rfl (O43.mono g7734)
  refine lcall rfl rfl ca_11 rfl rfl (f11_ok X7739 e34 1 (H7736.mono g7738) H7740) rfl ?_
  rintro e7741 _ h7743 ⟨φ7745, a7748, n7748, c7748, ob7748, blk7748, g7746, X7747, rfl, O7748⟩
  refine lpure (v := .tuple #[.slice a7748 n7748 c7748, .int .i64 e7741.2]) rfl (p_move rfl) rfl rfl ?_
  refine lpure (v := .slice a7748 n7748 c7748) rfl (p_extract rfl) rfl rfl ?_
  refine lpure (v := .int .i64 e7741.2) rfl (p_extract rfl) rfl rfl ?_
  refine lpure (v := .slice a7748 n7748 c7748) rfl (p_assign rfl) rfl rfl ?_
  refine lpure (v := .int .i64 e7741.2) rfl (p_assign rfl) rfl rfl ?_
  refine lend ?_
  refine nseq ?_
  refine dseq ?_
  refine dreg ?_
  refine lread (v := .agg #[.int .i64 e34.Nodes, .slice a41 n41 c41, .slice a43 n43 c43]) rfl (q_load wd_25 rfl) (St.ld X7747 (j := 1) rfl rfl) rfl ?_
  refine lcall rfl rfl ca_12 rfl rfl (f12_ok X7747 e34 2 1 (H7736.mono (g7738.trans g7746)) (H7740.mono g7746)) rfl (fun e8219 v8220 h8221 hq8222 => ?_)
  cases hq8222
  refine lpure (v := .tuple #[.int .i64 e8219.1, .int .i64 e8219.2]) rfl (p_move rfl) rfl rfl ?_
  refine lpure (v := .int .i64 e8219.1) rfl (p_extract rfl) rfl rfl ?_
  refine lpure (v := .int .i64 e8219.2) rfl (p_extract rfl) rfl rfl ?_
  refine lpure (v := .int .i64 e8219.1) rfl (p_assign rfl) rfl rfl ?_
  refine lpure (v := .int .i64 e8219.2) rfl (p_assign rfl) rfl rfl ?_
  refine lend ?_
  refine nseq ?_
  refine dseq ?_
  refine dreg ?_
  refine lread (v := .agg #[.int .i64 e34.Nodes, .slice a41 n41 c41, .slice a43 n43 c43]) rfl (q_load wd_25 rfl) (St.ld X7747 (j := 1) rfl rfl) rfl ?_
  obtain ⟨h8223, b8223, hv8223, X8223, O8223⟩ := OSl.lay (E := (eInt .i64)) (φ := φ7745) (cs := [.int .i64 1]) (l := [1]) (len := 1) (parts := [(0, .int .i64 1)]) un_28 ts_3 rfl rfl rfl tz_3 rfl rfl (show RowD (eInt .i64) φ7745 [.int .i64 1] [1] from ⟨[.int .i64 1], _, rfl, rfl, rfl⟩) rfl rfl X7747
  refine lheap rfl (h_buildSlice rfl) hv8223 rfl ?_
  obtain ⟨φ8549, g8550, X8551, H8552⟩ := OSl.freeze X8223 (j := 0) rfl O8223
  refine lcall rfl rfl ca_17 rfl rfl (f17_ok X8551 e34 0 ([1]) (H7736.mono ((g7738.trans g7746).trans g8550)) (H7740.mono (g7746.trans g8550)) H8552) rfl ?_
  rintro e8553 _ h8555 ⟨φ8557, a8560, n8560, c8560, ob8560, blk8560, g8558, X8559, rfl, O8560⟩
  refine lpure (v := .tuple #[.slice a8560 n8560 c8560, .int .i64 e8553.2]) rfl (p_move rfl) rfl rfl ?_
  refine lpure (v := .slice a8560 n8560 c8560) rfl (p_extract rfl) rfl rfl ?_
  refine lpure (v := .int .i64 e8553.2) rfl (p_extract rfl) rfl rfl ?_
  refine lpure (v := .slice a8560 n8560 c8560) rfl (p_assign rfl) rfl rfl ?_
  refine lpure (v := .int .i64 e8553.2) rfl (p_assign rfl) rfl rfl ?_
  refine lend ?_
  refine nseq ?_
  refine dseq ?_
  refine dreg ?_
  refine lread (v := .agg #[.int .i64 e34.Nodes, .slice a41 n41 c41, .slice a43 n43 c43]) rfl (q_load wd_25 rfl) (St.ld X8559 (j := 3) rfl rfl) rfl ?_
  refine lcall rfl rfl ca_23 rfl rfl (f23_ok X8559 e34 6 (H7736.mono (((g7738.trans g7746).trans g8550).trans g8558)) (H7740.mono ((g7746.trans g8550).trans g8558))) rfl (fun e8562 v8563 h8564 hq8565 => ?_)
  cases hq8565
  refine lpure (v := .tuple #[.int .i64 e8562.1, .int .i64 e8562.2]) rfl (p_move rfl) rfl rfl ?_
  refine lpure (v := .int .i64 e8562.1) rfl (p_extract rfl) rfl rfl ?_
  refine lpure (v := .int .i64 e8562.2) rfl (p_extract rfl) rfl rfl ?_
  refine lpure (v := .int .i64 e8562.1) rfl (p_assign rfl) rfl rfl ?_
  refine lpure (v := .int .i64 e8562.2) rfl (p_assign rfl) rfl rfl ?_
  refine lend ?_
  refine nseq ?_
  refine dseq ?_
  refine dreg ?_
  refine lpure (v := .int .i64 e6855.2) rfl (p_move rfl) rfl rfl ?_
  refine lpure (v := .bool (decide (e6855.2 = 0))) rfl (p_eq rfl) rfl rfl ?_
  refine lpure (v := .bool (decide (e6855.2 = 0))) rfl (p_move rfl) rfl rfl ?_
  refine lsh (τ := Bool) (σ := Unit) (fun s8567 (_ : Unit) => [(2, .int .i64 e6855.1), (4, .int .i64 e6899.1), (6, .int .i64 e6948.1), (7, .int .i64 e6948.2), (8, .int .i64 e6997.1), (9, .int .i64 e6997.2), (10, .slice a7748 n7748 c7748), (11, .int .i64 e7741.2), (12, .int .i64 e8219.1), (13, .int .i64 e8219.2), (14, .slice a8560 n8560 c8560), (15, .int .i64 e8553.2), (17, .int .i64 e8562.2), (66, .bool s8567)]) (fun s8567 (_ : Unit) hh => St φ8557 h.n hh ([(ob8560, blk8560), (none, .dead), (ob7748, blk7748), (some b45, .cells [.int .i64 e34.Nodes, .slice a41 n41 c41, .slice a43 n43 c43] 25 .exact), (none, .dead), (none, .dead)])) 3 ?_ ?_
  · rintro s8567 _ t0 h8569 X8568
    refine lpure (v := .bool s8567) rfl (p_move rfl) rfl rfl ?_
    refine lsh (τ := Bool) (σ := Unit) (fun s8571 (_ : Unit) => [(2, .int .i64 e6855.1), (4, .int .i64 e6899.1), (6, .int .i64 e6948.1), (8, .int .i64 e6997.1), (9, .int .i64 e6997.2), (10, .slice a7748 n7748 c7748), (11, .int .i64 e7741.2), (12, .int .i64 e8219.1), (13, .int .i64 e8219.2), (14, .slice a8560 n8560 c8560), (15, .int .i64 e8553.2), (17, .int .i64 e8562.2), (70, .bool s8571)]) (fun s8571 (_ : Unit) hh => St φ8557 h.n hh ([(ob8560, blk8560), (none, .dead), (ob7748, blk7748), (some b45, .cells [.int .i64 e34.Nodes, .slice a41 n41 c41, .slice a43 n43 c43] 25 .exact), (none, .dead), (none, .dead)])) 3 ?_ ?_
    · rintro s8571 _ t0 h8573 X8572
      refine lpure (v := .bool s8571) rfl (p_move rfl) rfl rfl ?_
      refine lsh (τ := Bool) (σ := Unit) (fun s8575 (_ : Unit) => [(2, .int .i64 e6855.1), (4, .int .i64 e6899.1), (6, .int .i64 e6948.1), (8, .int .i64 e6997.1), (10, .slice a7748 n7748 c7748), (11, .int .i64 e7741.2), (12, .int .i64 e8219.1), (13, .int .i64 e8219.2), (14, .slice a8560 n8560 c8560), (15, .int .i64 e8553.2), (17, .int .i64 e8562.2), (74, .bool s8575)]) (fun s8575 (_ : Unit) hh => St φ8557 h.n hh ([(ob8560, blk8560), (none, .dead), (ob7748, blk7748), (some b45, .cells [.int .i64 e34.Nodes, .slice a41 n41 c41, .slice a43 n43 c43] 25 .exact), (none, .dead), (none, .dead)])) 3 ?_ ?_
      · rintro s8575 _ t0 h8577 X8576
        refine lpure (v := .bool s8575) rfl (p_move rfl) rfl rfl ?_
        refine lsh (τ := Bool) (σ := Unit) (fun s8579 (_ : Unit) => [(2, .int .i64 e6855.1), (4, .int .i64 e6899.1), (6, .int .i64 e6948.1), (8, .int .i64 e6997.1), (10, .slice a7748 n7748 c7748), (12, .int .i64 e8219.1), (13, .int .i64 e8219.2), (14, .slice a8560 n8560 c8560), (15, .int .i64 e8553.2), (17, .int .i64 e8562.2), (78, .bool s8579)]) (fun s8579 (_ : Unit) hh => St φ8557 h.n hh ([(ob8560, blk8560), (none, .dead), (ob7748, blk7748), (some b45, .cells [.int .i64 e34.Nodes, .slice a41 n41 c41, .slice a43 n43 c43] 25 .exact), (none, .dead), (none, .dead)])) 3 ?_ ?_
        · rintro s8579 _ t0 h8581 X8580
          refine lpure (v := .bool s8579) rfl (p_move rfl) rfl rfl ?_
          refine lsh (τ := Bool) (σ := Unit) (fun s8583 (_ : Unit) => [(2, .int .i64 e6855.1), (4, .int .i64 e6899.1), (6, .int .i64 e6948.1), (8, .int .i64 e6997.1), (10, .slice a7748 n7748 c7748), (12, .int .i64 e8219.1), (14, .slice a8560 n8560 c8560), (15, .int .i64 e8553.2), (17, .int .i64 e8562.2), (82, .bool s8583)]) (fun s8583 (_ : Unit) hh => St φ8557 h.n hh ([(ob8560, blk8560), (none, .dead), (ob7748, blk7748), (some b45, .cells [.int .i64 e34.Nodes, .slice a41 n41 c41, .slice a43 n43 c43] 25 .exact), (none, .dead), (none, .dead)])) 3 ?_ ?_
          · rintro s8583 _ t0 h8585 X8584
            refine lpure (v := .bool s8583) rfl (p_move rfl) rfl rfl ?_
            refine lsh (τ := Bool) (σ := Unit) (fun s8587 (_ : Unit) => [(2, .int .i64 e6855.1), (4, .int .i64 e6899.1), (6, .int .i64 e6948.1), (8, .int .i64 e6997.1), (10, .slice a7748 n7748 c7748), (12, .int .i64 e8219.1), (14, .slice a8560 n8560 c8560), (17, .int .i64 e8562.2), (86, .bool s8587)]) (fun s8587 (_ : Unit) hh => St φ8557 h.n hh ([(ob8560, blk8560), (none, .dead), (ob7748, blk7748), (some b45, .cells [.int .i64 e34.Nodes, .slice a41 n41 c41, .slice a43 n43 c43] 25 .exact), (none, .dead), (none, .dead)])) 3 ?_ ?_
            · rintro s8587 _ t0 h8589 X8588
              refine lpure (v := .bool s8587) rfl (p_assign rfl) rfl rfl ?_
              refine lend ?_
              refine nseq ?_
              refine dseq ?_
              refine dreg ?_
              refine lpure (v := .bool s8587) rfl (p_move rfl) rfl rfl ?_
              refine lpure (v := .bool s8587) rfl (p_move rfl) rfl rfl ?_
              refine lsh (τ := Bool) (σ := Unit) (fun s8591 (_ : Unit) => [(4, .int .i64 e6899.1), (6, .int .i64 e6948.1), (8, .int .i64 e6997.1), (10, .slice a7748 n7748 c7748), (12, .int .i64 e8219.1), (14, .slice a8560 n8560 c8560), (17, .int .i64 e8562.2), (91, .bool s8591)]) (fun s8591 (_ : Unit) hh => St φ8557 h.n hh ([(ob8560, blk8560), (none, .dead), (ob7748, blk7748), (some b45, .cells [.int .i64 e34.Nodes, .slice a41 n41 c41, .slice a43 n43 c43] 25 .exact), (none, .dead), (none, .dead)])) 3 ?_ ?_
              · rintro s8591 _ t0 h8593 X8592
                refine lpure (v := .bool s8591) rfl (p_move rfl) rfl rfl ?_
                refine lsh (τ := Bool) (σ := Unit) (fun s8595 (_ : Unit) => [(6, .int .i64 e6948.1), (8, .int .i64 e6997.1), (10, .slice a7748 n7748 c7748), (12, .int .i64 e8219.1), (14, .slice a8560 n8560 c8560), (17, .int .i64 e8562.2), (95, .bool s8595)]) (fun s8595 (_ : Unit) hh => St φ8557 h.n hh ([(ob8560, blk8560), (none, .dead), (ob7748, blk7748), (some b45, .cells [.int .i64 e34.Nodes, .slice a41 n41 c41, .slice a43 n43 c43] 25 .exact), (none, .dead), (none, .dead)])) 3 ?_ ?_
                · rintro s8595 _ t0 h8597 X8596
                  refine lpure (v := .bool s8595) rfl (p_move rfl) rfl rfl ?_
                  refine lsh (τ := Bool) (σ := Unit) (fun s8599 (_ : Unit) => [(8, .int .i64 e6997.1), (10, .slice a7748 n7748 c7748), (12, .int .i64 e8219.1), (14, .slice a8560 n8560 c8560), (17, .int .i64 e8562.2), (99, .bool s8599)]) (fun s8599 (_ : Unit) hh => St φ8557 h.n hh ([(ob8560, blk8560), (none, .dead), (ob7748, blk7748), (some b45, .cells [.int .i64 e34.Nodes, .slice a41 n41 c41, .slice a43 n43 c43] 25 .exact), (none, .dead), (none, .dead)])) 3 ?_ ?_
                  · rintro s8599 _ t0 h8601 X8600
                    refine lpure (v := .bool s8599) rfl (p_move rfl) rfl rfl ?_
                    refine lsh (τ := Bool) (σ := Unit) (fun s8603 (_ : Unit) => [(10, .slice a7748 n7748 c7748), (12, .int .i64 e8219.1), (14, .slice a8560 n8560 c8560), (17, .int .i64 e8562.2), (103, .bool s8603)]) (fun s8603 (_ : Unit) hh => St φ8557 h.n hh ([(ob8560, blk8560), (none, .dead), (ob7748, blk7748), (some b45, .cells [.int .i64 e34.Nodes, .slice a41 n41 c41, .slice a43 n43 c43] 25 .exact), (none, .dead), (none, .dead)])) 3 ?_ ?_
                    · rintro s8603 _ t0 h8605 X8604
                      refine lpure (v := .bool s8603) rfl (p_move rfl) rfl rfl ?_
                      refine ljoinM (τ := Bool) (σ := Unit) (fun s8673 (_ : Unit) => [(12, .int .i64 e8219.1), (14, .slice a8560 n8560 c8560), (17, .int .i64 e8562.2), (108, .bool s8673)]) (fun s8673 (_ : Unit) hh => St φ8557 h.n hh ([(ob8560, blk8560), (none, .dead), (ob7748, blk7748), (some b45, .cells [.int .i64 e34.Nodes, .slice a41 n41 c41, .slice a43 n43 c43] 25 .exact), (none, .dead), (none, .dead)])) 4 ?_ ?_
                      · rintro s8673 _ t0 h8675 X8674
                        refine lpure (v := .bool s8673) rfl (p_move rfl) rfl rfl ?_
                        refine lsh (τ := Bool) (σ := Unit) (fun s8677 (_ : Unit) => [(14, .slice a8560 n8560 c8560), (17, .int .i64 e8562.2), (112, .bool s8677)]) (fun s8677 (_ : Unit) hh => St φ8557 h.n hh ([(ob8560, blk8560), (none, .dead), (ob7748, blk7748), (some b45, .cells [.int .i64 e34.Nodes, .slice a41 n41 c41, .slice a43 n43 c43] 25 .exact), (none, .dead), (none, .dead)])) 3 ?_ ?_
                        · rintro s8677 _ t0 h8679 X8678
                          refine lpure (v := .bool s8677) rfl (p_move rfl) rfl rfl ?_
                          refine ljoinM (τ := Bool) (σ := Unit) (fun s8747 (_ : Unit) => [(17, .int .i64 e8562.2), (117, .bool s8747)]) (fun s8747 (_ : Unit) hh => St φ8557 h.n hh ([(ob8560, blk8560), (none, .dead), (ob7748, blk7748), (some b45, .cells [.int .i64 e34.Nodes, .slice a41 n41 c41, .slice a43 n43 c43] 25 .exact), (none, .dead), (none, .dead)])) 4 ?_ ?_
                          · rintro s8747 _ t0 h8749 X8748
                            refine lpure (v := .bool s8747) rfl (p_move rfl) rfl rfl ?_
                            refine lsh (τ := Bool) (σ := Unit) (fun s8751 (_ : Unit) => [(121, .bool s8751)]) (fun s8751 (_ : Unit) hh => St φ8557 h.n hh ([(ob8560, blk8560), (none, .dead), (ob7748, blk7748), (some b45, .cells [.int .i64 e34.Nodes, .slice a41 n41 c41, .slice a43 n43 c43] 25 .exact), (none, .dead), (none, .dead)])) 3 ?_ ?_
                            · rintro s8751 _ t0 h8753 X8752
                              refine lpure (v := .bool s8751) rfl (p_move rfl) rfl rfl ?_
                              refine ljoinM (τ := Bool) (σ := Unit) (fun s8760 (_ : Unit) => [(126, .bool s8760)]) (fun s8760 (_ : Unit) hh => St φ8557 h.n hh ([(ob8560, blk8560), (none, .dead), (ob7748, blk7748), (some b45, .cells [.int .i64 e34.Nodes, .slice a41 n41 c41, .slice a43 n43 c43] 25 .exact), (none, .dead), (none, .dead)])) 4 ?_ ?_
                              · rintro s8760 _ t0 h8762 X8761
                                refine lpure (v := .bool s8760) rfl (p_assign rfl) rfl rfl ?_
                                refine lend ?_
                                refine nseq ?_
                                refine dret ?_
                                exact kcut_r (res_1 resT) X8761 rfl rfl
                              · intro j8763 J8764
                                refine lif (i := 122) (show _ = Value.bool s8751 from rfl) (fun k8765 => ?_) (fun k8765 => ?_)
                                · refine lpure (v := .agg #[.int .i64 0, .slice none 0 0, .slice none 0 0]) rfl (p_build rfl) (build_st' tz_25 pl_25 rfl) rfl ?_
                                  refine lcall rfl rfl ca_34 rfl rfl (f34_ok X8752 ((ApiTopo.mk 0 [] [])) (.inl ⟨rfl, rfl⟩) (.inl ⟨rfl, rfl⟩)) rfl (fun e8766 v8767 h8768 hq8769 => ?_)
                                  cases hq8769
                                  refine lpure (v := .bool (decide (e8766 = 260))) rfl (p_eq rfl) rfl rfl ?_
                                  refine lpure (v := .bool (decide (e8766 = 260))) rfl (p_pick rfl) rfl rfl ?_
                                  exact ljmpM J8764 (decide (e8766 = 260)) () (sub_cons rfl sub_nil) (St.pick X8752 (.keep _ (.none _ (.skip _ (.keep _ (.keep _ (.none _ (.none _ (.nil _)))))))))
                                · refine lskip rfl rfl ?_
                                  refine lskip rfl rfl ?_
                                  refine lskip rfl rfl ?_
                                  refine lpure (v := .bool false) rfl (p_pick rfl) rfl rfl ?_
                                  exact ljmpM J8764 false () (sub_cons rfl sub_nil) (St.pick X8752 (.keep _ (.none _ (.skip _ (.keep _ (.keep _ (.none _ (.none _ (.nil _)))))))))
                            · intro j8770 J8771
                              refine lcase (i := 118) (show _ = Value.bool s8747 from rfl) (fun k8772 => ?_) (fun k8772 => ?_)
                              · refine lpure (v := .int .i64 e8562.2) rfl (p_move rfl) rfl rfl ?_
                                refine lpure (v := .bool (decide (e8562.2 = 2))) rfl (p_eq rfl) rfl rfl ?_
                                refine lpure (v := .bool (decide (e8562.2 = 2))) rfl (p_pick rfl) rfl rfl ?_
                                refine Sim.of_eq (congrArg j8770 (show (s8747 && (decide (e8562.2 = 2))) = (decide (e8562.2 = 2)) from by rw [k8772] <;> rfl)) ?_
                                exact ljmpM J8771 (decide (e8562.2 = 2)) () (sub_cons rfl sub_nil) (St.pick X8748 (.keep _ (.none _ (.skip _ (.keep _ (.keep _ (.none _ (.none _ (.nil _)))))))))
                              · refine lskip rfl rfl ?_
                                refine lskip rfl rfl ?_
                                refine lpure (v := .bool false) rfl (p_pick rfl) rfl rfl ?_
                                refine Sim.of_eq (congrArg j8770 (show (s8747 && (decide (e8562.2 = 2))) = false from by rw [k8772] <;> rfl)) ?_
                                exact ljmpM J8771 false () (sub_cons rfl sub_nil) (St.pick X8748 (.keep _ (.none _ (.skip _ (.keep _ (.keep _ (.none _ (.none _ (.nil _)))))))))
                          · intro j8773 J8774
                            refine lif (i := 113) (show _ = Value.bool s8677 from rfl) (fun k8775 => ?_) (fun k8775 => ?_)
                            · refine lpure (v := .slice a8560 n8560 c8560) rfl (p_move rfl) rfl rfl ?_
                              obtain ⟨h8776, b8776, hv8776, X8776, O8776⟩ := OSl.lay (E := eBool) (φ := φ8557) (cs := [.bool true, .bool true, .bool false, .bool false]) (l := [true, true, false, false]) (len := 4) (parts := [(0, .bool true), (1, .bool true), (2, .bool false), (3, .bool false)]) un_22 ts_4 rfl rfl rfl tz_4 rfl rfl (show RowD eBool φ8557 [.bool true, .bool true, .bool false, .bool false] [true, true, false, false] from ⟨[.bool true], _, rfl, rfl, ⟨[.bool true], _, rfl, rfl, ⟨[.bool false], _, rfl, rfl, ⟨[.bool false], _, rfl, rfl, rfl⟩⟩⟩⟩) rfl rfl X8678
                              refine lheap rfl (h_buildSlice rfl) hv8776 rfl ?_
                              obtain ⟨φ8778, g8779, X8780, H8781⟩ := OSl.freeze X8776 (j := 1) rfl O8560
                              obtain ⟨φ8782, g8783, X8784, H8785⟩ := OSl.freeze X8780 (j := 0) rfl (O8776.mono g8779)
                              refine lcall rfl rfl ca_18 rfl rfl (f18_ok X8784 (e8553.1) ([true, true, false, false]) (H8781.mono g8783) H8785) rfl (fun e8786 v8787 h8788 hq8789 => ?_)
                              cases hq8789
                              refine lpure (v := .bool e8786) rfl (p_pick rfl) rfl rfl ?_
                              exact ljmpM J8774 e8786 () (sub_cons rfl (sub_cons rfl sub_nil)) (St.pick X8776 (.skip _ (.keep _ (.none _ (.skip _ (.keep _ (.keep _ (.none _ (.none _ (.nil _))))))))))
                            · refine lskip rfl rfl ?_
                              refine lskip rfl rfl ?_
                              refine lskip rfl rfl ?_
                              refine lpure (v := .bool false) rfl (p_pick rfl) rfl rfl ?_
                              exact ljmpM J8774 false () (sub_cons rfl (sub_cons rfl sub_nil)) (St.pick X8678 (.keep _ (.none _ (.skip _ (.keep _ (.keep _ (.none _ (.none _ (.nil _)))))))))
                        · intro j8790 J8791
                          refine lcase (i := 109) (show _ = Value.bool s8673 from rfl) (fun k8792 => ?_) (fun k8792 => ?_)
                          · refine lpure (v := .int .i64 e8219.1) rfl (p_move rfl) rfl rfl ?_
                            refine lpure (v := .bool (decide (e8219.1 = 3))) rfl (p_eq rfl) rfl rfl ?_
                            refine lpure (v := .bool (decide (e8219.1 = 3))) rfl (p_pick rfl) rfl rfl ?_
                            refine Sim.of_eq (congrArg j8790 (show (s8673 && (decide (e8219.1 = 3))) = (decide (e8219.1 = 3)) from by rw [k8792] <;> rfl)) ?_
                            exact ljmpM J8791 (decide (e8219.1 = 3)) () (sub_cons rfl (sub_cons rfl (sub_cons rfl sub_nil))) (St.pick X8674 (.keep _ (.none _ (.skip _ (.keep _ (.keep _ (.none _ (.none _ (.nil _)))))))))
                          · refine lskip rfl rfl ?_
                            refine lskip rfl rfl ?_
                            refine lpure (v := .bool false) rfl (p_pick rfl) rfl rfl ?_
                            refine Sim.of_eq (congrArg j8790 (show (s8673 && (decide (e8219.1 = 3))) = false from by rw [k8792] <;> rfl)) ?_
                            exact ljmpM J8791 false () (sub_cons rfl (sub_cons rfl (sub_cons rfl sub_nil))) (St.pick X8674 (.keep _ (.none _ (.skip _ (.keep _ (.keep _ (.none _ (.none _ (.nil _)))))))))
                      · intro j8793 J8794
                        refine lif (i := 104) (show _ = Value.bool s8603 from rfl) (fun k8795 => ?_) (fun k8795 => ?_)
                        · refine lpure (v := .slice a7748 n7748 c7748) rfl (p_move rfl) rfl rfl ?_
                          obtain ⟨h8796, b8796, hv8796, X8796, O8796⟩ := OSl.lay (E := (eInt .i64)) (φ := φ8557) (cs := [.int .i64 1, .int .i64 2]) (l := [1, 2]) (len := 2) (parts := [(0, .int .i64 1), (1, .int .i64 2)]) un_28 ts_3 rfl rfl rfl tz_3 rfl rfl (show RowD (eInt .i64) φ8557 [.int .i64 1, .int .i64 2] [1, 2] from ⟨[.int .i64 1], _, rfl, rfl, ⟨[.int .i64 2], _, rfl, rfl, rfl⟩⟩) rfl rfl X8604
                          refine lheap rfl (h_buildSlice rfl) hv8796 rfl ?_
                          obtain ⟨φ8798, g8799, X8800, H8801⟩ := OSl.freeze X8796 (j := 3) rfl (O7748.mono (g8550.trans g8558))
                          obtain ⟨φ8802, g8803, X8804, H8805⟩ := OSl.freeze X8800 (j := 0) rfl (O8796.mono g8799)
                          refine lcall rfl rfl ca_14 rfl rfl (f14_ok X8804 (e7741.1) ([1, 2]) (H8801.mono g8803) H8805) rfl (fun e8806 v8807 h8808 hq8809 => ?_)
                          cases hq8809
                          refine lpure (v := .bool e8806) rfl (p_pick rfl) rfl rfl ?_
                          exact ljmpM J8794 e8806 () (sub_cons rfl (sub_cons rfl (sub_cons rfl (sub_cons rfl sub_nil)))) (St.pick X8796 (.skip _ (.keep _ (.none _ (.skip _ (.keep _ (.keep _ (.none _ (.none _ (.nil _))))))))))
                        · refine lskip rfl rfl ?_
                          refine lskip rfl rfl ?_
                          refine lskip rfl rfl ?_
                          refine lpure (v := .bool false) rfl (p_pick rfl) rfl rfl ?_
                          exact ljmpM J8794 false () (sub_cons rfl (sub_cons rfl (sub_cons rfl (sub_cons rfl sub_nil)))) (St.pick X8604 (.keep _ (.none _ (.skip _ (.keep _ (.keep _ (.none _ (.none _ (.nil _)))))))))
                    · intro j8810 J8811
                      refine lcase (i := 100) (show _ = Value.bool s8599 from rfl) (fun k8812 => ?_) (fun k8812 => ?_)
                      · refine lpure (v := .int .i64 e6997.1) rfl (p_move rfl) rfl rfl ?_
                        refine lpure (v := .bool (decide (e6997.1 = 7))) rfl (p_eq rfl) rfl rfl ?_
                        refine lpure (v := .bool (decide (e6997.1 = 7))) rfl (p_pick rfl) rfl rfl ?_
                        refine Sim.of_eq (congrArg j8810 (show (s8599 && (decide (e6997.1 = 7))) = (decide (e6997.1 = 7)) from by rw [k8812] <;> rfl)) ?_
                        exact ljmpM J8811 (decide (e6997.1 = 7)) () (sub_cons rfl (sub_cons rfl (sub_cons rfl (sub_cons rfl (sub_cons rfl sub_nil))))) (St.pick X8600 (.keep _ (.none _ (.skip _ (.keep _ (.keep _ (.none _ (.none _ (.nil _)))))))))
                      · refine lskip rfl rfl ?_
                        refine lskip rfl rfl ?_
                        refine lpure (v := .bool false) rfl (p_pick rfl) rfl rfl ?_
                        refine Sim.of_eq (congrArg j8810 (show (s8599 && (decide (e6997.1 = 7))) = false from by rw [k8812] <;> rfl)) ?_
                        exact ljmpM J8811 false () (sub_cons rfl (sub_cons rfl (sub_cons rfl (sub_cons rfl (sub_cons rfl sub_nil))))) (St.pick X8600 (.keep _ (.none _ (.skip _ (.keep _ (.keep _ (.none _ (.none _ (.nil _)))))))))
                  · intro j8813 J8814
                    refine lcase (i := 96) (show _ = Value.bool s8595 from rfl) (fun k8815 => ?_) (fun k8815 => ?_)
                    · refine lpure (v := .int .i64 e6948.1) rfl (p_move rfl) rfl rfl ?_
                      refine lpure (v := .bool (decide (e6948.1 = 80))) rfl (p_eq rfl) rfl rfl ?_
                      refine lpure (v := .bool (decide (e6948.1 = 80))) rfl (p_pick rfl) rfl rfl ?_
                      refine Sim.of_eq (congrArg j8813 (show (s8595 && (decide (e6948.1 = 80))) = (decide (e6948.1 = 80)) from by rw [k8815] <;> rfl)) ?_
                      exact ljmpM J8814 (decide (e6948.1 = 80)) () (sub_cons rfl (sub_cons rfl (sub_cons rfl (sub_cons rfl (sub_cons rfl (sub_cons rfl sub_nil)))))) (St.pick X8596 (.keep _ (.none _ (.skip _ (.keep _ (.keep _ (.none _ (.none _ (.nil _)))))))))
                    · refine lskip rfl rfl ?_
                      refine lskip rfl rfl ?_
                      refine lpure (v := .bool false) rfl (p_pick rfl) rfl rfl ?_
                      refine Sim.of_eq (congrArg j8813 (show (s8595 && (decide (e6948.1 = 80))) = false from by rw [k8815] <;> rfl)) ?_
                      exact ljmpM J8814 false () (sub_cons rfl (sub_cons rfl (sub_cons rfl (sub_cons rfl (sub_cons rfl (sub_cons rfl sub_nil)))))) (St.pick X8596 (.keep _ (.none _ (.skip _ (.keep _ (.keep _ (.none _ (.none _ (.nil _)))))))))
                · intro j8816 J8817
                  refine lcase (i := 92) (show _ = Value.bool s8591 from rfl) (fun k8818 => ?_) (fun k8818 => ?_)
                  · refine lpure (v := .int .i64 e6899.1) rfl (p_move rfl) rfl rfl ?_
                    refine lpure (v := .bool (decide (e6899.1 = 1))) rfl (p_eq rfl) rfl rfl ?_
                    refine lpure (v := .bool (decide (e6899.1 = 1))) rfl (p_pick rfl) rfl rfl ?_
                    refine Sim.of_eq (congrArg j8816 (show (s8591 && (decide (e6899.1 = 1))) = (decide (e6899.1 = 1)) from by rw [k8818] <;> rfl)) ?_
                    exact ljmpM J8817 (decide (e6899.1 = 1)) () (sub_cons rfl (sub_cons rfl (sub_cons rfl (sub_cons rfl (sub_cons rfl (sub_cons rfl (sub_cons rfl sub_nil))))))) (St.pick X8592 (.keep _ (.none _ (.skip _ (.keep _ (.keep _ (.none _ (.none _ (.nil _)))))))))
                  · refine lskip rfl rfl ?_
                    refine lskip rfl rfl ?_
                    refine lpure (v := .bool false) rfl (p_pick rfl) rfl rfl ?_
                    refine Sim.of_eq (congrArg j8816 (show (s8591 && (decide (e6899.1 = 1))) = false from by rw [k8818] <;> rfl)) ?_
                    exact ljmpM J8817 false () (sub_cons rfl (sub_cons rfl (sub_cons rfl (sub_cons rfl (sub_cons rfl (sub_cons rfl (sub_cons rfl sub_nil))))))) (St.pick X8592 (.keep _ (.none _ (.skip _ (.keep _ (.keep _ (.none _ (.none _ (.nil _)))))))))
              · intro j8819 J8820
                refine lcase (i := 88) (show _ = Value.bool s8587 from rfl) (fun k8821 => ?_) (fun k8821 => ?_)
                · refine lpure (v := .int .i64 e6855.1) rfl (p_move rfl) rfl rfl ?_
                  refine lpure (v := .bool (decide (e6855.1 = 0))) rfl (p_eq rfl) rfl rfl ?_
                  refine lpure (v := .bool (decide (e6855.1 = 0))) rfl (p_pick rfl) rfl rfl ?_
                  refine Sim.of_eq (congrArg j8819 (show (s8587 && (decide (e6855.1 = 0))) = (decide (e6855.1 = 0)) from by rw [k8821] <;> rfl)) ?_
                  exact ljmpM J8820 (decide (e6855.1 = 0)) () (sub_cons rfl (sub_cons rfl (sub_cons rfl (sub_cons rfl (sub_cons rfl (sub_cons rfl (sub_cons rfl (sub_cons rfl sub_nil)))))))) (St.pick X8588 (.keep _ (.none _ (.skip _ (.keep _ (.keep _ (.none _ (.none _ (.nil _)))))))))
                · refine lskip rfl rfl ?_
                  refine lskip rfl rfl ?_
                  refine lpure (v := .bool false) rfl (p_pick rfl) rfl rfl ?_
                  refine Sim.of_eq (congrArg j8819 (show (s8587 && (decide (e6855.1 = 0))) = false from by rw [k8821] <;> rfl)) ?_
                  exact ljmpM J8820 false () (sub_cons rfl (sub_cons rfl (sub_cons rfl (sub_cons rfl (sub_cons rfl (sub_cons rfl (sub_cons rfl (sub_cons rfl sub_nil)))))))) (St.pick X8588 (.keep _ (.none _ (.skip _ (.keep _ (.keep _ (.none _ (.none _ (.nil _)))))))))
            · intro j8822 J8823
              refine lcase (i := 83) (show _ = Value.bool s8583 from rfl) (fun k8824 => ?_) (fun k8824 => ?_)
              · refine lpure (v := .int .i64 e8553.2) rfl (p_move rfl) rfl rfl ?_
                refine lpure (v := .bool (decide (e8553.2 = 0))) rfl (p_eq rfl) rfl rfl ?_
                refine lpure (v := .bool (decide (e8553.2 = 0))) rfl (p_pick rfl) rfl rfl ?_
                refine Sim.of_eq (congrArg j8822 (show (s8583 && (decide (e8553.2 = 0))) = (decide (e8553.2 = 0)) from by rw [k8824] <;> rfl)) ?_
                exact ljmpM J8823 (decide (e8553.2 = 0)) () (sub_cons rfl (sub_cons rfl (sub_cons rfl (sub_cons rfl (sub_cons rfl (sub_cons rfl (sub_cons rfl (sub_cons rfl (sub_cons rfl sub_nil))))))))) (St.pick X8584 (.keep _ (.none _ (.skip _ (.keep _ (.keep _ (.none _ (.none _ (.nil _)))))))))
              · refine lskip rfl rfl ?_
                refine lskip rfl rfl ?_
                refine lpure (v := .bool false) rfl (p_pick rfl) rfl rfl ?_
                refine Sim.of_eq (congrArg j8822 (show (s8583 && (decide (e8553.2 = 0))) = false from by rw [k8824] <;> rfl)) ?_
                exact ljmpM J8823 false () (sub_cons rfl (sub_cons rfl (sub_cons rfl (sub_cons rfl (sub_cons rfl (sub_cons rfl (sub_cons rfl (sub_cons rfl (sub_cons rfl sub_nil))))))))) (St.pick X8584 (.keep _ (.none _ (.skip _ (.keep _ (.keep _ (.none _ (.none _ (.nil _)))))))))
          · intro j8825 J8826
            refine lcase (i := 79) (show _ = Value.bool s8579 from rfl) (fun k8827 => ?_) (fun k8827 => ?_)
            · refine lpure (v := .int .i64 e8219.2) rfl (p_move rfl) rfl rfl ?_
              refine lpure (v := .bool (decide (e8219.2 = 0))) rfl (p_eq rfl) rfl rfl ?_
              refine lpure (v := .bool (decide (e8219.2 = 0))) rfl (p_pick rfl) rfl rfl ?_
              refine Sim.of_eq (congrArg j8825 (show (s8579 && (decide (e8219.2 = 0))) = (decide (e8219.2 = 0)) from by rw [k8827] <;> rfl)) ?_
              exact ljmpM J8826 (decide (e8219.2 = 0)) () (sub_cons rfl (sub_cons rfl (sub_cons rfl (sub_cons rfl (sub_cons rfl (sub_cons rfl (sub_cons rfl (sub_cons rfl (sub_cons rfl (sub_cons rfl sub_nil)))))))))) (St.pick X8580 (.keep _ (.none _ (.skip _ (.keep _ (.keep _ (.none _ (.none _ (.nil _)))))))))
            · refine lskip rfl rfl ?_
              refine lskip rfl rfl ?_
              refine lpure (v := .bool false) rfl (p_pick rfl) rfl rfl ?_
              refine Sim.of_eq (congrArg j8825 (show (s8579 && (decide (e8219.2 = 0))) = false from by rw [k8827] <;> rfl)) ?_
              exact ljmpM J8826 false () (sub_cons rfl (sub_cons rfl (sub_cons rfl (sub_cons rfl (sub_cons rfl (sub_cons rfl (sub_cons rfl (sub_cons rfl (sub_cons rfl (sub_cons rfl sub_nil)))))))))) (St.pick X8580 (.keep _ (.none _ (.skip _ (.keep _ (.keep _ (.none _ (.none _ (.nil _)))))))))
        · intro j8828 J8829
          refine lcase (i := 75) (show _ = Value.bool s8575 from rfl) (fun k8830 => ?_) (fun k8830 => ?_)
          · refine lpure (v := .int .i64 e7741.2) rfl (p_move rfl) rfl rfl ?_
            refine lpure (v := .bool (decide (e7741.2 = 0))) rfl (p_eq rfl) rfl rfl ?_
            refine lpure (v := .bool (decide (e7741.2 = 0))) rfl (p_pick rfl) rfl rfl ?_
            refine Sim.of_eq (congrArg j8828 (show (s8575 && (decide (e7741.2 = 0))) = (decide (e7741.2 = 0)) from by rw [k8830] <;> rfl)) ?_
            exact ljmpM J8829 (decide (e7741.2 = 0)) () (sub_cons rfl (sub_cons rfl (sub_cons rfl (sub_cons rfl (sub_cons rfl (sub_cons rfl (sub_cons rfl (sub_cons rfl (sub_cons rfl (sub_cons rfl (sub_cons rfl sub_nil))))))))))) (St.pick X8576 (.keep _ (.none _ (.skip _ (.keep _ (.keep _ (.none _ (.none _ (.nil _)))))))))
          · refine lskip rfl rfl ?_
            refine lskip rfl rfl ?_
            refine lpure (v := .bool false) rfl (p_pick rfl) rfl rfl ?_
            refine Sim.of_eq (congrArg j8828 (show (s8575 && (decide (e7741.2 = 0))) = false from by rw [k8830] <;> rfl)) ?_
            exact ljmpM J8829 false () (sub_cons rfl (sub_cons rfl (sub_cons rfl (sub_cons rfl (sub_cons rfl (sub_cons rfl (sub_cons rfl (sub_cons rfl (sub_cons rfl (sub_cons rfl (sub_cons rfl sub_nil))))))))))) (St.pick X8576 (.keep _ (.none _ (.skip _ (.keep _ (.keep _ (.none _ (.none _ (.nil _)))))))))
      · intro j8831 J8832
        refine lcase (i := 71) (show _ = Value.bool s8571 from rfl) (fun k8833 => ?_) (fun k8833 => ?_)
        · refine lpure (v := .int .i64 e6997.2) rfl (p_move rfl) rfl rfl ?_
          refine lpure (v := .bool (decide (e6997.2 = 0))) rfl (p_eq rfl) rfl rfl ?_
          refine lpure (v := .bool (decide (e6997.2 = 0))) rfl (p_pick rfl) rfl rfl ?_
          refine Sim.of_eq (congrArg j8831 (show (s8571 && (decide (e6997.2 = 0))) = (decide (e6997.2 = 0)) from by rw [k8833] <;> rfl)) ?_
          exact ljmpM J8832 (decide (e6997.2 = 0)) () (sub_cons rfl (sub_cons rfl (sub_cons rfl (sub_cons rfl (sub_cons rfl (sub_cons rfl (sub_cons rfl (sub_cons rfl (sub_cons rfl (sub_cons rfl (sub_cons rfl (sub_cons rfl sub_nil)))))))))))) (St.pick X8572 (.keep _ (.none _ (.skip _ (.keep _ (.keep _ (.none _ (.none _ (.nil _)))))))))
        · refine lskip rfl rfl ?_
          refine lskip rfl rfl ?_
          refine lpure (v := .bool false) rfl (p_pick rfl) rfl rfl ?_
          refine Sim.of_eq (congrArg j8831 (show (s8571 && (decide (e6997.2 = 0))) = false from by rw [k8833] <;> rfl)) ?_
          exact ljmpM J8832 false () (sub_cons rfl (sub_cons rfl (sub_cons rfl (sub_cons rfl (sub_cons rfl (sub_cons rfl (sub_cons rfl (sub_cons rfl (sub_cons rfl (sub_cons rfl (sub_cons rfl (sub_cons rfl sub_nil)))))))))))) (St.pick X8572 (.keep _ (.none _ (.skip _ (.keep _ (.keep _ (.none _ (.none _ (.nil _)))))))))
    · intro j8834 J8835
      refine lcase (i := 67) (show _ = Value.bool s8567 from rfl) (fun k8836 => ?_) (fun k8836 => ?_)
      · refine lpure (v := .int .i64 e6948.2) rfl (p_move rfl) rfl rfl ?_
        refine lpure (v := .bool (decide (e6948.2 = 0))) rfl (p_eq rfl) rfl rfl ?_
        refine lpure (v := .bool (decide (e6948.2 = 0))) rfl (p_pick rfl) rfl rfl ?_
        refine Sim.of_eq (congrArg j8834 (show (s8567 && (decide (e6948.2 = 0))) = (decide (e6948.2 = 0)) from by rw [k8836] <;> rfl)) ?_
        exact ljmpM J8835 (decide (e6948.2 = 0)) () (sub_cons rfl (sub_cons rfl (sub_cons rfl (sub_cons rfl (sub_cons rfl (sub_cons rfl (sub_cons rfl (sub_cons rfl (sub_cons rfl (sub_cons rfl (sub_cons rfl (sub_cons rfl (sub_cons rfl sub_nil))))))))))))) (St.pick X8568 (.keep _ (.none _ (.skip _ (.keep _ (.keep _ (.none _ (.none _ (.nil _)))))))))
      · refine lskip rfl rfl ?_
        refine lskip rfl rfl ?_
        refine lpure (v := .bool false) rfl (p_pick rfl) rfl rfl ?_
        refine Sim.of_eq (congrArg j8834 (show (s8567 && (decide (e6948.2 = 0))) = false from by rw [k8836] <;> rfl)) ?_
        exact ljmpM J8835 false () (sub_cons rfl (sub_cons rfl (sub_cons rfl (sub_cons rfl (sub_cons rfl (sub_cons rfl (sub_cons rfl (sub_cons rfl (sub_cons rfl (sub_cons rfl (sub_cons rfl (sub_cons rfl (sub_cons rfl sub_nil))))))))))))) (St.pick X8568 (.keep _ (.none _ (.skip _ (.keep _ (.keep _ (.none _ (.none _ (.nil _)))))))))
  · intro j8837 J8838
    refine lcase (i := 63) (show _ = Value.bool (decide (e6855.2 = 0)) from rfl) (fun k8839 => ?_) (fun k8839 => ?_)
    · refine lpure (v := .int .i64 e6899.2) rfl (p_move rfl) rfl rfl ?_
      refine lpure (v := .bool (decide (e6899.2 = 0))) rfl (p_eq rfl) rfl rfl ?_
      refine lpure (v := .bool (decide (e6899.2 = 0))) rfl (p_pick rfl) rfl rfl ?_
      refine Sim.of_eq (congrArg j8837 (show ((decide (e6855.2 = 0)) && (decide (e6899.2 = 0))) = (decide (e6899.2 = 0)) from by rw [k8839] <;> rfl)) ?_
      exact ljmpM J8838 (decide (e6899.2 = 0)) () (sub_cons rfl (sub_cons rfl (sub_cons rfl (sub_cons rfl (sub_cons rfl (sub_cons rfl (sub_cons rfl (sub_cons rfl (sub_cons rfl (sub_cons rfl (sub_cons rfl (sub_cons rfl (sub_cons rfl (sub_cons rfl sub_nil)))))))))))))) (St.pick X8559 (.keep _ (.none _ (.skip _ (.keep _ (.keep _ (.none _ (.none _ (.nil _)))))))))
    · refine lskip rfl rfl ?_
      refine lskip rfl rfl ?_
      refine lpure (v := .bool false) rfl (p_pick rfl) rfl rfl ?_
      refine Sim.of_eq (congrArg j8837 (show ((decide (e6855.2 = 0)) && (decide (e6899.2 = 0))) = false from by rw [k8839] <;> rfl)) ?_
      exact ljmpM J8838 false () (sub_cons rfl (sub_cons rfl (sub_cons rfl (sub_cons rfl (sub_cons rfl (sub_cons rfl (sub_cons rfl (sub_cons rfl (sub_cons rfl (sub_cons rfl (sub_cons rfl (sub_cons rfl (sub_cons rfl (sub_cons rfl sub_nil)))))))))))))) (St.pick X8559 (.keep _ (.none _ (.skip _ (.keep _ (.keep _ (.none _ (.none _ (.nil _)))))))))
/-! isochron/isochronlaw16.few -/
theorem f10_ok {n : Nat} {φ : Fz} {lo : Nat} {h : Heap} {own : OwnL} (X : St φ lo h own) (p8864 : ApiTopo) {a8865 : Option Addr} {n8865 c8865 : Nat} {a8866 : Option Addr} {n8866 c8866 : Nat} (H8865 : RSl eBool φ (.slice a8865 n8865 c8865) p8864.Station) (H8866 : RSl eApiLink φ (.slice a8866 n8866 c8866) p8864.Links) (K8865 : c8865 < unk) (K8866 : c8866 < unk) : Sim ((recN Try.prog LL cutF (n + 1)).call 10 #[(.agg #[.int .i64 p8864.Nodes, .slice a8865 n8865 c8865, .slice a8866 n8866 c8866])] h) (m_isochronlaw16_few p8864) (fun (d : ApiTopo) p => ∃ a8883 : Option Addr, ∃ n8883 : Nat, ∃ c8883 : Nat, ∃ a8884 : Option Addr, ∃ n8884 : Nat, ∃ c8884 : Nat, p = (.agg #[.int .i64 d.Nodes, .slice a8883 n8883 c8883, .slice a8884 n8884 c8884], h) ∧ RSl eBool φ (.slice a8883 n8883 c8883) d.Station ∧ RSl eApiLink φ (.slice a8884 n8884 c8884) d.Links) := by
  refine fcut Try.func10 rfl rfl rfl rfl X ?_
  intro h0 X0
  refine dseq ?_
  refine dreg ?_
  refine lbox rfl rfl rfl rfl rfl X0 (fun b8867 h8869 X8870 => ?_)
  refine lalloc rfl tz_25 rfl rfl rfl X8870 (fun b8871 h8873 X8874 => ?_)
  refine lend ?_
  refine nseq ?_
  refine dseq ?_
  refine ddraw 163840 163840 10320 (by kernel_rfl) ?_
  refine spure (v := .pointer (some ⟨b8867, 1, none⟩)) rfl (p_fa fo_25_1 rfl) (lo_t (lo_own X8874 (j := 1) (o := 0) (s := none) (f := 0) rfl) rfl) rfl rfl ?_
  refine sload (v := .slice a8865 n8865 c8865) rfl rfl (q_load wd_22 rfl) (St.ld X8874 (j := 1) rfl rfl) (same_self 20 rfl) rfl ?_
  refine spure (v := .pointer (some ⟨b8867, 1, none⟩)) rfl (p_fa fo_25_1 rfl) (lo_t (lo_own X8874 (j := 1) (o := 0) (s := none) (f := 0) rfl) rfl) rfl rfl ?_
  refine sload (v := .slice a8865 n8865 c8865) rfl rfl (q_load wd_22 rfl) (St.ld X8874 (j := 1) rfl rfl) (same_self 20 rfl) rfl ?_
  refine spure (v := .int .i64 (p8864.Station.length : Int)) rfl (p_len rfl rfl rfl un_22 rfl) (lo_t (lo_sl X8874 H8865) rfl) (RSl.lenC H8865) rfl ?_
  refine spure (v := .int .i64 (min (p8864.Station.length : Int) 20)) rfl (p_min rfl rfl rfl) (lo_t rfl (lo_c rfl)) rfl rfl ?_
  refine Sim.mustM fun k8875 => ?_
  have k8875 := of_decide_eq_true k8875
  obtain ⟨a8875, n8875, c8875, hv8875, H8875, K8875⟩ := RSl.sliceC H8865 K8865 (m := 1) rfl bnd_none (bnd_int (show 0 ≤ (min (p8864.Station.length : Int) 20) from by omega)) (by omega) (by omega)
  refine spure rfl (p_slice rs_22 rfl (evo_ok rfl) (evo_ok rfl) (evo_ok rfl)) (lo_t (lo_sl X8874 H8865) (lo_t rfl rfl)) hv8875 rfl ?_
  refine spure (v := .pointer (some ⟨b8867, 2, none⟩)) rfl (p_fa fo_25_2 rfl) (lo_t (lo_own X8874 (j := 1) (o := 0) (s := none) (f := 0) rfl) rfl) rfl rfl ?_
  refine sload (v := .slice a8866 n8866 c8866) rfl rfl (q_load wd_23 rfl) (St.ld X8874 (j := 1) rfl rfl) (same_self 20 rfl) rfl ?_
  refine spure (v := .pointer (some ⟨b8867, 2, none⟩)) rfl (p_fa fo_25_2 rfl) (lo_t (lo_own X8874 (j := 1) (o := 0) (s := none) (f := 0) rfl) rfl) rfl rfl ?_
  refine sload (v := .slice a8866 n8866 c8866) rfl rfl (q_load wd_23 rfl) (St.ld X8874 (j := 1) rfl rfl) (same_self 20 rfl) rfl ?_
  refine spure (v := .int .i64 (p8864.Links.length : Int)) rfl (p_len rfl rfl rfl un_23 rfl) (lo_t (lo_sl X8874 H8866) rfl) (RSl.lenC H8866) rfl ?_
  refine spure (v := .int .i64 (min (p8864.Links.length : Int) 30)) rfl (p_min rfl rfl rfl) (lo_t rfl (lo_c rfl)) rfl rfl ?_
  refine Sim.mustM fun k8876 => ?_
  have k8876 := of_decide_eq_true k8876
  obtain ⟨a8876, n8876, c8876, hv8876, H8876, K8876⟩ := RSl.sliceC H8866 K8866 (m := 4) rfl bnd_none (bnd_int (show 0 ≤ (min (p8864.Links.length : Int) 30) from by omega)) (by omega) (by omega)
  refine spure rfl (p_slice rs_23 rfl (evo_ok rfl) (evo_ok rfl) (evo_ok rfl)) (lo_t (lo_sl X8874 H8866) (lo_t rfl rfl)) hv8876 rfl ?_
  refine spure (v := .pointer (some ⟨b8867, 1, none⟩)) rfl (p_fa fo_25_1 rfl) (lo_t (lo_own X8874 (j := 1) (o := 0) (s := none) (f := 0) rfl) rfl) rfl rfl ?_
  refine sstore rfl rfl ts_22 rfl rfl (j := 1) rfl rfl rfl rfl rfl rfl X8874 (fun h8877 X8878 => ?_)
  refine spure (v := .pointer (some ⟨b8867, 2, none⟩)) rfl (p_fa fo_25_2 rfl) (lo_t (lo_own X8878 (j := 1) (o := 0) (s := none) (f := 0) rfl) rfl) rfl rfl ?_
  refine sstore rfl rfl ts_23 rfl rfl (j := 1) rfl rfl rfl rfl rfl rfl X8878 (fun h8879 X8880 => ?_)
  refine send ?_
  refine nseq ?_
  refine dseq ?_
  refine dreg ?_
  refine lread (v := .agg #[.int .i64 p8864.Nodes, .slice a8875 n8875 c8875, .slice a8876 n8876 c8876]) rfl (q_load wd_25 rfl) (St.ld X8880 (j := 1) rfl rfl) rfl ?_
  refine lstore rfl ts_25 rfl rfl (j := 0) rfl rfl rfl rfl rfl rfl X8880 (fun h8881 X8882 => ?_)
  refine lend ?_
  refine nseq ?_
  refine dret ?_
  exact kcut_r (res_1 (resC wd_25 (St.ld X8882 (j := 0) rfl rfl))) X8882 (lo_agg (all_cons rfl (all_cons (lo_slF X.fzlt H8875) (all_cons (lo_slF X.fzlt H8876) all_nil)))) ⟨a8875, n8875, c8875, a8876, n8876, c8876, rfl, H8875, H8876⟩
/-! isochron/isochronref16.node -/
theorem f63_ok {n : Nat} {φ : Fz} {lo : Nat} {h : Heap} {own : OwnL} (X : St φ lo h own) (p8953 : ApiTopo) (p8956 : Int) {a8954 : Option Addr} {n8954 c8954 : Nat} {a8955 : Option Addr} {n8955 c8955 : Nat} (H8954 : RSl eBool φ (.slice a8954 n8954 c8954) p8953.Station) (H8955 : RSl eApiLink φ (.slice a8955 n8955 c8955) p8953.Links) : Sim ((recN Try.prog LL cutF (n + 1)).call 63 #[(.agg #[.int .i64 p8953.Nodes, .slice a8954 n8954 c8954, .slice a8955 n8955 c8955]), (.int .i64 p8956)] h) (m_isochronref16_node p8953 p8956) (fun (d : Bool) p => p = (.bool d, h)) := by
  refine fcut Try.func63 rfl rfl rfl rfl X ?_
  intro h0 X0
  refine dseq ?_
  refine dreg ?_
  refine lbox rfl rfl rfl rfl rfl X0 (fun b8957 h8959 X8960 => ?_)
  refine lpure (v := .bool false) rfl (p_assign rfl) rfl rfl ?_
  refine lend ?_
  refine nseq ?_
  refine dseq ?_
  refine dreg ?_
  refine lpure (v := .int .i64 p8956) rfl (p_move rfl) rfl rfl ?_
  refine lpure (v := .bool (decide (0 ≤ p8956))) rfl (p_ge rfl) rfl rfl ?_
  refine lpure (v := .bool (decide (0 ≤ p8956))) rfl (p_move rfl) rfl rfl ?_
  refine lsh (τ := Bool) (σ := Unit) (fun s8962 (_ : Unit) => [(12, .bool s8962)]) (fun s8962 (_ : Unit) hh => St φ h.n hh ([(some b8957, .cells [.int .i64 p8953.Nodes, .slice a8954 n8954 c8954, .slice a8955 n8955 c8955] 25 .exact)])) 5 ?_ ?_
  · rintro s8962 _ t0 h8964 X8963
    refine lpure (v := .bool s8962) rfl (p_assign rfl) rfl rfl ?_
    refine lend ?_
    refine nseq ?_
    refine dret ?_
    exact kcut_r (res_1 resT) X8963 rfl rfl
  · intro j8965 J8966
    refine lcase (i := 7) (show _ = Value.bool (decide (0 ≤ p8956)) from rfl) (fun k8967 => ?_) (fun k8967 => ?_)
    · refine lpure (v := .int .i64 p8956) rfl (p_move rfl) rfl rfl ?_
      refine lpure (v := .pointer (some ⟨b8957, 0, none⟩)) rfl (p_fa fo_25_0 rfl) rfl rfl ?_
      refine lread (v := .int .i64 p8953.Nodes) rfl (q_load wd_3 rfl) (St.ld X8960 (j := 0) rfl rfl) rfl ?_
      refine lpure (v := .bool (decide (p8956 < p8953.Nodes))) rfl (p_lt rfl) rfl rfl ?_
      refine lpure (v := .bool (decide (p8956 < p8953.Nodes))) rfl (p_pick rfl) rfl rfl ?_
      refine Sim.of_eq (congrArg j8965 (show ((decide (0 ≤ p8956)) && (decide (p8956 < p8953.Nodes))) = (decide (p8956 < p8953.Nodes)) from by rw [k8967] <;> rfl)) ?_
      exact ljmpM J8966 (decide (p8956 < p8953.Nodes)) () (sub_cons rfl sub_nil) X8960
    · refine lskip rfl rfl ?_
      refine lskip rfl rfl ?_
      refine lskip rfl rfl ?_
      refine lskip rfl rfl ?_
      refine lpure (v := .bool false) rfl (p_pick rfl) rfl rfl ?_
      refine Sim.of_eq (congrArg j8965 (show ((decide (0 ≤ p8956)) && (decide (p8956 < p8953.Nodes))) = false from by rw [k8967] <;> rfl)) ?_
      exact ljmpM J8966 false () (sub_cons rfl sub_nil) X8960
/-! isochron/isochronref16.link -/
theorem f43_ok {n : Nat} {φ : Fz} {lo : Nat} {h : Heap} {own : OwnL} (X : St φ lo h own) (p8941 : ApiTopo) (p8944 : ApiLink) {a8942 : Option Addr} {n8942 c8942 : Nat} {a8943 : Option Addr} {n8943 c8943 : Nat} (H8942 : RSl eBool φ (.slice a8942 n8942 c8942) p8941.Station) (H8943 : RSl eApiLink φ (.slice a8943 n8943 c8943) p8941.Links) : Sim ((recN Try.prog LL cutF (n + 2)).call 43 #[(.agg #[.int .i64 p8941.Nodes, .slice a8942 n8942 c8942, .slice a8943 n8943 c8943]), (.agg #[.int .i64 p8944.A, .int .i64 p8944.B, .int .i64 p8944.Per, .int .i64 p8944.Delay])] h) (m_isochronref16_link p8941 p8944) (fun (d : Bool) p => p = (.bool d, h)) := by
  refine fcut Try.func43 rfl rfl rfl rfl X ?_
  intro h0 X0
  refine dseq ?_
  refine dreg ?_
  refine lbox rfl rfl rfl rfl rfl X0 (fun b8945 h8947 X8948 => ?_)
  refine lbox rfl rfl rfl rfl rfl X8948 (fun b8949 h8951 X8952 => ?_)
  refine lpure (v := .bool false) rfl (p_assign rfl) rfl rfl ?_
  refine lend ?_
  refine nseq ?_
  refine dseq ?_
  refine dseq ?_
  refine dreg ?_
  refine lread (v := .agg #[.int .i64 p8941.Nodes, .slice a8942 n8942 c8942, .slice a8943 n8943 c8943]) rfl (q_load wd_25 rfl) (St.ld X8952 (j := 1) rfl rfl) rfl ?_
  refine lpure (v := .pointer (some ⟨b8949, 0, none⟩)) rfl (p_fa fo_50_0 rfl) rfl rfl ?_
  refine lread (v := .int .i64 p8944.A) rfl (q_load wd_3 rfl) (St.ld X8952 (j := 0) rfl rfl) rfl ?_
  refine lcall rfl rfl ca_63 rfl rfl (f63_ok X8952 p8941 (p8944.A) H8942 H8943) rfl (fun e8968 v8969 h8970 hq8971 => ?_)
  cases hq8971
  refine lpure (v := .bool (!e8968)) rfl (p_not rfl) rfl rfl ?_
  refine lpure (v := .bool (!e8968)) rfl (p_move rfl) rfl rfl ?_
  refine ljoinM (τ := Bool) (σ := Unit) (fun s8978 (_ : Unit) => [(2, .pointer (some ⟨b8945, 0, none⟩)), (3, .pointer (some ⟨b8949, 0, none⟩)), (16, .bool s8978)]) (fun s8978 (_ : Unit) hh => St φ h.n hh ([(some b8949, .cells [.int .i64 p8944.A, .int .i64 p8944.B, .int .i64 p8944.Per, .int .i64 p8944.Delay] 50 .exact), (some b8945, .cells [.int .i64 p8941.Nodes, .slice a8942 n8942 c8942, .slice a8943 n8943 c8943] 25 .exact)])) 6 ?_ ?_
  · rintro s8978 _ t0 h8980 X8979
    refine lpure (v := .bool s8978) rfl (p_move rfl) rfl rfl ?_
    refine lsh (τ := Bool) (σ := Unit) (fun s8982 (_ : Unit) => [(2, .pointer (some ⟨b8945, 0, none⟩)), (3, .pointer (some ⟨b8949, 0, none⟩)), (23, .bool s8982)]) (fun s8982 (_ : Unit) hh => St φ h.n hh ([(some b8949, .cells [.int .i64 p8944.A, .int .i64 p8944.B, .int .i64 p8944.Per, .int .i64 p8944.Delay] 50 .exact), (some b8945, .cells [.int .i64 p8941.Nodes, .slice a8942 n8942 c8942, .slice a8943 n8943 c8943] 25 .exact)])) 6 ?_ ?_
    · rintro s8982 _ t0 h8984 X8983
      refine lpure (v := .bool s8982) rfl (p_move rfl) rfl rfl ?_
      refine ljoinM (τ := Bool) (σ := Unit) (fun s8994 (_ : Unit) => [(3, .pointer (some ⟨b8949, 0, none⟩)), (39, .bool s8994)]) (fun s8994 (_ : Unit) hh => St φ h.n hh ([(some b8949, .cells [.int .i64 p8944.A, .int .i64 p8944.B, .int .i64 p8944.Per, .int .i64 p8944.Delay] 50 .exact), (some b8945, .cells [.int .i64 p8941.Nodes, .slice a8942 n8942 c8942, .slice a8943 n8943 c8943] 25 .exact)])) 15 ?_ ?_
      · rintro s8994 _ t0 h8996 X8995
        refine lend ?_
        refine nseq ?_
        refine dcond rfl rfl (fun k8997 => ?_) (fun k8997 => ?_)
        · refine dseq ?_
          refine dreg ?_
          refine lpure (v := .bool false) rfl (p_assign rfl) rfl rfl ?_
          refine lend ?_
          refine nseq ?_
          refine dret ?_
          refine rseq ?_
          exact kcut_r (res_1 resT) X8995 rfl rfl
        · refine dskip ?_
          refine nseq ?_
          refine dseq ?_
          refine dreg ?_
          refine lpure (v := .pointer (some ⟨b8949, 2, none⟩)) rfl (p_fa fo_50_2 rfl) rfl rfl ?_
          refine lread (v := .int .i64 p8944.Per) rfl (q_load wd_3 rfl) (St.ld X8995 (j := 0) rfl rfl) rfl ?_
          refine lpure (v := .bool (decide (1 ≤ p8944.Per))) rfl (p_ge rfl) rfl rfl ?_
          refine lpure (v := .bool (decide (1 ≤ p8944.Per))) rfl (p_move rfl) rfl rfl ?_
          refine lsh (τ := Bool) (σ := Unit) (fun s8999 (_ : Unit) => [(3, .pointer (some ⟨b8949, 0, none⟩)), (47, .bool s8999)]) (fun s8999 (_ : Unit) hh => St φ h.n hh ([(some b8949, .cells [.int .i64 p8944.A, .int .i64 p8944.B, .int .i64 p8944.Per, .int .i64 p8944.Delay] 50 .exact), (some b8945, .cells [.int .i64 p8941.Nodes, .slice a8942 n8942 c8942, .slice a8943 n8943 c8943] 25 .exact)])) 4 ?_ ?_
          · rintro s8999 _ t0 h9001 X9000
            refine lpure (v := .bool s8999) rfl (p_move rfl) rfl rfl ?_
            refine lsh (τ := Bool) (σ := Unit) (fun s9003 (_ : Unit) => [(3, .pointer (some ⟨b8949, 0, none⟩)), (52, .bool s9003)]) (fun s9003 (_ : Unit) hh => St φ h.n hh ([(some b8949, .cells [.int .i64 p8944.A, .int .i64 p8944.B, .int .i64 p8944.Per, .int .i64 p8944.Delay] 50 .exact), (some b8945, .cells [.int .i64 p8941.Nodes, .slice a8942 n8942 c8942, .slice a8943 n8943 c8943] 25 .exact)])) 4 ?_ ?_
            · rintro s9003 _ t0 h9005 X9004
              refine lpure (v := .bool s9003) rfl (p_move rfl) rfl rfl ?_
              refine lsh (τ := Bool) (σ := Unit) (fun s9007 (_ : Unit) => [(57, .bool s9007)]) (fun s9007 (_ : Unit) hh => St φ h.n hh ([(some b8949, .cells [.int .i64 p8944.A, .int .i64 p8944.B, .int .i64 p8944.Per, .int .i64 p8944.Delay] 50 .exact), (some b8945, .cells [.int .i64 p8941.Nodes, .slice a8942 n8942 c8942, .slice a8943 n8943 c8943] 25 .exact)])) 4 ?_ ?_
              · rintro s9007 _ t0 h9009 X9008
                refine lpure (v := .bool s9007) rfl (p_assign rfl) rfl rfl ?_
                refine lend ?_
                refine nseq ?_
                refine dret ?_
                exact kcut_r (res_1 resT) X9008 rfl rfl
              · intro j9010 J9011
                refine lcase (i := 53) (show _ = Value.bool s9003 from rfl) (fun k9012 => ?_) (fun k9012 => ?_)
                · refine lpure (v := .pointer (some ⟨b8949, 3, none⟩)) rfl (p_fa fo_50_3 rfl) rfl rfl ?_
                  refine lread (v := .int .i64 p8944.Delay) rfl (q_load wd_3 rfl) (St.ld X9004 (j := 0) rfl rfl) rfl ?_
                  refine lpure (v := .bool (decide (p8944.Delay ≤ 10000))) rfl (p_le rfl) rfl rfl ?_
                  refine lpure (v := .bool (decide (p8944.Delay ≤ 10000))) rfl (p_pick rfl) rfl rfl ?_
                  refine Sim.of_eq (congrArg j9010 (show (s9003 && (decide (p8944.Delay ≤ 10000))) = (decide (p8944.Delay ≤ 10000)) from by rw [k9012] <;> rfl)) ?_
                  exact ljmpM J9011 (decide (p8944.Delay ≤ 10000)) () (sub_cons rfl sub_nil) X9004
                · refine lskip rfl rfl ?_
                  refine lskip rfl rfl ?_
                  refine lskip rfl rfl ?_
                  refine lpure (v := .bool false) rfl (p_pick rfl) rfl rfl ?_
                  refine Sim.of_eq (congrArg j9010 (show (s9003 && (decide (p8944.Delay ≤ 10000))) = false from by rw [k9012] <;> rfl)) ?_
                  exact ljmpM J9011 false () (sub_cons rfl sub_nil) X9004
            · intro j9013 J9014
              refine lcase (i := 48) (show _ = Value.bool s8999 from rfl) (fun k9015 => ?_) (fun k9015 => ?_)
              · refine lpure (v := .pointer (some ⟨b8949, 3, none⟩)) rfl (p_fa fo_50_3 rfl) rfl rfl ?_
                refine lread (v := .int .i64 p8944.Delay) rfl (q_load wd_3 rfl) (St.ld X9000 (j := 0) rfl rfl) rfl ?_
                refine lpure (v := .bool (decide (0 ≤ p8944.Delay))) rfl (p_ge rfl) rfl rfl ?_
                refine lpure (v := .bool (decide (0 ≤ p8944.Delay))) rfl (p_pick rfl) rfl rfl ?_
                refine Sim.of_eq (congrArg j9013 (show (s8999 && (decide (0 ≤ p8944.Delay))) = (decide (0 ≤ p8944.Delay)) from by rw [k9015] <;> rfl)) ?_
                exact ljmpM J9014 (decide (0 ≤ p8944.Delay)) () (sub_cons rfl (sub_cons rfl sub_nil)) X9000
              · refine lskip rfl rfl ?_
                refine lskip rfl rfl ?_
                refine lskip rfl rfl ?_
                refine lpure (v := .bool false) rfl (p_pick rfl) rfl rfl ?_
                refine Sim.of_eq (congrArg j9013 (show (s8999 && (decide (0 ≤ p8944.Delay))) = false from by rw [k9015] <;> rfl)) ?_
                exact ljmpM J9014 false () (sub_cons rfl (sub_cons rfl sub_nil)) X9000
          · intro j9016 J9017
            refine lcase (i := 43) (show _ = Value.bool (decide (1 ≤ p8944.Per)) from rfl) (fun k9018 => ?_) (fun k9018 => ?_)
            · refine lpure (v := .pointer (some ⟨b8949, 2, none⟩)) rfl (p_fa fo_50_2 rfl) rfl rfl ?_
              refine lread (v := .int .i64 p8944.Per) rfl (q_load wd_3 rfl) (St.ld X8995 (j := 0) rfl rfl) rfl ?_
              refine lpure (v := .bool (decide (p8944.Per ≤ 1000))) rfl (p_le rfl) rfl rfl ?_
              refine lpure (v := .bool (decide (p8944.Per ≤ 1000))) rfl (p_pick rfl) rfl rfl ?_
              refine Sim.of_eq (congrArg j9016 (show ((decide (1 ≤ p8944.Per)) && (decide (p8944.Per ≤ 1000))) = (decide (p8944.Per ≤ 1000)) from by rw [k9018] <;> rfl)) ?_
              exact ljmpM J9017 (decide (p8944.Per ≤ 1000)) () (sub_cons rfl (sub_cons rfl sub_nil)) X8995
            · refine lskip rfl rfl ?_
              refine lskip rfl rfl ?_
              refine lskip rfl rfl ?_
              refine lpure (v := .bool false) rfl (p_pick rfl) rfl rfl ?_
              refine Sim.of_eq (congrArg j9016 (show ((decide (1 ≤ p8944.Per)) && (decide (p8944.Per ≤ 1000))) = false from by rw [k9018] <;> rfl)) ?_
              exact ljmpM J9017 false () (sub_cons rfl (sub_cons rfl sub_nil)) X8995
      · intro j9019 J9020
        refine lif (i := 24) (show _ = Value.bool s8982 from rfl) (fun k9021 => ?_) (fun k9021 => ?_)
        · refine lskip rfl rfl ?_
          refine lskip rfl rfl ?_
          refine lskip rfl rfl ?_
          refine lskip rfl rfl ?_
          refine lskip rfl rfl ?_
          refine lskip rfl rfl ?_
          refine lskip rfl rfl ?_
          refine lskip rfl rfl ?_
          refine lskip rfl rfl ?_
          refine lskip rfl rfl ?_
          refine lskip rfl rfl ?_
          refine lskip rfl rfl ?_
          refine lskip rfl rfl ?_
          refine lskip rfl rfl ?_
          refine lpure (v := .bool true) rfl (p_pick rfl) rfl rfl ?_
          exact ljmpM J9020 true () (sub_cons rfl (sub_cons rfl sub_nil)) X8983
        · refine lpure (v := .pointer (some ⟨b8945, 1, none⟩)) rfl (p_fa fo_25_1 rfl) rfl rfl ?_
          refine lread (v := .slice a8942 n8942 c8942) rfl (q_load wd_22 rfl) (St.ld X8983 (j := 1) rfl rfl) rfl ?_
          refine lpure (v := .pointer (some ⟨b8949, 0, none⟩)) rfl (p_fa fo_50_0 rfl) rfl rfl ?_
          refine lread (v := .int .i64 p8944.A) rfl (q_load wd_3 rfl) (St.ld X8983 (j := 0) rfl rfl) rfl ?_
          refine Sim.bindM fun e9022 he9023 => ?_
          obtain ⟨p9024, cs9024, hp9024, hF9024, hR9024⟩ := RSl.ia H8942 he9023 (kd := .i64) (n := 1) rfl
          have hR9024 : _ = [(.bool e9022 : Value)] := hR9024
          subst hR9024
          refine lpure (v := p9024) rfl (p_ia rs_22 rfl) hp9024 rfl ?_
          refine lread (v := .bool e9022) rfl (q_load wd_4 rfl) (FP.ld X8983 hF9024) rfl ?_
          refine lpure (v := .bool e9022) rfl (p_move rfl) rfl rfl ?_
          refine lif (i := 31) (show _ = Value.bool e9022 from rfl) (fun k9025 => ?_) (fun k9025 => ?_)
          · refine lpure (v := .pointer (some ⟨b8945, 1, none⟩)) rfl (p_fa fo_25_1 rfl) rfl rfl ?_
            refine lread (v := .slice a8942 n8942 c8942) rfl (q_load wd_22 rfl) (St.ld X8983 (j := 1) rfl rfl) rfl ?_
            refine lpure (v := .pointer (some ⟨b8949, 1, none⟩)) rfl (p_fa fo_50_1 rfl) rfl rfl ?_
            refine lread (v := .int .i64 p8944.B) rfl (q_load wd_3 rfl) (St.ld X8983 (j := 0) rfl rfl) rfl ?_
            refine Sim.bindM fun e9026 he9027 => ?_
            obtain ⟨p9028, cs9028, hp9028, hF9028, hR9028⟩ := RSl.ia H8942 he9027 (kd := .i64) (n := 1) rfl
            have hR9028 : _ = [(.bool e9026 : Value)] := hR9028
            subst hR9028
            refine lpure (v := p9028) rfl (p_ia rs_22 rfl) hp9028 rfl ?_
            refine lread (v := .bool e9026) rfl (q_load wd_4 rfl) (FP.ld X8983 hF9028) rfl ?_
            refine lpure (v := .bool e9026) rfl (p_pick rfl) rfl rfl ?_
            refine lpure (v := .bool e9026) rfl (p_pick rfl) rfl rfl ?_
            exact ljmpM J9020 e9026 () (sub_cons rfl (sub_cons rfl sub_nil)) X8983
          · refine lskip rfl rfl ?_
            refine lskip rfl rfl ?_
            refine lskip rfl rfl ?_
            refine lskip rfl rfl ?_
            refine lskip rfl rfl ?_
            refine lskip rfl rfl ?_
            refine lpure (v := .bool false) rfl (p_pick rfl) rfl rfl ?_
            refine lpure (v := .bool false) rfl (p_pick rfl) rfl rfl ?_
            exact ljmpM J9020 false () (sub_cons rfl (sub_cons rfl sub_nil)) X8983
    · intro j9029 J9030
      refine lcase (i := 17) (show _ = Value.bool s8978 from rfl) (fun k9031 => ?_) (fun k9031 => ?_)
      · refine lskip rfl rfl ?_
        refine lskip rfl rfl ?_
        refine lskip rfl rfl ?_
        refine lskip rfl rfl ?_
        refine lskip rfl rfl ?_
        refine lpure (v := .bool true) rfl (p_pick rfl) rfl rfl ?_
        refine Sim.of_eq (congrArg j9029 (show (s8978 || (decide (p8944.A = p8944.B))) = true from by rw [k9031] <;> rfl)) ?_
        exact ljmpM J9030 true () (sub_cons rfl (sub_cons rfl (sub_cons rfl sub_nil))) X8979
      · refine lpure (v := .pointer (some ⟨b8949, 0, none⟩)) rfl (p_fa fo_50_0 rfl) rfl rfl ?_
        refine lread (v := .int .i64 p8944.A) rfl (q_load wd_3 rfl) (St.ld X8979 (j := 0) rfl rfl) rfl ?_
        refine lpure (v := .pointer (some ⟨b8949, 1, none⟩)) rfl (p_fa fo_50_1 rfl) rfl rfl ?_
        refine lread (v := .int .i64 p8944.B) rfl (q_load wd_3 rfl) (St.ld X8979 (j := 0) rfl rfl) rfl ?_
        refine lpure (v := .bool (decide (p8944.A = p8944.B))) rfl (p_eq rfl) rfl rfl ?_
        refine lpure (v := .bool (decide (p8944.A = p8944.B))) rfl (p_pick rfl) rfl rfl ?_
        refine Sim.of_eq (congrArg j9029 (show (s8978 || (decide (p8944.A = p8944.B))) = (decide (p8944.A = p8944.B)) from by rw [k9031] <;> rfl)) ?_
        exact ljmpM J9030 (decide (p8944.A = p8944.B)) () (sub_cons rfl (sub_cons rfl (sub_cons rfl sub_nil))) X8979
  · intro j9032 J9033
    refine lif (i := 10) (show _ = Value.bool (!e8968) from rfl) (fun k9034 => ?_) (fun k9034 => ?_)
    · refine lskip rfl rfl ?_
      refine lskip rfl rfl ?_
      refine lskip rfl rfl ?_
      refine lskip rfl rfl ?_
      refine lskip rfl rfl ?_
      refine lpure (v := .bool true) rfl (p_pick rfl) rfl rfl ?_
      exact ljmpM J9033 true () (sub_cons rfl (sub_cons rfl (sub_cons rfl sub_nil))) X8952
    · refine lread (v := .agg #[.int .i64 p8941.Nodes, .slice a8942 n8942 c8942, .slice a8943 n8943 c8943]) rfl (q_load wd_25 rfl) (St.ld X8952 (j := 1) rfl rfl) rfl ?_
      refine lpure (v := .pointer (some ⟨b8949, 1, none⟩)) rfl (p_fa fo_50_1 rfl) rfl rfl ?_
      refine lread (v := .int .i64 p8944.B) rfl (q_load wd_3 rfl) (St.ld X8952 (j := 0) rfl rfl) rfl ?_
      refine lcall rfl rfl ca_63 rfl rfl (f63_ok X8952 p8941 (p8944.B) H8942 H8943) rfl (fun e9035 v9036 h9037 hq9038 => ?_)
      cases hq9038
      refine lpure (v := .bool (!e9035)) rfl (p_not rfl) rfl rfl ?_
      refine lpure (v := .bool (!e9035)) rfl (p_pick rfl) rfl rfl ?_
      exact ljmpM J9033 (!e9035) () (sub_cons rfl (sub_cons rfl (sub_cons rfl sub_nil))) X8952
/-! isochron/isochronref16.In -/
theorem f48_ok {n : Nat} {φ : Fz} {lo : Nat} {h : Heap} {own : OwnL} (X : St φ lo h own) (p9144 : (List Int)) (p9146 : Int) {a9145 : Option Addr} {n9145 c9145 : Nat} (H9145 : RSl (eInt .i64) φ (.slice a9145 n9145 c9145) p9144) : Sim ((recN Try.prog LL cutF (n + 1)).call 48 #[(.slice a9145 n9145 c9145), (.int .i64 p9146)] h) (m_isochronref16_In p9144 p9146) (fun (d : Bool) p => p = (.bool d, h)) := by
  refine fcut Try.func48 rfl rfl rfl rfl X ?_
  intro h0 X0
  refine dseq ?_
  refine dreg ?_
  refine lpure (v := .bool false) rfl (p_assign rfl) rfl rfl ?_
  refine lend ?_
  refine nseq ?_
  refine dseq ?_
  refine dseq ?_
  refine dreg ?_
  refine lpure (v := .int .i64 0) rfl (p_assign rfl) rfl rfl ?_
  refine lend ?_
  refine nseq ?_
  refine dblock ?_
  refine dloopM (τ := Int) (σ := Unit) (fun s9163 (_ : Unit) => [(0, .slice a9145 n9145 c9145), (1, .int .i64 p9146), (5, .int .i64 s9163)]) (fun s9163 (_ : Unit) hh => St φ h.n hh ([])) 0 () (sub_cons rfl (sub_cons rfl (sub_cons rfl sub_nil))) X0 ?_
  rintro n9173 ih9172 s9163 _ t0 h9175 X9174
  refine dseq ?_
  refine dseq ?_
  refine dreg ?_
  refine lpure (v := .int .i64 s9163) rfl (p_move rfl) rfl rfl ?_
  refine lpure (v := .slice a9145 n9145 c9145) rfl (p_move rfl) rfl rfl ?_
  refine lpure (v := .int .i64 (p9144.length : Int)) rfl (p_len rfl rfl rfl un_28 rfl) (RSl.lenC H9145) rfl ?_
  refine lpure (v := .bool (decide (s9163 < (p9144.length : Int)))) rfl (p_lt rfl) rfl rfl ?_
  refine lend ?_
  refine nseq ?_
  refine dcond rfl rfl (fun k9176 => ?_) (fun k9176 => ?_)
  · refine dskip ?_
    refine nseq ?_
    refine dseq ?_
    refine dblock ?_
    refine dseq ?_
    refine dreg ?_
    refine lpure (v := .slice a9145 n9145 c9145) rfl (p_move rfl) rfl rfl ?_
    refine lpure (v := .int .i64 s9163) rfl (p_move rfl) rfl rfl ?_
    refine Sim.bindM fun e9177 he9178 => ?_
    obtain ⟨p9179, cs9179, hp9179, hF9179, hR9179⟩ := RSl.ia H9145 he9178 (kd := .i64) (n := 1) rfl
    have hR9179 : _ = [(.int .i64 e9177 : Value)] := hR9179
    subst hR9179
    refine lpure (v := p9179) rfl (p_ia rs_28 rfl) hp9179 rfl ?_
    refine lread (v := .int .i64 e9177) rfl (q_load wd_3 rfl) (FP.ld X9174 hF9179) rfl ?_
    refine lpure (v := .int .i64 p9146) rfl (p_move rfl) rfl rfl ?_
    refine lpure (v := .bool (decide (e9177 = p9146))) rfl (p_eq rfl) rfl rfl ?_
    refine lend ?_
    refine nseq ?_
    refine dcond rfl rfl (fun k9180 => ?_) (fun k9180 => ?_)
    · refine dseq ?_
      refine dreg ?_
      refine lpure (v := .bool true) rfl (p_assign rfl) rfl rfl ?_
      refine lend ?_
      refine nseq ?_
      refine dret ?_
      refine rblock ?_
      refine rseq ?_
      refine rloop ?_
      refine rblock ?_
      refine rseq ?_
      exact kcut_r (res_1 resT) X9174 rfl rfl
    · refine dskip ?_
      refine nblock ?_
      refine nseq ?_
      refine dreg ?_
      refine lpure (v := .int .i64 s9163) rfl (p_move rfl) rfl rfl ?_
      refine lpure (v := .int .i64 (w64 (s9163 + 1))) rfl (p_add rfl) rfl rfl ?_
      refine lpure (v := .int .i64 (w64 (s9163 + 1))) rfl (p_assign rfl) rfl rfl ?_
      refine lend ?_
      exact kbackM ih9172 (w64 (s9163 + 1)) () (sub_cons rfl (sub_cons rfl (sub_cons rfl sub_nil))) X9174
  · refine dexit ?_
    refine eseq ?_
    refine eloop ?_
    refine xblock ?_
    refine nseq ?_
    refine dseq ?_
    refine dreg ?_
    refine lpure (v := .bool false) rfl (p_assign rfl) rfl rfl ?_
    refine lend ?_
    refine nseq ?_
    refine dret ?_
    exact kcut_r (res_1 resT) X9174 rfl rfl
/-! isochron/isochronref16.Reach -/
theorem f19_ok {n : Nat} {φ : Fz} {lo : Nat} {h : Heap} {own : OwnL} (X : St φ lo h own) (p10335 : ApiTopo) (p10338 : Int) (p10339 : (List Int)) {a10336 : Option Addr} {n10336 c10336 : Nat} {a10337 : Option Addr} {n10337 c10337 : Nat} {a10340 : Option Addr} {n10340 c10340 : Nat} (H10336 : RSl eBool φ (.slice a10336 n10336 c10336) p10335.Station) (H10337 : RSl eApiLink φ (.slice a10337 n10337 c10337) p10335.Links) (H10340 : RSl (eInt .i64) φ (.slice a10340 n10340 c10340) p10339) : Sim ((recN Try.prog LL cutF (n + 2)).call 19 #[(.agg #[.int .i64 p10335.Nodes, .slice a10336 n10336 c10336, .slice a10337 n10337 c10337]), (.int .i64 p10338), (.slice a10340 n10340 c10340)] h) (m_isochronref16_Reach p10335 p10338 p10339) (fun (d : (List Bool)) p => ∃ φ2 : Fz, ∃ a11524 : Option Addr, ∃ n11524 : Nat, ∃ c11524 : Nat, ∃ ob11524 : Option Nat, ∃ blk11524 : Blk, Fz.le φ φ2 ∧ St φ2 lo p.2 ((ob11524, blk11524) :: own) ∧ p.1 = .slice a11524 n11524 c11524 ∧ OSl eBool φ2 4 ob11524 blk11524 (.slice a11524 n11524 c11524) d) := by
  refine fopen Try.func19 rfl rfl rfl rfl ?_
  refine dseq ?_
  refine dreg ?_
  refine lbox rfl rfl rfl rfl rfl X (fun b10341 h10343 X10344 => ?_)
  refine lpure (v := .slice none 0 0) rfl (p_assign rfl) rfl rfl ?_
  refine lend ?_
  refine nseq ?_
  refine dseq ?_
  refine dreg ?_
  refine lpure (v := .pointer (some ⟨b10341, 0, none⟩)) rfl (p_fa fo_25_0 rfl) rfl rfl ?_
  refine lread (v := .int .i64 p10335.Nodes) rfl (q_load wd_3 rfl) (St.ld X10344 (j := 0) rfl rfl) rfl ?_
  refine Sim.mustM fun k10345 => ?_
  have k10345 := of_decide_eq_true k10345
  obtain ⟨h10345, b10345, vs10345, hv10345, X10345, O10345⟩ := OSl.mk (E := eBool) (φ := φ) (a0 := false) (k := .i64) (k' := .i64) (l := p10335.Nodes) (c := p10335.Nodes) un_22 tb_4 rfl ts_4 rfl rfl tz_4 rfl rfl rfl (by omega) (by omega) (by omega) X10344
  refine lheap rfl (h_makeSlice rfl) hv10345 rfl ?_
  refine lpure (v := .slice (some ⟨b10345, 0, none⟩) (p10335.Nodes).toNat (p10335.Nodes).toNat) rfl (p_assign rfl) rfl rfl ?_
  refine lend ?_
  refine nseq ?_
  refine dseq ?_
  refine dreg ?_
  refine lpure (v := .slice (some ⟨b10345, 0, none⟩) (p10335.Nodes).toNat (p10335.Nodes).toNat) rfl (p_move rfl) rfl rfl ?_
  refine lpure (v := .int .i64 p10338) rfl (p_move rfl) rfl rfl ?_
  refine Sim.bindM fun e10347 he10348 => ?_
  obtain ⟨off10349, cs10349, hp10349, hc10349, hR10349, hl10349, hm10349, hs10349⟩ := OSl.iaC O10345 he10348 (kd := .i64) (n := 1) rfl
  have hR10349 : _ = [(.bool e10347 : Value)] := hR10349
  subst hR10349
  refine lpure (v := .pointer (some ⟨b10345, off10349, none⟩)) rfl (p_ia rs_22 rfl) hp10349 rfl ?_
  have O10352 := hs10349 [.bool true] (true) rfl
  refine lstore rfl ts_4 rfl rfl (j := 0) rfl hm10349 rfl rfl (ble_iff.2 hl10349) rfl X10345 (fun h10350 X10351 => ?_)
  refine lend ?_
  refine nseq ?_
  refine dseq ?_
  refine dseq ?_
  refine dreg ?_
  refine lpure (v := .int .i64 0) rfl (p_assign rfl) rfl rfl ?_
  refine lend ?_
  refine nseq ?_
  refine dblock ?_
  refine dloopM (τ := (List Bool) × Int) (σ := Option Addr × Nat × Nat × Option Nat × Blk) (fun s10937 (a10938, n10938, c10938, ob10938, blk10938) => [(2, .slice a10340 n10340 c10340), (3, .pointer (some ⟨b10341, 0, none⟩)), (7, .slice a10938 n10938 c10938), (8, .int .i64 s10937.2)]) (fun s10937 (a10938, n10938, c10938, ob10938, blk10938) hh => St φ lo hh ((ob10938, blk10938) :: (some b10341, .cells [.int .i64 p10335.Nodes, .slice a10336 n10336 c10336, .slice a10337 n10337 c10337] 25 .exact) :: own) ∧ OSl eBool φ 4 ob10938 blk10938 (.slice a10938 n10938 c10938) s10937.1) (((List.replicate (p10335.Nodes).toNat false).set (p10338).toNat true), 0) ((some ⟨b10345, 0, none⟩), (p10335.Nodes).toNat, (p10335.Nodes).toNat, some b10345, (.cells (setAt vs10345 off10349 [.bool true]) 4 .exact)) (sub_cons rfl (sub_cons rfl (sub_cons rfl (sub_cons rfl sub_nil)))) ⟨X10351, O10352⟩ ?_
  rintro n11232 ih11231 s10937 ⟨a10938, n10938, c10938, ob10938, blk10938⟩ t0 h11234 ⟨X11233, O10938⟩
  refine dseq ?_
  refine dseq ?_
  refine dreg ?_
  refine lpure (v := .int .i64 s10937.2) rfl (p_move rfl) rfl rfl ?_
  refine lpure (v := .pointer (some ⟨b10341, 0, none⟩)) rfl (p_fa fo_25_0 rfl) rfl rfl ?_
  refine lread (v := .int .i64 p10335.Nodes) rfl (q_load wd_3 rfl) (St.ld X11233 (j := 1) rfl rfl) rfl ?_
  refine lpure (v := .bool (decide (s10937.2 < p10335.Nodes))) rfl (p_lt rfl) rfl rfl ?_
  refine lend ?_
  refine nseq ?_
  refine dcond rfl rfl (fun k11235 => ?_) (fun k11235 => ?_)
  · refine dskip ?_
    refine nseq ?_
    refine dseq ?_
    refine dblock ?_
    refine dseq ?_
    refine dreg ?_
    refine lpure (v := .int .i64 0) rfl (p_assign rfl) rfl rfl ?_
    refine lend ?_
    refine nseq ?_
    refine dblock ?_
    refine dloopM (τ := (List Bool) × Int) (σ := Option Addr × Nat × Nat × Option Nat × Blk) (fun s11379 (a11380, n11380, c11380, ob11380, blk11380) => [(2, .slice a10340 n10340 c10340), (3, .pointer (some ⟨b10341, 0, none⟩)), (7, .slice a11380 n11380 c11380), (8, .int .i64 s10937.2), (9, .int .i64 s11379.2)]) (fun s11379 (a11380, n11380, c11380, ob11380, blk11380) hh => St φ lo hh ((ob11380, blk11380) :: (some b10341, .cells [.int .i64 p10335.Nodes, .slice a10336 n10336 c10336, .slice a10337 n10337 c10337] 25 .exact) :: own) ∧ OSl eBool φ 4 ob11380 blk11380 (.slice a11380 n11380 c11380) s11379.1) (s10937.1, 0) (a10938, n10938, c10938, ob10938, blk10938) (sub_cons rfl (sub_cons rfl (sub_cons rfl (sub_cons rfl (sub_cons rfl sub_nil))))) ⟨X11233, O10938⟩ ?_
    rintro n11453 ih11452 s11379 ⟨a11380, n11380, c11380, ob11380, blk11380⟩ t0 h11455 ⟨X11454, O11380⟩
    refine dseq ?_
    refine dseq ?_
    refine dreg ?_
    refine lpure (v := .int .i64 s11379.2) rfl (p_move rfl) rfl rfl ?_
    refine lpure (v := .pointer (some ⟨b10341, 2, none⟩)) rfl (p_fa fo_25_2 rfl) rfl rfl ?_
    refine lread (v := .slice a10337 n10337 c10337) rfl (q_load wd_23 rfl) (St.ld X11454 (j := 1) rfl rfl) rfl ?_
    refine lpure (v := .int .i64 (p10335.Links.length : Int)) rfl (p_len rfl rfl rfl un_23 rfl) (RSl.lenC H10337) rfl ?_
    refine lpure (v := .bool (decide (s11379.2 < (p10335.Links.length : Int)))) rfl (p_lt rfl) rfl rfl ?_
    refine lend ?_
    refine nseq ?_
    refine dcond rfl rfl (fun k11456 => ?_) (fun k11456 => ?_)
    · refine dskip ?_
      refine nseq ?_
      refine dseq ?_
      refine dblock ?_
      refine dseq ?_
      refine dreg ?_
      refine lpure (v := .pointer (some ⟨b10341, 2, none⟩)) rfl (p_fa fo_25_2 rfl) rfl rfl ?_
      refine lread (v := .slice a10337 n10337 c10337) rfl (q_load wd_23 rfl) (St.ld X11454 (j := 1) rfl rfl) rfl ?_
      refine lpure (v := .int .i64 s11379.2) rfl (p_move rfl) rfl rfl ?_
      refine Sim.bindM fun e11457 he11458 => ?_
      obtain ⟨p11459, cs11459, hp11459, hF11459, hR11459⟩ := RSl.ia H10337 he11458 (kd := .i64) (n := 4) rfl
      obtain rfl := eApiLink_el hR11459
      refine lpure (v := p11459) rfl (p_ia rs_23 rfl) hp11459 rfl ?_
      refine lread (v := .agg #[.int .i64 e11457.A, .int .i64 e11457.B, .int .i64 e11457.Per, .int .i64 e11457.Delay]) rfl (q_load wd_50 rfl) (FP.ldw X11454 hF11459 rfl rfl) rfl ?_
      refine lalloc rfl tz_50 rfl rfl rfl X11454 (fun b11460 h11462 X11463 => ?_)
      refine lstore rfl ts_50 rfl rfl (j := 0) rfl rfl rfl rfl rfl rfl X11463 (fun h11464 X11465 => ?_)
      refine lend ?_
      refine nseq ?_
      refine dseq ?_
      refine dreg ?_
      refine lpure (v := .slice a10340 n10340 c10340) rfl (p_move rfl) rfl rfl ?_
      refine lpure (v := .int .i64 s11379.2) rfl (p_move rfl) rfl rfl ?_
      refine lcall rfl rfl ca_48 rfl rfl (f48_ok X11465 p10339 (s11379.2) H10340) rfl (fun e11466 v11467 h11468 hq11469 => ?_)
      cases hq11469
      refine lpure (v := .bool (!e11466)) rfl (p_not rfl) rfl rfl ?_
      refine lpure (v := .bool (!e11466)) rfl (p_move rfl) rfl rfl ?_
      refine ljoinM (τ := (List Bool) × Bool) (σ := Option Addr × Nat × Nat × Option Nat × Blk) (fun s11479 (a11480, n11480, c11480, ob11480, blk11480) => [(2, .slice a10340 n10340 c10340), (3, .pointer (some ⟨b10341, 0, none⟩)), (7, .slice a11480 n11480 c11480), (8, .int .i64 s10937.2), (9, .int .i64 s11379.2), (10, .pointer (some ⟨b11460, 0, none⟩)), (52, .bool s11479.2)]) (fun s11479 (a11480, n11480, c11480, ob11480, blk11480) hh => St φ lo hh ((some b11460, .cells [.int .i64 e11457.A, .int .i64 e11457.B, .int .i64 e11457.Per, .int .i64 e11457.Delay] 50 .exact) :: (ob11480, blk11480) :: (some b10341, .cells [.int .i64 p10335.Nodes, .slice a10336 n10336 c10336, .slice a10337 n10337 c10337] 25 .exact) :: own) ∧ OSl eBool φ 4 ob11480 blk11480 (.slice a11480 n11480 c11480) s11479.1) 13 ?_ ?_
      · rintro s11479 ⟨a11480, n11480, c11480, ob11480, blk11480⟩ t0 h11482 ⟨X11481, O11480⟩
        refine lend ?_
        refine nseq ?_
        refine djoinM (τ := (List Bool)) (σ := Option Addr × Nat × Nat × Option Nat × Blk) (fun s11496 (a11497, n11497, c11497, ob11497, blk11497) => [(2, .slice a10340 n10340 c10340), (3, .pointer (some ⟨b10341, 0, none⟩)), (7, .slice a11497 n11497 c11497), (8, .int .i64 s10937.2), (9, .int .i64 s11379.2)]) (fun s11496 (a11497, n11497, c11497, ob11497, blk11497) hh => St φ lo hh ((some b11460, .cells [.int .i64 e11457.A, .int .i64 e11457.B, .int .i64 e11457.Per, .int .i64 e11457.Delay] 50 .exact) :: (ob11497, blk11497) :: (some b10341, .cells [.int .i64 p10335.Nodes, .slice a10336 n10336 c10336, .slice a10337 n10337 c10337] 25 .exact) :: own) ∧ OSl eBool φ 4 ob11497 blk11497 (.slice a11497 n11497 c11497) s11496) ?_ ?_
        · rintro s11496 ⟨a11497, n11497, c11497, ob11497, blk11497⟩ t0 h11499 ⟨X11498, O11497⟩
          refine nblock ?_
          refine nseq ?_
          refine dreg ?_
          refine lpure (v := .int .i64 s11379.2) rfl (p_move rfl) rfl rfl ?_
          refine lpure (v := .int .i64 (w64 (s11379.2 + 1))) rfl (p_add rfl) rfl rfl ?_
          refine lpure (v := .int .i64 (w64 (s11379.2 + 1))) rfl (p_assign rfl) rfl rfl ?_
          refine lend ?_
          exact kbackM ih11452 (s11496, (w64 (s11379.2 + 1))) (a11497, n11497, c11497, ob11497, blk11497) (sub_cons rfl (sub_cons rfl (sub_cons rfl (sub_cons rfl (sub_cons rfl sub_nil))))) ⟨(St.pick X11498 (.skip _ (.keep _ (.keep _ (.refl _))))), O11497⟩
        · intro j11500 J11501
          refine dcond rfl rfl (fun k11483 => ?_) (fun k11483 => ?_)
          · refine dseq ?_
            refine dreg ?_
            refine lpure (v := .slice a11480 n11480 c11480) rfl (p_move rfl) rfl rfl ?_
            refine lpure (v := .pointer (some ⟨b11460, 0, none⟩)) rfl (p_fa fo_50_0 rfl) rfl rfl ?_
            refine lread (v := .int .i64 e11457.A) rfl (q_load wd_3 rfl) (St.ld X11481 (j := 0) rfl rfl) rfl ?_
            refine Sim.bindM fun e11502 he11503 => ?_
            obtain ⟨b11504, vs11504, m11504, off11504, cs11504, rfl, rfl, hp11504, hc11504, hR11504, hl11504, hm11504, hs11504⟩ := OSl.ia O11480 he11503 (kd := .i64) (n := 1) rfl
            have hR11504 : _ = [(.bool e11502 : Value)] := hR11504
            subst hR11504
            refine lpure (v := .pointer (some ⟨b11504, off11504, none⟩)) rfl (p_ia rs_22 rfl) hp11504 rfl ?_
            have O11507 := hs11504 [.bool true] (true) rfl
            refine lstore rfl ts_4 rfl rfl (j := 1) rfl hm11504 rfl rfl (ble_iff.2 hl11504) rfl X11481 (fun h11505 X11506 => ?_)
            refine lend ?_
            refine nseq ?_
            refine dreg ?_
            refine lpure (v := .slice a11480 n11480 c11480) rfl (p_move rfl) rfl rfl ?_
            refine lpure (v := .pointer (some ⟨b11460, 1, none⟩)) rfl (p_fa fo_50_1 rfl) rfl rfl ?_
            refine lread (v := .int .i64 e11457.B) rfl (q_load wd_3 rfl) (St.ld X11506 (j := 0) rfl rfl) rfl ?_
            refine Sim.bindM fun e11508 he11509 => ?_
            obtain ⟨off11510, cs11510, hp11510, hc11510, hR11510, hl11510, hm11510, hs11510⟩ := OSl.iaC O11507 he11509 (kd := .i64) (n := 1) rfl
            have hR11510 : _ = [(.bool e11508 : Value)] := hR11510
            subst hR11510
            refine lpure (v := .pointer (some ⟨b11504, off11510, none⟩)) rfl (p_ia rs_22 rfl) hp11510 rfl ?_
            have O11513 := hs11510 [.bool true] (true) rfl
            refine lstore rfl ts_4 rfl rfl (j := 1) rfl hm11510 rfl rfl (ble_iff.2 hl11510) rfl X11506 (fun h11511 X11512 => ?_)
            refine lend ?_
            exact jmpM J11501 ((s11479.1.set (e11457.A).toNat true).set (e11457.B).toNat true) (a11480, n11480, c11480, some b11504, (.cells (setAt (setAt vs11504 off11504 [.bool true]) off11510 [.bool true]) 4 m11504)) (sub_cons rfl (sub_cons rfl (sub_cons rfl (sub_cons rfl (sub_cons rfl sub_nil))))) ⟨X11512, O11513⟩
          · refine dskip ?_
            exact jmpM J11501 s11479.1 (a11480, n11480, c11480, ob11480, blk11480) (sub_cons rfl (sub_cons rfl (sub_cons rfl (sub_cons rfl (sub_cons rfl sub_nil))))) ⟨X11481, O11480⟩
      · intro j11514 J11515
        refine lif (i := 39) (show _ = Value.bool (!e11466) from rfl) (fun k11516 => ?_) (fun k11516 => ?_)
        · refine lpure (v := .slice a11380 n11380 c11380) rfl (p_move rfl) rfl rfl ?_
          refine lpure (v := .pointer (some ⟨b11460, 0, none⟩)) rfl (p_fa fo_50_0 rfl) rfl rfl ?_
          refine lread (v := .int .i64 e11457.A) rfl (q_load wd_3 rfl) (St.ld X11465 (j := 0) rfl rfl) rfl ?_
          refine Sim.bindM fun e11517 he11518 => ?_
          obtain ⟨b11519, vs11519, m11519, off11519, cs11519, rfl, rfl, hp11519, hc11519, hR11519, hl11519, hm11519, hs11519⟩ := OSl.ia O11380 he11518 (kd := .i64) (n := 1) rfl
          have hR11519 : _ = [(.bool e11517 : Value)] := hR11519
          subst hR11519
          refine lpure (v := .pointer (some ⟨b11519, off11519, none⟩)) rfl (p_ia rs_22 rfl) hp11519 rfl ?_
          refine lread (v := .bool e11517) rfl (q_load wd_4 rfl) (St.ld X11465 (j := 1) rfl (rdE1 hc11519 (k := 0) rfl rfl)) rfl ?_
          refine lpure (v := .bool e11517) rfl (p_move rfl) rfl rfl ?_
          refine lif (i := 45) (show _ = Value.bool e11517 from rfl) (fun k11520 => ?_) (fun k11520 => ?_)
          · refine lskip rfl rfl ?_
            refine lskip rfl rfl ?_
            refine lskip rfl rfl ?_
            refine lskip rfl rfl ?_
            refine lskip rfl rfl ?_
            refine lpure (v := .bool true) rfl (p_pick rfl) rfl rfl ?_
            refine lpure (v := .bool true) rfl (p_pick rfl) rfl rfl ?_
            exact ljmpM J11515 (s11379.1, true) (a11380, n11380, c11380, some b11519, .cells vs11519 4 m11519) (sub_cons rfl (sub_cons rfl (sub_cons rfl (sub_cons rfl (sub_cons rfl (sub_cons rfl (sub_cons rfl sub_nil))))))) ⟨X11465, O11380⟩
          · refine lpure (v := .slice a11380 n11380 c11380) rfl (p_move rfl) rfl rfl ?_
            refine lpure (v := .pointer (some ⟨b11460, 1, none⟩)) rfl (p_fa fo_50_1 rfl) rfl rfl ?_
            refine lread (v := .int .i64 e11457.B) rfl (q_load wd_3 rfl) (St.ld X11465 (j := 0) rfl rfl) rfl ?_
            refine Sim.bindM fun e11521 he11522 => ?_
            obtain ⟨off11523, cs11523, hp11523, hc11523, hR11523, hl11523, hm11523, hs11523⟩ := OSl.iaC O11380 he11522 (kd := .i64) (n := 1) rfl
            have hR11523 : _ = [(.bool e11521 : Value)] := hR11523
            subst hR11523
            refine lpure (v := .pointer (some ⟨b11519, off11523, none⟩)) rfl (p_ia rs_22 rfl) hp11523 rfl ?_
            refine lread (v := .bool e11521) rfl (q_load wd_4 rfl) (St.ld X11465 (j := 1) rfl (rdE1 hc11523 (k := 0) rfl rfl)) rfl ?_
            refine lpure (v := .bool e11521) rfl (p_pick rfl) rfl rfl ?_
            refine lpure (v := .bool e11521) rfl (p_pick rfl) rfl rfl ?_
            exact ljmpM J11515 (s11379.1, e11521) (a11380, n11380, c11380, some b11519, .cells vs11519 4 m11519) (sub_cons rfl (sub_cons rfl (sub_cons rfl (sub_cons rfl (sub_cons rfl (sub_cons rfl (sub_cons rfl sub_nil))))))) ⟨X11465, O11380⟩
        · refine lskip rfl rfl ?_
          refine lskip rfl rfl ?_
          refine lskip rfl rfl ?_
          refine lskip rfl rfl ?_
          refine lskip rfl rfl ?_
          refine lskip rfl rfl ?_
          refine lskip rfl rfl ?_
          refine lskip rfl rfl ?_
          refine lskip rfl rfl ?_
          refine lskip rfl rfl ?_
          refine lskip rfl rfl ?_
          refine lskip rfl rfl ?_
          refine lpure (v := .bool false) rfl (p_pick rfl) rfl rfl ?_
          exact ljmpM J11515 (s11379.1, false) (a11380, n11380, c11380, ob11380, blk11380) (sub_cons rfl (sub_cons rfl (sub_cons rfl (sub_cons rfl (sub_cons rfl (sub_cons rfl (sub_cons rfl sub_nil))))))) ⟨X11465, O11380⟩
    · refine dexit ?_
      refine eseq ?_
      refine eloop ?_
      refine xblock ?_
      refine nblock ?_
      refine nseq ?_
      refine dreg ?_
      refine lpure (v := .int .i64 s10937.2) rfl (p_move rfl) rfl rfl ?_
      refine lpure (v := .int .i64 (w64 (s10937.2 + 1))) rfl (p_add rfl) rfl rfl ?_
      refine lpure (v := .int .i64 (w64 (s10937.2 + 1))) rfl (p_assign rfl) rfl rfl ?_
      refine lend ?_
      exact kbackM ih11231 (s11379.1, (w64 (s10937.2 + 1))) (a11380, n11380, c11380, ob11380, blk11380) (sub_cons rfl (sub_cons rfl (sub_cons rfl (sub_cons rfl sub_nil)))) ⟨X11454, O11380⟩
  · refine dexit ?_
    refine eseq ?_
    refine eloop ?_
    refine xblock ?_
    refine nseq ?_
    refine dseq ?_
    refine dreg ?_
    refine lpure (v := .slice a10938 n10938 c10938) rfl (p_move rfl) rfl rfl ?_
    refine lpure (v := .slice a10938 n10938 c10938) rfl (p_assign rfl) rfl rfl ?_
    refine lend ?_
    refine nseq ?_
    refine dret ?_
    exact kopen_r (res_1 resT) ⟨φ, a10938, n10938, c10938, ob10938, blk10938, (Fz.le_refl _), St.pick X11233 (.keep _ (.skip _ (.refl _))), rfl, O10938⟩
/-! isochron/isochronref16.Joins -/
theorem f44_ok {n : Nat} {φ : Fz} {lo : Nat} {h : Heap} {own : OwnL} (X : St φ lo h own) (p11717 : ApiLink) (p11718 : Int) (p11719 : Int) : Sim ((recN Try.prog LL cutF (n + 1)).call 44 #[(.agg #[.int .i64 p11717.A, .int .i64 p11717.B, .int .i64 p11717.Per, .int .i64 p11717.Delay]), (.int .i64 p11718), (.int .i64 p11719)] h) (m_isochronref16_Joins p11717 p11718 p11719) (fun (d : Bool) p => p = (.bool d, h)) := by
  refine fcut Try.func44 rfl rfl rfl rfl X ?_
  intro h0 X0
  refine dseq ?_
  refine dreg ?_
  refine lbox rfl rfl rfl rfl rfl X0 (fun b11720 h11722 X11723 => ?_)
  refine lpure (v := .bool false) rfl (p_assign rfl) rfl rfl ?_
  refine lend ?_
  refine nseq ?_
  refine dseq ?_
  refine dreg ?_
  refine lpure (v := .pointer (some ⟨b11720, 0, none⟩)) rfl (p_fa fo_50_0 rfl) rfl rfl ?_
  refine lread (v := .int .i64 p11717.A) rfl (q_load wd_3 rfl) (St.ld X11723 (j := 0) rfl rfl) rfl ?_
  refine lpure (v := .int .i64 p11718) rfl (p_move rfl) rfl rfl ?_
  refine lpure (v := .bool (decide (p11717.A = p11718))) rfl (p_eq rfl) rfl rfl ?_
  refine lpure (v := .bool (decide (p11717.A = p11718))) rfl (p_move rfl) rfl rfl ?_
  refine lsh (τ := Bool) (σ := Unit) (fun s11725 (_ : Unit) => [(1, .int .i64 p11718), (2, .int .i64 p11719), (3, .pointer (some ⟨b11720, 0, none⟩)), (16, .bool s11725)]) (fun s11725 (_ : Unit) hh => St φ h.n hh ([(some b11720, .cells [.int .i64 p11717.A, .int .i64 p11717.B, .int .i64 p11717.Per, .int .i64 p11717.Delay] 50 .exact)])) 5 ?_ ?_
  · rintro s11725 _ t0 h11727 X11726
    refine lpure (v := .bool s11725) rfl (p_move rfl) rfl rfl ?_
    refine lsh (τ := Bool) (σ := Unit) (fun s11729 (_ : Unit) => [(28, .bool s11729)]) (fun s11729 (_ : Unit) hh => St φ h.n hh ([(some b11720, .cells [.int .i64 p11717.A, .int .i64 p11717.B, .int .i64 p11717.Per, .int .i64 p11717.Delay] 50 .exact)])) 11 ?_ ?_
    · rintro s11729 _ t0 h11731 X11730
      refine lpure (v := .bool s11729) rfl (p_assign rfl) rfl rfl ?_
      refine lend ?_
      refine nseq ?_
      refine dret ?_
      exact kcut_r (res_1 resT) X11730 rfl rfl
    · intro j11732 J11733
      refine lcase (i := 17) (show _ = Value.bool s11725 from rfl) (fun k11734 => ?_) (fun k11734 => ?_)
      · refine lskip rfl rfl ?_
        refine lskip rfl rfl ?_
        refine lskip rfl rfl ?_
        refine lskip rfl rfl ?_
        refine lskip rfl rfl ?_
        refine lskip rfl rfl ?_
        refine lskip rfl rfl ?_
        refine lskip rfl rfl ?_
        refine lskip rfl rfl ?_
        refine lskip rfl rfl ?_
        refine lpure (v := .bool true) rfl (p_pick rfl) rfl rfl ?_
        refine Sim.of_eq (congrArg j11732 (show (s11725 || ((decide (p11717.A = p11719)) && (decide (p11717.B = p11718)))) = true from by rw [k11734] <;> rfl)) ?_
        exact ljmpM J11733 true () (sub_cons rfl sub_nil) X11726
      · refine lpure (v := .pointer (some ⟨b11720, 0, none⟩)) rfl (p_fa fo_50_0 rfl) rfl rfl ?_
        refine lread (v := .int .i64 p11717.A) rfl (q_load wd_3 rfl) (St.ld X11726 (j := 0) rfl rfl) rfl ?_
        refine lpure (v := .int .i64 p11719) rfl (p_move rfl) rfl rfl ?_
        refine lpure (v := .bool (decide (p11717.A = p11719))) rfl (p_eq rfl) rfl rfl ?_
        refine lpure (v := .bool (decide (p11717.A = p11719))) rfl (p_move rfl) rfl rfl ?_
        refine lcase (i := 22) (show _ = Value.bool (decide (p11717.A = p11719)) from rfl) (fun k11735 => ?_) (fun k11735 => ?_)
        · refine lpure (v := .pointer (some ⟨b11720, 1, none⟩)) rfl (p_fa fo_50_1 rfl) rfl rfl ?_
          refine lread (v := .int .i64 p11717.B) rfl (q_load wd_3 rfl) (St.ld X11726 (j := 0) rfl rfl) rfl ?_
          refine lpure (v := .int .i64 p11718) rfl (p_move rfl) rfl rfl ?_
          refine lpure (v := .bool (decide (p11717.B = p11718))) rfl (p_eq rfl) rfl rfl ?_
          refine lpure (v := .bool (decide (p11717.B = p11718))) rfl (p_pick rfl) rfl rfl ?_
          refine lpure (v := .bool (decide (p11717.B = p11718))) rfl (p_pick rfl) rfl rfl ?_
          refine Sim.of_eq (congrArg j11732 (show (s11725 || ((decide (p11717.A = p11719)) && (decide (p11717.B = p11718)))) = (decide (p11717.B = p11718)) from by rw [k11734, k11735] <;> rfl)) ?_
          exact ljmpM J11733 (decide (p11717.B = p11718)) () (sub_cons rfl sub_nil) X11726
        · refine lskip rfl rfl ?_
          refine lskip rfl rfl ?_
          refine lskip rfl rfl ?_
          refine lskip rfl rfl ?_
          refine lpure (v := .bool false) rfl (p_pick rfl) rfl rfl ?_
          refine lpure (v := .bool false) rfl (p_pick rfl) rfl rfl ?_
          refine Sim.of_eq (congrArg j11732 (show (s11725 || ((decide (p11717.A = p11719)) && (decide (p11717.B = p11718)))) = false from by rw [k11734, k11735] <;> rfl)) ?_
          exact ljmpM J11733 false () (sub_cons rfl sub_nil) X11726
  · intro j11736 J11737
    refine lcase (i := 11) (show _ = Value.bool (decide (p11717.A = p11718)) from rfl) (fun k11738 => ?_) (fun k11738 => ?_)
    · refine lpure (v := .pointer (some ⟨b11720, 1, none⟩)) rfl (p_fa fo_50_1 rfl) rfl rfl ?_
      refine lread (v := .int .i64 p11717.B) rfl (q_load wd_3 rfl) (St.ld X11723 (j := 0) rfl rfl) rfl ?_
      refine lpure (v := .int .i64 p11719) rfl (p_move rfl) rfl rfl ?_
      refine lpure (v := .bool (decide (p11717.B = p11719))) rfl (p_eq rfl) rfl rfl ?_
      refine lpure (v := .bool (decide (p11717.B = p11719))) rfl (p_pick rfl) rfl rfl ?_
      refine Sim.of_eq (congrArg j11736 (show ((decide (p11717.A = p11718)) && (decide (p11717.B = p11719))) = (decide (p11717.B = p11719)) from by rw [k11738] <;> rfl)) ?_
      exact ljmpM J11737 (decide (p11717.B = p11719)) () (sub_cons rfl (sub_cons rfl (sub_cons rfl (sub_cons rfl sub_nil)))) X11723
    · refine lskip rfl rfl ?_
      refine lskip rfl rfl ?_
      refine lskip rfl rfl ?_
      refine lskip rfl rfl ?_
      refine lpure (v := .bool false) rfl (p_pick rfl) rfl rfl ?_
      refine Sim.of_eq (congrArg j11736 (show ((decide (p11717.A = p11718)) && (decide (p11717.B = p11719))) = false from by rw [k11738] <;> rfl)) ?_
      exact ljmpM J11737 false () (sub_cons rfl (sub_cons rfl (sub_cons rfl (sub_cons rfl sub_nil)))) X11723
/-! isochron/isochronref16.Right -/
theorem f13_ok {n : Nat} {φ : Fz} {lo : Nat} {h : Heap} {own : OwnL} (X : St φ lo h own) (p8906 : ApiTopo) {a8907 : Option Addr} {n8907 c8907 : Nat} {a8908 : Option Addr} {n8908 c8908 : Nat} (H8907 : RSl eBool φ (.slice a8907 n8907 c8907) p8906.Station) (H8908 : RSl eApiLink φ (.slice a8908 n8908 c8908) p8906.Links) : Sim ((recN Try.prog LL cutF (n + 3)).call 13 #[(.agg #[.int .i64 p8906.Nodes, .slice a8907 n8907 c8907, .slice a8908 n8908 c8908])] h) (m_isochronref16_Right p8906) (fun (d : Bool) p => p = (.bool d, h)) := by
  refine fcut Try.func13 rfl rfl rfl rfl X ?_
  intro h0 X0
  refine dseq ?_
  refine dreg ?_
  refine lbox rfl rfl rfl rfl rfl X0 (fun b8909 h8911 X8912 => ?_)
  refine lpure (v := .bool false) rfl (p_assign rfl) rfl rfl ?_
  refine lend ?_
  refine nseq ?_
  refine dseq ?_
  refine dseq ?_
  refine dreg ?_
  refine lpure (v := .pointer (some ⟨b8909, 0, none⟩)) rfl (p_fa fo_25_0 rfl) rfl rfl ?_
  refine lread (v := .int .i64 p8906.Nodes) rfl (q_load wd_3 rfl) (St.ld X8912 (j := 0) rfl rfl) rfl ?_
  refine lpure (v := .bool (decide (p8906.Nodes < 2))) rfl (p_lt rfl) rfl rfl ?_
  refine lpure (v := .bool (decide (p8906.Nodes < 2))) rfl (p_move rfl) rfl rfl ?_
  refine lsh (τ := Bool) (σ := Unit) (fun s8914 (_ : Unit) => [(1, .pointer (some ⟨b8909, 0, none⟩)), (16, .bool s8914)]) (fun s8914 (_ : Unit) hh => St φ h.n hh ([(some b8909, .cells [.int .i64 p8906.Nodes, .slice a8907 n8907 c8907, .slice a8908 n8908 c8908] 25 .exact)])) 4 ?_ ?_
  · rintro s8914 _ t0 h8916 X8915
    refine lpure (v := .bool s8914) rfl (p_move rfl) rfl rfl ?_
    refine lsh (τ := Bool) (σ := Unit) (fun s8918 (_ : Unit) => [(1, .pointer (some ⟨b8909, 0, none⟩)), (24, .bool s8918)]) (fun s8918 (_ : Unit) hh => St φ h.n hh ([(some b8909, .cells [.int .i64 p8906.Nodes, .slice a8907 n8907 c8907, .slice a8908 n8908 c8908] 25 .exact)])) 7 ?_ ?_
    · rintro s8918 _ t0 h8920 X8919
      refine lpure (v := .bool s8918) rfl (p_move rfl) rfl rfl ?_
      refine lsh (τ := Bool) (σ := Unit) (fun s8922 (_ : Unit) => [(1, .pointer (some ⟨b8909, 0, none⟩)), (30, .bool s8922)]) (fun s8922 (_ : Unit) hh => St φ h.n hh ([(some b8909, .cells [.int .i64 p8906.Nodes, .slice a8907 n8907 c8907, .slice a8908 n8908 c8908] 25 .exact)])) 5 ?_ ?_
      · rintro s8922 _ t0 h8924 X8923
        refine lend ?_
        refine nseq ?_
        refine dcond rfl rfl (fun k8925 => ?_) (fun k8925 => ?_)
        · refine dseq ?_
          refine dreg ?_
          refine lpure (v := .bool false) rfl (p_assign rfl) rfl rfl ?_
          refine lend ?_
          refine nseq ?_
          refine dret ?_
          refine rseq ?_
          exact kcut_r (res_1 resT) X8923 rfl rfl
        · refine dskip ?_
          refine nseq ?_
          refine dseq ?_
          refine dreg ?_
          refine lpure (v := .pointer (some ⟨b8909, 0, none⟩)) rfl (p_fa fo_25_0 rfl) rfl rfl ?_
          refine lread (v := .int .i64 p8906.Nodes) rfl (q_load wd_3 rfl) (St.ld X8923 (j := 0) rfl rfl) rfl ?_
          refine Sim.mustM fun k8926 => ?_
          have k8926 := of_decide_eq_true k8926
          obtain ⟨h8926, b8926, vs8926, hv8926, X8926, O8926⟩ := OSl.mk (E := (eInt .i64)) (φ := φ) (a0 := 0) (k := .i64) (k' := .i64) (l := p8906.Nodes) (c := p8906.Nodes) un_28 tb_3 rfl ts_3 rfl rfl tz_3 rfl rfl rfl (by omega) (by omega) (by omega) X8923
          refine lheap rfl (h_makeSlice rfl) hv8926 rfl ?_
          refine lpure (v := .slice (some ⟨b8926, 0, none⟩) (p8906.Nodes).toNat (p8906.Nodes).toNat) rfl (p_assign rfl) rfl rfl ?_
          refine lend ?_
          refine nseq ?_
          refine dseq ?_
          refine dseq ?_
          refine dreg ?_
          refine lpure (v := .int .i64 0) rfl (p_assign rfl) rfl rfl ?_
          refine lend ?_
          refine nseq ?_
          refine dblock ?_
          refine dloopM (τ := (List Int) × Int) (σ := Option Addr × Nat × Nat × Option Nat × Blk) (fun s12025 (a12026, n12026, c12026, ob12026, blk12026) => [(1, .pointer (some ⟨b8909, 0, none⟩)), (3, .slice a12026 n12026 c12026), (4, .int .i64 s12025.2)]) (fun s12025 (a12026, n12026, c12026, ob12026, blk12026) hh => St φ h.n hh ([(ob12026, blk12026), (some b8909, .cells [.int .i64 p8906.Nodes, .slice a8907 n8907 c8907, .slice a8908 n8908 c8908] 25 .exact)]) ∧ OSl (eInt .i64) φ 3 ob12026 blk12026 (.slice a12026 n12026 c12026) s12025.1) ((List.replicate (p8906.Nodes).toNat 0), 0) ((some ⟨b8926, 0, none⟩), (p8906.Nodes).toNat, (p8906.Nodes).toNat, some b8926, (.cells vs8926 3 .exact)) (sub_cons rfl (sub_cons rfl (sub_cons rfl sub_nil))) ⟨X8926, O8926⟩ ?_
          rintro n12339 ih12338 s12025 ⟨a12026, n12026, c12026, ob12026, blk12026⟩ t0 h12341 ⟨X12340, O12026⟩
          refine dseq ?_
          refine dseq ?_
          refine dreg ?_
          refine lpure (v := .int .i64 s12025.2) rfl (p_move rfl) rfl rfl ?_
          refine lpure (v := .pointer (some ⟨b8909, 2, none⟩)) rfl (p_fa fo_25_2 rfl) rfl rfl ?_
          refine lread (v := .slice a8908 n8908 c8908) rfl (q_load wd_23 rfl) (St.ld X12340 (j := 1) rfl rfl) rfl ?_
          refine lpure (v := .int .i64 (p8906.Links.length : Int)) rfl (p_len rfl rfl rfl un_23 rfl) (RSl.lenC H8908) rfl ?_
          refine lpure (v := .bool (decide (s12025.2 < (p8906.Links.length : Int)))) rfl (p_lt rfl) rfl rfl ?_
          refine lend ?_
          refine nseq ?_
          refine dcond rfl rfl (fun k12342 => ?_) (fun k12342 => ?_)
          · refine dskip ?_
            refine nseq ?_
            refine dseq ?_
            refine dblock ?_
            refine dseq ?_
            refine dreg ?_
            refine lpure (v := .pointer (some ⟨b8909, 2, none⟩)) rfl (p_fa fo_25_2 rfl) rfl rfl ?_
            refine lread (v := .slice a8908 n8908 c8908) rfl (q_load wd_23 rfl) (St.ld X12340 (j := 1) rfl rfl) rfl ?_
            refine lpure (v := .int .i64 s12025.2) rfl (p_move rfl) rfl rfl ?_
            refine Sim.bindM fun e12343 he12344 => ?_
            obtain ⟨p12345, cs12345, hp12345, hF12345, hR12345⟩ := RSl.ia H8908 he12344 (kd := .i64) (n := 4) rfl
            obtain rfl := eApiLink_el hR12345
            refine lpure (v := p12345) rfl (p_ia rs_23 rfl) hp12345 rfl ?_
            refine lread (v := .agg #[.int .i64 e12343.A, .int .i64 e12343.B, .int .i64 e12343.Per, .int .i64 e12343.Delay]) rfl (q_load wd_50 rfl) (FP.ldw X12340 hF12345 rfl rfl) rfl ?_
            refine lalloc rfl tz_50 rfl rfl rfl X12340 (fun b12346 h12348 X12349 => ?_)
            refine lstore rfl ts_50 rfl rfl (j := 0) rfl rfl rfl rfl rfl rfl X12349 (fun h12350 X12351 => ?_)
            refine lend ?_
            refine nseq ?_
            refine dseq ?_
            refine dseq ?_
            refine dreg ?_
            refine lread (v := .agg #[.int .i64 p8906.Nodes, .slice a8907 n8907 c8907, .slice a8908 n8908 c8908]) rfl (q_load wd_25 rfl) (St.ld X12351 (j := 2) rfl rfl) rfl ?_
            refine lread (v := .agg #[.int .i64 e12343.A, .int .i64 e12343.B, .int .i64 e12343.Per, .int .i64 e12343.Delay]) rfl (q_load wd_50 rfl) (St.ld X12351 (j := 0) rfl rfl) rfl ?_
            refine lcall rfl rfl ca_43 rfl rfl (f43_ok X12351 p8906 e12343 H8907 H8908) rfl (fun e12352 v12353 h12354 hq12355 => ?_)
            cases hq12355
            refine lpure (v := .bool (!e12352)) rfl (p_not rfl) rfl rfl ?_
            refine lend ?_
            refine nseq ?_
            refine dcond rfl rfl (fun k12356 => ?_) (fun k12356 => ?_)
            · refine dseq ?_
              refine dreg ?_
              refine lpure (v := .bool false) rfl (p_assign rfl) rfl rfl ?_
              refine lend ?_
              refine nseq ?_
              refine dret ?_
              refine rseq ?_
              refine rblock ?_
              refine rseq ?_
              refine rloop ?_
              refine rblock ?_
              refine rseq ?_
              exact kcut_r (res_1 resT) X12351 rfl rfl
            · refine dskip ?_
              refine nseq ?_
              refine dseq ?_
              refine dseq ?_
              refine dreg ?_
              refine lpure (v := .int .i64 0) rfl (p_assign rfl) rfl rfl ?_
              refine lend ?_
              refine nseq ?_
              refine dblock ?_
              refine dloopM (τ := Int) (σ := Unit) (fun s12417 (_ : Unit) => [(1, .pointer (some ⟨b8909, 0, none⟩)), (3, .slice a12026 n12026 c12026), (4, .int .i64 s12025.2), (5, .pointer (some ⟨b12346, 0, none⟩)), (6, .int .i64 s12417)]) (fun s12417 (_ : Unit) hh => St φ h.n hh ([(some b12346, .cells [.int .i64 e12343.A, .int .i64 e12343.B, .int .i64 e12343.Per, .int .i64 e12343.Delay] 50 .exact), (ob12026, blk12026), (some b8909, .cells [.int .i64 p8906.Nodes, .slice a8907 n8907 c8907, .slice a8908 n8908 c8908] 25 .exact)])) 0 () (sub_cons rfl (sub_cons rfl (sub_cons rfl (sub_cons rfl (sub_cons rfl sub_nil))))) X12351 ?_
              rintro n12449 ih12448 s12417 _ t0 h12451 X12450
              refine dseq ?_
              refine dseq ?_
              refine dreg ?_
              refine lpure (v := .int .i64 s12417) rfl (p_move rfl) rfl rfl ?_
              refine lpure (v := .int .i64 s12025.2) rfl (p_move rfl) rfl rfl ?_
              refine lpure (v := .bool (decide (s12417 < s12025.2))) rfl (p_lt rfl) rfl rfl ?_
              refine lend ?_
              refine nseq ?_
              refine dcond rfl rfl (fun k12452 => ?_) (fun k12452 => ?_)
              · refine dskip ?_
                refine nseq ?_
                refine dseq ?_
                refine dblock ?_
                refine dseq ?_
                refine ddraw 0 0 0 (by kernel_rfl) ?_
                refine spure (v := .pointer (some ⟨b8909, 2, none⟩)) rfl (p_fa fo_25_2 rfl) (lo_t (lo_own X12450 (j := 2) (o := 0) (s := none) (f := 0) rfl) rfl) rfl rfl ?_
                refine sload (v := .slice a8908 n8908 c8908) rfl rfl (q_load wd_23 rfl) (St.ld X12450 (j := 2) rfl rfl) (same_self 20 rfl) rfl ?_
                refine spure (v := .int .i64 s12417) rfl (p_move rfl) (lo_t rfl rfl) rfl rfl ?_
                refine Sim.bindM fun e12453 he12454 => ?_
                obtain ⟨p12455, cs12455, hp12455, hF12455, hR12455⟩ := RSl.ia H8908 he12454 (kd := .i64) (n := 4) rfl
                obtain rfl := eApiLink_el hR12455
                refine spure (v := p12455) rfl (p_ia rs_23 rfl) (lo_t (lo_sl X12450 H8908) (lo_t rfl rfl)) hp12455 rfl ?_
                refine sload (v := .agg #[.int .i64 e12453.A, .int .i64 e12453.B, .int .i64 e12453.Per, .int .i64 e12453.Delay]) rfl rfl (q_load wd_50 rfl) (FP.ldw X12450 hF12455 rfl rfl) (same_self 20 rfl) rfl ?_
                refine spure (v := .pointer (some ⟨b12346, 0, none⟩)) rfl (p_fa fo_50_0 rfl) (lo_t (lo_own X12450 (j := 0) (o := 0) (s := none) (f := 0) rfl) rfl) rfl rfl ?_
                refine sload (v := .int .i64 e12343.A) rfl rfl (q_load wd_3 rfl) (St.ld X12450 (j := 0) rfl rfl) (same_self 20 rfl) rfl ?_
                refine spure (v := .pointer (some ⟨b12346, 1, none⟩)) rfl (p_fa fo_50_1 rfl) (lo_t (lo_own X12450 (j := 0) (o := 0) (s := none) (f := 0) rfl) rfl) rfl rfl ?_
                refine sload (v := .int .i64 e12343.B) rfl rfl (q_load wd_3 rfl) (St.ld X12450 (j := 0) rfl rfl) (same_self 20 rfl) rfl ?_
                refine scall (en := fun d => (.bool d)) rfl rfl ca_44 rfl rfl (f44_ok X12450 e12453 (e12343.A) (e12343.B)) rfl (fun e12456 => ?_)
                refine send ?_
                refine nseq ?_
                refine dcond rfl rfl (fun k12460 => ?_) (fun k12460 => ?_)
                · refine dseq ?_
                  refine dreg ?_
                  refine lpure (v := .bool false) rfl (p_assign rfl) rfl rfl ?_
                  refine lend ?_
                  refine nseq ?_
                  refine dret ?_
                  refine rblock ?_
                  refine rseq ?_
                  refine rloop ?_
                  refine rblock ?_
                  refine rseq ?_
                  refine rblock ?_
                  refine rseq ?_
                  refine rloop ?_
                  refine rblock ?_
                  refine rseq ?_
                  exact kcut_r (res_1 resT) X12450 rfl rfl
                · refine dskip ?_
                  refine nblock ?_
                  refine nseq ?_
                  refine dreg ?_
                  refine lpure (v := .int .i64 s12417) rfl (p_move rfl) rfl rfl ?_
                  refine lpure (v := .int .i64 (w64 (s12417 + 1))) rfl (p_add rfl) rfl rfl ?_
                  refine lpure (v := .int .i64 (w64 (s12417 + 1))) rfl (p_assign rfl) rfl rfl ?_
                  refine lend ?_
                  exact kbackM ih12448 (w64 (s12417 + 1)) () (sub_cons rfl (sub_cons rfl (sub_cons rfl (sub_cons rfl (sub_cons rfl sub_nil))))) X12450
              · refine dexit ?_
                refine eseq ?_
                refine eloop ?_
                refine xblock ?_
                refine nseq ?_
                refine dseq ?_
                refine ddraw 1024 1024 0 (by kernel_rfl) ?_
                refine spure (v := .slice a12026 n12026 c12026) rfl (p_move rfl) (lo_t (lo_osl X12450 (j := 1) rfl O12026) rfl) rfl rfl ?_
                refine spure (v := .pointer (some ⟨b12346, 0, none⟩)) rfl (p_fa fo_50_0 rfl) (lo_t (lo_own X12450 (j := 0) (o := 0) (s := none) (f := 0) rfl) rfl) rfl rfl ?_
                refine sload (v := .int .i64 e12343.A) rfl rfl (q_load wd_3 rfl) (St.ld X12450 (j := 0) rfl rfl) (same_self 20 rfl) rfl ?_
                refine spure (v := .slice a12026 n12026 c12026) rfl (p_move rfl) (lo_t (lo_osl X12450 (j := 1) rfl O12026) rfl) rfl rfl ?_
                refine spure (v := .pointer (some ⟨b12346, 0, none⟩)) rfl (p_fa fo_50_0 rfl) (lo_t (lo_own X12450 (j := 0) (o := 0) (s := none) (f := 0) rfl) rfl) rfl rfl ?_
                refine sload (v := .int .i64 e12343.A) rfl rfl (q_load wd_3 rfl) (St.ld X12450 (j := 0) rfl rfl) (same_self 20 rfl) rfl ?_
                refine Sim.bindM fun e12461 he12462 => ?_
                obtain ⟨b12463, vs12463, m12463, off12463, cs12463, rfl, rfl, hp12463, hc12463, hR12463, hl12463, hm12463, hs12463⟩ := OSl.ia O12026 he12462 (kd := .i64) (n := 1) rfl
                have hR12463 : _ = [(.int .i64 e12461 : Value)] := hR12463
                subst hR12463
                refine spure (v := .pointer (some ⟨b12463, off12463, none⟩)) rfl (p_ia rs_28 rfl) (lo_t (lo_osl X12450 (j := 1) rfl O12026) (lo_t rfl rfl)) hp12463 rfl ?_
                refine sload (v := .int .i64 e12461) rfl rfl (q_load wd_3 rfl) (St.ld X12450 (j := 1) rfl (rdE1 hc12463 (k := 0) rfl rfl)) (same_self 20 rfl) rfl ?_
                refine spure (v := .int .i64 (w64 (e12461 + 1))) rfl (p_add rfl) (lo_t rfl (lo_c rfl)) rfl rfl ?_
                refine Sim.bindM fun e12464 he12465 => ?_
                obtain ⟨off12466, cs12466, hp12466, hc12466, hR12466, hl12466, hm12466, hs12466⟩ := OSl.iaC O12026 he12465 (kd := .i64) (n := 1) rfl
                have hR12466 : _ = [(.int .i64 e12464 : Value)] := hR12466
                subst hR12466
                refine spure (v := .pointer (some ⟨b12463, off12466, none⟩)) rfl (p_ia rs_28 rfl) (lo_t (lo_osl X12450 (j := 1) rfl O12026) (lo_t rfl rfl)) hp12466 rfl ?_
                have O12469 := hs12466 [.int .i64 (w64 (e12461 + 1))] ((w64 (e12461 + 1))) rfl
                refine sstore rfl rfl ts_3 rfl rfl (j := 1) rfl hm12466 rfl rfl (ble_iff.2 hl12466) rfl X12450 (fun h12467 X12468 => ?_)
                refine send ?_
                refine nseq ?_
                refine ddraw 1024 1024 0 (by kernel_rfl) ?_
                refine spure (v := .slice a12026 n12026 c12026) rfl (p_move rfl) (lo_t (lo_osl X12468 (j := 1) rfl O12469) rfl) rfl rfl ?_
                refine spure (v := .pointer (some ⟨b12346, 1, none⟩)) rfl (p_fa fo_50_1 rfl) (lo_t (lo_own X12468 (j := 0) (o := 0) (s := none) (f := 0) rfl) rfl) rfl rfl ?_
                refine sload (v := .int .i64 e12343.B) rfl rfl (q_load wd_3 rfl) (St.ld X12468 (j := 0) rfl rfl) (same_self 20 rfl) rfl ?_
                refine spure (v := .slice a12026 n12026 c12026) rfl (p_move rfl) (lo_t (lo_osl X12468 (j := 1) rfl O12469) rfl) rfl rfl ?_
                refine spure (v := .pointer (some ⟨b12346, 1, none⟩)) rfl (p_fa fo_50_1 rfl) (lo_t (lo_own X12468 (j := 0) (o := 0) (s := none) (f := 0) rfl) rfl) rfl rfl ?_
                refine sload (v := .int .i64 e12343.B) rfl rfl (q_load wd_3 rfl) (St.ld X12468 (j := 0) rfl rfl) (same_self 20 rfl) rfl ?_
                refine Sim.bindM fun e12470 he12471 => ?_
                obtain ⟨off12472, cs12472, hp12472, hc12472, hR12472, hl12472, hm12472, hs12472⟩ := OSl.iaC O12469 he12471 (kd := .i64) (n := 1) rfl
                have hR12472 : _ = [(.int .i64 e12470 : Value)] := hR12472
                subst hR12472
                refine spure (v := .pointer (some ⟨b12463, off12472, none⟩)) rfl (p_ia rs_28 rfl) (lo_t (lo_osl X12468 (j := 1) rfl O12469) (lo_t rfl rfl)) hp12472 rfl ?_
                refine sload (v := .int .i64 e12470) rfl rfl (q_load wd_3 rfl) (St.ld X12468 (j := 1) rfl (rdE1 hc12472 (k := 0) rfl rfl)) (same_self 20 rfl) rfl ?_
                refine spure (v := .int .i64 (w64 (e12470 + 1))) rfl (p_add rfl) (lo_t rfl (lo_c rfl)) rfl rfl ?_
                refine Sim.bindM fun e12473 he12474 => ?_
                obtain ⟨off12475, cs12475, hp12475, hc12475, hR12475, hl12475, hm12475, hs12475⟩ := OSl.iaC O12469 he12474 (kd := .i64) (n := 1) rfl
                have hR12475 : _ = [(.int .i64 e12473 : Value)] := hR12475
                subst hR12475
                refine spure (v := .pointer (some ⟨b12463, off12475, none⟩)) rfl (p_ia rs_28 rfl) (lo_t (lo_osl X12468 (j := 1) rfl O12469) (lo_t rfl rfl)) hp12475 rfl ?_
                have O12478 := hs12475 [.int .i64 (w64 (e12470 + 1))] ((w64 (e12470 + 1))) rfl
                refine sstore rfl rfl ts_3 rfl rfl (j := 1) rfl hm12475 rfl rfl (ble_iff.2 hl12475) rfl X12468 (fun h12476 X12477 => ?_)
                refine send ?_
                refine nblock ?_
                refine nseq ?_
                refine dreg ?_
                refine lpure (v := .int .i64 s12025.2) rfl (p_move rfl) rfl rfl ?_
                refine lpure (v := .int .i64 (w64 (s12025.2 + 1))) rfl (p_add rfl) rfl rfl ?_
                refine lpure (v := .int .i64 (w64 (s12025.2 + 1))) rfl (p_assign rfl) rfl rfl ?_
                refine lend ?_
                exact kbackM ih12338 (((s12025.1.set (e12343.A).toNat (w64 (e12461 + 1))).set (e12343.B).toNat (w64 (e12470 + 1))), (w64 (s12025.2 + 1))) (a12026, n12026, c12026, some b12463, (.cells (setAt (setAt vs12463 off12466 [.int .i64 (w64 (e12461 + 1))]) off12475 [.int .i64 (w64 (e12470 + 1))]) 3 m12463)) (sub_cons rfl (sub_cons rfl (sub_cons rfl sub_nil))) ⟨(St.pick X12477 (.skip _ (.keep _ (.keep _ (.nil _))))), O12478⟩
          · refine dexit ?_
            refine eseq ?_
            refine eloop ?_
            refine xblock ?_
            refine nseq ?_
            refine dseq ?_
            refine dreg ?_
            refine lread (v := .agg #[.int .i64 p8906.Nodes, .slice a8907 n8907 c8907, .slice a8908 n8908 c8908]) rfl (q_load wd_25 rfl) (St.ld X12340 (j := 1) rfl rfl) rfl ?_
            refine lcall rfl rfl ca_19 rfl rfl (f19_ok X12340 p8906 0 ([]) H8907 H8908 (.inl ⟨rfl, rfl⟩)) rfl ?_
            rintro e12479 _ h12481 ⟨φ12483, a12486, n12486, c12486, ob12486, blk12486, g12484, X12485, rfl, O12486⟩
            refine lpure (v := .slice a12486 n12486 c12486) rfl (p_assign rfl) rfl rfl ?_
            refine lend ?_
            refine nseq ?_
            refine dseq ?_
            refine dseq ?_
            refine dreg ?_
            refine lpure (v := .int .i64 0) rfl (p_assign rfl) rfl rfl ?_
            refine lend ?_
            refine nseq ?_
            refine dblock ?_
            refine dloopM (τ := (List Int) × (List Bool) × Int) (σ := Option Addr × Nat × Nat × Option Nat × Blk × Option Addr × Nat × Nat × Option Nat × Blk) (fun s12568 (a12569, n12569, c12569, ob12569, blk12569, a12570, n12570, c12570, ob12570, blk12570) => [(1, .pointer (some ⟨b8909, 0, none⟩)), (3, .slice a12569 n12569 c12569), (7, .slice a12570 n12570 c12570), (8, .int .i64 s12568.2.2)]) (fun s12568 (a12569, n12569, c12569, ob12569, blk12569, a12570, n12570, c12570, ob12570, blk12570) hh => St φ12483 h.n hh ([(ob12570, blk12570), (ob12569, blk12569), (some b8909, .cells [.int .i64 p8906.Nodes, .slice a8907 n8907 c8907, .slice a8908 n8908 c8908] 25 .exact)]) ∧ OSl (eInt .i64) φ12483 3 ob12569 blk12569 (.slice a12569 n12569 c12569) s12568.1 ∧ OSl eBool φ12483 4 ob12570 blk12570 (.slice a12570 n12570 c12570) s12568.2.1) (s12025.1, e12479, 0) (a12026, n12026, c12026, ob12026, blk12026, a12486, n12486, c12486, ob12486, blk12486) (sub_cons rfl (sub_cons rfl (sub_cons rfl (sub_cons rfl sub_nil)))) ⟨X12485, (O12026.mono g12484), O12486⟩ ?_
            rintro n12611 ih12610 s12568 ⟨a12569, n12569, c12569, ob12569, blk12569, a12570, n12570, c12570, ob12570, blk12570⟩ t0 h12613 ⟨X12612, O12569, O12570⟩
            refine dseq ?_
            refine dseq ?_
            refine dreg ?_
            refine lpure (v := .int .i64 s12568.2.2) rfl (p_move rfl) rfl rfl ?_
            refine lpure (v := .pointer (some ⟨b8909, 0, none⟩)) rfl (p_fa fo_25_0 rfl) rfl rfl ?_
            refine lread (v := .int .i64 p8906.Nodes) rfl (q_load wd_3 rfl) (St.ld X12612 (j := 2) rfl rfl) rfl ?_
            refine lpure (v := .bool (decide (s12568.2.2 < p8906.Nodes))) rfl (p_lt rfl) rfl rfl ?_
            refine lend ?_
            refine nseq ?_
            refine dcond rfl rfl (fun k12614 => ?_) (fun k12614 => ?_)
            · refine dskip ?_
              refine nseq ?_
              refine dseq ?_
              refine dblock ?_
              refine dseq ?_
              refine dreg ?_
              refine lpure (v := .slice a12570 n12570 c12570) rfl (p_move rfl) rfl rfl ?_
              refine lpure (v := .int .i64 s12568.2.2) rfl (p_move rfl) rfl rfl ?_
              refine Sim.bindM fun e12615 he12616 => ?_
              obtain ⟨b12617, vs12617, m12617, off12617, cs12617, rfl, rfl, hp12617, hc12617, hR12617, hl12617, hm12617, hs12617⟩ := OSl.ia O12570 he12616 (kd := .i64) (n := 1) rfl
              have hR12617 : _ = [(.bool e12615 : Value)] := hR12617
              subst hR12617
              refine lpure (v := .pointer (some ⟨b12617, off12617, none⟩)) rfl (p_ia rs_22 rfl) hp12617 rfl ?_
              refine lread (v := .bool e12615) rfl (q_load wd_4 rfl) (St.ld X12612 (j := 0) rfl (rdE1 hc12617 (k := 0) rfl rfl)) rfl ?_
              refine lpure (v := .bool (!e12615)) rfl (p_not rfl) rfl rfl ?_
              refine lpure (v := .bool (!e12615)) rfl (p_move rfl) rfl rfl ?_
              refine ljoinM (τ := (List Int) × Bool) (σ := Option Addr × Nat × Nat × Option Nat × Blk) (fun s12631 (a12632, n12632, c12632, ob12632, blk12632) => [(1, .pointer (some ⟨b8909, 0, none⟩)), (3, .slice a12632 n12632 c12632), (7, .slice a12570 n12570 c12570), (8, .int .i64 s12568.2.2), (118, .bool s12631.2)]) (fun s12631 (a12632, n12632, c12632, ob12632, blk12632) hh => St φ12483 h.n hh ([(some b12617, .cells vs12617 4 m12617), (ob12632, blk12632), (some b8909, .cells [.int .i64 p8906.Nodes, .slice a8907 n8907 c8907, .slice a8908 n8908 c8908] 25 .exact)]) ∧ OSl (eInt .i64) φ12483 3 ob12632 blk12632 (.slice a12632 n12632 c12632) s12631.1) 20 ?_ ?_
              · rintro s12631 ⟨a12632, n12632, c12632, ob12632, blk12632⟩ t0 h12634 ⟨X12633, O12632⟩
                refine lend ?_
                refine nseq ?_
                refine dcond rfl rfl (fun k12635 => ?_) (fun k12635 => ?_)
                · refine dseq ?_
                  refine dreg ?_
                  refine lpure (v := .bool false) rfl (p_assign rfl) rfl rfl ?_
                  refine lend ?_
                  refine nseq ?_
                  refine dret ?_
                  refine rblock ?_
                  refine rseq ?_
                  refine rloop ?_
                  refine rblock ?_
                  refine rseq ?_
                  exact kcut_r (res_1 resT) X12633 rfl rfl
                · refine dskip ?_
                  refine nblock ?_
                  refine nseq ?_
                  refine dreg ?_
                  refine lpure (v := .int .i64 s12568.2.2) rfl (p_move rfl) rfl rfl ?_
                  refine lpure (v := .int .i64 (w64 (s12568.2.2 + 1))) rfl (p_add rfl) rfl rfl ?_
                  refine lpure (v := .int .i64 (w64 (s12568.2.2 + 1))) rfl (p_assign rfl) rfl rfl ?_
                  refine lend ?_
                  exact kbackM ih12610 (s12631.1, s12568.2.1, (w64 (s12568.2.2 + 1))) (a12632, n12632, c12632, ob12632, blk12632, a12570, n12570, c12570, some b12617, .cells vs12617 4 m12617) (sub_cons rfl (sub_cons rfl (sub_cons rfl (sub_cons rfl sub_nil)))) ⟨X12633, O12632, O12570⟩
              · intro j12636 J12637
                refine lif (i := 98) (show _ = Value.bool (!e12615) from rfl) (fun k12638 => ?_) (fun k12638 => ?_)
                · refine lskip rfl rfl ?_
                  refine lskip rfl rfl ?_
                  refine lskip rfl rfl ?_
                  refine lskip rfl rfl ?_
                  refine lskip rfl rfl ?_
                  refine lskip rfl rfl ?_
                  refine lskip rfl rfl ?_
                  refine lskip rfl rfl ?_
                  refine lskip rfl rfl ?_
                  refine lskip rfl rfl ?_
                  refine lskip rfl rfl ?_
                  refine lskip rfl rfl ?_
                  refine lskip rfl rfl ?_
                  refine lskip rfl rfl ?_
                  refine lskip rfl rfl ?_
                  refine lskip rfl rfl ?_
                  refine lskip rfl rfl ?_
                  refine lskip rfl rfl ?_
                  refine lskip rfl rfl ?_
                  refine lpure (v := .bool true) rfl (p_pick rfl) rfl rfl ?_
                  exact ljmpM J12637 (s12568.1, true) (a12569, n12569, c12569, ob12569, blk12569) (sub_cons rfl (sub_cons rfl (sub_cons rfl (sub_cons rfl (sub_cons rfl sub_nil))))) ⟨X12612, O12569⟩
                · refine lpure (v := .pointer (some ⟨b8909, 1, none⟩)) rfl (p_fa fo_25_1 rfl) rfl rfl ?_
                  refine lread (v := .slice a8907 n8907 c8907) rfl (q_load wd_22 rfl) (St.ld X12612 (j := 2) rfl rfl) rfl ?_
                  refine lpure (v := .int .i64 s12568.2.2) rfl (p_move rfl) rfl rfl ?_
                  refine Sim.bindM fun e12639 he12640 => ?_
                  obtain ⟨p12641, cs12641, hp12641, hF12641, hR12641⟩ := RSl.ia (H8907.mono g12484) he12640 (kd := .i64) (n := 1) rfl
                  have hR12641 : _ = [(.bool e12639 : Value)] := hR12641
                  subst hR12641
                  refine lpure (v := p12641) rfl (p_ia rs_22 rfl) hp12641 rfl ?_
                  refine lread (v := .bool e12639) rfl (q_load wd_4 rfl) (FP.ld X12612 hF12641) rfl ?_
                  refine lpure (v := .bool e12639) rfl (p_move rfl) rfl rfl ?_
                  refine lif (i := 104) (show _ = Value.bool e12639 from rfl) (fun k12642 => ?_) (fun k12642 => ?_)
                  · refine lpure (v := .slice a12569 n12569 c12569) rfl (p_move rfl) rfl rfl ?_
                    refine lpure (v := .int .i64 s12568.2.2) rfl (p_move rfl) rfl rfl ?_
                    refine Sim.bindM fun e12643 he12644 => ?_
                    obtain ⟨b12645, vs12645, m12645, off12645, cs12645, rfl, rfl, hp12645, hc12645, hR12645, hl12645, hm12645, hs12645⟩ := OSl.ia O12569 he12644 (kd := .i64) (n := 1) rfl
                    have hR12645 : _ = [(.int .i64 e12643 : Value)] := hR12645
                    subst hR12645
                    refine lpure (v := .pointer (some ⟨b12645, off12645, none⟩)) rfl (p_ia rs_28 rfl) hp12645 rfl ?_
                    refine lread (v := .int .i64 e12643) rfl (q_load wd_3 rfl) (St.ld X12612 (j := 1) rfl (rdE1 hc12645 (k := 0) rfl rfl)) rfl ?_
                    refine lpure (v := .bool (decide (e12643 < 1))) rfl (p_lt rfl) rfl rfl ?_
                    refine lpure (v := .bool (decide (e12643 < 1))) rfl (p_move rfl) rfl rfl ?_
                    refine lif (i := 110) (show _ = Value.bool (decide (e12643 < 1)) from rfl) (fun k12646 => ?_) (fun k12646 => ?_)
                    · refine lskip rfl rfl ?_
                      refine lskip rfl rfl ?_
                      refine lskip rfl rfl ?_
                      refine lskip rfl rfl ?_
                      refine lskip rfl rfl ?_
                      refine lpure (v := .bool true) rfl (p_pick rfl) rfl rfl ?_
                      refine lpure (v := .bool true) rfl (p_pick rfl) rfl rfl ?_
                      refine lpure (v := .bool true) rfl (p_pick rfl) rfl rfl ?_
                      exact ljmpM J12637 (s12568.1, true) (a12569, n12569, c12569, some b12645, .cells vs12645 3 m12645) (sub_cons rfl (sub_cons rfl (sub_cons rfl (sub_cons rfl (sub_cons rfl sub_nil))))) ⟨X12612, O12569⟩
                    · refine lpure (v := .slice a12569 n12569 c12569) rfl (p_move rfl) rfl rfl ?_
                      refine lpure (v := .int .i64 s12568.2.2) rfl (p_move rfl) rfl rfl ?_
                      refine Sim.bindM fun e12647 he12648 => ?_
                      obtain ⟨off12649, cs12649, hp12649, hc12649, hR12649, hl12649, hm12649, hs12649⟩ := OSl.iaC O12569 he12648 (kd := .i64) (n := 1) rfl
                      have hR12649 : _ = [(.int .i64 e12647 : Value)] := hR12649
                      subst hR12649
                      refine lpure (v := .pointer (some ⟨b12645, off12649, none⟩)) rfl (p_ia rs_28 rfl) hp12649 rfl ?_
                      refine lread (v := .int .i64 e12647) rfl (q_load wd_3 rfl) (St.ld X12612 (j := 1) rfl (rdE1 hc12649 (k := 0) rfl rfl)) rfl ?_
                      refine lpure (v := .bool (decide (2 < e12647))) rfl (p_gt rfl) rfl rfl ?_
                      refine lpure (v := .bool (decide (2 < e12647))) rfl (p_pick rfl) rfl rfl ?_
                      refine lpure (v := .bool (decide (2 < e12647))) rfl (p_pick rfl) rfl rfl ?_
                      refine lpure (v := .bool (decide (2 < e12647))) rfl (p_pick rfl) rfl rfl ?_
                      exact ljmpM J12637 (s12568.1, (decide (2 < e12647))) (a12569, n12569, c12569, some b12645, .cells vs12645 3 m12645) (sub_cons rfl (sub_cons rfl (sub_cons rfl (sub_cons rfl (sub_cons rfl sub_nil))))) ⟨X12612, O12569⟩
                  · refine lskip rfl rfl ?_
                    refine lskip rfl rfl ?_
                    refine lskip rfl rfl ?_
                    refine lskip rfl rfl ?_
                    refine lskip rfl rfl ?_
                    refine lskip rfl rfl ?_
                    refine lskip rfl rfl ?_
                    refine lskip rfl rfl ?_
                    refine lskip rfl rfl ?_
                    refine lskip rfl rfl ?_
                    refine lskip rfl rfl ?_
                    refine lskip rfl rfl ?_
                    refine lpure (v := .bool false) rfl (p_pick rfl) rfl rfl ?_
                    refine lpure (v := .bool false) rfl (p_pick rfl) rfl rfl ?_
                    exact ljmpM J12637 (s12568.1, false) (a12569, n12569, c12569, ob12569, blk12569) (sub_cons rfl (sub_cons rfl (sub_cons rfl (sub_cons rfl (sub_cons rfl sub_nil))))) ⟨X12612, O12569⟩
            · refine dexit ?_
              refine eseq ?_
              refine eloop ?_
              refine xblock ?_
              refine nseq ?_
              refine dseq ?_
              refine dreg ?_
              refine lpure (v := .bool true) rfl (p_assign rfl) rfl rfl ?_
              refine lend ?_
              refine nseq ?_
              refine dret ?_
              exact kcut_r (res_1 resT) X12612 rfl rfl
      · intro j12650 J12651
        refine lcase (i := 25) (show _ = Value.bool s8918 from rfl) (fun k12652 => ?_) (fun k12652 => ?_)
        · refine lskip rfl rfl ?_
          refine lskip rfl rfl ?_
          refine lskip rfl rfl ?_
          refine lskip rfl rfl ?_
          refine lpure (v := .bool true) rfl (p_pick rfl) rfl rfl ?_
          refine Sim.of_eq (congrArg j12650 (show (s8918 || (decide (24 < (p8906.Links.length : Int)))) = true from by rw [k12652] <;> rfl)) ?_
          exact ljmpM J12651 true () (sub_cons rfl (sub_cons rfl sub_nil)) X8919
        · refine lpure (v := .pointer (some ⟨b8909, 2, none⟩)) rfl (p_fa fo_25_2 rfl) rfl rfl ?_
          refine lread (v := .slice a8908 n8908 c8908) rfl (q_load wd_23 rfl) (St.ld X8919 (j := 0) rfl rfl) rfl ?_
          refine lpure (v := .int .i64 (p8906.Links.length : Int)) rfl (p_len rfl rfl rfl un_23 rfl) (RSl.lenC H8908) rfl ?_
          refine lpure (v := .bool (decide (24 < (p8906.Links.length : Int)))) rfl (p_gt rfl) rfl rfl ?_
          refine lpure (v := .bool (decide (24 < (p8906.Links.length : Int)))) rfl (p_pick rfl) rfl rfl ?_
          refine Sim.of_eq (congrArg j12650 (show (s8918 || (decide (24 < (p8906.Links.length : Int)))) = (decide (24 < (p8906.Links.length : Int))) from by rw [k12652] <;> rfl)) ?_
          exact ljmpM J12651 (decide (24 < (p8906.Links.length : Int))) () (sub_cons rfl (sub_cons rfl sub_nil)) X8919
    · intro j12653 J12654
      refine lcase (i := 17) (show _ = Value.bool s8914 from rfl) (fun k12655 => ?_) (fun k12655 => ?_)
      · refine lskip rfl rfl ?_
        refine lskip rfl rfl ?_
        refine lskip rfl rfl ?_
        refine lskip rfl rfl ?_
        refine lskip rfl rfl ?_
        refine lskip rfl rfl ?_
        refine lpure (v := .bool true) rfl (p_pick rfl) rfl rfl ?_
        refine Sim.of_eq (congrArg j12653 (show (s8914 || (decide ((p8906.Station.length : Int) ≠ p8906.Nodes))) = true from by rw [k12655] <;> rfl)) ?_
        exact ljmpM J12654 true () (sub_cons rfl (sub_cons rfl sub_nil)) X8915
      · refine lpure (v := .pointer (some ⟨b8909, 1, none⟩)) rfl (p_fa fo_25_1 rfl) rfl rfl ?_
        refine lread (v := .slice a8907 n8907 c8907) rfl (q_load wd_22 rfl) (St.ld X8915 (j := 0) rfl rfl) rfl ?_
        refine lpure (v := .int .i64 (p8906.Station.length : Int)) rfl (p_len rfl rfl rfl un_22 rfl) (RSl.lenC H8907) rfl ?_
        refine lpure (v := .pointer (some ⟨b8909, 0, none⟩)) rfl (p_fa fo_25_0 rfl) rfl rfl ?_
        refine lread (v := .int .i64 p8906.Nodes) rfl (q_load wd_3 rfl) (St.ld X8915 (j := 0) rfl rfl) rfl ?_
        refine lpure (v := .bool (decide ((p8906.Station.length : Int) ≠ p8906.Nodes))) rfl (p_ne rfl) rfl rfl ?_
        refine lpure (v := .bool (decide ((p8906.Station.length : Int) ≠ p8906.Nodes))) rfl (p_pick rfl) rfl rfl ?_
        refine Sim.of_eq (congrArg j12653 (show (s8914 || (decide ((p8906.Station.length : Int) ≠ p8906.Nodes))) = (decide ((p8906.Station.length : Int) ≠ p8906.Nodes)) from by rw [k12655] <;> rfl)) ?_
        exact ljmpM J12654 (decide ((p8906.Station.length : Int) ≠ p8906.Nodes)) () (sub_cons rfl (sub_cons rfl sub_nil)) X8915
  · intro j12656 J12657
    refine lcase (i := 12) (show _ = Value.bool (decide (p8906.Nodes < 2)) from rfl) (fun k12658 => ?_) (fun k12658 => ?_)
    · refine lskip rfl rfl ?_
      refine lskip rfl rfl ?_
      refine lskip rfl rfl ?_
      refine lpure (v := .bool true) rfl (p_pick rfl) rfl rfl ?_
      refine Sim.of_eq (congrArg j12656 (show ((decide (p8906.Nodes < 2)) || (decide (12 < p8906.Nodes))) = true from by rw [k12658] <;> rfl)) ?_
      exact ljmpM J12657 true () (sub_cons rfl (sub_cons rfl sub_nil)) X8912
    · refine lpure (v := .pointer (some ⟨b8909, 0, none⟩)) rfl (p_fa fo_25_0 rfl) rfl rfl ?_
      refine lread (v := .int .i64 p8906.Nodes) rfl (q_load wd_3 rfl) (St.ld X8912 (j := 0) rfl rfl) rfl ?_
      refine lpure (v := .bool (decide (12 < p8906.Nodes))) rfl (p_gt rfl) rfl rfl ?_
      refine lpure (v := .bool (decide (12 < p8906.Nodes))) rfl (p_pick rfl) rfl rfl ?_
      refine Sim.of_eq (congrArg j12656 (show ((decide (p8906.Nodes < 2)) || (decide (12 < p8906.Nodes))) = (decide (12 < p8906.Nodes)) from by rw [k12658] <;> rfl)) ?_
      exact ljmpM J12657 (decide (12 < p8906.Nodes)) () (sub_cons rfl (sub_cons rfl sub_nil)) X8912
/-! isochron/isochronref16.From -/
theorem f29_ok {n : Nat} {φ : Fz} {lo : Nat} {h : Heap} {own : OwnL} (X : St φ lo h own) (p12725 : ApiTopo) (p12728 : Int) {a12726 : Option Addr} {n12726 c12726 : Nat} {a12727 : Option Addr} {n12727 c12727 : Nat} (H12726 : RSl eBool φ (.slice a12726 n12726 c12726) p12725.Station) (H12727 : RSl eApiLink φ (.slice a12727 n12727 c12727) p12725.Links) : Sim ((recN Try.prog LL cutF (n + 1)).call 29 #[(.agg #[.int .i64 p12725.Nodes, .slice a12726 n12726 c12726, .slice a12727 n12727 c12727]), (.int .i64 p12728)] h) (m_isochronref16_From p12725 p12728) (fun (d : Int) p => p = (.int .i64 d, h)) := by
  refine fcut Try.func29 rfl rfl rfl rfl X ?_
  intro h0 X0
  refine dseq ?_
  refine dreg ?_
  refine lbox rfl rfl rfl rfl rfl X0 (fun b12729 h12731 X12732 => ?_)
  refine lpure (v := .int .i64 0) rfl (p_assign rfl) rfl rfl ?_
  refine lend ?_
  refine nseq ?_
  refine dseq ?_
  refine dreg ?_
  refine lpure (v := .pointer (some ⟨b12729, 2, none⟩)) rfl (p_fa fo_25_2 rfl) rfl rfl ?_
  refine lread (v := .slice a12727 n12727 c12727) rfl (q_load wd_23 rfl) (St.ld X12732 (j := 0) rfl rfl) rfl ?_
  refine lpure (v := .int .i64 p12728) rfl (p_move rfl) rfl rfl ?_
  refine lpure (v := .int .i64 (w64 (Int.tdiv p12728 2))) rfl (p_quo rfl) rfl rfl ?_
  refine Sim.bindM fun e12733 he12734 => ?_
  obtain ⟨p12735, cs12735, hp12735, hF12735, hR12735⟩ := RSl.ia H12727 he12734 (kd := .i64) (n := 4) rfl
  obtain rfl := eApiLink_el hR12735
  refine lpure (v := p12735) rfl (p_ia rs_23 rfl) hp12735 rfl ?_
  refine lread (v := .agg #[.int .i64 e12733.A, .int .i64 e12733.B, .int .i64 e12733.Per, .int .i64 e12733.Delay]) rfl (q_load wd_50 rfl) (FP.ldw X12732 hF12735 rfl rfl) rfl ?_
  refine lalloc rfl tz_50 rfl rfl rfl X12732 (fun b12736 h12738 X12739 => ?_)
  refine lstore rfl ts_50 rfl rfl (j := 0) rfl rfl rfl rfl rfl rfl X12739 (fun h12740 X12741 => ?_)
  refine lend ?_
  refine nseq ?_
  refine dseq ?_
  refine dseq ?_
  refine dreg ?_
  refine lpure (v := .int .i64 p12728) rfl (p_move rfl) rfl rfl ?_
  refine lpure (v := .int .i64 (Int.tmod p12728 2)) rfl (p_rem rfl) rfl rfl ?_
  refine lpure (v := .bool (decide ((Int.tmod p12728 2) = 1))) rfl (p_eq rfl) rfl rfl ?_
  refine lend ?_
  refine nseq ?_
  refine dcond rfl rfl (fun k12742 => ?_) (fun k12742 => ?_)
  · refine dseq ?_
    refine dreg ?_
    refine lpure (v := .pointer (some ⟨b12736, 1, none⟩)) rfl (p_fa fo_50_1 rfl) rfl rfl ?_
    refine lread (v := .int .i64 e12733.B) rfl (q_load wd_3 rfl) (St.ld X12741 (j := 0) rfl rfl) rfl ?_
    refine lpure (v := .int .i64 e12733.B) rfl (p_assign rfl) rfl rfl ?_
    refine lend ?_
    refine nseq ?_
    refine dret ?_
    refine rseq ?_
    exact kcut_r (res_1 resT) X12741 rfl rfl
  · refine dskip ?_
    refine nseq ?_
    refine dseq ?_
    refine dreg ?_
    refine lpure (v := .pointer (some ⟨b12736, 0, none⟩)) rfl (p_fa fo_50_0 rfl) rfl rfl ?_
    refine lread (v := .int .i64 e12733.A) rfl (q_load wd_3 rfl) (St.ld X12741 (j := 0) rfl rfl) rfl ?_
    refine lpure (v := .int .i64 e12733.A) rfl (p_assign rfl) rfl rfl ?_
    refine lend ?_
    refine nseq ?_
    refine dret ?_
    exact kcut_r (res_1 resT) X12741 rfl rfl
/-! isochron/isochronref16.Ports -/
theorem f15_ok {n : Nat} {φ : Fz} {lo : Nat} {h : Heap} {own : OwnL} (X : St φ lo h own) (p12834 : ApiTopo) (p12837 : Int) {a12835 : Option Addr} {n12835 c12835 : Nat} {a12836 : Option Addr} {n12836 c12836 : Nat} (H12835 : RSl eBool φ (.slice a12835 n12835 c12835) p12834.Station) (H12836 : RSl eApiLink φ (.slice a12836 n12836 c12836) p12834.Links) : Sim ((recN Try.prog LL cutF (n + 2)).call 15 #[(.agg #[.int .i64 p12834.Nodes, .slice a12835 n12835 c12835, .slice a12836 n12836 c12836]), (.int .i64 p12837)] h) (m_isochronref16_Ports p12834 p12837) (fun (d : (List Int)) p => ∃ φ2 : Fz, ∃ a12937 : Option Addr, ∃ n12937 : Nat, ∃ c12937 : Nat, ∃ ob12937 : Option Nat, ∃ blk12937 : Blk, Fz.le φ φ2 ∧ St φ2 lo p.2 ((ob12937, blk12937) :: own) ∧ p.1 = .slice a12937 n12937 c12937 ∧ OSl (eInt .i64) φ2 3 ob12937 blk12937 (.slice a12937 n12937 c12937) d) := by
  refine fopen Try.func15 rfl rfl rfl rfl ?_
  refine dseq ?_
  refine dreg ?_
  refine lbox rfl rfl rfl rfl rfl X (fun b12838 h12840 X12841 => ?_)
  refine lpure (v := .slice none 0 0) rfl (p_assign rfl) rfl rfl ?_
  refine lend ?_
  refine nseq ?_
  refine dseq ?_
  refine dreg ?_
  refine lpure (v := .slice none 0 0) rfl (p_assign rfl) rfl rfl ?_
  refine lend ?_
  refine nseq ?_
  refine dseq ?_
  refine dseq ?_
  refine dreg ?_
  refine lpure (v := .int .i64 0) rfl (p_assign rfl) rfl rfl ?_
  refine lend ?_
  refine nseq ?_
  refine dblock ?_
  refine dloopM (τ := (List Int) × Int) (σ := Option Addr × Nat × Nat × Option Nat × Blk) (fun s12891 (a12893, n12893, c12893, ob12893, blk12893) => [(1, .int .i64 p12837), (2, .pointer (some ⟨b12838, 0, none⟩)), (5, .slice a12893 n12893 c12893), (6, .int .i64 s12891.2)]) (fun s12891 (a12893, n12893, c12893, ob12893, blk12893) hh => St φ lo hh ((ob12893, blk12893) :: (some b12838, .cells [.int .i64 p12834.Nodes, .slice a12835 n12835 c12835, .slice a12836 n12836 c12836] 25 .exact) :: own) ∧ OSl (eInt .i64) φ 3 ob12893 blk12893 (.slice a12893 n12893 c12893) s12891.1) ([], 0) (none, 0, 0, none, .dead) (sub_cons rfl (sub_cons rfl (sub_cons rfl (sub_cons rfl sub_nil)))) ⟨(St.pick X12841 (.none _ (.keep _ (.refl _)))), OSl.nil⟩ ?_
  rintro n12916 ih12915 s12891 ⟨a12893, n12893, c12893, ob12893, blk12893⟩ t0 h12918 ⟨X12917, O12893⟩
  refine dseq ?_
  refine dseq ?_
  refine dreg ?_
  refine lpure (v := .int .i64 s12891.2) rfl (p_move rfl) rfl rfl ?_
  refine lpure (v := .pointer (some ⟨b12838, 2, none⟩)) rfl (p_fa fo_25_2 rfl) rfl rfl ?_
  refine lread (v := .slice a12836 n12836 c12836) rfl (q_load wd_23 rfl) (St.ld X12917 (j := 1) rfl rfl) rfl ?_
  refine lpure (v := .int .i64 (p12834.Links.length : Int)) rfl (p_len rfl rfl rfl un_23 rfl) (RSl.lenC H12836) rfl ?_
  refine lpure (v := .int .i64 (w64 (2 * (p12834.Links.length : Int)))) rfl (p_mul rfl) rfl rfl ?_
  refine lpure (v := .bool (decide (s12891.2 < (w64 (2 * (p12834.Links.length : Int)))))) rfl (p_lt rfl) rfl rfl ?_
  refine lend ?_
  refine nseq ?_
  refine dcond rfl rfl (fun k12919 => ?_) (fun k12919 => ?_)
  · refine dskip ?_
    refine nseq ?_
    refine dseq ?_
    refine dblock ?_
    refine dseq ?_
    refine dreg ?_
    refine lread (v := .agg #[.int .i64 p12834.Nodes, .slice a12835 n12835 c12835, .slice a12836 n12836 c12836]) rfl (q_load wd_25 rfl) (St.ld X12917 (j := 1) rfl rfl) rfl ?_
    refine lpure (v := .int .i64 s12891.2) rfl (p_move rfl) rfl rfl ?_
    refine lcall rfl rfl ca_29 rfl rfl (f29_ok X12917 p12834 (s12891.2) H12835 H12836) rfl (fun e12920 v12921 h12922 hq12923 => ?_)
    cases hq12923
    refine lpure (v := .int .i64 p12837) rfl (p_move rfl) rfl rfl ?_
    refine lpure (v := .bool (decide (e12920 = p12837))) rfl (p_eq rfl) rfl rfl ?_
    refine lend ?_
    refine nseq ?_
    refine djoinM (τ := (List Int)) (σ := Option Addr × Nat × Nat × Option Nat × Blk) (fun s12928 (a12929, n12929, c12929, ob12929, blk12929) => [(1, .int .i64 p12837), (2, .pointer (some ⟨b12838, 0, none⟩)), (5, .slice a12929 n12929 c12929), (6, .int .i64 s12891.2)]) (fun s12928 (a12929, n12929, c12929, ob12929, blk12929) hh => St φ lo hh ((ob12929, blk12929) :: (some b12838, .cells [.int .i64 p12834.Nodes, .slice a12835 n12835 c12835, .slice a12836 n12836 c12836] 25 .exact) :: own) ∧ OSl (eInt .i64) φ 3 ob12929 blk12929 (.slice a12929 n12929 c12929) s12928) ?_ ?_
    · rintro s12928 ⟨a12929, n12929, c12929, ob12929, blk12929⟩ t0 h12931 ⟨X12930, O12929⟩
      refine nblock ?_
      refine nseq ?_
      refine dreg ?_
      refine lpure (v := .int .i64 s12891.2) rfl (p_move rfl) rfl rfl ?_
      refine lpure (v := .int .i64 (w64 (s12891.2 + 1))) rfl (p_add rfl) rfl rfl ?_
      refine lpure (v := .int .i64 (w64 (s12891.2 + 1))) rfl (p_assign rfl) rfl rfl ?_
      refine lend ?_
      exact kbackM ih12915 (s12928, (w64 (s12891.2 + 1))) (a12929, n12929, c12929, ob12929, blk12929) (sub_cons rfl (sub_cons rfl (sub_cons rfl (sub_cons rfl sub_nil)))) ⟨X12930, O12929⟩
    · intro j12932 J12933
      refine dcond rfl rfl (fun k12924 => ?_) (fun k12924 => ?_)
      · refine dreg ?_
        refine lpure (v := .slice a12893 n12893 c12893) rfl (p_move rfl) rfl rfl ?_
        refine lpure (v := .int .i64 s12891.2) rfl (p_move rfl) rfl rfl ?_
        obtain ⟨h12934, b12934, hv12934, X12934, O12934⟩ := OSl.lay (E := (eInt .i64)) (φ := φ) (cs := [.int .i64 s12891.2]) (l := [s12891.2]) (len := 1) (parts := [(0, .int .i64 s12891.2)]) un_28 ts_3 rfl rfl rfl tz_3 rfl rfl (show RowD (eInt .i64) φ [.int .i64 s12891.2] [s12891.2] from ⟨[.int .i64 s12891.2], _, rfl, rfl, rfl⟩) rfl rfl X12917
        refine lheap rfl (h_buildSlice rfl) hv12934 rfl ?_
        obtain ⟨ws12936, hw12936⟩ := OSl.read O12934 X12934 (k := 0) rfl (n := 1) rfl
        refine Sim.mustM fun k12936 => ?_
        obtain ⟨h12936, a12936, c12936, ob12936, blk12936, hv12936, X12936, O12936⟩ := OSl.append O12893 X12934 (j := 1) rfl hw12936 k12936 (ts := #[28, 28]) rfl un_28 (argOk_of ax_28_28) ts_3 rfl rfl tb_3 rfl tz_3 rfl
        refine lheap rfl (h_builtin rfl rfl) hv12936 rfl ?_
        refine lpure (v := .slice a12936 (s12891.1.length + ([s12891.2]).length) c12936) rfl (p_assign rfl) rfl rfl ?_
        refine lend ?_
        exact jmpM J12933 (s12891.1 ++ ([s12891.2])) (a12936, (s12891.1.length + ([s12891.2]).length), c12936, ob12936, blk12936) (sub_cons rfl (sub_cons rfl (sub_cons rfl (sub_cons rfl sub_nil)))) ⟨(St.pick X12936 (.skip _ (.keep _ (.keep _ (.refl _))))), O12936⟩
      · refine dskip ?_
        exact jmpM J12933 s12891.1 (a12893, n12893, c12893, ob12893, blk12893) (sub_cons rfl (sub_cons rfl (sub_cons rfl (sub_cons rfl sub_nil)))) ⟨X12917, O12893⟩
  · refine dexit ?_
    refine eseq ?_
    refine eloop ?_
    refine xblock ?_
    refine nseq ?_
    refine dseq ?_
    refine dreg ?_
    refine lpure (v := .slice a12893 n12893 c12893) rfl (p_move rfl) rfl rfl ?_
    refine lpure (v := .slice a12893 n12893 c12893) rfl (p_assign rfl) rfl rfl ?_
    refine lend ?_
    refine nseq ?_
    refine dret ?_
    exact kopen_r (res_1 resT) ⟨φ, a12893, n12893, c12893, ob12893, blk12893, (Fz.le_refl _), St.pick X12917 (.keep _ (.skip _ (.refl _))), rfl, O12893⟩
/-! isochron/isochronref16.To -/
theorem f30_ok {n : Nat} {φ : Fz} {lo : Nat} {h : Heap} {own : OwnL} (X : St φ lo h own) (p12997 : ApiTopo) (p13000 : Int) {a12998 : Option Addr} {n12998 c12998 : Nat} {a12999 : Option Addr} {n12999 c12999 : Nat} (H12998 : RSl eBool φ (.slice a12998 n12998 c12998) p12997.Station) (H12999 : RSl eApiLink φ (.slice a12999 n12999 c12999) p12997.Links) : Sim ((recN Try.prog LL cutF (n + 1)).call 30 #[(.agg #[.int .i64 p12997.Nodes, .slice a12998 n12998 c12998, .slice a12999 n12999 c12999]), (.int .i64 p13000)] h) (m_isochronref16_To p12997 p13000) (fun (d : Int) p => p = (.int .i64 d, h)) := by
  refine fcut Try.func30 rfl rfl rfl rfl X ?_
  intro h0 X0
  refine dseq ?_
  refine dreg ?_
  refine lbox rfl rfl rfl rfl rfl X0 (fun b13001 h13003 X13004 => ?_)
  refine lpure (v := .int .i64 0) rfl (p_assign rfl) rfl rfl ?_
  refine lend ?_
  refine nseq ?_
  refine dseq ?_
  refine dreg ?_
  refine lpure (v := .pointer (some ⟨b13001, 2, none⟩)) rfl (p_fa fo_25_2 rfl) rfl rfl ?_
  refine lread (v := .slice a12999 n12999 c12999) rfl (q_load wd_23 rfl) (St.ld X13004 (j := 0) rfl rfl) rfl ?_
  refine lpure (v := .int .i64 p13000) rfl (p_move rfl) rfl rfl ?_
  refine lpure (v := .int .i64 (w64 (Int.tdiv p13000 2))) rfl (p_quo rfl) rfl rfl ?_
  refine Sim.bindM fun e13005 he13006 => ?_
  obtain ⟨p13007, cs13007, hp13007, hF13007, hR13007⟩ := RSl.ia H12999 he13006 (kd := .i64) (n := 4) rfl
  obtain rfl := eApiLink_el hR13007
  refine lpure (v := p13007) rfl (p_ia rs_23 rfl) hp13007 rfl ?_
  refine lread (v := .agg #[.int .i64 e13005.A, .int .i64 e13005.B, .int .i64 e13005.Per, .int .i64 e13005.Delay]) rfl (q_load wd_50 rfl) (FP.ldw X13004 hF13007 rfl rfl) rfl ?_
  refine lalloc rfl tz_50 rfl rfl rfl X13004 (fun b13008 h13010 X13011 => ?_)
  refine lstore rfl ts_50 rfl rfl (j := 0) rfl rfl rfl rfl rfl rfl X13011 (fun h13012 X13013 => ?_)
  refine lend ?_
  refine nseq ?_
  refine dseq ?_
  refine dseq ?_
  refine dreg ?_
  refine lpure (v := .int .i64 p13000) rfl (p_move rfl) rfl rfl ?_
  refine lpure (v := .int .i64 (Int.tmod p13000 2)) rfl (p_rem rfl) rfl rfl ?_
  refine lpure (v := .bool (decide ((Int.tmod p13000 2) = 1))) rfl (p_eq rfl) rfl rfl ?_
  refine lend ?_
  refine nseq ?_
  refine dcond rfl rfl (fun k13014 => ?_) (fun k13014 => ?_)
  · refine dseq ?_
    refine dreg ?_
    refine lpure (v := .pointer (some ⟨b13008, 0, none⟩)) rfl (p_fa fo_50_0 rfl) rfl rfl ?_
    refine lread (v := .int .i64 e13005.A) rfl (q_load wd_3 rfl) (St.ld X13013 (j := 0) rfl rfl) rfl ?_
    refine lpure (v := .int .i64 e13005.A) rfl (p_assign rfl) rfl rfl ?_
    refine lend ?_
    refine nseq ?_
    refine dret ?_
    refine rseq ?_
    exact kcut_r (res_1 resT) X13013 rfl rfl
  · refine dskip ?_
    refine nseq ?_
    refine dseq ?_
    refine dreg ?_
    refine lpure (v := .pointer (some ⟨b13008, 1, none⟩)) rfl (p_fa fo_50_1 rfl) rfl rfl ?_
    refine lread (v := .int .i64 e13005.B) rfl (q_load wd_3 rfl) (St.ld X13013 (j := 0) rfl rfl) rfl ?_
    refine lpure (v := .int .i64 e13005.B) rfl (p_assign rfl) rfl rfl ?_
    refine lend ?_
    refine nseq ?_
    refine dret ?_
    exact kcut_r (res_1 resT) X13013 rfl rfl
/-! isochron/isochronref16.Find -/
theorem f16_ok {n : Nat} {φ : Fz} {lo : Nat} {h : Heap} {own : OwnL} (X : St φ lo h own) (p12978 : ApiTopo) (p12981 : Int) (p12982 : Int) {a12979 : Option Addr} {n12979 c12979 : Nat} {a12980 : Option Addr} {n12980 c12980 : Nat} (H12979 : RSl eBool φ (.slice a12979 n12979 c12979) p12978.Station) (H12980 : RSl eApiLink φ (.slice a12980 n12980 c12980) p12978.Links) : Sim ((recN Try.prog LL cutF (n + 2)).call 16 #[(.agg #[.int .i64 p12978.Nodes, .slice a12979 n12979 c12979, .slice a12980 n12980 c12980]), (.int .i64 p12981), (.int .i64 p12982)] h) (m_isochronref16_Find p12978 p12981 p12982) (fun (d : Int) p => p = (.int .i64 d, h)) := by
  refine fcut Try.func16 rfl rfl rfl rfl X ?_
  intro h0 X0
  refine dseq ?_
  refine dreg ?_
  refine lbox rfl rfl rfl rfl rfl X0 (fun b12983 h12985 X12986 => ?_)
  refine lpure (v := .int .i64 0) rfl (p_assign rfl) rfl rfl ?_
  refine lend ?_
  refine nseq ?_
  refine dseq ?_
  refine dseq ?_
  refine dreg ?_
  refine lpure (v := .int .i64 0) rfl (p_assign rfl) rfl rfl ?_
  refine lend ?_
  refine nseq ?_
  refine dblock ?_
  refine dloopM (τ := Int) (σ := Unit) (fun s13055 (_ : Unit) => [(1, .int .i64 p12981), (2, .int .i64 p12982), (3, .pointer (some ⟨b12983, 0, none⟩)), (7, .int .i64 s13055)]) (fun s13055 (_ : Unit) hh => St φ h.n hh ([(some b12983, .cells [.int .i64 p12978.Nodes, .slice a12979 n12979 c12979, .slice a12980 n12980 c12980] 25 .exact)])) 0 () (sub_cons rfl (sub_cons rfl (sub_cons rfl (sub_cons rfl sub_nil)))) X12986 ?_
  rintro n13082 ih13081 s13055 _ t0 h13084 X13083
  refine dseq ?_
  refine dseq ?_
  refine dreg ?_
  refine lpure (v := .int .i64 s13055) rfl (p_move rfl) rfl rfl ?_
  refine lpure (v := .pointer (some ⟨b12983, 2, none⟩)) rfl (p_fa fo_25_2 rfl) rfl rfl ?_
  refine lread (v := .slice a12980 n12980 c12980) rfl (q_load wd_23 rfl) (St.ld X13083 (j := 0) rfl rfl) rfl ?_
  refine lpure (v := .int .i64 (p12978.Links.length : Int)) rfl (p_len rfl rfl rfl un_23 rfl) (RSl.lenC H12980) rfl ?_
  refine lpure (v := .int .i64 (w64 (2 * (p12978.Links.length : Int)))) rfl (p_mul rfl) rfl rfl ?_
  refine lpure (v := .bool (decide (s13055 < (w64 (2 * (p12978.Links.length : Int)))))) rfl (p_lt rfl) rfl rfl ?_
  refine lend ?_
  refine nseq ?_
  refine dcond rfl rfl (fun k13085 => ?_) (fun k13085 => ?_)
  · refine dskip ?_
    refine nseq ?_
    refine dseq ?_
    refine dblock ?_
    refine dseq ?_
    refine dreg ?_
    refine lread (v := .agg #[.int .i64 p12978.Nodes, .slice a12979 n12979 c12979, .slice a12980 n12980 c12980]) rfl (q_load wd_25 rfl) (St.ld X13083 (j := 0) rfl rfl) rfl ?_
    refine lpure (v := .int .i64 s13055) rfl (p_move rfl) rfl rfl ?_
    refine lcall rfl rfl ca_29 rfl rfl (f29_ok X13083 p12978 s13055 H12979 H12980) rfl (fun e13086 v13087 h13088 hq13089 => ?_)
    cases hq13089
    refine lpure (v := .int .i64 p12981) rfl (p_move rfl) rfl rfl ?_
    refine lpure (v := .bool (decide (e13086 = p12981))) rfl (p_eq rfl) rfl rfl ?_
    refine lpure (v := .bool (decide (e13086 = p12981))) rfl (p_move rfl) rfl rfl ?_
    refine ljoinM (τ := Bool) (σ := Unit) (fun s13096 (_ : Unit) => [(1, .int .i64 p12981), (2, .int .i64 p12982), (3, .pointer (some ⟨b12983, 0, none⟩)), (7, .int .i64 s13055), (27, .bool s13096)]) (fun s13096 (_ : Unit) hh => St φ h.n hh ([(some b12983, .cells [.int .i64 p12978.Nodes, .slice a12979 n12979 c12979, .slice a12980 n12980 c12980] 25 .exact)])) 6 ?_ ?_
    · rintro s13096 _ t0 h13098 X13097
      refine lend ?_
      refine nseq ?_
      refine dcond rfl rfl (fun k13099 => ?_) (fun k13099 => ?_)
      · refine dseq ?_
        refine dreg ?_
        refine lpure (v := .int .i64 s13055) rfl (p_move rfl) rfl rfl ?_
        refine lpure (v := .int .i64 s13055) rfl (p_assign rfl) rfl rfl ?_
        refine lend ?_
        refine nseq ?_
        refine dret ?_
        refine rblock ?_
        refine rseq ?_
        refine rloop ?_
        refine rblock ?_
        refine rseq ?_
        exact kcut_r (res_1 resT) X13097 rfl rfl
      · refine dskip ?_
        refine nblock ?_
        refine nseq ?_
        refine dreg ?_
        refine lpure (v := .int .i64 s13055) rfl (p_move rfl) rfl rfl ?_
        refine lpure (v := .int .i64 (w64 (s13055 + 1))) rfl (p_add rfl) rfl rfl ?_
        refine lpure (v := .int .i64 (w64 (s13055 + 1))) rfl (p_assign rfl) rfl rfl ?_
        refine lend ?_
        exact kbackM ih13081 (w64 (s13055 + 1)) () (sub_cons rfl (sub_cons rfl (sub_cons rfl (sub_cons rfl sub_nil)))) X13097
    · intro j13100 J13101
      refine lif (i := 21) (show _ = Value.bool (decide (e13086 = p12981)) from rfl) (fun k13102 => ?_) (fun k13102 => ?_)
      · refine lread (v := .agg #[.int .i64 p12978.Nodes, .slice a12979 n12979 c12979, .slice a12980 n12980 c12980]) rfl (q_load wd_25 rfl) (St.ld X13083 (j := 0) rfl rfl) rfl ?_
        refine lpure (v := .int .i64 s13055) rfl (p_move rfl) rfl rfl ?_
        refine lcall rfl rfl ca_30 rfl rfl (f30_ok X13083 p12978 s13055 H12979 H12980) rfl (fun e13103 v13104 h13105 hq13106 => ?_)
        cases hq13106
        refine lpure (v := .int .i64 p12982) rfl (p_move rfl) rfl rfl ?_
        refine lpure (v := .bool (decide (e13103 = p12982))) rfl (p_eq rfl) rfl rfl ?_
        refine lpure (v := .bool (decide (e13103 = p12982))) rfl (p_pick rfl) rfl rfl ?_
        exact ljmpM J13101 (decide (e13103 = p12982)) () (sub_cons rfl (sub_cons rfl (sub_cons rfl (sub_cons rfl (sub_cons rfl sub_nil))))) X13083
      · refine lskip rfl rfl ?_
        refine lskip rfl rfl ?_
        refine lskip rfl rfl ?_
        refine lskip rfl rfl ?_
        refine lskip rfl rfl ?_
        refine lpure (v := .bool false) rfl (p_pick rfl) rfl rfl ?_
        exact ljmpM J13101 false () (sub_cons rfl (sub_cons rfl (sub_cons rfl (sub_cons rfl (sub_cons rfl sub_nil))))) X13083
  · refine dexit ?_
    refine eseq ?_
    refine eloop ?_
    refine xblock ?_
    refine nseq ?_
    refine dseq ?_
    refine dreg ?_
    refine lpure (v := .int .i64 (-1)) rfl (p_assign rfl) rfl rfl ?_
    refine lend ?_
    refine nseq ?_
    refine dret ?_
    exact kcut_r (res_1 resT) X13083 rfl rfl
/-! isochron/isochronlaw16.TopoFinds -/
theorem f3_ok {n : Nat} {φ : Fz} {lo : Nat} {h : Heap} {own : OwnL} (X : St φ lo h own) (p1 : ApiTopo) (p4 : Int) (p5 : Int) {a2 : Option Addr} {n2 c2 : Nat} {a3 : Option Addr} {n3 c3 : Nat} (H2 : RSl eBool φ (.slice a2 n2 c2) p1.Station) (H3 : RSl eApiLink φ (.slice a3 n3 c3) p1.Links) (K2 : c2 < unk) (K3 : c3 < unk) : Sim ((recN Try.prog LL cutF (n + 10)).call 3 #[(.agg #[.int .i64 p1.Nodes, .slice a2 n2 c2, .slice a3 n3 c3]), (.int .i64 p4), (.int .i64 p5)] h) (m_isochronlaw16_TopoFinds p1 p4 p5) (fun (d : Bool) p => p = (.bool d, h)) := by
  refine fcut Try.func3 rfl rfl rfl rfl X ?_
  intro h0 X0
  refine dseq ?_
  refine dreg ?_
  refine lbox rfl rfl rfl rfl rfl X0 (fun b6 h8 X9 => ?_)
  refine lpure (v := .bool false) rfl (p_assign rfl) rfl rfl ?_
  refine lend ?_
  refine nseq ?_
  refine dseq ?_
  refine dseq ?_
  refine dreg ?_
  refine lcall rfl rfl ca_9 rfl rfl (f9_ok X9) rfl (fun e8840 v8841 h8842 hq8843 => ?_)
  cases hq8843
  refine lpure (v := .bool (!e8840)) rfl (p_not rfl) rfl rfl ?_
  refine lend ?_
  refine nseq ?_
  refine dcond rfl rfl (fun k8844 => ?_) (fun k8844 => ?_)
  · refine dseq ?_
    refine dreg ?_
    refine lpure (v := .bool false) rfl (p_assign rfl) rfl rfl ?_
    refine lend ?_
    refine nseq ?_
    refine dret ?_
    refine rseq ?_
    exact kcut_r (res_1 resT) X9 rfl rfl
  · refine dskip ?_
    refine nseq ?_
    refine dseq ?_
    refine dreg ?_
    refine lread (v := .agg #[.int .i64 p1.Nodes, .slice a2 n2 c2, .slice a3 n3 c3]) rfl (q_load wd_25 rfl) (St.ld X9 (j := 0) rfl rfl) rfl ?_
    refine lcall rfl rfl ca_10 rfl rfl (f10_ok X9 p1 H2 H3 K2 K3) rfl ?_
    rintro e8885 _ _ ⟨a8889, n8889, c8889, a8890, n8890, c8890, hq, H8889, H8890⟩
    cases hq
    refine lstore rfl ts_25 rfl rfl (j := 0) rfl rfl rfl rfl rfl rfl X9 (fun h8891 X8892 => ?_)
    refine lend ?_
    refine nseq ?_
    refine dseq ?_
    refine dreg ?_
    refine lread (v := .agg #[.int .i64 e8885.Nodes, .slice a8889 n8889 c8889, .slice a8890 n8890 c8890]) rfl (q_load wd_25 rfl) (St.ld X8892 (j := 0) rfl rfl) rfl ?_
    refine lpure (v := .int .i64 p4) rfl (p_move rfl) rfl rfl ?_
    refine lcall rfl rfl ca_11 rfl rfl (f11_ok X8892 e8885 p4 H8889 H8890) rfl ?_
    rintro e8893 _ h8895 ⟨φ8897, a8900, n8900, c8900, ob8900, blk8900, g8898, X8899, rfl, O8900⟩
    refine lpure (v := .tuple #[.slice a8900 n8900 c8900, .int .i64 e8893.2]) rfl (p_move rfl) rfl rfl ?_
    refine lpure (v := .slice a8900 n8900 c8900) rfl (p_extract rfl) rfl rfl ?_
    refine lpure (v := .int .i64 e8893.2) rfl (p_extract rfl) rfl rfl ?_
    refine lpure (v := .slice a8900 n8900 c8900) rfl (p_assign rfl) rfl rfl ?_
    refine lpure (v := .int .i64 e8893.2) rfl (p_assign rfl) rfl rfl ?_
    refine lend ?_
    refine nseq ?_
    refine dseq ?_
    refine dreg ?_
    refine lread (v := .agg #[.int .i64 e8885.Nodes, .slice a8889 n8889 c8889, .slice a8890 n8890 c8890]) rfl (q_load wd_25 rfl) (St.ld X8899 (j := 1) rfl rfl) rfl ?_
    refine lpure (v := .int .i64 p4) rfl (p_move rfl) rfl rfl ?_
    refine lpure (v := .int .i64 p5) rfl (p_move rfl) rfl rfl ?_
    refine lcall rfl rfl ca_12 rfl rfl (f12_ok X8899 e8885 p4 p5 (H8889.mono g8898) (H8890.mono g8898)) rfl (fun e8902 v8903 h8904 hq8905 => ?_)
    cases hq8905
    refine lpure (v := .tuple #[.int .i64 e8902.1, .int .i64 e8902.2]) rfl (p_move rfl) rfl rfl ?_
    refine lpure (v := .int .i64 e8902.1) rfl (p_extract rfl) rfl rfl ?_
    refine lpure (v := .int .i64 e8902.2) rfl (p_extract rfl) rfl rfl ?_
    refine lpure (v := .int .i64 e8902.1) rfl (p_assign rfl) rfl rfl ?_
    refine lpure (v := .int .i64 e8902.2) rfl (p_assign rfl) rfl rfl ?_
    refine lend ?_
    refine nseq ?_
    refine dseq ?_
    refine dseq ?_
    refine dreg ?_
    refine lread (v := .agg #[.int .i64 e8885.Nodes, .slice a8889 n8889 c8889, .slice a8890 n8890 c8890]) rfl (q_load wd_25 rfl) (St.ld X8899 (j := 1) rfl rfl) rfl ?_
    refine lcall rfl rfl ca_13 rfl rfl (f13_ok X8899 e8885 (H8889.mono g8898) (H8890.mono g8898)) rfl (fun e12659 v12660 h12661 hq12662 => ?_)
    cases hq12662
    refine lpure (v := .bool (!e12659)) rfl (p_not rfl) rfl rfl ?_
    refine lend ?_
    refine nseq ?_
    refine dcond rfl rfl (fun k12663 => ?_) (fun k12663 => ?_)
    · refine dseq ?_
      refine dreg ?_
      refine lpure (v := .int .i64 e8893.2) rfl (p_move rfl) rfl rfl ?_
      refine lpure (v := .bool (decide (e8893.2 = 260))) rfl (p_eq rfl) rfl rfl ?_
      refine lpure (v := .bool (decide (e8893.2 = 260))) rfl (p_move rfl) rfl rfl ?_
      refine lsh (τ := Bool) (σ := Unit) (fun s12665 (_ : Unit) => [(7, .slice a8900 n8900 c8900), (9, .int .i64 e8902.1), (37, .bool s12665)]) (fun s12665 (_ : Unit) hh => St φ8897 h.n hh ([(ob8900, blk8900), (some b6, .cells [.int .i64 e8885.Nodes, .slice a8889 n8889 c8889, .slice a8890 n8890 c8890] 25 .exact)])) 3 ?_ ?_
      · rintro s12665 _ t0 h12667 X12666
        refine lpure (v := .bool s12665) rfl (p_move rfl) rfl rfl ?_
        refine lsh (τ := Bool) (σ := Unit) (fun s12669 (_ : Unit) => [(9, .int .i64 e8902.1), (42, .bool s12669)]) (fun s12669 (_ : Unit) hh => St φ8897 h.n hh ([(ob8900, blk8900), (some b6, .cells [.int .i64 e8885.Nodes, .slice a8889 n8889 c8889, .slice a8890 n8890 c8890] 25 .exact)])) 4 ?_ ?_
        · rintro s12669 _ t0 h12671 X12670
          refine lpure (v := .bool s12669) rfl (p_move rfl) rfl rfl ?_
          refine lsh (τ := Bool) (σ := Unit) (fun s12673 (_ : Unit) => [(46, .bool s12673)]) (fun s12673 (_ : Unit) hh => St φ8897 h.n hh ([(ob8900, blk8900), (some b6, .cells [.int .i64 e8885.Nodes, .slice a8889 n8889 c8889, .slice a8890 n8890 c8890] 25 .exact)])) 3 ?_ ?_
          · rintro s12673 _ t0 h12675 X12674
            refine lpure (v := .bool s12673) rfl (p_assign rfl) rfl rfl ?_
            refine lend ?_
            refine nseq ?_
            refine dret ?_
            refine rseq ?_
            exact kcut_r (res_1 resT) X12674 rfl rfl
          · intro j12676 J12677
            refine lcase (i := 43) (show _ = Value.bool s12669 from rfl) (fun k12678 => ?_) (fun k12678 => ?_)
            · refine lpure (v := .int .i64 e8902.1) rfl (p_move rfl) rfl rfl ?_
              refine lpure (v := .bool (decide (e8902.1 = 0))) rfl (p_eq rfl) rfl rfl ?_
              refine lpure (v := .bool (decide (e8902.1 = 0))) rfl (p_pick rfl) rfl rfl ?_
              refine Sim.of_eq (congrArg j12676 (show (s12669 && (decide (e8902.1 = 0))) = (decide (e8902.1 = 0)) from by rw [k12678] <;> rfl)) ?_
              exact ljmpM J12677 (decide (e8902.1 = 0)) () (sub_cons rfl sub_nil) X12670
            · refine lskip rfl rfl ?_
              refine lskip rfl rfl ?_
              refine lpure (v := .bool false) rfl (p_pick rfl) rfl rfl ?_
              refine Sim.of_eq (congrArg j12676 (show (s12669 && (decide (e8902.1 = 0))) = false from by rw [k12678] <;> rfl)) ?_
              exact ljmpM J12677 false () (sub_cons rfl sub_nil) X12670
        · intro j12679 J12680
          refine lcase (i := 38) (show _ = Value.bool s12665 from rfl) (fun k12681 => ?_) (fun k12681 => ?_)
          · refine lpure (v := .slice a8900 n8900 c8900) rfl (p_move rfl) rfl rfl ?_
            refine lpure (v := .int .i64 (e8893.1.length : Int)) rfl (p_len rfl rfl rfl un_28 rfl) (OSl.len O8900) rfl ?_
            refine lpure (v := .bool (decide ((e8893.1.length : Int) = 0))) rfl (p_eq rfl) rfl rfl ?_
            refine lpure (v := .bool (decide ((e8893.1.length : Int) = 0))) rfl (p_pick rfl) rfl rfl ?_
            refine Sim.of_eq (congrArg j12679 (show (s12665 && (decide ((e8893.1.length : Int) = 0))) = (decide ((e8893.1.length : Int) = 0)) from by rw [k12681] <;> rfl)) ?_
            exact ljmpM J12680 (decide ((e8893.1.length : Int) = 0)) () (sub_cons rfl (sub_cons rfl sub_nil)) X12666
          · refine lskip rfl rfl ?_
            refine lskip rfl rfl ?_
            refine lskip rfl rfl ?_
            refine lpure (v := .bool false) rfl (p_pick rfl) rfl rfl ?_
            refine Sim.of_eq (congrArg j12679 (show (s12665 && (decide ((e8893.1.length : Int) = 0))) = false from by rw [k12681] <;> rfl)) ?_
            exact ljmpM J12680 false () (sub_cons rfl (sub_cons rfl sub_nil)) X12666
      · intro j12682 J12683
        refine lcase (i := 34) (show _ = Value.bool (decide (e8893.2 = 260)) from rfl) (fun k12684 => ?_) (fun k12684 => ?_)
        · refine lpure (v := .int .i64 e8902.2) rfl (p_move rfl) rfl rfl ?_
          refine lpure (v := .bool (decide (e8902.2 = 260))) rfl (p_eq rfl) rfl rfl ?_
          refine lpure (v := .bool (decide (e8902.2 = 260))) rfl (p_pick rfl) rfl rfl ?_
          refine Sim.of_eq (congrArg j12682 (show ((decide (e8893.2 = 260)) && (decide (e8902.2 = 260))) = (decide (e8902.2 = 260)) from by rw [k12684] <;> rfl)) ?_
          exact ljmpM J12683 (decide (e8902.2 = 260)) () (sub_cons rfl (sub_cons rfl (sub_cons rfl sub_nil))) X8899
        · refine lskip rfl rfl ?_
          refine lskip rfl rfl ?_
          refine lpure (v := .bool false) rfl (p_pick rfl) rfl rfl ?_
          refine Sim.of_eq (congrArg j12682 (show ((decide (e8893.2 = 260)) && (decide (e8902.2 = 260))) = false from by rw [k12684] <;> rfl)) ?_
          exact ljmpM J12683 false () (sub_cons rfl (sub_cons rfl (sub_cons rfl sub_nil))) X8899
    · refine dskip ?_
      refine nseq ?_
      refine dseq ?_
      refine dseq ?_
      refine dreg ?_
      refine lpure (v := .int .i64 p4) rfl (p_move rfl) rfl rfl ?_
      refine lpure (v := .bool (decide (p4 < 0))) rfl (p_lt rfl) rfl rfl ?_
      refine lpure (v := .bool (decide (p4 < 0))) rfl (p_move rfl) rfl rfl ?_
      refine lsh (τ := Bool) (σ := Unit) (fun s12686 (_ : Unit) => [(1, .int .i64 p4), (2, .int .i64 p5), (3, .pointer (some ⟨b6, 0, none⟩)), (7, .slice a8900 n8900 c8900), (8, .int .i64 e8893.2), (9, .int .i64 e8902.1), (10, .int .i64 e8902.2), (54, .bool s12686)]) (fun s12686 (_ : Unit) hh => St φ8897 h.n hh ([(ob8900, blk8900), (some b6, .cells [.int .i64 e8885.Nodes, .slice a8889 n8889 c8889, .slice a8890 n8890 c8890] 25 .exact)])) 5 ?_ ?_
      · rintro s12686 _ t0 h12688 X12687
        refine lend ?_
        refine nseq ?_
        refine dcond rfl rfl (fun k12689 => ?_) (fun k12689 => ?_)
        · refine dseq ?_
          refine dreg ?_
          refine lpure (v := .int .i64 e8893.2) rfl (p_move rfl) rfl rfl ?_
          refine lpure (v := .bool (decide (e8893.2 = 2))) rfl (p_eq rfl) rfl rfl ?_
          refine lpure (v := .bool (decide (e8893.2 = 2))) rfl (p_move rfl) rfl rfl ?_
          refine lsh (τ := Bool) (σ := Unit) (fun s12691 (_ : Unit) => [(7, .slice a8900 n8900 c8900), (9, .int .i64 e8902.1), (60, .bool s12691)]) (fun s12691 (_ : Unit) hh => St φ8897 h.n hh ([(ob8900, blk8900), (some b6, .cells [.int .i64 e8885.Nodes, .slice a8889 n8889 c8889, .slice a8890 n8890 c8890] 25 .exact)])) 3 ?_ ?_
          · rintro s12691 _ t0 h12693 X12692
            refine lpure (v := .bool s12691) rfl (p_move rfl) rfl rfl ?_
            refine lsh (τ := Bool) (σ := Unit) (fun s12695 (_ : Unit) => [(9, .int .i64 e8902.1), (65, .bool s12695)]) (fun s12695 (_ : Unit) hh => St φ8897 h.n hh ([(ob8900, blk8900), (some b6, .cells [.int .i64 e8885.Nodes, .slice a8889 n8889 c8889, .slice a8890 n8890 c8890] 25 .exact)])) 4 ?_ ?_
            · rintro s12695 _ t0 h12697 X12696
              refine lpure (v := .bool s12695) rfl (p_move rfl) rfl rfl ?_
              refine lsh (τ := Bool) (σ := Unit) (fun s12699 (_ : Unit) => [(69, .bool s12699)]) (fun s12699 (_ : Unit) hh => St φ8897 h.n hh ([(ob8900, blk8900), (some b6, .cells [.int .i64 e8885.Nodes, .slice a8889 n8889 c8889, .slice a8890 n8890 c8890] 25 .exact)])) 3 ?_ ?_
              · rintro s12699 _ t0 h12701 X12700
                refine lpure (v := .bool s12699) rfl (p_assign rfl) rfl rfl ?_
                refine lend ?_
                refine nseq ?_
                refine dret ?_
                refine rseq ?_
                exact kcut_r (res_1 resT) X12700 rfl rfl
              · intro j12702 J12703
                refine lcase (i := 66) (show _ = Value.bool s12695 from rfl) (fun k12704 => ?_) (fun k12704 => ?_)
                · refine lpure (v := .int .i64 e8902.1) rfl (p_move rfl) rfl rfl ?_
                  refine lpure (v := .bool (decide (e8902.1 = 0))) rfl (p_eq rfl) rfl rfl ?_
                  refine lpure (v := .bool (decide (e8902.1 = 0))) rfl (p_pick rfl) rfl rfl ?_
                  refine Sim.of_eq (congrArg j12702 (show (s12695 && (decide (e8902.1 = 0))) = (decide (e8902.1 = 0)) from by rw [k12704] <;> rfl)) ?_
                  exact ljmpM J12703 (decide (e8902.1 = 0)) () (sub_cons rfl sub_nil) X12696
                · refine lskip rfl rfl ?_
                  refine lskip rfl rfl ?_
                  refine lpure (v := .bool false) rfl (p_pick rfl) rfl rfl ?_
                  refine Sim.of_eq (congrArg j12702 (show (s12695 && (decide (e8902.1 = 0))) = false from by rw [k12704] <;> rfl)) ?_
                  exact ljmpM J12703 false () (sub_cons rfl sub_nil) X12696
            · intro j12705 J12706
              refine lcase (i := 61) (show _ = Value.bool s12691 from rfl) (fun k12707 => ?_) (fun k12707 => ?_)
              · refine lpure (v := .slice a8900 n8900 c8900) rfl (p_move rfl) rfl rfl ?_
                refine lpure (v := .int .i64 (e8893.1.length : Int)) rfl (p_len rfl rfl rfl un_28 rfl) (OSl.len O8900) rfl ?_
                refine lpure (v := .bool (decide ((e8893.1.length : Int) = 0))) rfl (p_eq rfl) rfl rfl ?_
                refine lpure (v := .bool (decide ((e8893.1.length : Int) = 0))) rfl (p_pick rfl) rfl rfl ?_
                refine Sim.of_eq (congrArg j12705 (show (s12691 && (decide ((e8893.1.length : Int) = 0))) = (decide ((e8893.1.length : Int) = 0)) from by rw [k12707] <;> rfl)) ?_
                exact ljmpM J12706 (decide ((e8893.1.length : Int) = 0)) () (sub_cons rfl (sub_cons rfl sub_nil)) X12692
              · refine lskip rfl rfl ?_
                refine lskip rfl rfl ?_
                refine lskip rfl rfl ?_
                refine lpure (v := .bool false) rfl (p_pick rfl) rfl rfl ?_
                refine Sim.of_eq (congrArg j12705 (show (s12691 && (decide ((e8893.1.length : Int) = 0))) = false from by rw [k12707] <;> rfl)) ?_
                exact ljmpM J12706 false () (sub_cons rfl (sub_cons rfl sub_nil)) X12692
          · intro j12708 J12709
            refine lcase (i := 57) (show _ = Value.bool (decide (e8893.2 = 2)) from rfl) (fun k12710 => ?_) (fun k12710 => ?_)
            · refine lpure (v := .int .i64 e8902.2) rfl (p_move rfl) rfl rfl ?_
              refine lpure (v := .bool (decide (e8902.2 = 2))) rfl (p_eq rfl) rfl rfl ?_
              refine lpure (v := .bool (decide (e8902.2 = 2))) rfl (p_pick rfl) rfl rfl ?_
              refine Sim.of_eq (congrArg j12708 (show ((decide (e8893.2 = 2)) && (decide (e8902.2 = 2))) = (decide (e8902.2 = 2)) from by rw [k12710] <;> rfl)) ?_
              exact ljmpM J12709 (decide (e8902.2 = 2)) () (sub_cons rfl (sub_cons rfl (sub_cons rfl sub_nil))) X12687
            · refine lskip rfl rfl ?_
              refine lskip rfl rfl ?_
              refine lpure (v := .bool false) rfl (p_pick rfl) rfl rfl ?_
              refine Sim.of_eq (congrArg j12708 (show ((decide (e8893.2 = 2)) && (decide (e8902.2 = 2))) = false from by rw [k12710] <;> rfl)) ?_
              exact ljmpM J12709 false () (sub_cons rfl (sub_cons rfl (sub_cons rfl sub_nil))) X12687
        · refine dskip ?_
          refine nseq ?_
          refine dseq ?_
          refine dseq ?_
          refine dreg ?_
          refine lpure (v := .int .i64 e8893.2) rfl (p_move rfl) rfl rfl ?_
          refine lpure (v := .bool (decide (e8893.2 ≠ 0))) rfl (p_ne rfl) rfl rfl ?_
          refine lpure (v := .bool (decide (e8893.2 ≠ 0))) rfl (p_move rfl) rfl rfl ?_
          refine ljoinM (τ := Bool) (σ := Fz) (fun s12960 φ12961 => [(1, .int .i64 p4), (2, .int .i64 p5), (3, .pointer (some ⟨b6, 0, none⟩)), (9, .int .i64 e8902.1), (10, .int .i64 e8902.2), (79, .bool s12960)]) (fun s12960 φ12961 hh => St φ12961 h.n hh ([(ob8900, blk8900), (some b6, .cells [.int .i64 e8885.Nodes, .slice a8889 n8889 c8889, .slice a8890 n8890 c8890] 25 .exact)]) ∧ Fz.le φ8897 φ12961) 7 ?_ ?_
          · rintro s12960 φ12961 t0 h12964 ⟨X12963, g12962⟩
            refine lend ?_
            refine nseq ?_
            refine dcond rfl rfl (fun k12965 => ?_) (fun k12965 => ?_)
            · refine dseq ?_
              refine dreg ?_
              refine lpure (v := .bool false) rfl (p_assign rfl) rfl rfl ?_
              refine lend ?_
              refine nseq ?_
              refine dret ?_
              refine rseq ?_
              exact kcut_r (res_1 resT) X12963 rfl rfl
            · refine dskip ?_
              refine nseq ?_
              refine dseq ?_
              refine dseq ?_
              refine dreg ?_
              refine lpure (v := .int .i64 p5) rfl (p_move rfl) rfl rfl ?_
              refine lpure (v := .bool (decide (p5 < 0))) rfl (p_lt rfl) rfl rfl ?_
              refine lpure (v := .bool (decide (p5 < 0))) rfl (p_move rfl) rfl rfl ?_
              refine lsh (τ := Bool) (σ := Unit) (fun s12967 (_ : Unit) => [(1, .int .i64 p4), (2, .int .i64 p5), (3, .pointer (some ⟨b6, 0, none⟩)), (9, .int .i64 e8902.1), (10, .int .i64 e8902.2), (87, .bool s12967)]) (fun s12967 (_ : Unit) hh => St φ12961 h.n hh ([(ob8900, blk8900), (some b6, .cells [.int .i64 e8885.Nodes, .slice a8889 n8889 c8889, .slice a8890 n8890 c8890] 25 .exact)])) 5 ?_ ?_
              · rintro s12967 _ t0 h12969 X12968
                refine lend ?_
                refine nseq ?_
                refine dcond rfl rfl (fun k12970 => ?_) (fun k12970 => ?_)
                · refine dseq ?_
                  refine dreg ?_
                  refine lpure (v := .int .i64 e8902.2) rfl (p_move rfl) rfl rfl ?_
                  refine lpure (v := .bool (decide (e8902.2 = 2))) rfl (p_eq rfl) rfl rfl ?_
                  refine lpure (v := .bool (decide (e8902.2 = 2))) rfl (p_move rfl) rfl rfl ?_
                  refine lsh (τ := Bool) (σ := Unit) (fun s12972 (_ : Unit) => [(93, .bool s12972)]) (fun s12972 (_ : Unit) hh => St φ12961 h.n hh ([(ob8900, blk8900), (some b6, .cells [.int .i64 e8885.Nodes, .slice a8889 n8889 c8889, .slice a8890 n8890 c8890] 25 .exact)])) 3 ?_ ?_
                  · rintro s12972 _ t0 h12974 X12973
                    refine lpure (v := .bool s12972) rfl (p_assign rfl) rfl rfl ?_
                    refine lend ?_
                    refine nseq ?_
                    refine dret ?_
                    refine rseq ?_
                    exact kcut_r (res_1 resT) X12973 rfl rfl
                  · intro j12975 J12976
                    refine lcase (i := 90) (show _ = Value.bool (decide (e8902.2 = 2)) from rfl) (fun k12977 => ?_) (fun k12977 => ?_)
                    · refine lpure (v := .int .i64 e8902.1) rfl (p_move rfl) rfl rfl ?_
                      refine lpure (v := .bool (decide (e8902.1 = 0))) rfl (p_eq rfl) rfl rfl ?_
                      refine lpure (v := .bool (decide (e8902.1 = 0))) rfl (p_pick rfl) rfl rfl ?_
                      refine Sim.of_eq (congrArg j12975 (show ((decide (e8902.2 = 2)) && (decide (e8902.1 = 0))) = (decide (e8902.1 = 0)) from by rw [k12977] <;> rfl)) ?_
                      exact ljmpM J12976 (decide (e8902.1 = 0)) () (sub_cons rfl sub_nil) X12968
                    · refine lskip rfl rfl ?_
                      refine lskip rfl rfl ?_
                      refine lpure (v := .bool false) rfl (p_pick rfl) rfl rfl ?_
                      refine Sim.of_eq (congrArg j12975 (show ((decide (e8902.2 = 2)) && (decide (e8902.1 = 0))) = false from by rw [k12977] <;> rfl)) ?_
                      exact ljmpM J12976 false () (sub_cons rfl sub_nil) X12968
                · refine dskip ?_
                  refine nseq ?_
                  refine dseq ?_
                  refine dreg ?_
                  refine lread (v := .agg #[.int .i64 e8885.Nodes, .slice a8889 n8889 c8889, .slice a8890 n8890 c8890]) rfl (q_load wd_25 rfl) (St.ld X12968 (j := 1) rfl rfl) rfl ?_
                  refine lpure (v := .int .i64 p4) rfl (p_move rfl) rfl rfl ?_
                  refine lpure (v := .int .i64 p5) rfl (p_move rfl) rfl rfl ?_
                  refine lcall rfl rfl ca_16 rfl rfl (f16_ok X12968 e8885 p4 p5 (H8889.mono (g8898.trans g12962)) (H8890.mono (g8898.trans g12962))) rfl (fun e13107 v13108 h13109 hq13110 => ?_)
                  cases hq13110
                  refine lpure (v := .int .i64 e13107) rfl (p_assign rfl) rfl rfl ?_
                  refine lend ?_
                  refine nseq ?_
                  refine dseq ?_
                  refine dseq ?_
                  refine dreg ?_
                  refine lpure (v := .int .i64 e13107) rfl (p_move rfl) rfl rfl ?_
                  refine lpure (v := .bool (decide (e13107 < 0))) rfl (p_lt rfl) rfl rfl ?_
                  refine lend ?_
                  refine nseq ?_
                  refine dcond rfl rfl (fun k13111 => ?_) (fun k13111 => ?_)
                  · refine dseq ?_
                    refine dreg ?_
                    refine lpure (v := .int .i64 e8902.2) rfl (p_move rfl) rfl rfl ?_
                    refine lpure (v := .bool (decide (e8902.2 = 4))) rfl (p_eq rfl) rfl rfl ?_
                    refine lpure (v := .bool (decide (e8902.2 = 4))) rfl (p_move rfl) rfl rfl ?_
                    refine lsh (τ := Bool) (σ := Unit) (fun s13113 (_ : Unit) => [(105, .bool s13113)]) (fun s13113 (_ : Unit) hh => St φ12961 h.n hh ([(ob8900, blk8900), (some b6, .cells [.int .i64 e8885.Nodes, .slice a8889 n8889 c8889, .slice a8890 n8890 c8890] 25 .exact)])) 3 ?_ ?_
                    · rintro s13113 _ t0 h13115 X13114
                      refine lpure (v := .bool s13113) rfl (p_assign rfl) rfl rfl ?_
                      refine lend ?_
                      refine nseq ?_
                      refine dret ?_
                      refine rseq ?_
                      exact kcut_r (res_1 resT) X13114 rfl rfl
                    · intro j13116 J13117
                      refine lcase (i := 102) (show _ = Value.bool (decide (e8902.2 = 4)) from rfl) (fun k13118 => ?_) (fun k13118 => ?_)
                      · refine lpure (v := .int .i64 e8902.1) rfl (p_move rfl) rfl rfl ?_
                        refine lpure (v := .bool (decide (e8902.1 = 0))) rfl (p_eq rfl) rfl rfl ?_
                        refine lpure (v := .bool (decide (e8902.1 = 0))) rfl (p_pick rfl) rfl rfl ?_
                        refine Sim.of_eq (congrArg j13116 (show ((decide (e8902.2 = 4)) && (decide (e8902.1 = 0))) = (decide (e8902.1 = 0)) from by rw [k13118] <;> rfl)) ?_
                        exact ljmpM J13117 (decide (e8902.1 = 0)) () (sub_cons rfl sub_nil) X12968
                      · refine lskip rfl rfl ?_
                        refine lskip rfl rfl ?_
                        refine lpure (v := .bool false) rfl (p_pick rfl) rfl rfl ?_
                        refine Sim.of_eq (congrArg j13116 (show ((decide (e8902.2 = 4)) && (decide (e8902.1 = 0))) = false from by rw [k13118] <;> rfl)) ?_
                        exact ljmpM J13117 false () (sub_cons rfl sub_nil) X12968
                  · refine dskip ?_
                    refine nseq ?_
                    refine dseq ?_
                    refine dreg ?_
                    refine lpure (v := .int .i64 e8902.2) rfl (p_move rfl) rfl rfl ?_
                    refine lpure (v := .bool (decide (e8902.2 = 0))) rfl (p_eq rfl) rfl rfl ?_
                    refine lpure (v := .bool (decide (e8902.2 = 0))) rfl (p_move rfl) rfl rfl ?_
                    refine lsh (τ := Bool) (σ := Unit) (fun s13120 (_ : Unit) => [(112, .bool s13120)]) (fun s13120 (_ : Unit) hh => St φ12961 h.n hh ([(ob8900, blk8900), (some b6, .cells [.int .i64 e8885.Nodes, .slice a8889 n8889 c8889, .slice a8890 n8890 c8890] 25 .exact)])) 4 ?_ ?_
                    · rintro s13120 _ t0 h13122 X13121
                      refine lpure (v := .bool s13120) rfl (p_assign rfl) rfl rfl ?_
                      refine lend ?_
                      refine nseq ?_
                      refine dret ?_
                      exact kcut_r (res_1 resT) X13121 rfl rfl
                    · intro j13123 J13124
                      refine lcase (i := 108) (show _ = Value.bool (decide (e8902.2 = 0)) from rfl) (fun k13125 => ?_) (fun k13125 => ?_)
                      · refine lpure (v := .int .i64 e8902.1) rfl (p_move rfl) rfl rfl ?_
                        refine lpure (v := .int .i64 e13107) rfl (p_move rfl) rfl rfl ?_
                        refine lpure (v := .bool (decide (e8902.1 = e13107))) rfl (p_eq rfl) rfl rfl ?_
                        refine lpure (v := .bool (decide (e8902.1 = e13107))) rfl (p_pick rfl) rfl rfl ?_
                        refine Sim.of_eq (congrArg j13123 (show ((decide (e8902.2 = 0)) && (decide (e8902.1 = e13107))) = (decide (e8902.1 = e13107)) from by rw [k13125] <;> rfl)) ?_
                        exact ljmpM J13124 (decide (e8902.1 = e13107)) () (sub_cons rfl sub_nil) X12968
                      · refine lskip rfl rfl ?_
                        refine lskip rfl rfl ?_
                        refine lskip rfl rfl ?_
                        refine lpure (v := .bool false) rfl (p_pick rfl) rfl rfl ?_
                        refine Sim.of_eq (congrArg j13123 (show ((decide (e8902.2 = 0)) && (decide (e8902.1 = e13107))) = false from by rw [k13125] <;> rfl)) ?_
                        exact ljmpM J13124 false () (sub_cons rfl sub_nil) X12968
              · intro j13126 J13127
                refine lcase (i := 82) (show _ = Value.bool (decide (p5 < 0)) from rfl) (fun k13128 => ?_) (fun k13128 => ?_)
                · refine lskip rfl rfl ?_
                  refine lskip rfl rfl ?_
                  refine lskip rfl rfl ?_
                  refine lskip rfl rfl ?_
                  refine lpure (v := .bool true) rfl (p_pick rfl) rfl rfl ?_
                  refine Sim.of_eq (congrArg j13126 (show ((decide (p5 < 0)) || (decide (e8885.Nodes ≤ p5))) = true from by rw [k13128] <;> rfl)) ?_
                  exact ljmpM J13127 true () (sub_cons rfl (sub_cons rfl (sub_cons rfl (sub_cons rfl (sub_cons rfl (sub_cons rfl sub_nil)))))) X12963
                · refine lpure (v := .int .i64 p5) rfl (p_move rfl) rfl rfl ?_
                  refine lpure (v := .pointer (some ⟨b6, 0, none⟩)) rfl (p_fa fo_25_0 rfl) rfl rfl ?_
                  refine lread (v := .int .i64 e8885.Nodes) rfl (q_load wd_3 rfl) (St.ld X12963 (j := 1) rfl rfl) rfl ?_
                  refine lpure (v := .bool (decide (e8885.Nodes ≤ p5))) rfl (p_ge rfl) rfl rfl ?_
                  refine lpure (v := .bool (decide (e8885.Nodes ≤ p5))) rfl (p_pick rfl) rfl rfl ?_
                  refine Sim.of_eq (congrArg j13126 (show ((decide (p5 < 0)) || (decide (e8885.Nodes ≤ p5))) = (decide (e8885.Nodes ≤ p5)) from by rw [k13128] <;> rfl)) ?_
                  exact ljmpM J13127 (decide (e8885.Nodes ≤ p5)) () (sub_cons rfl (sub_cons rfl (sub_cons rfl (sub_cons rfl (sub_cons rfl (sub_cons rfl sub_nil)))))) X12963
          · intro j13129 J13130
            refine lif (i := 72) (show _ = Value.bool (decide (e8893.2 ≠ 0)) from rfl) (fun k13131 => ?_) (fun k13131 => ?_)
            · refine lskip rfl rfl ?_
              refine lskip rfl rfl ?_
              refine lskip rfl rfl ?_
              refine lskip rfl rfl ?_
              refine lskip rfl rfl ?_
              refine lskip rfl rfl ?_
              refine lpure (v := .bool true) rfl (p_pick rfl) rfl rfl ?_
              exact ljmpM J13130 true φ8897 (sub_cons rfl (sub_cons rfl (sub_cons rfl (sub_cons rfl (sub_cons rfl (sub_cons rfl sub_nil)))))) ⟨X12687, (Fz.le_refl _)⟩
            · refine lpure (v := .slice a8900 n8900 c8900) rfl (p_move rfl) rfl rfl ?_
              refine lread (v := .agg #[.int .i64 e8885.Nodes, .slice a8889 n8889 c8889, .slice a8890 n8890 c8890]) rfl (q_load wd_25 rfl) (St.ld X12687 (j := 1) rfl rfl) rfl ?_
              refine lpure (v := .int .i64 p4) rfl (p_move rfl) rfl rfl ?_
              refine lcall rfl rfl ca_15 rfl rfl (f15_ok X12687 e8885 p4 (H8889.mono g8898) (H8890.mono g8898)) rfl ?_
              rintro e13132 _ h13134 ⟨φ13136, a13139, n13139, c13139, ob13139, blk13139, g13137, X13138, rfl, O13139⟩
              obtain ⟨φ13141, g13142, X13143, H13144⟩ := OSl.freeze X13138 (j := 1) rfl (O8900.mono g13137)
              obtain ⟨φ13145, g13146, X13147, H13148⟩ := OSl.freeze X13143 (j := 0) rfl (O13139.mono g13142)
              refine lcall rfl rfl ca_14 rfl rfl (f14_ok X13147 (e8893.1) e13132 (H13144.mono g13146) H13148) rfl (fun e13149 v13150 h13151 hq13152 => ?_)
              cases hq13152
              refine lpure (v := .bool (!e13149)) rfl (p_not rfl) rfl rfl ?_
              refine lpure (v := .bool (!e13149)) rfl (p_pick rfl) rfl rfl ?_
              exact ljmpM J13130 (!e13149) φ13136 (sub_cons rfl (sub_cons rfl (sub_cons rfl (sub_cons rfl (sub_cons rfl (sub_cons rfl sub_nil)))))) ⟨(St.pick X13138 (.skip _ (.keep _ (.keep _ (.nil _))))), g13137⟩
      · intro j13153 J13154
        refine lcase (i := 49) (show _ = Value.bool (decide (p4 < 0)) from rfl) (fun k13155 => ?_) (fun k13155 => ?_)
        · refine lskip rfl rfl ?_
          refine lskip rfl rfl ?_
          refine lskip rfl rfl ?_
          refine lskip rfl rfl ?_
          refine lpure (v := .bool true) rfl (p_pick rfl) rfl rfl ?_
          refine Sim.of_eq (congrArg j13153 (show ((decide (p4 < 0)) || (decide (e8885.Nodes ≤ p4))) = true from by rw [k13155] <;> rfl)) ?_
          exact ljmpM J13154 true () (sub_cons rfl (sub_cons rfl (sub_cons rfl (sub_cons rfl (sub_cons rfl (sub_cons rfl (sub_cons rfl (sub_cons rfl sub_nil)))))))) X8899
        · refine lpure (v := .int .i64 p4) rfl (p_move rfl) rfl rfl ?_
          refine lpure (v := .pointer (some ⟨b6, 0, none⟩)) rfl (p_fa fo_25_0 rfl) rfl rfl ?_
          refine lread (v := .int .i64 e8885.Nodes) rfl (q_load wd_3 rfl) (St.ld X8899 (j := 1) rfl rfl) rfl ?_
          refine lpure (v := .bool (decide (e8885.Nodes ≤ p4))) rfl (p_ge rfl) rfl rfl ?_
          refine lpure (v := .bool (decide (e8885.Nodes ≤ p4))) rfl (p_pick rfl) rfl rfl ?_
          refine Sim.of_eq (congrArg j13153 (show ((decide (p4 < 0)) || (decide (e8885.Nodes ≤ p4))) = (decide (e8885.Nodes ≤ p4)) from by rw [k13155] <;> rfl)) ?_
          exact ljmpM J13154 (decide (e8885.Nodes ≤ p4)) () (sub_cons rfl (sub_cons rfl (sub_cons rfl (sub_cons rfl (sub_cons rfl (sub_cons rfl (sub_cons rfl (sub_cons rfl sub_nil)))))))) X8899
end Go.AM
