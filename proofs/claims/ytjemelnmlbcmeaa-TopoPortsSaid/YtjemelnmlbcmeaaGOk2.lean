/- Printed: functions of the given program as functions over plain data, and that the machine does what they say; no claim of its own; no condition. -/
import Derived.Test.YtjemelnmlbcmeaaGOk1
set_option maxRecDepth 100000
set_option maxHeartbeats 4000000
set_option linter.unusedVariables false
set_option linter.unusedSimpArgs false
namespace Go.AM
open Go Go.Proofs

/-! slices.Equal[[]bool,bool] -/
theorem f18_ok {n : Nat} {φ : Fz} {lo : Nat} {h : Heap} {own : OwnL} (X : St φ lo h own) (p8683 : (List Bool)) (p8685 : (List Bool)) {a8684 : Option Addr} {n8684 c8684 : Nat} {a8686 : Option Addr} {n8686 c8686 : Nat} (H8684 : RSl eBool φ (.slice a8684 n8684 c8684) p8683) (H8686 : RSl eBool φ (.slice a8686 n8686 c8686) p8685) : Sim ((recN Try.prog LL cutF (n + 1)).call 18 #[(.slice a8684 n8684 c8684), (.slice a8686 n8686 c8686)] h) (m_slices_Equal_bool_bool p8683 p8685) (fun (d : Bool) p => p = (.bool d, h)) := by
  refine fcut Try.func18 rfl rfl rfl rfl X ?_
  intro h0 X0
  refine dseq ?_
  refine dreg ?_
  refine lpure (v := .bool false) rfl (p_assign rfl) rfl rfl ?_
  refine lend ?_
  refine nseq ?_
  refine dseq ?_
  refine dseq ?_
  refine dreg ?_
  refine lpure (v := .slice a8684 n8684 c8684) rfl (p_move rfl) rfl rfl ?_
  refine lpure (v := .int .i64 (p8683.length : Int)) rfl (p_len rfl rfl rfl un_22 rfl) (RSl.lenC H8684) rfl ?_
  refine lpure (v := .slice a8686 n8686 c8686) rfl (p_move rfl) rfl rfl ?_
  refine lpure (v := .int .i64 (p8685.length : Int)) rfl (p_len rfl rfl rfl un_22 rfl) (RSl.lenC H8686) rfl ?_
  refine lpure (v := .bool (decide ((p8683.length : Int) ≠ (p8685.length : Int)))) rfl (p_ne rfl) rfl rfl ?_
  refine lend ?_
  refine nseq ?_
  refine dcond rfl rfl (fun k8687 => ?_) (fun k8687 => ?_)
  · refine dseq ?_
    refine dreg ?_
    refine lpure (v := .bool false) rfl (p_assign rfl) rfl rfl ?_
    refine lend ?_
    refine nseq ?_
    refine dret ?_
    refine rseq ?_
    exact kcut_r (res_1 resT) X0 rfl rfl
  · refine dskip ?_
    refine nseq ?_
    refine dseq ?_
    refine dseq ?_
    refine dreg ?_
    refine lpure (v := .slice a8684 n8684 c8684) rfl (p_move rfl) rfl rfl ?_
    refine lpure (v := .int .i64 (p8683.length : Int)) rfl (p_len rfl rfl rfl un_22 rfl) (RSl.lenC H8684) rfl ?_
    refine lpure (v := .int .i64 0) rfl (p_move rfl) rfl rfl ?_
    refine lend ?_
    refine nseq ?_
    refine dblock ?_
    refine dloopM (τ := Int) (σ := Unit) (fun s8710 (_ : Unit) => [(0, .slice a8684 n8684 c8684), (1, .slice a8686 n8686 c8686), (12, .int .i64 (p8683.length : Int)), (13, .int .i64 s8710)]) (fun s8710 (_ : Unit) hh => St φ h.n hh ([])) 0 () (sub_cons rfl (sub_cons rfl (sub_cons rfl (sub_cons rfl sub_nil)))) X0 ?_
    rintro n8723 ih8722 s8710 _ t0 h8725 X8724
    refine dseq ?_
    refine dreg ?_
    refine lpure (v := .bool (decide (s8710 < (p8683.length : Int)))) rfl (p_lt rfl) rfl rfl ?_
    refine lend ?_
    refine nseq ?_
    refine dseq ?_
    refine dcond rfl rfl (fun k8726 => ?_) (fun k8726 => ?_)
    · refine dskip ?_
      refine nseq ?_
      refine dseq ?_
      refine dblock ?_
      refine dseq ?_
      refine dreg ?_
      refine lpure (v := .int .i64 s8710) rfl (p_move rfl) rfl rfl ?_
      refine lpure (v := .int .i64 s8710) rfl (p_assign rfl) rfl rfl ?_
      refine lend ?_
      refine nseq ?_
      refine dseq ?_
      refine ddraw 0 0 0 (by kernel_rfl) ?_
      refine spure (v := .slice a8684 n8684 c8684) rfl (p_move rfl) (lo_t (lo_sl X8724 H8684) rfl) rfl rfl ?_
      refine spure (v := .int .i64 s8710) rfl (p_move rfl) (lo_t rfl rfl) rfl rfl ?_
      refine Sim.bindM fun e8727 he8728 => ?_
      obtain ⟨p8729, cs8729, hp8729, hF8729, hR8729⟩ := RSl.ia H8684 he8728 (kd := .i64) (n := 1) rfl
      have hR8729 : _ = [(.bool e8727 : Value)] := hR8729
      subst hR8729
      refine spure (v := p8729) rfl (p_ia rs_22 rfl) (lo_t (lo_sl X8724 H8684) (lo_t rfl rfl)) hp8729 rfl ?_
      refine sload (v := .bool e8727) rfl rfl (q_load wd_4 rfl) (FP.ld X8724 hF8729) (same_self 20 rfl) rfl ?_
      refine spure (v := .slice a8686 n8686 c8686) rfl (p_move rfl) (lo_t (lo_sl X8724 H8686) rfl) rfl rfl ?_
      refine spure (v := .int .i64 s8710) rfl (p_move rfl) (lo_t rfl rfl) rfl rfl ?_
      refine Sim.bindM fun e8730 he8731 => ?_
      obtain ⟨p8732, cs8732, hp8732, hF8732, hR8732⟩ := RSl.ia H8686 he8731 (kd := .i64) (n := 1) rfl
      have hR8732 : _ = [(.bool e8730 : Value)] := hR8732
      subst hR8732
      refine spure (v := p8732) rfl (p_ia rs_22 rfl) (lo_t (lo_sl X8724 H8686) (lo_t rfl rfl)) hp8732 rfl ?_
      refine sload (v := .bool e8730) rfl rfl (q_load wd_4 rfl) (FP.ld X8724 hF8732) (same_self 20 rfl) rfl ?_
      refine spure (v := .bool (!(e8727 == e8730))) rfl (p_bin rfl) (lo_t rfl (lo_t rfl rfl)) (bin_neB un_4) rfl ?_
      refine send ?_
      refine nseq ?_
      refine dcond rfl rfl (fun k8733 => ?_) (fun k8733 => ?_)
      · refine dseq ?_
        refine dreg ?_
        refine lpure (v := .bool false) rfl (p_assign rfl) rfl rfl ?_
        refine lend ?_
        refine nseq ?_
        refine dret ?_
        refine rblock ?_
        refine rseq ?_
        refine rloop ?_
        refine rblock ?_
        refine rseq ?_
        exact kcut_r (res_1 resT) X8724 rfl rfl
      · refine dskip ?_
        refine nblock ?_
        refine nseq ?_
        refine dreg ?_
        refine lpure (v := .int .i64 (w64 (s8710 + 1))) rfl (p_add rfl) rfl rfl ?_
        refine lpure (v := .int .i64 (w64 (s8710 + 1))) rfl (p_move rfl) rfl rfl ?_
        refine lend ?_
        exact kbackM ih8722 (w64 (s8710 + 1)) () (sub_cons rfl (sub_cons rfl (sub_cons rfl (sub_cons rfl sub_nil)))) X8724
    · refine dexit ?_
      refine eseq ?_
      refine eloop ?_
      refine xblock ?_
      refine nseq ?_
      refine dseq ?_
      refine dreg ?_
      refine lpure (v := .bool true) rfl (p_assign rfl) rfl rfl ?_
      refine lend ?_
      refine nseq ?_
      refine dret ?_
      exact kcut_r (res_1 resT) X8724 rfl rfl
/-! isochron/isochronlaw16.wakes -/
theorem f9_ok {n : Nat} {φ : Fz} {lo : Nat} {h : Heap} {own : OwnL} (X : St φ lo h own) : Sim ((recN Try.prog LL cutF (n + 9)).call 9 #[] h) (m_isochronlaw16_wakes) (fun (d : Bool) p => p = (.bool d, h)) := by
  refine fcut Try.func9 rfl rfl rfl rfl X ?_
  intro h0 X0
  refine dseq ?_
  refine dreg ?_
  refine lpure (v := .bool false) rfl (p_assign rfl) rfl rfl ?_
  refine lend ?_
  refine nseq ?_
  refine dseq ?_
  refine dreg ?_
  refine lcall rfl rfl ca_38 rfl rfl (f38_ok X0) rfl ?_
  rintro e33 _ h35 ⟨φ37, a40, n40, c40, ob40, blk40, a42, n42, c42, ob42, blk42, g38, X39, rfl, O40, O42⟩
  refine lalloc rfl tz_25 rfl rfl rfl X39 (fun b44 h46 X47 => ?_)
  refine lstore rfl ts_25 rfl rfl (j := 0) rfl rfl rfl rfl rfl rfl X47 (fun h48 X49 => ?_)
  refine lend ?_
  refine nseq ?_
  refine dseq ?_
  refine dreg ?_
  refine lread (v := .agg #[.int .i64 e33.Nodes, .slice a40 n40 c40, .slice a42 n42 c42]) rfl (q_load wd_25 rfl) (St.ld X49 (j := 0) rfl rfl) rfl ?_
  obtain ⟨φ6846, g6847, X6848, H6849⟩ := OSl.freeze X49 (j := 1) rfl O40
  obtain ⟨φ6850, g6851, X6852, H6853⟩ := OSl.freeze X6848 (j := 2) rfl (O42.mono g6847)
  refine lcall rfl rfl ca_23 rfl rfl (f23_ok X6852 e33 0 (H6849.mono g6851) H6853) rfl (fun e6854 v6855 h6856 hq6857 => ?_)
  cases hq6857
  refine lpure (v := .tuple #[.int .i64 e6854.1, .int .i64 e6854.2]) rfl (p_move rfl) rfl rfl ?_
  refine lpure (v := .int .i64 e6854.1) rfl (p_extract rfl) rfl rfl ?_
  refine lpure (v := .int .i64 e6854.2) rfl (p_extract rfl) rfl rfl ?_
  refine lpure (v := .int .i64 e6854.1) rfl (p_assign rfl) rfl rfl ?_
  refine lpure (v := .int .i64 e6854.2) rfl (p_assign rfl) rfl rfl ?_
  refine lend ?_
  refine nseq ?_
  refine dseq ?_
  refine dreg ?_
  refine lread (v := .agg #[.int .i64 e33.Nodes, .slice a40 n40 c40, .slice a42 n42 c42]) rfl (q_load wd_25 rfl) (St.ld X49 (j := 0) rfl rfl) rfl ?_
  obtain ⟨φ6890, g6891, X6892, H6893⟩ := OSl.freeze X49 (j := 1) rfl O40
  obtain ⟨φ6894, g6895, X6896, H6897⟩ := OSl.freeze X6892 (j := 2) rfl (O42.mono g6891)
  refine lcall rfl rfl ca_24 rfl rfl (f24_ok X6896 e33 3 (H6893.mono g6895) H6897) rfl (fun e6898 v6899 h6900 hq6901 => ?_)
  cases hq6901
  refine lpure (v := .tuple #[.int .i64 e6898.1, .int .i64 e6898.2]) rfl (p_move rfl) rfl rfl ?_
  refine lpure (v := .int .i64 e6898.1) rfl (p_extract rfl) rfl rfl ?_
  refine lpure (v := .int .i64 e6898.2) rfl (p_extract rfl) rfl rfl ?_
  refine lpure (v := .int .i64 e6898.1) rfl (p_assign rfl) rfl rfl ?_
  refine lpure (v := .int .i64 e6898.2) rfl (p_assign rfl) rfl rfl ?_
  refine lend ?_
  refine nseq ?_
  refine dseq ?_
  refine dreg ?_
  refine lread (v := .agg #[.int .i64 e33.Nodes, .slice a40 n40 c40, .slice a42 n42 c42]) rfl (q_load wd_25 rfl) (St.ld X49 (j := 0) rfl rfl) rfl ?_
  obtain ⟨φ6939, g6940, X6941, H6942⟩ := OSl.freeze X49 (j := 1) rfl O40
  obtain ⟨φ6943, g6944, X6945, H6946⟩ := OSl.freeze X6941 (j := 2) rfl (O42.mono g6940)
  refine lcall rfl rfl ca_25 rfl rfl (f25_ok X6945 e33 5 (H6942.mono g6944) H6946) rfl (fun e6947 v6948 h6949 hq6950 => ?_)
  cases hq6950
  refine lpure (v := .tuple #[.int .i64 e6947.1, .int .i64 e6947.2]) rfl (p_move rfl) rfl rfl ?_
  refine lpure (v := .int .i64 e6947.1) rfl (p_extract rfl) rfl rfl ?_
  refine lpure (v := .int .i64 e6947.2) rfl (p_extract rfl) rfl rfl ?_
  refine lpure (v := .int .i64 e6947.1) rfl (p_assign rfl) rfl rfl ?_
  refine lpure (v := .int .i64 e6947.2) rfl (p_assign rfl) rfl rfl ?_
  refine lend ?_
  refine nseq ?_
  refine dseq ?_
  refine dreg ?_
  refine lread (v := .agg #[.int .i64 e33.Nodes, .slice a40 n40 c40, .slice a42 n42 c42]) rfl (q_load wd_25 rfl) (St.ld X49 (j := 0) rfl rfl) rfl ?_
  obtain ⟨φ6988, g6989, X6990, H6991⟩ := OSl.freeze X49 (j := 1) rfl O40
  obtain ⟨φ6992, g6993, X6994, H6995⟩ := OSl.freeze X6990 (j := 2) rfl (O42.mono g6989)
  refine lcall rfl rfl ca_26 rfl rfl (f26_ok X6994 e33 4 (H6991.mono g6993) H6995) rfl (fun e6996 v6997 h6998 hq6999 => ?_)
  cases hq6999
  refine lpure (v := .tuple #[.int .i64 e6996.1, .int .i64 e6996.2]) rfl (p_move rfl) rfl rfl ?_
  refine lpure (v := .int .i64 e6996.1) rfl (p_extract rfl) rfl rfl ?_
  refine lpure (v := .int .i64 e6996.2) rfl (p_extract rfl) rfl rfl ?_
  refine lpure (v := .int .i64 e6996.1) rfl (p_assign rfl) rfl rfl ?_
  refine lpure (v := .int .i64 e6996.2) rfl (p_assign rfl) rfl rfl ?_
  refine lend ?_
  refine nseq ?_
  refine dseq ?_
  refine dreg ?_
  refine lread (v := .agg #[.int .i64 e33.Nodes, .slice a40 n40 c40, .slice a42 n42 c42]) rfl (q_load wd_25 rfl) (St.ld X49 (j := 0) rfl rfl) rfl ?_
  obtain ⟨φ7732, g7733, X7734, H7735⟩ := OSl.freeze X49 (j := 1) rfl O40
  obtain ⟨φ7736, g7737, X7738, H7739⟩ := OSl.freeze X7734 (j := 2) rfl (O42.mono g7733)
  refine lcall rfl rfl ca_11 rfl rfl (f11_ok X7738 e33 1 (H7735.mono g7737) H7739) rfl ?_
  rintro e7740 _ h7742 ⟨φ7744, a7747, n7747, c7747, ob7747, blk7747, g7745, X7746, rfl, O7747⟩
  refine lpure (v := .tuple #[.slice a7747 n7747 c7747, .int .i64 e7740.2]) rfl (p_move rfl) rfl rfl ?_
  refine lpure (v := .slice a7747 n7747 c7747) rfl (p_extract rfl) rfl rfl ?_
  refine lpure (v := .int .i64 e7740.2) rfl (p_extract rfl) rfl rfl ?_
  refine lpure (v := .slice a7747 n7747 c7747) rfl (p_assign rfl) rfl rfl ?_
  refine lpure (v := .int .i64 e7740.2) rfl (p_assign rfl) rfl rfl ?_
  refine lend ?_
  refine nseq ?_
  refine dseq ?_
  refine dreg ?_
  refine lread (v := .agg #[.int .i64 e33.Nodes, .slice a40 n40 c40, .slice a42 n42 c42]) rfl (q_load wd_25 rfl) (St.ld X7746 (j := 1) rfl rfl) rfl ?_
  refine lcall rfl rfl ca_12 rfl rfl (f12_ok X7746 e33 2 1 (H7735.mono (g7737.trans g7745)) (H7739.mono g7745)) rfl (fun e8218 v8219 h8220 hq8221 => ?_)
  cases hq8221
  refine lpure (v := .tuple #[.int .i64 e8218.1, .int .i64 e8218.2]) rfl (p_move rfl) rfl rfl ?_
  refine lpure (v := .int .i64 e8218.1) rfl (p_extract rfl) rfl rfl ?_
  refine lpure (v := .int .i64 e8218.2) rfl (p_extract rfl) rfl rfl ?_
  refine lpure (v := .int .i64 e8218.1) rfl (p_assign rfl) rfl rfl ?_
  refine lpure (v := .int .i64 e8218.2) rfl (p_assign rfl) rfl rfl ?_
  refine lend ?_
  refine nseq ?_
  refine dseq ?_
  refine dreg ?_
  refine lread (v := .agg #[.int .i64 e33.Nodes, .slice a40 n40 c40, .slice a42 n42 c42]) rfl (q_load wd_25 rfl) (St.ld X7746 (j := 1) rfl rfl) rfl ?_
  obtain ⟨h8222, b8222, hv8222, X8222, O8222⟩ := OSl.lay (E := (eInt .i64)) (φ := φ7744) (cs := [.int .i64 1]) (l := [1]) (len := 1) (parts := [(0, .int .i64 1)]) un_28 ts_3 rfl rfl rfl tz_3 rfl rfl (show RowD (eInt .i64) φ7744 [.int .i64 1] [1] from ⟨[.int .i64 1], _, rfl, rfl, rfl⟩) rfl rfl X7746
  refine lheap rfl (h_buildSlice rfl) hv8222 rfl ?_
  obtain ⟨φ8548, g8549, X8550, H8551⟩ := OSl.freeze X8222 (j := 0) rfl O8222
  refine lcall rfl rfl ca_17 rfl rfl (f17_ok X8550 e33 0 ([1]) (H7735.mono ((g7737.trans g7745).trans g8549)) (H7739.mono (g7745.trans g8549)) H8551) rfl ?_
  rintro e8552 _ h8554 ⟨φ8556, a8559, n8559, c8559, ob8559, blk8559, g8557, X8558, rfl, O8559⟩
  refine lpure (v := .tuple #[.slice a8559 n8559 c8559, .int .i64 e8552.2]) rfl (p_move rfl) rfl rfl ?_
  refine lpure (v := .slice a8559 n8559 c8559) rfl (p_extract rfl) rfl rfl ?_
  refine lpure (v := .int .i64 e8552.2) rfl (p_extract rfl) rfl rfl ?_
  refine lpure (v := .slice a8559 n8559 c8559) rfl (p_assign rfl) rfl rfl ?_
  refine lpure (v := .int .i64 e8552.2) rfl (p_assign rfl) rfl rfl ?_
  refine lend ?_
  refine nseq ?_
  refine dseq ?_
  refine dreg ?_
  refine lread (v := .agg #[.int .i64 e33.Nodes, .slice a40 n40 c40, .slice a42 n42 c42]) rfl (q_load wd_25 rfl) (St.ld X8558 (j := 3) rfl rfl) rfl ?_
  refine lcall rfl rfl ca_23 rfl rfl (f23_ok X8558 e33 6 (H7735.mono (((g7737.trans g7745).trans g8549).trans g8557)) (H7739.mono ((g7745.trans g8549).trans g8557))) rfl (fun e8561 v8562 h8563 hq8564 => ?_)
  cases hq8564
  refine lpure (v := .tuple #[.int .i64 e8561.1, .int .i64 e8561.2]) rfl (p_move rfl) rfl rfl ?_
  refine lpure (v := .int .i64 e8561.1) rfl (p_extract rfl) rfl rfl ?_
  refine lpure (v := .int .i64 e8561.2) rfl (p_extract rfl) rfl rfl ?_
  refine lpure (v := .int .i64 e8561.1) rfl (p_assign rfl) rfl rfl ?_
  refine lpure (v := .int .i64 e8561.2) rfl (p_assign rfl) rfl rfl ?_
  refine lend ?_
  refine nseq ?_
  refine dseq ?_
  refine dreg ?_
  refine lpure (v := .int .i64 e6854.2) rfl (p_move rfl) rfl rfl ?_
  refine lpure (v := .bool (decide (e6854.2 = 0))) rfl (p_eq rfl) rfl rfl ?_
  refine lpure (v := .bool (decide (e6854.2 = 0))) rfl (p_move rfl) rfl rfl ?_
  refine lsh (τ := Bool) (σ := Unit) (fun s8566 (_ : Unit) => [(2, .int .i64 e6854.1), (4, .int .i64 e6898.1), (6, .int .i64 e6947.1), (7, .int .i64 e6947.2), (8, .int .i64 e6996.1), (9, .int .i64 e6996.2), (10, .slice a7747 n7747 c7747), (11, .int .i64 e7740.2), (12, .int .i64 e8218.1), (13, .int .i64 e8218.2), (14, .slice a8559 n8559 c8559), (15, .int .i64 e8552.2), (17, .int .i64 e8561.2), (66, .bool s8566)]) (fun s8566 (_ : Unit) hh => St φ8556 h.n hh ([(ob8559, blk8559), (none, .dead), (ob7747, blk7747), (some b44, .cells [.int .i64 e33.Nodes, .slice a40 n40 c40, .slice a42 n42 c42] 25 .exact), (none, .dead), (none, .dead)])) 3 ?_ ?_
  · rintro s8566 _ t0 h8568 X8567
    refine lpure (v := .bool s8566) rfl (p_move rfl) rfl rfl ?_
    refine lsh (τ := Bool) (σ := Unit) (fun s8570 (_ : Unit) => [(2, .int .i64 e6854.1), (4, .int .i64 e6898.1), (6, .int .i64 e6947.1), (8, .int .i64 e6996.1), (9, .int .i64 e6996.2), (10, .slice a7747 n7747 c7747), (11, .int .i64 e7740.2), (12, .int .i64 e8218.1), (13, .int .i64 e8218.2), (14, .slice a8559 n8559 c8559), (15, .int .i64 e8552.2), (17, .int .i64 e8561.2), (70, .bool s8570)]) (fun s8570 (_ : Unit) hh => St φ8556 h.n hh ([(ob8559, blk8559), (none, .dead), (ob7747, blk7747), (some b44, .cells [.int .i64 e33.Nodes, .slice a40 n40 c40, .slice a42 n42 c42] 25 .exact), (none, .dead), (none, .dead)])) 3 ?_ ?_
    · rintro s8570 _ t0 h8572 X8571
      refine lpure (v := .bool s8570) rfl (p_move rfl) rfl rfl ?_
      refine lsh (τ := Bool) (σ := Unit) (fun s8574 (_ : Unit) => [(2, .int .i64 e6854.1), (4, .int .i64 e6898.1), (6, .int .i64 e6947.1), (8, .int .i64 e6996.1), (10, .slice a7747 n7747 c7747), (11, .int .i64 e7740.2), (12, .int .i64 e8218.1), (13, .int .i64 e8218.2), (14, .slice a8559 n8559 c8559), (15, .int .i64 e8552.2), (17, .int .i64 e8561.2), (74, .bool s8574)]) (fun s8574 (_ : Unit) hh => St φ8556 h.n hh ([(ob8559, blk8559), (none, .dead), (ob7747, blk7747), (some b44, .cells [.int .i64 e33.Nodes, .slice a40 n40 c40, .slice a42 n42 c42] 25 .exact), (none, .dead), (none, .dead)])) 3 ?_ ?_
      · rintro s8574 _ t0 h8576 X8575
        refine lpure (v := .bool s8574) rfl (p_move rfl) rfl rfl ?_
        refine lsh (τ := Bool) (σ := Unit) (fun s8578 (_ : Unit) => [(2, .int .i64 e6854.1), (4, .int .i64 e6898.1), (6, .int .i64 e6947.1), (8, .int .i64 e6996.1), (10, .slice a7747 n7747 c7747), (12, .int .i64 e8218.1), (13, .int .i64 e8218.2), (14, .slice a8559 n8559 c8559), (15, .int .i64 e8552.2), (17, .int .i64 e8561.2), (78, .bool s8578)]) (fun s8578 (_ : Unit) hh => St φ8556 h.n hh ([(ob8559, blk8559), (none, .dead), (ob7747, blk7747), (some b44, .cells [.int .i64 e33.Nodes, .slice a40 n40 c40, .slice a42 n42 c42] 25 .exact), (none, .dead), (none, .dead)])) 3 ?_ ?_
        · rintro s8578 _ t0 h8580 X8579
          refine lpure (v := .bool s8578) rfl (p_move rfl) rfl rfl ?_
          refine lsh (τ := Bool) (σ := Unit) (fun s8582 (_ : Unit) => [(2, .int .i64 e6854.1), (4, .int .i64 e6898.1), (6, .int .i64 e6947.1), (8, .int .i64 e6996.1), (10, .slice a7747 n7747 c7747), (12, .int .i64 e8218.1), (14, .slice a8559 n8559 c8559), (15, .int .i64 e8552.2), (17, .int .i64 e8561.2), (82, .bool s8582)]) (fun s8582 (_ : Unit) hh => St φ8556 h.n hh ([(ob8559, blk8559), (none, .dead), (ob7747, blk7747), (some b44, .cells [.int .i64 e33.Nodes, .slice a40 n40 c40, .slice a42 n42 c42] 25 .exact), (none, .dead), (none, .dead)])) 3 ?_ ?_
          · rintro s8582 _ t0 h8584 X8583
            refine lpure (v := .bool s8582) rfl (p_move rfl) rfl rfl ?_
            refine lsh (τ := Bool) (σ := Unit) (fun s8586 (_ : Unit) => [(2, .int .i64 e6854.1), (4, .int .i64 e6898.1), (6, .int .i64 e6947.1), (8, .int .i64 e6996.1), (10, .slice a7747 n7747 c7747), (12, .int .i64 e8218.1), (14, .slice a8559 n8559 c8559), (17, .int .i64 e8561.2), (86, .bool s8586)]) (fun s8586 (_ : Unit) hh => St φ8556 h.n hh ([(ob8559, blk8559), (none, .dead), (ob7747, blk7747), (some b44, .cells [.int .i64 e33.Nodes, .slice a40 n40 c40, .slice a42 n42 c42] 25 .exact), (none, .dead), (none, .dead)])) 3 ?_ ?_
            · rintro s8586 _ t0 h8588 X8587
              refine lpure (v := .bool s8586) rfl (p_assign rfl) rfl rfl ?_
              refine lend ?_
              refine nseq ?_
              refine dseq ?_
              refine dreg ?_
              refine lpure (v := .bool s8586) rfl (p_move rfl) rfl rfl ?_
              refine lpure (v := .bool s8586) rfl (p_move rfl) rfl rfl ?_
              refine lsh (τ := Bool) (σ := Unit) (fun s8590 (_ : Unit) => [(4, .int .i64 e6898.1), (6, .int .i64 e6947.1), (8, .int .i64 e6996.1), (10, .slice a7747 n7747 c7747), (12, .int .i64 e8218.1), (14, .slice a8559 n8559 c8559), (17, .int .i64 e8561.2), (91, .bool s8590)]) (fun s8590 (_ : Unit) hh => St φ8556 h.n hh ([(ob8559, blk8559), (none, .dead), (ob7747, blk7747), (some b44, .cells [.int .i64 e33.Nodes, .slice a40 n40 c40, .slice a42 n42 c42] 25 .exact), (none, .dead), (none, .dead)])) 3 ?_ ?_
              · rintro s8590 _ t0 h8592 X8591
                refine lpure (v := .bool s8590) rfl (p_move rfl) rfl rfl ?_
                refine lsh (τ := Bool) (σ := Unit) (fun s8594 (_ : Unit) => [(6, .int .i64 e6947.1), (8, .int .i64 e6996.1), (10, .slice a7747 n7747 c7747), (12, .int .i64 e8218.1), (14, .slice a8559 n8559 c8559), (17, .int .i64 e8561.2), (95, .bool s8594)]) (fun s8594 (_ : Unit) hh => St φ8556 h.n hh ([(ob8559, blk8559), (none, .dead), (ob7747, blk7747), (some b44, .cells [.int .i64 e33.Nodes, .slice a40 n40 c40, .slice a42 n42 c42] 25 .exact), (none, .dead), (none, .dead)])) 3 ?_ ?_
                · rintro s8594 _ t0 h8596 X8595
                  refine lpure (v := .bool s8594) rfl (p_move rfl) rfl rfl ?_
                  refine lsh (τ := Bool) (σ := Unit) (fun s8598 (_ : Unit) => [(8, .int .i64 e6996.1), (10, .slice a7747 n7747 c7747), (12, .int .i64 e8218.1), (14, .slice a8559 n8559 c8559), (17, .int .i64 e8561.2), (99, .bool s8598)]) (fun s8598 (_ : Unit) hh => St φ8556 h.n hh ([(ob8559, blk8559), (none, .dead), (ob7747, blk7747), (some b44, .cells [.int .i64 e33.Nodes, .slice a40 n40 c40, .slice a42 n42 c42] 25 .exact), (none, .dead), (none, .dead)])) 3 ?_ ?_
                  · rintro s8598 _ t0 h8600 X8599
                    refine lpure (v := .bool s8598) rfl (p_move rfl) rfl rfl ?_
                    refine lsh (τ := Bool) (σ := Unit) (fun s8602 (_ : Unit) => [(10, .slice a7747 n7747 c7747), (12, .int .i64 e8218.1), (14, .slice a8559 n8559 c8559), (17, .int .i64 e8561.2), (103, .bool s8602)]) (fun s8602 (_ : Unit) hh => St φ8556 h.n hh ([(ob8559, blk8559), (none, .dead), (ob7747, blk7747), (some b44, .cells [.int .i64 e33.Nodes, .slice a40 n40 c40, .slice a42 n42 c42] 25 .exact), (none, .dead), (none, .dead)])) 3 ?_ ?_
                    · rintro s8602 _ t0 h8604 X8603
                      refine lpure (v := .bool s8602) rfl (p_move rfl) rfl rfl ?_
                      refine ljoinM (τ := Bool) (σ := Unit) (fun s8672 (_ : Unit) => [(12, .int .i64 e8218.1), (14, .slice a8559 n8559 c8559), (17, .int .i64 e8561.2), (108, .bool s8672)]) (fun s8672 (_ : Unit) hh => St φ8556 h.n hh ([(ob8559, blk8559), (none, .dead), (ob7747, blk7747), (some b44, .cells [.int .i64 e33.Nodes, .slice a40 n40 c40, .slice a42 n42 c42] 25 .exact), (none, .dead), (none, .dead)])) 4 ?_ ?_
                      · rintro s8672 _ t0 h8674 X8673
                        refine lpure (v := .bool s8672) rfl (p_move rfl) rfl rfl ?_
                        refine lsh (τ := Bool) (σ := Unit) (fun s8676 (_ : Unit) => [(14, .slice a8559 n8559 c8559), (17, .int .i64 e8561.2), (112, .bool s8676)]) (fun s8676 (_ : Unit) hh => St φ8556 h.n hh ([(ob8559, blk8559), (none, .dead), (ob7747, blk7747), (some b44, .cells [.int .i64 e33.Nodes, .slice a40 n40 c40, .slice a42 n42 c42] 25 .exact), (none, .dead), (none, .dead)])) 3 ?_ ?_
                        · rintro s8676 _ t0 h8678 X8677
                          refine lpure (v := .bool s8676) rfl (p_move rfl) rfl rfl ?_
                          refine ljoinM (τ := Bool) (σ := Unit) (fun s8746 (_ : Unit) => [(17, .int .i64 e8561.2), (117, .bool s8746)]) (fun s8746 (_ : Unit) hh => St φ8556 h.n hh ([(ob8559, blk8559), (none, .dead), (ob7747, blk7747), (some b44, .cells [.int .i64 e33.Nodes, .slice a40 n40 c40, .slice a42 n42 c42] 25 .exact), (none, .dead), (none, .dead)])) 4 ?_ ?_
                          · rintro s8746 _ t0 h8748 X8747
                            refine lpure (v := .bool s8746) rfl (p_move rfl) rfl rfl ?_
                            refine lsh (τ := Bool) (σ := Unit) (fun s8750 (_ : Unit) => [(121, .bool s8750)]) (fun s8750 (_ : Unit) hh => St φ8556 h.n hh ([(ob8559, blk8559), (none, .dead), (ob7747, blk7747), (some b44, .cells [.int .i64 e33.Nodes, .slice a40 n40 c40, .slice a42 n42 c42] 25 .exact), (none, .dead), (none, .dead)])) 3 ?_ ?_
                            · rintro s8750 _ t0 h8752 X8751
                              refine lpure (v := .bool s8750) rfl (p_move rfl) rfl rfl ?_
                              refine ljoinM (τ := Bool) (σ := Unit) (fun s8759 (_ : Unit) => [(126, .bool s8759)]) (fun s8759 (_ : Unit) hh => St φ8556 h.n hh ([(ob8559, blk8559), (none, .dead), (ob7747, blk7747), (some b44, .cells [.int .i64 e33.Nodes, .slice a40 n40 c40, .slice a42 n42 c42] 25 .exact), (none, .dead), (none, .dead)])) 4 ?_ ?_
                              · rintro s8759 _ t0 h8761 X8760
                                refine lpure (v := .bool s8759) rfl (p_assign rfl) rfl rfl ?_
                                refine lend ?_
                                refine nseq ?_
                                refine dret ?_
                                exact kcut_r (res_1 resT) X8760 rfl rfl
                              · intro j8762 J8763
                                refine lif (i := 122) (show _ = Value.bool s8750 from rfl) (fun k8764 => ?_) (fun k8764 => ?_)
                                · refine lpure (v := .agg #[.int .i64 0, .slice none 0 0, .slice none 0 0]) rfl (p_build rfl) (build_st' tz_25 pl_25 rfl) rfl ?_
                                  refine lcall rfl rfl ca_34 rfl rfl (f34_ok X8751 ((ApiTopo.mk 0 [] [])) (.inl ⟨rfl, rfl⟩) (.inl ⟨rfl, rfl⟩)) rfl (fun e8765 v8766 h8767 hq8768 => ?_)
                                  cases hq8768
                                  refine lpure (v := .bool (decide (e8765 = 260))) rfl (p_eq rfl) rfl rfl ?_
                                  refine lpure (v := .bool (decide (e8765 = 260))) rfl (p_pick rfl) rfl rfl ?_
                                  exact ljmpM J8763 (decide (e8765 = 260)) () (sub_cons rfl sub_nil) (St.pick X8751 (.keep _ (.none _ (.skip _ (.keep _ (.keep _ (.none _ (.none _ (.nil _)))))))))
                                · refine lskip rfl rfl ?_
                                  refine lskip rfl rfl ?_
                                  refine lskip rfl rfl ?_
                                  refine lpure (v := .bool false) rfl (p_pick rfl) rfl rfl ?_
                                  exact ljmpM J8763 false () (sub_cons rfl sub_nil) (St.pick X8751 (.keep _ (.none _ (.skip _ (.keep _ (.keep _ (.none _ (.none _ (.nil _)))))))))
                            · intro j8769 J8770
                              refine lcase (i := 118) (show _ = Value.bool s8746 from rfl) (fun k8771 => ?_) (fun k8771 => ?_)
                              · refine lpure (v := .int .i64 e8561.2) rfl (p_move rfl) rfl rfl ?_
                                refine lpure (v := .bool (decide (e8561.2 = 2))) rfl (p_eq rfl) rfl rfl ?_
                                refine lpure (v := .bool (decide (e8561.2 = 2))) rfl (p_pick rfl) rfl rfl ?_
                                refine Sim.of_eq (congrArg j8769 (show (s8746 && (decide (e8561.2 = 2))) = (decide (e8561.2 = 2)) from by rw [k8771] <;> rfl)) ?_
                                exact ljmpM J8770 (decide (e8561.2 = 2)) () (sub_cons rfl sub_nil) (St.pick X8747 (.keep _ (.none _ (.skip _ (.keep _ (.keep _ (.none _ (.none _ (.nil _)))))))))
                              · refine lskip rfl rfl ?_
                                refine lskip rfl rfl ?_
                                refine lpure (v := .bool false) rfl (p_pick rfl) rfl rfl ?_
                                refine Sim.of_eq (congrArg j8769 (show (s8746 && (decide (e8561.2 = 2))) = false from by rw [k8771] <;> rfl)) ?_
                                exact ljmpM J8770 false () (sub_cons rfl sub_nil) (St.pick X8747 (.keep _ (.none _ (.skip _ (.keep _ (.keep _ (.none _ (.none _ (.nil _)))))))))
                          · intro j8772 J8773
                            refine lif (i := 113) (show _ = Value.bool s8676 from rfl) (fun k8774 => ?_) (fun k8774 => ?_)
                            · refine lpure (v := .slice a8559 n8559 c8559) rfl (p_move rfl) rfl rfl ?_
                              obtain ⟨h8775, b8775, hv8775, X8775, O8775⟩ := OSl.lay (E := eBool) (φ := φ8556) (cs := [.bool true, .bool true, .bool false, .bool false]) (l := [true, true, false, false]) (len := 4) (parts := [(0, .bool true), (1, .bool true), (2, .bool false), (3, .bool false)]) un_22 ts_4 rfl rfl rfl tz_4 rfl rfl (show RowD eBool φ8556 [.bool true, .bool true, .bool false, .bool false] [true, true, false, false] from ⟨[.bool true], _, rfl, rfl, ⟨[.bool true], _, rfl, rfl, ⟨[.bool false], _, rfl, rfl, ⟨[.bool false], _, rfl, rfl, rfl⟩⟩⟩⟩) rfl rfl X8677
                              refine lheap rfl (h_buildSlice rfl) hv8775 rfl ?_
                              obtain ⟨φ8777, g8778, X8779, H8780⟩ := OSl.freeze X8775 (j := 1) rfl O8559
                              obtain ⟨φ8781, g8782, X8783, H8784⟩ := OSl.freeze X8779 (j := 0) rfl (O8775.mono g8778)
                              refine lcall rfl rfl ca_18 rfl rfl (f18_ok X8783 (e8552.1) ([true, true, false, false]) (H8780.mono g8782) H8784) rfl (fun e8785 v8786 h8787 hq8788 => ?_)
                              cases hq8788
                              refine lpure (v := .bool e8785) rfl (p_pick rfl) rfl rfl ?_
                              exact ljmpM J8773 e8785 () (sub_cons rfl (sub_cons rfl sub_nil)) (St.pick X8775 (.skip _ (.keep _ (.none _ (.skip _ (.keep _ (.keep _ (.none _ (.none _ (.nil _))))))))))
                            · refine lskip rfl rfl ?_
                              refine lskip rfl rfl ?_
                              refine lskip rfl rfl ?_
                              refine lpure (v := .bool false) rfl (p_pick rfl) rfl rfl ?_
                              exact ljmpM J8773 false () (sub_cons rfl (sub_cons rfl sub_nil)) (St.pick X8677 (.keep _ (.none _ (.skip _ (.keep _ (.keep _ (.none _ (.none _ (.nil _)))))))))
                        · intro j8789 J8790
                          refine lcase (i := 109) (show _ = Value.bool s8672 from rfl) (fun k8791 => ?_) (fun k8791 => ?_)
                          · refine lpure (v := .int .i64 e8218.1) rfl (p_move rfl) rfl rfl ?_
                            refine lpure (v := .bool (decide (e8218.1 = 3))) rfl (p_eq rfl) rfl rfl ?_
                            refine lpure (v := .bool (decide (e8218.1 = 3))) rfl (p_pick rfl) rfl rfl ?_
                            refine Sim.of_eq (congrArg j8789 (show (s8672 && (decide (e8218.1 = 3))) = (decide (e8218.1 = 3)) from by rw [k8791] <;> rfl)) ?_
                            exact ljmpM J8790 (decide (e8218.1 = 3)) () (sub_cons rfl (sub_cons rfl (sub_cons rfl sub_nil))) (St.pick X8673 (.keep _ (.none _ (.skip _ (.keep _ (.keep _ (.none _ (.none _ (.nil _)))))))))
                          · refine lskip rfl rfl ?_
                            refine lskip rfl rfl ?_
                            refine lpure (v := .bool false) rfl (p_pick rfl) rfl rfl ?_
                            refine Sim.of_eq (congrArg j8789 (show (s8672 && (decide (e8218.1 = 3))) = false from by rw [k8791] <;> rfl)) ?_
                            exact ljmpM J8790 false () (sub_cons rfl (sub_cons rfl (sub_cons rfl sub_nil))) (St.pick X8673 (.keep _ (.none _ (.skip _ (.keep _ (.keep _ (.none _ (.none _ (.nil _)))))))))
                      · intro j8792 J8793
                        refine lif (i := 104) (show _ = Value.bool s8602 from rfl) (fun k8794 => ?_) (fun k8794 => ?_)
                        · refine lpure (v := .slice a7747 n7747 c7747) rfl (p_move rfl) rfl rfl ?_
                          obtain ⟨h8795, b8795, hv8795, X8795, O8795⟩ := OSl.lay (E := (eInt .i64)) (φ := φ8556) (cs := [.int .i64 1, .int .i64 2]) (l := [1, 2]) (len := 2) (parts := [(0, .int .i64 1), (1, .int .i64 2)]) un_28 ts_3 rfl rfl rfl tz_3 rfl rfl (show RowD (eInt .i64) φ8556 [.int .i64 1, .int .i64 2] [1, 2] from ⟨[.int .i64 1], _, rfl, rfl, ⟨[.int .i64 2], _, rfl, rfl, rfl⟩⟩) rfl rfl X8603
                          refine lheap rfl (h_buildSlice rfl) hv8795 rfl ?_
                          obtain ⟨φ8797, g8798, X8799, H8800⟩ := OSl.freeze X8795 (j := 3) rfl (O7747.mono (g8549.trans g8557))
                          obtain ⟨φ8801, g8802, X8803, H8804⟩ := OSl.freeze X8799 (j := 0) rfl (O8795.mono g8798)
                          refine lcall rfl rfl ca_14 rfl rfl (f14_ok X8803 (e7740.1) ([1, 2]) (H8800.mono g8802) H8804) rfl (fun e8805 v8806 h8807 hq8808 => ?_)
                          cases hq8808
                          refine lpure (v := .bool e8805) rfl (p_pick rfl) rfl rfl ?_
                          exact ljmpM J8793 e8805 () (sub_cons rfl (sub_cons rfl (sub_cons rfl (sub_cons rfl sub_nil)))) (St.pick X8795 (.skip _ (.keep _ (.none _ (.skip _ (.keep _ (.keep _ (.none _ (.none _ (.nil _))))))))))
                        · refine lskip rfl rfl ?_
                          refine lskip rfl rfl ?_
                          refine lskip rfl rfl ?_
                          refine lpure (v := .bool false) rfl (p_pick rfl) rfl rfl ?_
                          exact ljmpM J8793 false () (sub_cons rfl (sub_cons rfl (sub_cons rfl (sub_cons rfl sub_nil)))) (St.pick X8603 (.keep _ (.none _ (.skip _ (.keep _ (.keep _ (.none _ (.none _ (.nil _)))))))))
                    · intro j8809 J8810
                      refine lcase (i := 100) (show _ = Value.bool s8598 from rfl) (fun k8811 => ?_) (fun k8811 => ?_)
                      · refine lpure (v := .int .i64 e6996.1) rfl (p_move rfl) rfl rfl ?_
                        refine lpure (v := .bool (decide (e6996.1 = 7))) rfl (p_eq rfl) rfl rfl ?_
                        refine lpure (v := .bool (decide (e6996.1 = 7))) rfl (p_pick rfl) rfl rfl ?_
                        refine Sim.of_eq (congrArg j8809 (show (s8598 && (decide (e6996.1 = 7))) = (decide (e6996.1 = 7)) from by rw [k8811] <;> rfl)) ?_
                        exact ljmpM J8810 (decide (e6996.1 = 7)) () (sub_cons rfl (sub_cons rfl (sub_cons rfl (sub_cons rfl (sub_cons rfl sub_nil))))) (St.pick X8599 (.keep _ (.none _ (.skip _ (.keep _ (.keep _ (.none _ (.none _ (.nil _)))))))))
                      · refine lskip rfl rfl ?_
                        refine lskip rfl rfl ?_
                        refine lpure (v := .bool false) rfl (p_pick rfl) rfl rfl ?_
                        refine Sim.of_eq (congrArg j8809 (show (s8598 && (decide (e6996.1 = 7))) = false from by rw [k8811] <;> rfl)) ?_
                        exact ljmpM J8810 false () (sub_cons rfl (sub_cons rfl (sub_cons rfl (sub_cons rfl (sub_cons rfl sub_nil))))) (St.pick X8599 (.keep _ (.none _ (.skip _ (.keep _ (.keep _ (.none _ (.none _ (.nil _)))))))))
                  · intro j8812 J8813
                    refine lcase (i := 96) (show _ = Value.bool s8594 from rfl) (fun k8814 => ?_) (fun k8814 => ?_)
                    · refine lpure (v := .int .i64 e6947.1) rfl (p_move rfl) rfl rfl ?_
                      refine lpure (v := .bool (decide (e6947.1 = 80))) rfl (p_eq rfl) rfl rfl ?_
                      refine lpure (v := .bool (decide (e6947.1 = 80))) rfl (p_pick rfl) rfl rfl ?_
                      refine Sim.of_eq (congrArg j8812 (show (s8594 && (decide (e6947.1 = 80))) = (decide (e6947.1 = 80)) from by rw [k8814] <;> rfl)) ?_
                      exact ljmpM J8813 (decide (e6947.1 = 80)) () (sub_cons rfl (sub_cons rfl (sub_cons rfl (sub_cons rfl (sub_cons rfl (sub_cons rfl sub_nil)))))) (St.pick X8595 (.keep _ (.none _ (.skip _ (.keep _ (.keep _ (.none _ (.none _ (.nil _)))))))))
                    · refine lskip rfl rfl ?_
                      refine lskip rfl rfl ?_
                      refine lpure (v := .bool false) rfl (p_pick rfl) rfl rfl ?_
                      refine Sim.of_eq (congrArg j8812 (show (s8594 && (decide (e6947.1 = 80))) = false from by rw [k8814] <;> rfl)) ?_
                      exact ljmpM J8813 false () (sub_cons rfl (sub_cons rfl (sub_cons rfl (sub_cons rfl (sub_cons rfl (sub_cons rfl sub_nil)))))) (St.pick X8595 (.keep _ (.none _ (.skip _ (.keep _ (.keep _ (.none _ (.none _ (.nil _)))))))))
                · intro j8815 J8816
                  refine lcase (i := 92) (show _ = Value.bool s8590 from rfl) (fun k8817 => ?_) (fun k8817 => ?_)
                  · refine lpure (v := .int .i64 e6898.1) rfl (p_move rfl) rfl rfl ?_
                    refine lpure (v := .bool (decide (e6898.1 = 1))) rfl (p_eq rfl) rfl rfl ?_
                    refine lpure (v := .bool (decide (e6898.1 = 1))) rfl (p_pick rfl) rfl rfl ?_
                    refine Sim.of_eq (congrArg j8815 (show (s8590 && (decide (e6898.1 = 1))) = (decide (e6898.1 = 1)) from by rw [k8817] <;> rfl)) ?_
                    exact ljmpM J8816 (decide (e6898.1 = 1)) () (sub_cons rfl (sub_cons rfl (sub_cons rfl (sub_cons rfl (sub_cons rfl (sub_cons rfl (sub_cons rfl sub_nil))))))) (St.pick X8591 (.keep _ (.none _ (.skip _ (.keep _ (.keep _ (.none _ (.none _ (.nil _)))))))))
                  · refine lskip rfl rfl ?_
                    refine lskip rfl rfl ?_
                    refine lpure (v := .bool false) rfl (p_pick rfl) rfl rfl ?_
                    refine Sim.of_eq (congrArg j8815 (show (s8590 && (decide (e6898.1 = 1))) = false from by rw [k8817] <;> rfl)) ?_
                    exact ljmpM J8816 false () (sub_cons rfl (sub_cons rfl (sub_cons rfl (sub_cons rfl (sub_cons rfl (sub_cons rfl (sub_cons rfl sub_nil))))))) (St.pick X8591 (.keep _ (.none _ (.skip _ (.keep _ (.keep _ (.none _ (.none _ (.nil _)))))))))
              · intro j8818 J8819
                refine lcase (i := 88) (show _ = Value.bool s8586 from rfl) (fun k8820 => ?_) (fun k8820 => ?_)
                · refine lpure (v := .int .i64 e6854.1) rfl (p_move rfl) rfl rfl ?_
                  refine lpure (v := .bool (decide (e6854.1 = 0))) rfl (p_eq rfl) rfl rfl ?_
                  refine lpure (v := .bool (decide (e6854.1 = 0))) rfl (p_pick rfl) rfl rfl ?_
                  refine Sim.of_eq (congrArg j8818 (show (s8586 && (decide (e6854.1 = 0))) = (decide (e6854.1 = 0)) from by rw [k8820] <;> rfl)) ?_
                  exact ljmpM J8819 (decide (e6854.1 = 0)) () (sub_cons rfl (sub_cons rfl (sub_cons rfl (sub_cons rfl (sub_cons rfl (sub_cons rfl (sub_cons rfl (sub_cons rfl sub_nil)))))))) (St.pick X8587 (.keep _ (.none _ (.skip _ (.keep _ (.keep _ (.none _ (.none _ (.nil _)))))))))
                · refine lskip rfl rfl ?_
                  refine lskip rfl rfl ?_
                  refine lpure (v := .bool false) rfl (p_pick rfl) rfl rfl ?_
                  refine Sim.of_eq (congrArg j8818 (show (s8586 && (decide (e6854.1 = 0))) = false from by rw [k8820] <;> rfl)) ?_
                  exact ljmpM J8819 false () (sub_cons rfl (sub_cons rfl (sub_cons rfl (sub_cons rfl (sub_cons rfl (sub_cons rfl (sub_cons rfl (sub_cons rfl sub_nil)))))))) (St.pick X8587 (.keep _ (.none _ (.skip _ (.keep _ (.keep _ (.none _ (.none _ (.nil _)))))))))
            · intro j8821 J8822
              refine lcase (i := 83) (show _ = Value.bool s8582 from rfl) (fun k8823 => ?_) (fun k8823 => ?_)
              · refine lpure (v := .int .i64 e8552.2) rfl (p_move rfl) rfl rfl ?_
                refine lpure (v := .bool (decide (e8552.2 = 0))) rfl (p_eq rfl) rfl rfl ?_
                refine lpure (v := .bool (decide (e8552.2 = 0))) rfl (p_pick rfl) rfl rfl ?_
                refine Sim.of_eq (congrArg j8821 (show (s8582 && (decide (e8552.2 = 0))) = (decide (e8552.2 = 0)) from by rw [k8823] <;> rfl)) ?_
                exact ljmpM J8822 (decide (e8552.2 = 0)) () (sub_cons rfl (sub_cons rfl (sub_cons rfl (sub_cons rfl (sub_cons rfl (sub_cons rfl (sub_cons rfl (sub_cons rfl (sub_cons rfl sub_nil))))))))) (St.pick X8583 (.keep _ (.none _ (.skip _ (.keep _ (.keep _ (.none _ (.none _ (.nil _)))))))))
              · refine lskip rfl rfl ?_
                refine lskip rfl rfl ?_
                refine lpure (v := .bool false) rfl (p_pick rfl) rfl rfl ?_
                refine Sim.of_eq (congrArg j8821 (show (s8582 && (decide (e8552.2 = 0))) = false from by rw [k8823] <;> rfl)) ?_
                exact ljmpM J8822 false () (sub_cons rfl (sub_cons rfl (sub_cons rfl (sub_cons rfl (sub_cons rfl (sub_cons rfl (sub_cons rfl (sub_cons rfl (sub_cons rfl sub_nil))))))))) (St.pick X8583 (.keep _ (.none _ (.skip _ (.keep _ (.keep _ (.none _ (.none _ (.nil _)))))))))
          · intro j8824 J8825
            refine lcase (i := 79) (show _ = Value.bool s8578 from rfl) (fun k8826 => ?_) (fun k8826 => ?_)
            · refine lpure (v := .int .i64 e8218.2) rfl (p_move rfl) rfl rfl ?_
              refine lpure (v := .bool (decide (e8218.2 = 0))) rfl (p_eq rfl) rfl rfl ?_
              refine lpure (v := .bool (decide (e8218.2 = 0))) rfl (p_pick rfl) rfl rfl ?_
              refine Sim.of_eq (congrArg j8824 (show (s8578 && (decide (e8218.2 = 0))) = (decide (e8218.2 = 0)) from by rw [k8826] <;> rfl)) ?_
              exact ljmpM J8825 (decide (e8218.2 = 0)) () (sub_cons rfl (sub_cons rfl (sub_cons rfl (sub_cons rfl (sub_cons rfl (sub_cons rfl (sub_cons rfl (sub_cons rfl (sub_cons rfl (sub_cons rfl sub_nil)))))))))) (St.pick X8579 (.keep _ (.none _ (.skip _ (.keep _ (.keep _ (.none _ (.none _ (.nil _)))))))))
            · refine lskip rfl rfl ?_
              refine lskip rfl rfl ?_
              refine lpure (v := .bool false) rfl (p_pick rfl) rfl rfl ?_
              refine Sim.of_eq (congrArg j8824 (show (s8578 && (decide (e8218.2 = 0))) = false from by rw [k8826] <;> rfl)) ?_
              exact ljmpM J8825 false () (sub_cons rfl (sub_cons rfl (sub_cons rfl (sub_cons rfl (sub_cons rfl (sub_cons rfl (sub_cons rfl (sub_cons rfl (sub_cons rfl (sub_cons rfl sub_nil)))))))))) (St.pick X8579 (.keep _ (.none _ (.skip _ (.keep _ (.keep _ (.none _ (.none _ (.nil _)))))))))
        · intro j8827 J8828
          refine lcase (i := 75) (show _ = Value.bool s8574 from rfl) (fun k8829 => ?_) (fun k8829 => ?_)
          · refine lpure (v := .int .i64 e7740.2) rfl (p_move rfl) rfl rfl ?_
            refine lpure (v := .bool (decide (e7740.2 = 0))) rfl (p_eq rfl) rfl rfl ?_
            refine lpure (v := .bool (decide (e7740.2 = 0))) rfl (p_pick rfl) rfl rfl ?_
            refine Sim.of_eq (congrArg j8827 (show (s8574 && (decide (e7740.2 = 0))) = (decide (e7740.2 = 0)) from by rw [k8829] <;> rfl)) ?_
            exact ljmpM J8828 (decide (e7740.2 = 0)) () (sub_cons rfl (sub_cons rfl (sub_cons rfl (sub_cons rfl (sub_cons rfl (sub_cons rfl (sub_cons rfl (sub_cons rfl (sub_cons rfl (sub_cons rfl (sub_cons rfl sub_nil))))))))))) (St.pick X8575 (.keep _ (.none _ (.skip _ (.keep _ (.keep _ (.none _ (.none _ (.nil _)))))))))
          · refine lskip rfl rfl ?_
            refine lskip rfl rfl ?_
            refine lpure (v := .bool false) rfl (p_pick rfl) rfl rfl ?_
            refine Sim.of_eq (congrArg j8827 (show (s8574 && (decide (e7740.2 = 0))) = false from by rw [k8829] <;> rfl)) ?_
            exact ljmpM J8828 false () (sub_cons rfl (sub_cons rfl (sub_cons rfl (sub_cons rfl (sub_cons rfl (sub_cons rfl (sub_cons rfl (sub_cons rfl (sub_cons rfl (sub_cons rfl (sub_cons rfl sub_nil))))))))))) (St.pick X8575 (.keep _ (.none _ (.skip _ (.keep _ (.keep _ (.none _ (.none _ (.nil _)))))))))
      · intro j8830 J8831
        refine lcase (i := 71) (show _ = Value.bool s8570 from rfl) (fun k8832 => ?_) (fun k8832 => ?_)
        · refine lpure (v := .int .i64 e6996.2) rfl (p_move rfl) rfl rfl ?_
          refine lpure (v := .bool (decide (e6996.2 = 0))) rfl (p_eq rfl) rfl rfl ?_
          refine lpure (v := .bool (decide (e6996.2 = 0))) rfl (p_pick rfl) rfl rfl ?_
          refine Sim.of_eq (congrArg j8830 (show (s8570 && (decide (e6996.2 = 0))) = (decide (e6996.2 = 0)) from by rw [k8832] <;> rfl)) ?_
          exact ljmpM J8831 (decide (e6996.2 = 0)) () (sub_cons rfl (sub_cons rfl (sub_cons rfl (sub_cons rfl (sub_cons rfl (sub_cons rfl (sub_cons rfl (sub_cons rfl (sub_cons rfl (sub_cons rfl (sub_cons rfl (sub_cons rfl sub_nil)))))))))))) (St.pick X8571 (.keep _ (.none _ (.skip _ (.keep _ (.keep _ (.none _ (.none _ (.nil _)))))))))
        · refine lskip rfl rfl ?_
          refine lskip rfl rfl ?_
          refine lpure (v := .bool false) rfl (p_pick rfl) rfl rfl ?_
          refine Sim.of_eq (congrArg j8830 (show (s8570 && (decide (e6996.2 = 0))) = false from by rw [k8832] <;> rfl)) ?_
          exact ljmpM J8831 false () (sub_cons rfl (sub_cons rfl (sub_cons rfl (sub_cons rfl (sub_cons rfl (sub_cons rfl (sub_cons rfl (sub_cons rfl (sub_cons rfl (sub_cons rfl (sub_cons rfl (sub_cons rfl sub_nil)))))))))))) (St.pick X8571 (.keep _ (.none _ (.skip _ (.keep _ (.keep _ (.none _ (.none _ (.nil _)))))))))
    · intro j8833 J8834
      refine lcase (i := 67) (show _ = Value.bool s8566 from rfl) (fun k8835 => ?_) (fun k8835 => ?_)
      · refine lpure (v := .int .i64 e6947.2) rfl (p_move rfl) rfl rfl ?_
        refine lpure (v := .bool (decide (e6947.2 = 0))) rfl (p_eq rfl) rfl rfl ?_
        refine lpure (v := .bool (decide (e6947.2 = 0))) rfl (p_pick rfl) rfl rfl ?_
        refine Sim.of_eq (congrArg j8833 (show (s8566 && (decide (e6947.2 = 0))) = (decide (e6947.2 = 0)) from by rw [k8835] <;> rfl)) ?_
        exact ljmpM J8834 (decide (e6947.2 = 0)) () (sub_cons rfl (sub_cons rfl (sub_cons rfl (sub_cons rfl (sub_cons rfl (sub_cons rfl (sub_cons rfl (sub_cons rfl (sub_cons rfl (sub_cons rfl (sub_cons rfl (sub_cons rfl (sub_cons rfl sub_nil))))))))))))) (St.pick X8567 (.keep _ (.none _ (.skip _ (.keep _ (.keep _ (.none _ (.none _ (.nil _)))))))))
      · refine lskip rfl rfl ?_
        refine lskip rfl rfl ?_
        refine lpure (v := .bool false) rfl (p_pick rfl) rfl rfl ?_
        refine Sim.of_eq (congrArg j8833 (show (s8566 && (decide (e6947.2 = 0))) = false from by rw [k8835] <;> rfl)) ?_
        exact ljmpM J8834 false () (sub_cons rfl (sub_cons rfl (sub_cons rfl (sub_cons rfl (sub_cons rfl (sub_cons rfl (sub_cons rfl (sub_cons rfl (sub_cons rfl (sub_cons rfl (sub_cons rfl (sub_cons rfl (sub_cons rfl sub_nil))))))))))))) (St.pick X8567 (.keep _ (.none _ (.skip _ (.keep _ (.keep _ (.none _ (.none _ (.nil _)))))))))
  · intro j8836 J8837
    refine lcase (i := 63) (show _ = Value.bool (decide (e6854.2 = 0)) from rfl) (fun k8838 => ?_) (fun k8838 => ?_)
    · refine lpure (v := .int .i64 e6898.2) rfl (p_move rfl) rfl rfl ?_
      refine lpure (v := .bool (decide (e6898.2 = 0))) rfl (p_eq rfl) rfl rfl ?_
      refine lpure (v := .bool (decide (e6898.2 = 0))) rfl (p_pick rfl) rfl rfl ?_
      refine Sim.of_eq (congrArg j8836 (show ((decide (e6854.2 = 0)) && (decide (e6898.2 = 0))) = (decide (e6898.2 = 0)) from by rw [k8838] <;> rfl)) ?_
      exact ljmpM J8837 (decide (e6898.2 = 0)) () (sub_cons rfl (sub_cons rfl (sub_cons rfl (sub_cons rfl (sub_cons rfl (sub_cons rfl (sub_cons rfl (sub_cons rfl (sub_cons rfl (sub_cons rfl (sub_cons rfl (sub_cons rfl (sub_cons rfl (sub_cons rfl sub_nil)))))))))))))) (St.pick X8558 (.keep _ (.none _ (.skip _ (.keep _ (.keep _ (.none _ (.none _ (.nil _)))))))))
    · refine lskip rfl rfl ?_
      refine lskip rfl rfl ?_
      refine lpure (v := .bool false) rfl (p_pick rfl) rfl rfl ?_
      refine Sim.of_eq (congrArg j8836 (show ((decide (e6854.2 = 0)) && (decide (e6898.2 = 0))) = false from by rw [k8838] <;> rfl)) ?_
      exact ljmpM J8837 false () (sub_cons rfl (sub_cons rfl (sub_cons rfl (sub_cons rfl (sub_cons rfl (sub_cons rfl (sub_cons rfl (sub_cons rfl (sub_cons rfl (sub_cons rfl (sub_cons rfl (sub_cons rfl (sub_cons rfl (sub_cons rfl sub_nil)))))))))))))) (St.pick X8558 (.keep _ (.none _ (.skip _ (.keep _ (.keep _ (.none _ (.none _ (.nil _)))))))))
/-! isochron/isochronlaw16.few -/
theorem f10_ok {n : Nat} {φ : Fz} {lo : Nat} {h : Heap} {own : OwnL} (X : St φ lo h own) (p8863 : ApiTopo) {a8864 : Option Addr} {n8864 c8864 : Nat} {a8865 : Option Addr} {n8865 c8865 : Nat} (H8864 : RSl eBool φ (.slice a8864 n8864 c8864) p8863.Station) (H8865 : RSl eApiLink φ (.slice a8865 n8865 c8865) p8863.Links) (K8864 : c8864 < unk) (K8865 : c8865 < unk) : Sim ((recN Try.prog LL cutF (n + 1)).call 10 #[(.agg #[.int .i64 p8863.Nodes, .slice a8864 n8864 c8864, .slice a8865 n8865 c8865])] h) (m_isochronlaw16_few p8863) (fun (d : ApiTopo) p => ∃ a8882 : Option Addr, ∃ n8882 : Nat, ∃ c8882 : Nat, ∃ a8883 : Option Addr, ∃ n8883 : Nat, ∃ c8883 : Nat, p = (.agg #[.int .i64 d.Nodes, .slice a8882 n8882 c8882, .slice a8883 n8883 c8883], h) ∧ RSl eBool φ (.slice a8882 n8882 c8882) d.Station ∧ RSl eApiLink φ (.slice a8883 n8883 c8883) d.Links) := by
  refine fcut Try.func10 rfl rfl rfl rfl X ?_
  intro h0 X0
  refine dseq ?_
  refine dreg ?_
  refine lbox rfl rfl rfl rfl rfl X0 (fun b8866 h8868 X8869 => ?_)
  refine lalloc rfl tz_25 rfl rfl rfl X8869 (fun b8870 h8872 X8873 => ?_)
  refine lend ?_
  refine nseq ?_
  refine dseq ?_
  refine ddraw 163840 163840 10320 (by kernel_rfl) ?_
  refine spure (v := .pointer (some ⟨b8866, 1, none⟩)) rfl (p_fa fo_25_1 rfl) (lo_t (lo_own X8873 (j := 1) (o := 0) (s := none) (f := 0) rfl) rfl) rfl rfl ?_
  refine sload (v := .slice a8864 n8864 c8864) rfl rfl (q_load wd_22 rfl) (St.ld X8873 (j := 1) rfl rfl) (same_self 20 rfl) rfl ?_
  refine spure (v := .pointer (some ⟨b8866, 1, none⟩)) rfl (p_fa fo_25_1 rfl) (lo_t (lo_own X8873 (j := 1) (o := 0) (s := none) (f := 0) rfl) rfl) rfl rfl ?_
  refine sload (v := .slice a8864 n8864 c8864) rfl rfl (q_load wd_22 rfl) (St.ld X8873 (j := 1) rfl rfl) (same_self 20 rfl) rfl ?_
  refine spure (v := .int .i64 (p8863.Station.length : Int)) rfl (p_len rfl rfl rfl un_22 rfl) (lo_t (lo_sl X8873 H8864) rfl) (RSl.lenC H8864) rfl ?_
  refine spure (v := .int .i64 (min (p8863.Station.length : Int) 20)) rfl (p_min rfl rfl rfl) (lo_t rfl (lo_c rfl)) rfl rfl ?_
  refine Sim.mustM fun k8874 => ?_
  have k8874 := of_decide_eq_true k8874
  obtain ⟨a8874, n8874, c8874, hv8874, H8874, K8874⟩ := RSl.sliceC H8864 K8864 (m := 1) rfl bnd_none (bnd_int (show 0 ≤ (min (p8863.Station.length : Int) 20) from by omega)) (by omega) (by omega)
  refine spure rfl (p_slice rs_22 rfl (evo_ok rfl) (evo_ok rfl) (evo_ok rfl)) (lo_t (lo_sl X8873 H8864) (lo_t rfl rfl)) hv8874 rfl ?_
  refine spure (v := .pointer (some ⟨b8866, 2, none⟩)) rfl (p_fa fo_25_2 rfl) (lo_t (lo_own X8873 (j := 1) (o := 0) (s := none) (f := 0) rfl) rfl) rfl rfl ?_
  refine sload (v := .slice a8865 n8865 c8865) rfl rfl (q_load wd_23 rfl) (St.ld X8873 (j := 1) rfl rfl) (same_self 20 rfl) rfl ?_
  refine spure (v := .pointer (some ⟨b8866, 2, none⟩)) rfl (p_fa fo_25_2 rfl) (lo_t (lo_own X8873 (j := 1) (o := 0) (s := none) (f := 0) rfl) rfl) rfl rfl ?_
  refine sload (v := .slice a8865 n8865 c8865) rfl rfl (q_load wd_23 rfl) (St.ld X8873 (j := 1) rfl rfl) (same_self 20 rfl) rfl ?_
  refine spure (v := .int .i64 (p8863.Links.length : Int)) rfl (p_len rfl rfl rfl un_23 rfl) (lo_t (lo_sl X8873 H8865) rfl) (RSl.lenC H8865) rfl ?_
  refine spure (v := .int .i64 (min (p8863.Links.length : Int) 30)) rfl (p_min rfl rfl rfl) (lo_t rfl (lo_c rfl)) rfl rfl ?_
  refine Sim.mustM fun k8875 => ?_
  have k8875 := of_decide_eq_true k8875
  obtain ⟨a8875, n8875, c8875, hv8875, H8875, K8875⟩ := RSl.sliceC H8865 K8865 (m := 4) rfl bnd_none (bnd_int (show 0 ≤ (min (p8863.Links.length : Int) 30) from by omega)) (by omega) (by omega)
  refine spure rfl (p_slice rs_23 rfl (evo_ok rfl) (evo_ok rfl) (evo_ok rfl)) (lo_t (lo_sl X8873 H8865) (lo_t rfl rfl)) hv8875 rfl ?_
  refine spure (v := .pointer (some ⟨b8866, 1, none⟩)) rfl (p_fa fo_25_1 rfl) (lo_t (lo_own X8873 (j := 1) (o := 0) (s := none) (f := 0) rfl) rfl) rfl rfl ?_
  refine sstore rfl rfl ts_22 rfl rfl (j := 1) rfl rfl rfl rfl rfl rfl X8873 (fun h8876 X8877 => ?_)
  refine spure (v := .pointer (some ⟨b8866, 2, none⟩)) rfl (p_fa fo_25_2 rfl) (lo_t (lo_own X8877 (j := 1) (o := 0) (s := none) (f := 0) rfl) rfl) rfl rfl ?_
  refine sstore rfl rfl ts_23 rfl rfl (j := 1) rfl rfl rfl rfl rfl rfl X8877 (fun h8878 X8879 => ?_)
  refine send ?_
  refine nseq ?_
  refine dseq ?_
  refine dreg ?_
  refine lread (v := .agg #[.int .i64 p8863.Nodes, .slice a8874 n8874 c8874, .slice a8875 n8875 c8875]) rfl (q_load wd_25 rfl) (St.ld X8879 (j := 1) rfl rfl) rfl ?_
  refine lstore rfl ts_25 rfl rfl (j := 0) rfl rfl rfl rfl rfl rfl X8879 (fun h8880 X8881 => ?_)
  refine lend ?_
  refine nseq ?_
  refine dret ?_
  exact kcut_r (res_1 (resC wd_25 (St.ld X8881 (j := 0) rfl rfl))) X8881 (lo_agg (all_cons rfl (all_cons (lo_slF X.fzlt H8874) (all_cons (lo_slF X.fzlt H8875) all_nil)))) ⟨a8874, n8874, c8874, a8875, n8875, c8875, rfl, H8874, H8875⟩
/-! (isochron/topo.end).back -/
theorem f56_ok {n : Nat} {φ : Fz} {lo : Nat} {h : Heap} {own : OwnL} (X : St φ lo h own) (p8933 : TopoEnd) : Sim ((recN Try.prog LL cutF (n + 1)).call 56 #[(.agg #[.int .i64 p8933.Link.A, .int .i64 p8933.Link.B, .int .i64 p8933.Link.Per, .int .i64 p8933.Link.Delay, .int .i64 p8933.port])] h) (m_topo_end_back p8933) (fun (d : Int) p => p = (.int .i64 d, h)) := by
  refine fcut Try.func56 rfl rfl rfl rfl X ?_
  intro h0 X0
  refine dseq ?_
  refine dreg ?_
  refine lbox rfl rfl rfl rfl rfl X0 (fun b8934 h8936 X8937 => ?_)
  refine lpure (v := .int .i64 0) rfl (p_assign rfl) rfl rfl ?_
  refine lend ?_
  refine nseq ?_
  refine dseq ?_
  refine dreg ?_
  refine lpure (v := .pointer (some ⟨b8934, 4, none⟩)) rfl (p_fa fo_65_1 rfl) rfl rfl ?_
  refine lread (v := .int .i64 p8933.port) rfl (q_load wd_3 rfl) (St.ld X8937 (j := 0) rfl rfl) rfl ?_
  refine lpure (v := .int .i64 (bitXor .i64 p8933.port 1)) rfl (p_bin rfl) bin_xor rfl ?_
  refine lpure (v := .int .i64 (bitXor .i64 p8933.port 1)) rfl (p_assign rfl) rfl rfl ?_
  refine lend ?_
  refine nseq ?_
  refine dret ?_
  exact kcut_r (res_1 resT) X8937 rfl rfl
/-! isochron/topo.Back -/
theorem f27_ok {n : Nat} {φ : Fz} {lo : Nat} {h : Heap} {own : OwnL} (X : St φ lo h own) (p8908 : ApiTopo) (p8911 : Int) {a8909 : Option Addr} {n8909 c8909 : Nat} {a8910 : Option Addr} {n8910 c8910 : Nat} (H8909 : RSl eBool φ (.slice a8909 n8909 c8909) p8908.Station) (H8910 : RSl eApiLink φ (.slice a8910 n8910 c8910) p8908.Links) : Sim ((recN Try.prog LL cutF (n + 8)).call 27 #[(.agg #[.int .i64 p8908.Nodes, .slice a8909 n8909 c8909, .slice a8910 n8910 c8910]), (.int .i64 p8911)] h) (m_topo_Back p8908 p8911) (fun (d : (Int × Int)) p => p = (.tuple #[.int .i64 d.1, .int .i64 d.2], h)) := by
  refine fcut Try.func27 rfl rfl rfl rfl X ?_
  intro h0 X0
  refine dseq ?_
  refine dreg ?_
  refine lbox rfl rfl rfl rfl rfl X0 (fun b8912 h8914 X8915 => ?_)
  refine lpure (v := .int .i64 0) rfl (p_assign rfl) rfl rfl ?_
  refine lpure (v := .int .i64 0) rfl (p_assign rfl) rfl rfl ?_
  refine lend ?_
  refine nseq ?_
  refine dseq ?_
  refine dreg ?_
  refine lread (v := .agg #[.int .i64 p8908.Nodes, .slice a8909 n8909 c8909, .slice a8910 n8910 c8910]) rfl (q_load wd_25 rfl) (St.ld X8915 (j := 0) rfl rfl) rfl ?_
  refine lpure (v := .int .i64 p8911) rfl (p_move rfl) rfl rfl ?_
  refine linl rfl rfl rfl rfl ca_53 rfl Try.func53 rfl rfl rfl rfl rfl ?_
  refine dseq ?_
  refine dreg ?_
  refine lbox rfl rfl rfl rfl rfl X8915 (fun b8916 h8918 X8919 => ?_)
  refine lpure (v := .int .i64 0) rfl (p_assign rfl) rfl rfl ?_
  refine lpure (v := .int .i64 0) rfl (p_assign rfl) rfl rfl ?_
  refine lend ?_
  refine nseq ?_
  refine dseq ?_
  refine dreg ?_
  refine lpure (v := .int .i64 0) rfl (p_assign rfl) rfl rfl ?_
  refine lend ?_
  refine nseq ?_
  refine dseq ?_
  refine dseq ?_
  refine dreg ?_
  refine lread (v := .agg #[.int .i64 p8908.Nodes, .slice a8909 n8909 c8909, .slice a8910 n8910 c8910]) rfl (q_load wd_25 rfl) (St.ld X8919 (j := 0) rfl rfl) rfl ?_
  refine lcall rfl rfl ca_34 rfl rfl (f34_ok X8919 p8908 H8909 H8910) rfl (fun e8920 v8921 h8922 hq8923 => ?_)
  cases hq8923
  refine lpure (v := .int .i64 e8920) rfl (p_assign rfl) rfl rfl ?_
  refine lend ?_
  refine nseq ?_
  refine dseq ?_
  refine dreg ?_
  refine lpure (v := .int .i64 e8920) rfl (p_move rfl) rfl rfl ?_
  refine lpure (v := .bool (decide (e8920 ≠ 0))) rfl (p_ne rfl) rfl rfl ?_
  refine lend ?_
  refine nseq ?_
  refine dcond rfl rfl (fun k8924 => ?_) (fun k8924 => ?_)
  · refine dseq ?_
    refine dreg ?_
    refine lpure (v := .int .i64 0) rfl (p_move rfl) rfl rfl ?_
    refine lpure (v := .int .i64 e8920) rfl (p_move rfl) rfl rfl ?_
    refine lpure (v := .int .i64 0) rfl (p_assign rfl) rfl rfl ?_
    refine lpure (v := .int .i64 e8920) rfl (p_assign rfl) rfl rfl ?_
    refine lend ?_
    refine nseq ?_
    refine dret ?_
    refine rseq ?_
    refine kin_r (res_2 resT resT) ?_
    refine lpure (v := .int .i64 0) rfl (p_extract rfl) rfl rfl ?_
    refine lpure (v := .int .i64 e8920) rfl (p_extract rfl) rfl rfl ?_
    refine lpure (v := .int .i64 0) rfl (p_assign rfl) rfl rfl ?_
    refine lpure (v := .int .i64 e8920) rfl (p_assign rfl) rfl rfl ?_
    refine lend ?_
    refine nseq ?_
    refine dret ?_
    exact kcut_r (res_2 resT resT) X8919 rfl rfl
  · refine dskip ?_
    refine nseq ?_
    refine dseq ?_
    refine dseq ?_
    refine dreg ?_
    refine lpure (v := .int .i64 p8911) rfl (p_move rfl) rfl rfl ?_
    refine lpure (v := .bool (decide (p8911 < 0))) rfl (p_lt rfl) rfl rfl ?_
    refine lpure (v := .bool (decide (p8911 < 0))) rfl (p_move rfl) rfl rfl ?_
    refine lsh (τ := Bool) (σ := Unit) (fun s8926 (_ : Unit) => [(1, .int .i64 p8911), (2, .func (.func 56) #[] #[]), (3, .pointer (some ⟨b8916, 0, none⟩)), (8, .int .i64 0), (25, .bool s8926)]) (fun s8926 (_ : Unit) hh => St φ h.n hh ([(some b8916, .cells [.int .i64 p8908.Nodes, .slice a8909 n8909 c8909, .slice a8910 n8910 c8910] 25 .exact), (some b8912, .cells [.int .i64 p8908.Nodes, .slice a8909 n8909 c8909, .slice a8910 n8910 c8910] 25 .exact)])) 7 ?_ ?_
    · rintro s8926 _ t0 h8928 X8927
      refine lend ?_
      refine nseq ?_
      refine dcond rfl rfl (fun k8929 => ?_) (fun k8929 => ?_)
      · refine dseq ?_
        refine dreg ?_
        refine lpure (v := .int .i64 0) rfl (p_move rfl) rfl rfl ?_
        refine lpure (v := .int .i64 0) rfl (p_assign rfl) rfl rfl ?_
        refine lpure (v := .int .i64 2) rfl (p_assign rfl) rfl rfl ?_
        refine lend ?_
        refine nseq ?_
        refine dret ?_
        refine rseq ?_
        refine kin_r (res_2 resT resT) ?_
        refine lpure (v := .int .i64 0) rfl (p_extract rfl) rfl rfl ?_
        refine lpure (v := .int .i64 2) rfl (p_extract rfl) rfl rfl ?_
        refine lpure (v := .int .i64 0) rfl (p_assign rfl) rfl rfl ?_
        refine lpure (v := .int .i64 2) rfl (p_assign rfl) rfl rfl ?_
        refine lend ?_
        refine nseq ?_
        refine dret ?_
        exact kcut_r (res_2 resT resT) X8927 rfl rfl
      · refine dskip ?_
        refine nseq ?_
        refine dseq ?_
        refine dreg ?_
        refine lpure (v := .func (.func 56) #[] #[]) rfl (p_move rfl) rfl rfl ?_
        refine lpure (v := .pointer (some ⟨b8916, 2, none⟩)) rfl (p_fa fo_25_2 rfl) rfl rfl ?_
        refine lread (v := .slice a8910 n8910 c8910) rfl (q_load wd_23 rfl) (St.ld X8927 (j := 0) rfl rfl) rfl ?_
        refine lpure (v := .int .i64 p8911) rfl (p_move rfl) rfl rfl ?_
        refine lpure (v := .int .i64 (w64 (Int.tdiv p8911 2))) rfl (p_quo rfl) rfl rfl ?_
        refine Sim.bindM fun e8930 he8931 => ?_
        obtain ⟨p8932, cs8932, hp8932, hF8932, hR8932⟩ := RSl.ia H8910 he8931 (kd := .i64) (n := 4) rfl
        obtain rfl := eApiLink_el hR8932
        refine lpure (v := p8932) rfl (p_ia rs_23 rfl) hp8932 rfl ?_
        refine lread (v := .agg #[.int .i64 e8930.A, .int .i64 e8930.B, .int .i64 e8930.Per, .int .i64 e8930.Delay]) rfl (q_load wd_50 rfl) (FP.ldw X8927 hF8932 rfl rfl) rfl ?_
        refine lpure (v := .int .i64 p8911) rfl (p_move rfl) rfl rfl ?_
        refine lpure (v := .agg #[.int .i64 e8930.A, .int .i64 e8930.B, .int .i64 e8930.Per, .int .i64 e8930.Delay, .int .i64 p8911]) rfl (p_build rfl) (build_st' tz_65 pl_65 rfl) rfl ?_
        refine lcallv rfl rfl rfl rfl ca_56 rfl rfl (f56_ok X8927 ((TopoEnd.mk e8930 p8911))) rfl (fun e8938 v8939 h8940 hq8941 => ?_)
        cases hq8941
        refine lpure (v := .int .i64 e8938) rfl (p_assign rfl) rfl rfl ?_
        refine lpure (v := .int .i64 0) rfl (p_assign rfl) rfl rfl ?_
        refine lend ?_
        refine nseq ?_
        refine dret ?_
        refine kin_r (res_2 resT resT) ?_
        refine lpure (v := .int .i64 e8938) rfl (p_extract rfl) rfl rfl ?_
        refine lpure (v := .int .i64 0) rfl (p_extract rfl) rfl rfl ?_
        refine lpure (v := .int .i64 e8938) rfl (p_assign rfl) rfl rfl ?_
        refine lpure (v := .int .i64 0) rfl (p_assign rfl) rfl rfl ?_
        refine lend ?_
        refine nseq ?_
        refine dret ?_
        exact kcut_r (res_2 resT resT) X8927 rfl rfl
    · intro j8942 J8943
      refine lcase (i := 18) (show _ = Value.bool (decide (p8911 < 0)) from rfl) (fun k8944 => ?_) (fun k8944 => ?_)
      · refine lskip rfl rfl ?_
        refine lskip rfl rfl ?_
        refine lskip rfl rfl ?_
        refine lskip rfl rfl ?_
        refine lskip rfl rfl ?_
        refine lskip rfl rfl ?_
        refine lpure (v := .bool true) rfl (p_pick rfl) rfl rfl ?_
        refine Sim.of_eq (congrArg j8942 (show ((decide (p8911 < 0)) || (decide ((w64 (2 * (p8908.Links.length : Int))) ≤ p8911))) = true from by rw [k8944] <;> rfl)) ?_
        exact ljmpM J8943 true () (sub_cons rfl (sub_cons rfl (sub_cons rfl (sub_cons rfl (sub_cons rfl sub_nil))))) X8919
      · refine lpure (v := .int .i64 p8911) rfl (p_move rfl) rfl rfl ?_
        refine lpure (v := .pointer (some ⟨b8916, 2, none⟩)) rfl (p_fa fo_25_2 rfl) rfl rfl ?_
        refine lread (v := .slice a8910 n8910 c8910) rfl (q_load wd_23 rfl) (St.ld X8919 (j := 0) rfl rfl) rfl ?_
        refine lpure (v := .int .i64 (p8908.Links.length : Int)) rfl (p_len rfl rfl rfl un_23 rfl) (RSl.lenC H8910) rfl ?_
        refine lpure (v := .int .i64 (w64 (2 * (p8908.Links.length : Int)))) rfl (p_mul rfl) rfl rfl ?_
        refine lpure (v := .bool (decide ((w64 (2 * (p8908.Links.length : Int))) ≤ p8911))) rfl (p_ge rfl) rfl rfl ?_
        refine lpure (v := .bool (decide ((w64 (2 * (p8908.Links.length : Int))) ≤ p8911))) rfl (p_pick rfl) rfl rfl ?_
        refine Sim.of_eq (congrArg j8942 (show ((decide (p8911 < 0)) || (decide ((w64 (2 * (p8908.Links.length : Int))) ≤ p8911))) = (decide ((w64 (2 * (p8908.Links.length : Int))) ≤ p8911)) from by rw [k8944] <;> rfl)) ?_
        exact ljmpM J8943 (decide ((w64 (2 * (p8908.Links.length : Int))) ≤ p8911)) () (sub_cons rfl (sub_cons rfl (sub_cons rfl (sub_cons rfl (sub_cons rfl sub_nil))))) X8919
/-! isochron/isochronref16.node -/
theorem f63_ok {n : Nat} {φ : Fz} {lo : Nat} {h : Heap} {own : OwnL} (X : St φ lo h own) (p8996 : ApiTopo) (p8999 : Int) {a8997 : Option Addr} {n8997 c8997 : Nat} {a8998 : Option Addr} {n8998 c8998 : Nat} (H8997 : RSl eBool φ (.slice a8997 n8997 c8997) p8996.Station) (H8998 : RSl eApiLink φ (.slice a8998 n8998 c8998) p8996.Links) : Sim ((recN Try.prog LL cutF (n + 1)).call 63 #[(.agg #[.int .i64 p8996.Nodes, .slice a8997 n8997 c8997, .slice a8998 n8998 c8998]), (.int .i64 p8999)] h) (m_isochronref16_node p8996 p8999) (fun (d : Bool) p => p = (.bool d, h)) := by
  refine fcut Try.func63 rfl rfl rfl rfl X ?_
  intro h0 X0
  refine dseq ?_
  refine dreg ?_
  refine lbox rfl rfl rfl rfl rfl X0 (fun b9000 h9002 X9003 => ?_)
  refine lpure (v := .bool false) rfl (p_assign rfl) rfl rfl ?_
  refine lend ?_
  refine nseq ?_
  refine dseq ?_
  refine dreg ?_
  refine lpure (v := .int .i64 p8999) rfl (p_move rfl) rfl rfl ?_
  refine lpure (v := .bool (decide (0 ≤ p8999))) rfl (p_ge rfl) rfl rfl ?_
  refine lpure (v := .bool (decide (0 ≤ p8999))) rfl (p_move rfl) rfl rfl ?_
  refine lsh (τ := Bool) (σ := Unit) (fun s9005 (_ : Unit) => [(12, .bool s9005)]) (fun s9005 (_ : Unit) hh => St φ h.n hh ([(some b9000, .cells [.int .i64 p8996.Nodes, .slice a8997 n8997 c8997, .slice a8998 n8998 c8998] 25 .exact)])) 5 ?_ ?_
  · rintro s9005 _ t0 h9007 X9006
    refine lpure (v := .bool s9005) rfl (p_assign rfl) rfl rfl ?_
    refine lend ?_
    refine nseq ?_
    refine dret ?_
    exact kcut_r (res_1 resT) X9006 rfl rfl
  · intro j9008 J9009
    refine lcase (i := 7) (show _ = Value.bool (decide (0 ≤ p8999)) from rfl) (fun k9010 => ?_) (fun k9010 => ?_)
    · refine lpure (v := .int .i64 p8999) rfl (p_move rfl) rfl rfl ?_
      refine lpure (v := .pointer (some ⟨b9000, 0, none⟩)) rfl (p_fa fo_25_0 rfl) rfl rfl ?_
      refine lread (v := .int .i64 p8996.Nodes) rfl (q_load wd_3 rfl) (St.ld X9003 (j := 0) rfl rfl) rfl ?_
      refine lpure (v := .bool (decide (p8999 < p8996.Nodes))) rfl (p_lt rfl) rfl rfl ?_
      refine lpure (v := .bool (decide (p8999 < p8996.Nodes))) rfl (p_pick rfl) rfl rfl ?_
      refine Sim.of_eq (congrArg j9008 (show ((decide (0 ≤ p8999)) && (decide (p8999 < p8996.Nodes))) = (decide (p8999 < p8996.Nodes)) from by rw [k9010] <;> rfl)) ?_
      exact ljmpM J9009 (decide (p8999 < p8996.Nodes)) () (sub_cons rfl sub_nil) X9003
    · refine lskip rfl rfl ?_
      refine lskip rfl rfl ?_
      refine lskip rfl rfl ?_
      refine lskip rfl rfl ?_
      refine lpure (v := .bool false) rfl (p_pick rfl) rfl rfl ?_
      refine Sim.of_eq (congrArg j9008 (show ((decide (0 ≤ p8999)) && (decide (p8999 < p8996.Nodes))) = false from by rw [k9010] <;> rfl)) ?_
      exact ljmpM J9009 false () (sub_cons rfl sub_nil) X9003
/-! isochron/isochronref16.link -/
theorem f43_ok {n : Nat} {φ : Fz} {lo : Nat} {h : Heap} {own : OwnL} (X : St φ lo h own) (p8984 : ApiTopo) (p8987 : ApiLink) {a8985 : Option Addr} {n8985 c8985 : Nat} {a8986 : Option Addr} {n8986 c8986 : Nat} (H8985 : RSl eBool φ (.slice a8985 n8985 c8985) p8984.Station) (H8986 : RSl eApiLink φ (.slice a8986 n8986 c8986) p8984.Links) : Sim ((recN Try.prog LL cutF (n + 2)).call 43 #[(.agg #[.int .i64 p8984.Nodes, .slice a8985 n8985 c8985, .slice a8986 n8986 c8986]), (.agg #[.int .i64 p8987.A, .int .i64 p8987.B, .int .i64 p8987.Per, .int .i64 p8987.Delay])] h) (m_isochronref16_link p8984 p8987) (fun (d : Bool) p => p = (.bool d, h)) := by
  refine fcut Try.func43 rfl rfl rfl rfl X ?_
  intro h0 X0
  refine dseq ?_
  refine dreg ?_
  refine lbox rfl rfl rfl rfl rfl X0 (fun b8988 h8990 X8991 => ?_)
  refine lbox rfl rfl rfl rfl rfl X8991 (fun b8992 h8994 X8995 => ?_)
  refine lpure (v := .bool false) rfl (p_assign rfl) rfl rfl ?_
  refine lend ?_
  refine nseq ?_
  refine dseq ?_
  refine dseq ?_
  refine dreg ?_
  refine lread (v := .agg #[.int .i64 p8984.Nodes, .slice a8985 n8985 c8985, .slice a8986 n8986 c8986]) rfl (q_load wd_25 rfl) (St.ld X8995 (j := 1) rfl rfl) rfl ?_
  refine lpure (v := .pointer (some ⟨b8992, 0, none⟩)) rfl (p_fa fo_50_0 rfl) rfl rfl ?_
  refine lread (v := .int .i64 p8987.A) rfl (q_load wd_3 rfl) (St.ld X8995 (j := 0) rfl rfl) rfl ?_
  refine lcall rfl rfl ca_63 rfl rfl (f63_ok X8995 p8984 (p8987.A) H8985 H8986) rfl (fun e9011 v9012 h9013 hq9014 => ?_)
  cases hq9014
  refine lpure (v := .bool (!e9011)) rfl (p_not rfl) rfl rfl ?_
  refine lpure (v := .bool (!e9011)) rfl (p_move rfl) rfl rfl ?_
  refine ljoinM (τ := Bool) (σ := Unit) (fun s9021 (_ : Unit) => [(2, .pointer (some ⟨b8988, 0, none⟩)), (3, .pointer (some ⟨b8992, 0, none⟩)), (16, .bool s9021)]) (fun s9021 (_ : Unit) hh => St φ h.n hh ([(some b8992, .cells [.int .i64 p8987.A, .int .i64 p8987.B, .int .i64 p8987.Per, .int .i64 p8987.Delay] 50 .exact), (some b8988, .cells [.int .i64 p8984.Nodes, .slice a8985 n8985 c8985, .slice a8986 n8986 c8986] 25 .exact)])) 6 ?_ ?_
  · rintro s9021 _ t0 h9023 X9022
    refine lpure (v := .bool s9021) rfl (p_move rfl) rfl rfl ?_
    refine lsh (τ := Bool) (σ := Unit) (fun s9025 (_ : Unit) => [(2, .pointer (some ⟨b8988, 0, none⟩)), (3, .pointer (some ⟨b8992, 0, none⟩)), (23, .bool s9025)]) (fun s9025 (_ : Unit) hh => St φ h.n hh ([(some b8992, .cells [.int .i64 p8987.A, .int .i64 p8987.B, .int .i64 p8987.Per, .int .i64 p8987.Delay] 50 .exact), (some b8988, .cells [.int .i64 p8984.Nodes, .slice a8985 n8985 c8985, .slice a8986 n8986 c8986] 25 .exact)])) 6 ?_ ?_
    · rintro s9025 _ t0 h9027 X9026
      refine lpure (v := .bool s9025) rfl (p_move rfl) rfl rfl ?_
      refine ljoinM (τ := Bool) (σ := Unit) (fun s9037 (_ : Unit) => [(3, .pointer (some ⟨b8992, 0, none⟩)), (39, .bool s9037)]) (fun s9037 (_ : Unit) hh => St φ h.n hh ([(some b8992, .cells [.int .i64 p8987.A, .int .i64 p8987.B, .int .i64 p8987.Per, .int .i64 p8987.Delay] 50 .exact), (some b8988, .cells [.int .i64 p8984.Nodes, .slice a8985 n8985 c8985, .slice a8986 n8986 c8986] 25 .exact)])) 15 ?_ ?_
      · rintro s9037 _ t0 h9039 X9038
        refine lend ?_
        refine nseq ?_
        refine dcond rfl rfl (fun k9040 => ?_) (fun k9040 => ?_)
        · refine dseq ?_
          refine dreg ?_
          refine lpure (v := .bool false) rfl (p_assign rfl) rfl rfl ?_
          refine lend ?_
          refine nseq ?_
          refine dret ?_
          refine rseq ?_
          exact kcut_r (res_1 resT) X9038 rfl rfl
        · refine dskip ?_
          refine nseq ?_
          refine dseq ?_
          refine dreg ?_
          refine lpure (v := .pointer (some ⟨b8992, 2, none⟩)) rfl (p_fa fo_50_2 rfl) rfl rfl ?_
          refine lread (v := .int .i64 p8987.Per) rfl (q_load wd_3 rfl) (St.ld X9038 (j := 0) rfl rfl) rfl ?_
          refine lpure (v := .bool (decide (1 ≤ p8987.Per))) rfl (p_ge rfl) rfl rfl ?_
          refine lpure (v := .bool (decide (1 ≤ p8987.Per))) rfl (p_move rfl) rfl rfl ?_
          refine lsh (τ := Bool) (σ := Unit) (fun s9042 (_ : Unit) => [(3, .pointer (some ⟨b8992, 0, none⟩)), (47, .bool s9042)]) (fun s9042 (_ : Unit) hh => St φ h.n hh ([(some b8992, .cells [.int .i64 p8987.A, .int .i64 p8987.B, .int .i64 p8987.Per, .int .i64 p8987.Delay] 50 .exact), (some b8988, .cells [.int .i64 p8984.Nodes, .slice a8985 n8985 c8985, .slice a8986 n8986 c8986] 25 .exact)])) 4 ?_ ?_
          · rintro s9042 _ t0 h9044 X9043
            refine lpure (v := .bool s9042) rfl (p_move rfl) rfl rfl ?_
            refine lsh (τ := Bool) (σ := Unit) (fun s9046 (_ : Unit) => [(3, .pointer (some ⟨b8992, 0, none⟩)), (52, .bool s9046)]) (fun s9046 (_ : Unit) hh => St φ h.n hh ([(some b8992, .cells [.int .i64 p8987.A, .int .i64 p8987.B, .int .i64 p8987.Per, .int .i64 p8987.Delay] 50 .exact), (some b8988, .cells [.int .i64 p8984.Nodes, .slice a8985 n8985 c8985, .slice a8986 n8986 c8986] 25 .exact)])) 4 ?_ ?_
            · rintro s9046 _ t0 h9048 X9047
              refine lpure (v := .bool s9046) rfl (p_move rfl) rfl rfl ?_
              refine lsh (τ := Bool) (σ := Unit) (fun s9050 (_ : Unit) => [(57, .bool s9050)]) (fun s9050 (_ : Unit) hh => St φ h.n hh ([(some b8992, .cells [.int .i64 p8987.A, .int .i64 p8987.B, .int .i64 p8987.Per, .int .i64 p8987.Delay] 50 .exact), (some b8988, .cells [.int .i64 p8984.Nodes, .slice a8985 n8985 c8985, .slice a8986 n8986 c8986] 25 .exact)])) 4 ?_ ?_
              · rintro s9050 _ t0 h9052 X9051
                refine lpure (v := .bool s9050) rfl (p_assign rfl) rfl rfl ?_
                refine lend ?_
                refine nseq ?_
                refine dret ?_
                exact kcut_r (res_1 resT) X9051 rfl rfl
              · intro j9053 J9054
                refine lcase (i := 53) (show _ = Value.bool s9046 from rfl) (fun k9055 => ?_) (fun k9055 => ?_)
                · refine lpure (v := .pointer (some ⟨b8992, 3, none⟩)) rfl (p_fa fo_50_3 rfl) rfl rfl ?_
                  refine lread (v := .int .i64 p8987.Delay) rfl (q_load wd_3 rfl) (St.ld X9047 (j := 0) rfl rfl) rfl ?_
                  refine lpure (v := .bool (decide (p8987.Delay ≤ 10000))) rfl (p_le rfl) rfl rfl ?_
                  refine lpure (v := .bool (decide (p8987.Delay ≤ 10000))) rfl (p_pick rfl) rfl rfl ?_
                  refine Sim.of_eq (congrArg j9053 (show (s9046 && (decide (p8987.Delay ≤ 10000))) = (decide (p8987.Delay ≤ 10000)) from by rw [k9055] <;> rfl)) ?_
                  exact ljmpM J9054 (decide (p8987.Delay ≤ 10000)) () (sub_cons rfl sub_nil) X9047
                · refine lskip rfl rfl ?_
                  refine lskip rfl rfl ?_
                  refine lskip rfl rfl ?_
                  refine lpure (v := .bool false) rfl (p_pick rfl) rfl rfl ?_
                  refine Sim.of_eq (congrArg j9053 (show (s9046 && (decide (p8987.Delay ≤ 10000))) = false from by rw [k9055] <;> rfl)) ?_
                  exact ljmpM J9054 false () (sub_cons rfl sub_nil) X9047
            · intro j9056 J9057
              refine lcase (i := 48) (show _ = Value.bool s9042 from rfl) (fun k9058 => ?_) (fun k9058 => ?_)
              · refine lpure (v := .pointer (some ⟨b8992, 3, none⟩)) rfl (p_fa fo_50_3 rfl) rfl rfl ?_
                refine lread (v := .int .i64 p8987.Delay) rfl (q_load wd_3 rfl) (St.ld X9043 (j := 0) rfl rfl) rfl ?_
                refine lpure (v := .bool (decide (0 ≤ p8987.Delay))) rfl (p_ge rfl) rfl rfl ?_
                refine lpure (v := .bool (decide (0 ≤ p8987.Delay))) rfl (p_pick rfl) rfl rfl ?_
                refine Sim.of_eq (congrArg j9056 (show (s9042 && (decide (0 ≤ p8987.Delay))) = (decide (0 ≤ p8987.Delay)) from by rw [k9058] <;> rfl)) ?_
                exact ljmpM J9057 (decide (0 ≤ p8987.Delay)) () (sub_cons rfl (sub_cons rfl sub_nil)) X9043
              · refine lskip rfl rfl ?_
                refine lskip rfl rfl ?_
                refine lskip rfl rfl ?_
                refine lpure (v := .bool false) rfl (p_pick rfl) rfl rfl ?_
                refine Sim.of_eq (congrArg j9056 (show (s9042 && (decide (0 ≤ p8987.Delay))) = false from by rw [k9058] <;> rfl)) ?_
                exact ljmpM J9057 false () (sub_cons rfl (sub_cons rfl sub_nil)) X9043
          · intro j9059 J9060
            refine lcase (i := 43) (show _ = Value.bool (decide (1 ≤ p8987.Per)) from rfl) (fun k9061 => ?_) (fun k9061 => ?_)
            · refine lpure (v := .pointer (some ⟨b8992, 2, none⟩)) rfl (p_fa fo_50_2 rfl) rfl rfl ?_
              refine lread (v := .int .i64 p8987.Per) rfl (q_load wd_3 rfl) (St.ld X9038 (j := 0) rfl rfl) rfl ?_
              refine lpure (v := .bool (decide (p8987.Per ≤ 1000))) rfl (p_le rfl) rfl rfl ?_
              refine lpure (v := .bool (decide (p8987.Per ≤ 1000))) rfl (p_pick rfl) rfl rfl ?_
              refine Sim.of_eq (congrArg j9059 (show ((decide (1 ≤ p8987.Per)) && (decide (p8987.Per ≤ 1000))) = (decide (p8987.Per ≤ 1000)) from by rw [k9061] <;> rfl)) ?_
              exact ljmpM J9060 (decide (p8987.Per ≤ 1000)) () (sub_cons rfl (sub_cons rfl sub_nil)) X9038
            · refine lskip rfl rfl ?_
              refine lskip rfl rfl ?_
              refine lskip rfl rfl ?_
              refine lpure (v := .bool false) rfl (p_pick rfl) rfl rfl ?_
              refine Sim.of_eq (congrArg j9059 (show ((decide (1 ≤ p8987.Per)) && (decide (p8987.Per ≤ 1000))) = false from by rw [k9061] <;> rfl)) ?_
              exact ljmpM J9060 false () (sub_cons rfl (sub_cons rfl sub_nil)) X9038
      · intro j9062 J9063
        refine lif (i := 24) (show _ = Value.bool s9025 from rfl) (fun k9064 => ?_) (fun k9064 => ?_)
        · refine lskip rfl rfl ?_
          refine lskip rfl rfl ?_
          refine lskip rfl rfl ?_
          refine lskip rfl rfl ?_
          refine lskip rfl rfl ?_
          refine lskip rfl rfl ?_
          refine lskip rfl rfl ?_
          refine lskip rfl rfl ?_
          refine lskip rfl rfl ?_
          refine lskip rfl rfl ?_
          refine lskip rfl rfl ?_
          refine lskip rfl rfl ?_
          refine lskip rfl rfl ?_
          refine lskip rfl rfl ?_
          refine lpure (v := .bool true) rfl (p_pick rfl) rfl rfl ?_
          exact ljmpM J9063 true () (sub_cons rfl (sub_cons rfl sub_nil)) X9026
        · refine lpure (v := .pointer (some ⟨b8988, 1, none⟩)) rfl (p_fa fo_25_1 rfl) rfl rfl ?_
          refine lread (v := .slice a8985 n8985 c8985) rfl (q_load wd_22 rfl) (St.ld X9026 (j := 1) rfl rfl) rfl ?_
          refine lpure (v := .pointer (some ⟨b8992, 0, none⟩)) rfl (p_fa fo_50_0 rfl) rfl rfl ?_
          refine lread (v := .int .i64 p8987.A) rfl (q_load wd_3 rfl) (St.ld X9026 (j := 0) rfl rfl) rfl ?_
          refine Sim.bindM fun e9065 he9066 => ?_
          obtain ⟨p9067, cs9067, hp9067, hF9067, hR9067⟩ := RSl.ia H8985 he9066 (kd := .i64) (n := 1) rfl
          have hR9067 : _ = [(.bool e9065 : Value)] := hR9067
          subst hR9067
          refine lpure (v := p9067) rfl (p_ia rs_22 rfl) hp9067 rfl ?_
          refine lread (v := .bool e9065) rfl (q_load wd_4 rfl) (FP.ld X9026 hF9067) rfl ?_
          refine lpure (v := .bool e9065) rfl (p_move rfl) rfl rfl ?_
          refine lif (i := 31) (show _ = Value.bool e9065 from rfl) (fun k9068 => ?_) (fun k9068 => ?_)
          · refine lpure (v := .pointer (some ⟨b8988, 1, none⟩)) rfl (p_fa fo_25_1 rfl) rfl rfl ?_
            refine lread (v := .slice a8985 n8985 c8985) rfl (q_load wd_22 rfl) (St.ld X9026 (j := 1) rfl rfl) rfl ?_
            refine lpure (v := .pointer (some ⟨b8992, 1, none⟩)) rfl (p_fa fo_50_1 rfl) rfl rfl ?_
            refine lread (v := .int .i64 p8987.B) rfl (q_load wd_3 rfl) (St.ld X9026 (j := 0) rfl rfl) rfl ?_
            refine Sim.bindM fun e9069 he9070 => ?_
            obtain ⟨p9071, cs9071, hp9071, hF9071, hR9071⟩ := RSl.ia H8985 he9070 (kd := .i64) (n := 1) rfl
            have hR9071 : _ = [(.bool e9069 : Value)] := hR9071
            subst hR9071
            refine lpure (v := p9071) rfl (p_ia rs_22 rfl) hp9071 rfl ?_
            refine lread (v := .bool e9069) rfl (q_load wd_4 rfl) (FP.ld X9026 hF9071) rfl ?_
            refine lpure (v := .bool e9069) rfl (p_pick rfl) rfl rfl ?_
            refine lpure (v := .bool e9069) rfl (p_pick rfl) rfl rfl ?_
            exact ljmpM J9063 e9069 () (sub_cons rfl (sub_cons rfl sub_nil)) X9026
          · refine lskip rfl rfl ?_
            refine lskip rfl rfl ?_
            refine lskip rfl rfl ?_
            refine lskip rfl rfl ?_
            refine lskip rfl rfl ?_
            refine lskip rfl rfl ?_
            refine lpure (v := .bool false) rfl (p_pick rfl) rfl rfl ?_
            refine lpure (v := .bool false) rfl (p_pick rfl) rfl rfl ?_
            exact ljmpM J9063 false () (sub_cons rfl (sub_cons rfl sub_nil)) X9026
    · intro j9072 J9073
      refine lcase (i := 17) (show _ = Value.bool s9021 from rfl) (fun k9074 => ?_) (fun k9074 => ?_)
      · refine lskip rfl rfl ?_
        refine lskip rfl rfl ?_
        refine lskip rfl rfl ?_
        refine lskip rfl rfl ?_
        refine lskip rfl rfl ?_
        refine lpure (v := .bool true) rfl (p_pick rfl) rfl rfl ?_
        refine Sim.of_eq (congrArg j9072 (show (s9021 || (decide (p8987.A = p8987.B))) = true from by rw [k9074] <;> rfl)) ?_
        exact ljmpM J9073 true () (sub_cons rfl (sub_cons rfl (sub_cons rfl sub_nil))) X9022
      · refine lpure (v := .pointer (some ⟨b8992, 0, none⟩)) rfl (p_fa fo_50_0 rfl) rfl rfl ?_
        refine lread (v := .int .i64 p8987.A) rfl (q_load wd_3 rfl) (St.ld X9022 (j := 0) rfl rfl) rfl ?_
        refine lpure (v := .pointer (some ⟨b8992, 1, none⟩)) rfl (p_fa fo_50_1 rfl) rfl rfl ?_
        refine lread (v := .int .i64 p8987.B) rfl (q_load wd_3 rfl) (St.ld X9022 (j := 0) rfl rfl) rfl ?_
        refine lpure (v := .bool (decide (p8987.A = p8987.B))) rfl (p_eq rfl) rfl rfl ?_
        refine lpure (v := .bool (decide (p8987.A = p8987.B))) rfl (p_pick rfl) rfl rfl ?_
        refine Sim.of_eq (congrArg j9072 (show (s9021 || (decide (p8987.A = p8987.B))) = (decide (p8987.A = p8987.B)) from by rw [k9074] <;> rfl)) ?_
        exact ljmpM J9073 (decide (p8987.A = p8987.B)) () (sub_cons rfl (sub_cons rfl (sub_cons rfl sub_nil))) X9022
  · intro j9075 J9076
    refine lif (i := 10) (show _ = Value.bool (!e9011) from rfl) (fun k9077 => ?_) (fun k9077 => ?_)
    · refine lskip rfl rfl ?_
      refine lskip rfl rfl ?_
      refine lskip rfl rfl ?_
      refine lskip rfl rfl ?_
      refine lskip rfl rfl ?_
      refine lpure (v := .bool true) rfl (p_pick rfl) rfl rfl ?_
      exact ljmpM J9076 true () (sub_cons rfl (sub_cons rfl (sub_cons rfl sub_nil))) X8995
    · refine lread (v := .agg #[.int .i64 p8984.Nodes, .slice a8985 n8985 c8985, .slice a8986 n8986 c8986]) rfl (q_load wd_25 rfl) (St.ld X8995 (j := 1) rfl rfl) rfl ?_
      refine lpure (v := .pointer (some ⟨b8992, 1, none⟩)) rfl (p_fa fo_50_1 rfl) rfl rfl ?_
      refine lread (v := .int .i64 p8987.B) rfl (q_load wd_3 rfl) (St.ld X8995 (j := 0) rfl rfl) rfl ?_
      refine lcall rfl rfl ca_63 rfl rfl (f63_ok X8995 p8984 (p8987.B) H8985 H8986) rfl (fun e9078 v9079 h9080 hq9081 => ?_)
      cases hq9081
      refine lpure (v := .bool (!e9078)) rfl (p_not rfl) rfl rfl ?_
      refine lpure (v := .bool (!e9078)) rfl (p_pick rfl) rfl rfl ?_
      exact ljmpM J9076 (!e9078) () (sub_cons rfl (sub_cons rfl (sub_cons rfl sub_nil))) X8995
/-! isochron/isochronref16.In -/
theorem f48_ok {n : Nat} {φ : Fz} {lo : Nat} {h : Heap} {own : OwnL} (X : St φ lo h own) (p9187 : (List Int)) (p9189 : Int) {a9188 : Option Addr} {n9188 c9188 : Nat} (H9188 : RSl (eInt .i64) φ (.slice a9188 n9188 c9188) p9187) : Sim ((recN Try.prog LL cutF (n + 1)).call 48 #[(.slice a9188 n9188 c9188), (.int .i64 p9189)] h) (m_isochronref16_In p9187 p9189) (fun (d : Bool) p => p = (.bool d, h)) := by
  refine fcut Try.func48 rfl rfl rfl rfl X ?_
  intro h0 X0
  refine dseq ?_
  refine dreg ?_
  refine lpure (v := .bool false) rfl (p_assign rfl) rfl rfl ?_
  refine lend ?_
  refine nseq ?_
  refine dseq ?_
  refine dseq ?_
  refine dreg ?_
  refine lpure (v := .int .i64 0) rfl (p_assign rfl) rfl rfl ?_
  refine lend ?_
  refine nseq ?_
  refine dblock ?_
  refine dloopM (τ := Int) (σ := Unit) (fun s9206 (_ : Unit) => [(0, .slice a9188 n9188 c9188), (1, .int .i64 p9189), (5, .int .i64 s9206)]) (fun s9206 (_ : Unit) hh => St φ h.n hh ([])) 0 () (sub_cons rfl (sub_cons rfl (sub_cons rfl sub_nil))) X0 ?_
  rintro n9216 ih9215 s9206 _ t0 h9218 X9217
  refine dseq ?_
  refine dseq ?_
  refine dreg ?_
  refine lpure (v := .int .i64 s9206) rfl (p_move rfl) rfl rfl ?_
  refine lpure (v := .slice a9188 n9188 c9188) rfl (p_move rfl) rfl rfl ?_
  refine lpure (v := .int .i64 (p9187.length : Int)) rfl (p_len rfl rfl rfl un_28 rfl) (RSl.lenC H9188) rfl ?_
  refine lpure (v := .bool (decide (s9206 < (p9187.length : Int)))) rfl (p_lt rfl) rfl rfl ?_
  refine lend ?_
  refine nseq ?_
  refine dcond rfl rfl (fun k9219 => ?_) (fun k9219 => ?_)
  · refine dskip ?_
    refine nseq ?_
    refine dseq ?_
    refine dblock ?_
    refine dseq ?_
    refine dreg ?_
    refine lpure (v := .slice a9188 n9188 c9188) rfl (p_move rfl) rfl rfl ?_
    refine lpure (v := .int .i64 s9206) rfl (p_move rfl) rfl rfl ?_
    refine Sim.bindM fun e9220 he9221 => ?_
    obtain ⟨p9222, cs9222, hp9222, hF9222, hR9222⟩ := RSl.ia H9188 he9221 (kd := .i64) (n := 1) rfl
    have hR9222 : _ = [(.int .i64 e9220 : Value)] := hR9222
    subst hR9222
    refine lpure (v := p9222) rfl (p_ia rs_28 rfl) hp9222 rfl ?_
    refine lread (v := .int .i64 e9220) rfl (q_load wd_3 rfl) (FP.ld X9217 hF9222) rfl ?_
    refine lpure (v := .int .i64 p9189) rfl (p_move rfl) rfl rfl ?_
    refine lpure (v := .bool (decide (e9220 = p9189))) rfl (p_eq rfl) rfl rfl ?_
    refine lend ?_
    refine nseq ?_
    refine dcond rfl rfl (fun k9223 => ?_) (fun k9223 => ?_)
    · refine dseq ?_
      refine dreg ?_
      refine lpure (v := .bool true) rfl (p_assign rfl) rfl rfl ?_
      refine lend ?_
      refine nseq ?_
      refine dret ?_
      refine rblock ?_
      refine rseq ?_
      refine rloop ?_
      refine rblock ?_
      refine rseq ?_
      exact kcut_r (res_1 resT) X9217 rfl rfl
    · refine dskip ?_
      refine nblock ?_
      refine nseq ?_
      refine dreg ?_
      refine lpure (v := .int .i64 s9206) rfl (p_move rfl) rfl rfl ?_
      refine lpure (v := .int .i64 (w64 (s9206 + 1))) rfl (p_add rfl) rfl rfl ?_
      refine lpure (v := .int .i64 (w64 (s9206 + 1))) rfl (p_assign rfl) rfl rfl ?_
      refine lend ?_
      exact kbackM ih9215 (w64 (s9206 + 1)) () (sub_cons rfl (sub_cons rfl (sub_cons rfl sub_nil))) X9217
  · refine dexit ?_
    refine eseq ?_
    refine eloop ?_
    refine xblock ?_
    refine nseq ?_
    refine dseq ?_
    refine dreg ?_
    refine lpure (v := .bool false) rfl (p_assign rfl) rfl rfl ?_
    refine lend ?_
    refine nseq ?_
    refine dret ?_
    exact kcut_r (res_1 resT) X9217 rfl rfl
/-! isochron/isochronref16.Reach -/
theorem f19_ok {n : Nat} {φ : Fz} {lo : Nat} {h : Heap} {own : OwnL} (X : St φ lo h own) (p10378 : ApiTopo) (p10381 : Int) (p10382 : (List Int)) {a10379 : Option Addr} {n10379 c10379 : Nat} {a10380 : Option Addr} {n10380 c10380 : Nat} {a10383 : Option Addr} {n10383 c10383 : Nat} (H10379 : RSl eBool φ (.slice a10379 n10379 c10379) p10378.Station) (H10380 : RSl eApiLink φ (.slice a10380 n10380 c10380) p10378.Links) (H10383 : RSl (eInt .i64) φ (.slice a10383 n10383 c10383) p10382) : Sim ((recN Try.prog LL cutF (n + 2)).call 19 #[(.agg #[.int .i64 p10378.Nodes, .slice a10379 n10379 c10379, .slice a10380 n10380 c10380]), (.int .i64 p10381), (.slice a10383 n10383 c10383)] h) (m_isochronref16_Reach p10378 p10381 p10382) (fun (d : (List Bool)) p => ∃ φ2 : Fz, ∃ a11567 : Option Addr, ∃ n11567 : Nat, ∃ c11567 : Nat, ∃ ob11567 : Option Nat, ∃ blk11567 : Blk, Fz.le φ φ2 ∧ St φ2 lo p.2 ((ob11567, blk11567) :: own) ∧ p.1 = .slice a11567 n11567 c11567 ∧ OSl eBool φ2 4 ob11567 blk11567 (.slice a11567 n11567 c11567) d) := by
  refine fopen Try.func19 rfl rfl rfl rfl ?_
  refine dseq ?_
  refine dreg ?_
  refine lbox rfl rfl rfl rfl rfl X (fun b10384 h10386 X10387 => ?_)
  refine lpure (v := .slice none 0 0) rfl (p_assign rfl) rfl rfl ?_
  refine lend ?_
  refine nseq ?_
  refine dseq ?_
  refine dreg ?_
  refine lpure (v := .pointer (some ⟨b10384, 0, none⟩)) rfl (p_fa fo_25_0 rfl) rfl rfl ?_
  refine lread (v := .int .i64 p10378.Nodes) rfl (q_load wd_3 rfl) (St.ld X10387 (j := 0) rfl rfl) rfl ?_
  refine Sim.mustM fun k10388 => ?_
  have k10388 := of_decide_eq_true k10388
  obtain ⟨h10388, b10388, vs10388, hv10388, X10388, O10388⟩ := OSl.mk (E := eBool) (φ := φ) (a0 := false) (k := .i64) (k' := .i64) (l := p10378.Nodes) (c := p10378.Nodes) un_22 tb_4 rfl ts_4 rfl rfl tz_4 rfl rfl rfl (by omega) (by omega) (by omega) X10387
  refine lheap rfl (h_makeSlice rfl) hv10388 rfl ?_
  refine lpure (v := .slice (some ⟨b10388, 0, none⟩) (p10378.Nodes).toNat (p10378.Nodes).toNat) rfl (p_assign rfl) rfl rfl ?_
  refine lend ?_
  refine nseq ?_
  refine dseq ?_
  refine dreg ?_
  refine lpure (v := .slice (some ⟨b10388, 0, none⟩) (p10378.Nodes).toNat (p10378.Nodes).toNat) rfl (p_move rfl) rfl rfl ?_
  refine lpure (v := .int .i64 p10381) rfl (p_move rfl) rfl rfl ?_
  refine Sim.bindM fun e10390 he10391 => ?_
  obtain ⟨off10392, cs10392, hp10392, hc10392, hR10392, hl10392, hm10392, hs10392⟩ := OSl.iaC O10388 he10391 (kd := .i64) (n := 1) rfl
  have hR10392 : _ = [(.bool e10390 : Value)] := hR10392
  subst hR10392
  refine lpure (v := .pointer (some ⟨b10388, off10392, none⟩)) rfl (p_ia rs_22 rfl) hp10392 rfl ?_
  have O10395 := hs10392 [.bool true] (true) rfl
  refine lstore rfl ts_4 rfl rfl (j := 0) rfl hm10392 rfl rfl (ble_iff.2 hl10392) rfl X10388 (fun h10393 X10394 => ?_)
  refine lend ?_
  refine nseq ?_
  refine dseq ?_
  refine dseq ?_
  refine dreg ?_
  refine lpure (v := .int .i64 0) rfl (p_assign rfl) rfl rfl ?_
  refine lend ?_
  refine nseq ?_
  refine dblock ?_
  refine dloopM (τ := (List Bool) × Int) (σ := Option Addr × Nat × Nat × Option Nat × Blk) (fun s10980 (a10981, n10981, c10981, ob10981, blk10981) => [(2, .slice a10383 n10383 c10383), (3, .pointer (some ⟨b10384, 0, none⟩)), (7, .slice a10981 n10981 c10981), (8, .int .i64 s10980.2)]) (fun s10980 (a10981, n10981, c10981, ob10981, blk10981) hh => St φ lo hh ((ob10981, blk10981) :: (some b10384, .cells [.int .i64 p10378.Nodes, .slice a10379 n10379 c10379, .slice a10380 n10380 c10380] 25 .exact) :: own) ∧ OSl eBool φ 4 ob10981 blk10981 (.slice a10981 n10981 c10981) s10980.1) (((List.replicate (p10378.Nodes).toNat false).set (p10381).toNat true), 0) ((some ⟨b10388, 0, none⟩), (p10378.Nodes).toNat, (p10378.Nodes).toNat, some b10388, (.cells (setAt vs10388 off10392 [.bool true]) 4 .exact)) (sub_cons rfl (sub_cons rfl (sub_cons rfl (sub_cons rfl sub_nil)))) ⟨X10394, O10395⟩ ?_
  rintro n11275 ih11274 s10980 ⟨a10981, n10981, c10981, ob10981, blk10981⟩ t0 h11277 ⟨X11276, O10981⟩
  refine dseq ?_
  refine dseq ?_
  refine dreg ?_
  refine lpure (v := .int .i64 s10980.2) rfl (p_move rfl) rfl rfl ?_
  refine lpure (v := .pointer (some ⟨b10384, 0, none⟩)) rfl (p_fa fo_25_0 rfl) rfl rfl ?_
  refine lread (v := .int .i64 p10378.Nodes) rfl (q_load wd_3 rfl) (St.ld X11276 (j := 1) rfl rfl) rfl ?_
  refine lpure (v := .bool (decide (s10980.2 < p10378.Nodes))) rfl (p_lt rfl) rfl rfl ?_
  refine lend ?_
  refine nseq ?_
  refine dcond rfl rfl (fun k11278 => ?_) (fun k11278 => ?_)
  · refine dskip ?_
    refine nseq ?_
    refine dseq ?_
    refine dblock ?_
    refine dseq ?_
    refine dreg ?_
    refine lpure (v := .int .i64 0) rfl (p_assign rfl) rfl rfl ?_
    refine lend ?_
    refine nseq ?_
    refine dblock ?_
    refine dloopM (τ := (List Bool) × Int) (σ := Option Addr × Nat × Nat × Option Nat × Blk) (fun s11422 (a11423, n11423, c11423, ob11423, blk11423) => [(2, .slice a10383 n10383 c10383), (3, .pointer (some ⟨b10384, 0, none⟩)), (7, .slice a11423 n11423 c11423), (8, .int .i64 s10980.2), (9, .int .i64 s11422.2)]) (fun s11422 (a11423, n11423, c11423, ob11423, blk11423) hh => St φ lo hh ((ob11423, blk11423) :: (some b10384, .cells [.int .i64 p10378.Nodes, .slice a10379 n10379 c10379, .slice a10380 n10380 c10380] 25 .exact) :: own) ∧ OSl eBool φ 4 ob11423 blk11423 (.slice a11423 n11423 c11423) s11422.1) (s10980.1, 0) (a10981, n10981, c10981, ob10981, blk10981) (sub_cons rfl (sub_cons rfl (sub_cons rfl (sub_cons rfl (sub_cons rfl sub_nil))))) ⟨X11276, O10981⟩ ?_
    rintro n11496 ih11495 s11422 ⟨a11423, n11423, c11423, ob11423, blk11423⟩ t0 h11498 ⟨X11497, O11423⟩
    refine dseq ?_
    refine dseq ?_
    refine dreg ?_
    refine lpure (v := .int .i64 s11422.2) rfl (p_move rfl) rfl rfl ?_
    refine lpure (v := .pointer (some ⟨b10384, 2, none⟩)) rfl (p_fa fo_25_2 rfl) rfl rfl ?_
    refine lread (v := .slice a10380 n10380 c10380) rfl (q_load wd_23 rfl) (St.ld X11497 (j := 1) rfl rfl) rfl ?_
    refine lpure (v := .int .i64 (p10378.Links.length : Int)) rfl (p_len rfl rfl rfl un_23 rfl) (RSl.lenC H10380) rfl ?_
    refine lpure (v := .bool (decide (s11422.2 < (p10378.Links.length : Int)))) rfl (p_lt rfl) rfl rfl ?_
    refine lend ?_
    refine nseq ?_
    refine dcond rfl rfl (fun k11499 => ?_) (fun k11499 => ?_)
    · refine dskip ?_
      refine nseq ?_
      refine dseq ?_
      refine dblock ?_
      refine dseq ?_
      refine dreg ?_
      refine lpure (v := .pointer (some ⟨b10384, 2, none⟩)) rfl (p_fa fo_25_2 rfl) rfl rfl ?_
      refine lread (v := .slice a10380 n10380 c10380) rfl (q_load wd_23 rfl) (St.ld X11497 (j := 1) rfl rfl) rfl ?_
      refine lpure (v := .int .i64 s11422.2) rfl (p_move rfl) rfl rfl ?_
      refine Sim.bindM fun e11500 he11501 => ?_
      obtain ⟨p11502, cs11502, hp11502, hF11502, hR11502⟩ := RSl.ia H10380 he11501 (kd := .i64) (n := 4) rfl
      obtain rfl := eApiLink_el hR11502
      refine lpure (v := p11502) rfl (p_ia rs_23 rfl) hp11502 rfl ?_
      refine lread (v := .agg #[.int .i64 e11500.A, .int .i64 e11500.B, .int .i64 e11500.Per, .int .i64 e11500.Delay]) rfl (q_load wd_50 rfl) (FP.ldw X11497 hF11502 rfl rfl) rfl ?_
      refine lalloc rfl tz_50 rfl rfl rfl X11497 (fun b11503 h11505 X11506 => ?_)
      refine lstore rfl ts_50 rfl rfl (j := 0) rfl rfl rfl rfl rfl rfl X11506 (fun h11507 X11508 => ?_)
      refine lend ?_
      refine nseq ?_
      refine dseq ?_
      refine dreg ?_
      refine lpure (v := .slice a10383 n10383 c10383) rfl (p_move rfl) rfl rfl ?_
      refine lpure (v := .int .i64 s11422.2) rfl (p_move rfl) rfl rfl ?_
      refine lcall rfl rfl ca_48 rfl rfl (f48_ok X11508 p10382 (s11422.2) H10383) rfl (fun e11509 v11510 h11511 hq11512 => ?_)
      cases hq11512
      refine lpure (v := .bool (!e11509)) rfl (p_not rfl) rfl rfl ?_
      refine lpure (v := .bool (!e11509)) rfl (p_move rfl) rfl rfl ?_
      refine ljoinM (τ := (List Bool) × Bool) (σ := Option Addr × Nat × Nat × Option Nat × Blk) (fun s11522 (a11523, n11523, c11523, ob11523, blk11523) => [(2, .slice a10383 n10383 c10383), (3, .pointer (some ⟨b10384, 0, none⟩)), (7, .slice a11523 n11523 c11523), (8, .int .i64 s10980.2), (9, .int .i64 s11422.2), (10, .pointer (some ⟨b11503, 0, none⟩)), (52, .bool s11522.2)]) (fun s11522 (a11523, n11523, c11523, ob11523, blk11523) hh => St φ lo hh ((some b11503, .cells [.int .i64 e11500.A, .int .i64 e11500.B, .int .i64 e11500.Per, .int .i64 e11500.Delay] 50 .exact) :: (ob11523, blk11523) :: (some b10384, .cells [.int .i64 p10378.Nodes, .slice a10379 n10379 c10379, .slice a10380 n10380 c10380] 25 .exact) :: own) ∧ OSl eBool φ 4 ob11523 blk11523 (.slice a11523 n11523 c11523) s11522.1) 13 ?_ ?_
      · rintro s11522 ⟨a11523, n11523, c11523, ob11523, blk11523⟩ t0 h11525 ⟨X11524, O11523⟩
        refine lend ?_
        refine nseq ?_
        refine djoinM (τ := (List Bool)) (σ := Option Addr × Nat × Nat × Option Nat × Blk) (fun s11539 (a11540, n11540, c11540, ob11540, blk11540) => [(2, .slice a10383 n10383 c10383), (3, .pointer (some ⟨b10384, 0, none⟩)), (7, .slice a11540 n11540 c11540), (8, .int .i64 s10980.2), (9, .int .i64 s11422.2)]) (fun s11539 (a11540, n11540, c11540, ob11540, blk11540) hh => St φ lo hh ((some b11503, .cells [.int .i64 e11500.A, .int .i64 e11500.B, .int .i64 e11500.Per, .int .i64 e11500.Delay] 50 .exact) :: (ob11540, blk11540) :: (some b10384, .cells [.int .i64 p10378.Nodes, .slice a10379 n10379 c10379, .slice a10380 n10380 c10380] 25 .exact) :: own) ∧ OSl eBool φ 4 ob11540 blk11540 (.slice a11540 n11540 c11540) s11539) ?_ ?_
        · rintro s11539 ⟨a11540, n11540, c11540, ob11540, blk11540⟩ t0 h11542 ⟨X11541, O11540⟩
          refine nblock ?_
          refine nseq ?_
          refine dreg ?_
          refine lpure (v := .int .i64 s11422.2) rfl (p_move rfl) rfl rfl ?_
          refine lpure (v := .int .i64 (w64 (s11422.2 + 1))) rfl (p_add rfl) rfl rfl ?_
          refine lpure (v := .int .i64 (w64 (s11422.2 + 1))) rfl (p_assign rfl) rfl rfl ?_
          refine lend ?_
          exact kbackM ih11495 (s11539, (w64 (s11422.2 + 1))) (a11540, n11540, c11540, ob11540, blk11540) (sub_cons rfl (sub_cons rfl (sub_cons rfl (sub_cons rfl (sub_cons rfl sub_nil))))) ⟨(St.pick X11541 (.skip _ (.keep _ (.keep _ (.refl _))))), O11540⟩
        · intro j11543 J11544
          refine dcond rfl rfl (fun k11526 => ?_) (fun k11526 => ?_)
          · refine dseq ?_
            refine dreg ?_
            refine lpure (v := .slice a11523 n11523 c11523) rfl (p_move rfl) rfl rfl ?_
            refine lpure (v := .pointer (some ⟨b11503, 0, none⟩)) rfl (p_fa fo_50_0 rfl) rfl rfl ?_
            refine lread (v := .int .i64 e11500.A) rfl (q_load wd_3 rfl) (St.ld X11524 (j := 0) rfl rfl) rfl ?_
            refine Sim.bindM fun e11545 he11546 => ?_
            obtain ⟨b11547, vs11547, m11547, off11547, cs11547, rfl, rfl, hp11547, hc11547, hR11547, hl11547, hm11547, hs11547⟩ := OSl.ia O11523 he11546 (kd := .i64) (n := 1) rfl
            have hR11547 : _ = [(.bool e11545 : Value)] := hR11547
            subst hR11547
            refine lpure (v := .pointer (some ⟨b11547, off11547, none⟩)) rfl (p_ia rs_22 rfl) hp11547 rfl ?_
            have O11550 := hs11547 [.bool true] (true) rfl
            refine lstore rfl ts_4 rfl rfl (j := 1) rfl hm11547 rfl rfl (ble_iff.2 hl11547) rfl X11524 (fun h11548 X11549 => ?_)
            refine lend ?_
            refine nseq ?_
            refine dreg ?_
            refine lpure (v := .slice a11523 n11523 c11523) rfl (p_move rfl) rfl rfl ?_
            refine lpure (v := .pointer (some ⟨b11503, 1, none⟩)) rfl (p_fa fo_50_1 rfl) rfl rfl ?_
            refine lread (v := .int .i64 e11500.B) rfl (q_load wd_3 rfl) (St.ld X11549 (j := 0) rfl rfl) rfl ?_
            refine Sim.bindM fun e11551 he11552 => ?_
            obtain ⟨off11553, cs11553, hp11553, hc11553, hR11553, hl11553, hm11553, hs11553⟩ := OSl.iaC O11550 he11552 (kd := .i64) (n := 1) rfl
            have hR11553 : _ = [(.bool e11551 : Value)] := hR11553
            subst hR11553
            refine lpure (v := .pointer (some ⟨b11547, off11553, none⟩)) rfl (p_ia rs_22 rfl) hp11553 rfl ?_
            have O11556 := hs11553 [.bool true] (true) rfl
            refine lstore rfl ts_4 rfl rfl (j := 1) rfl hm11553 rfl rfl (ble_iff.2 hl11553) rfl X11549 (fun h11554 X11555 => ?_)
            refine lend ?_
            exact jmpM J11544 ((s11522.1.set (e11500.A).toNat true).set (e11500.B).toNat true) (a11523, n11523, c11523, some b11547, (.cells (setAt (setAt vs11547 off11547 [.bool true]) off11553 [.bool true]) 4 m11547)) (sub_cons rfl (sub_cons rfl (sub_cons rfl (sub_cons rfl (sub_cons rfl sub_nil))))) ⟨X11555, O11556⟩
          · refine dskip ?_
            exact jmpM J11544 s11522.1 (a11523, n11523, c11523, ob11523, blk11523) (sub_cons rfl (sub_cons rfl (sub_cons rfl (sub_cons rfl (sub_cons rfl sub_nil))))) ⟨X11524, O11523⟩
      · intro j11557 J11558
        refine lif (i := 39) (show _ = Value.bool (!e11509) from rfl) (fun k11559 => ?_) (fun k11559 => ?_)
        · refine lpure (v := .slice a11423 n11423 c11423) rfl (p_move rfl) rfl rfl ?_
          refine lpure (v := .pointer (some ⟨b11503, 0, none⟩)) rfl (p_fa fo_50_0 rfl) rfl rfl ?_
          refine lread (v := .int .i64 e11500.A) rfl (q_load wd_3 rfl) (St.ld X11508 (j := 0) rfl rfl) rfl ?_
          refine Sim.bindM fun e11560 he11561 => ?_
          obtain ⟨b11562, vs11562, m11562, off11562, cs11562, rfl, rfl, hp11562, hc11562, hR11562, hl11562, hm11562, hs11562⟩ := OSl.ia O11423 he11561 (kd := .i64) (n := 1) rfl
          have hR11562 : _ = [(.bool e11560 : Value)] := hR11562
          subst hR11562
          refine lpure (v := .pointer (some ⟨b11562, off11562, none⟩)) rfl (p_ia rs_22 rfl) hp11562 rfl ?_
          refine lread (v := .bool e11560) rfl (q_load wd_4 rfl) (St.ld X11508 (j := 1) rfl (rdE1 hc11562 (k := 0) rfl rfl)) rfl ?_
          refine lpure (v := .bool e11560) rfl (p_move rfl) rfl rfl ?_
          refine lif (i := 45) (show _ = Value.bool e11560 from rfl) (fun k11563 => ?_) (fun k11563 => ?_)
          · refine lskip rfl rfl ?_
            refine lskip rfl rfl ?_
            refine lskip rfl rfl ?_
            refine lskip rfl rfl ?_
            refine lskip rfl rfl ?_
            refine lpure (v := .bool true) rfl (p_pick rfl) rfl rfl ?_
            refine lpure (v := .bool true) rfl (p_pick rfl) rfl rfl ?_
            exact ljmpM J11558 (s11422.1, true) (a11423, n11423, c11423, some b11562, .cells vs11562 4 m11562) (sub_cons rfl (sub_cons rfl (sub_cons rfl (sub_cons rfl (sub_cons rfl (sub_cons rfl (sub_cons rfl sub_nil))))))) ⟨X11508, O11423⟩
          · refine lpure (v := .slice a11423 n11423 c11423) rfl (p_move rfl) rfl rfl ?_
            refine lpure (v := .pointer (some ⟨b11503, 1, none⟩)) rfl (p_fa fo_50_1 rfl) rfl rfl ?_
            refine lread (v := .int .i64 e11500.B) rfl (q_load wd_3 rfl) (St.ld X11508 (j := 0) rfl rfl) rfl ?_
            refine Sim.bindM fun e11564 he11565 => ?_
            obtain ⟨off11566, cs11566, hp11566, hc11566, hR11566, hl11566, hm11566, hs11566⟩ := OSl.iaC O11423 he11565 (kd := .i64) (n := 1) rfl
            have hR11566 : _ = [(.bool e11564 : Value)] := hR11566
            subst hR11566
            refine lpure (v := .pointer (some ⟨b11562, off11566, none⟩)) rfl (p_ia rs_22 rfl) hp11566 rfl ?_
            refine lread (v := .bool e11564) rfl (q_load wd_4 rfl) (St.ld X11508 (j := 1) rfl (rdE1 hc11566 (k := 0) rfl rfl)) rfl ?_
            refine lpure (v := .bool e11564) rfl (p_pick rfl) rfl rfl ?_
            refine lpure (v := .bool e11564) rfl (p_pick rfl) rfl rfl ?_
            exact ljmpM J11558 (s11422.1, e11564) (a11423, n11423, c11423, some b11562, .cells vs11562 4 m11562) (sub_cons rfl (sub_cons rfl (sub_cons rfl (sub_cons rfl (sub_cons rfl (sub_cons rfl (sub_cons rfl sub_nil))))))) ⟨X11508, O11423⟩
        · refine lskip rfl rfl ?_
          refine lskip rfl rfl ?_
          refine lskip rfl rfl ?_
          refine lskip rfl rfl ?_
          refine lskip rfl rfl ?_
          refine lskip rfl rfl ?_
          refine lskip rfl rfl ?_
          refine lskip rfl rfl ?_
          refine lskip rfl rfl ?_
          refine lskip rfl rfl ?_
          refine lskip rfl rfl ?_
          refine lskip rfl rfl ?_
          refine lpure (v := .bool false) rfl (p_pick rfl) rfl rfl ?_
          exact ljmpM J11558 (s11422.1, false) (a11423, n11423, c11423, ob11423, blk11423) (sub_cons rfl (sub_cons rfl (sub_cons rfl (sub_cons rfl (sub_cons rfl (sub_cons rfl (sub_cons rfl sub_nil))))))) ⟨X11508, O11423⟩
    · refine dexit ?_
      refine eseq ?_
      refine eloop ?_
      refine xblock ?_
      refine nblock ?_
      refine nseq ?_
      refine dreg ?_
      refine lpure (v := .int .i64 s10980.2) rfl (p_move rfl) rfl rfl ?_
      refine lpure (v := .int .i64 (w64 (s10980.2 + 1))) rfl (p_add rfl) rfl rfl ?_
      refine lpure (v := .int .i64 (w64 (s10980.2 + 1))) rfl (p_assign rfl) rfl rfl ?_
      refine lend ?_
      exact kbackM ih11274 (s11422.1, (w64 (s10980.2 + 1))) (a11423, n11423, c11423, ob11423, blk11423) (sub_cons rfl (sub_cons rfl (sub_cons rfl (sub_cons rfl sub_nil)))) ⟨X11497, O11423⟩
  · refine dexit ?_
    refine eseq ?_
    refine eloop ?_
    refine xblock ?_
    refine nseq ?_
    refine dseq ?_
    refine dreg ?_
    refine lpure (v := .slice a10981 n10981 c10981) rfl (p_move rfl) rfl rfl ?_
    refine lpure (v := .slice a10981 n10981 c10981) rfl (p_assign rfl) rfl rfl ?_
    refine lend ?_
    refine nseq ?_
    refine dret ?_
    exact kopen_r (res_1 resT) ⟨φ, a10981, n10981, c10981, ob10981, blk10981, (Fz.le_refl _), St.pick X11276 (.keep _ (.skip _ (.refl _))), rfl, O10981⟩
/-! isochron/isochronref16.Joins -/
theorem f44_ok {n : Nat} {φ : Fz} {lo : Nat} {h : Heap} {own : OwnL} (X : St φ lo h own) (p11760 : ApiLink) (p11761 : Int) (p11762 : Int) : Sim ((recN Try.prog LL cutF (n + 1)).call 44 #[(.agg #[.int .i64 p11760.A, .int .i64 p11760.B, .int .i64 p11760.Per, .int .i64 p11760.Delay]), (.int .i64 p11761), (.int .i64 p11762)] h) (m_isochronref16_Joins p11760 p11761 p11762) (fun (d : Bool) p => p = (.bool d, h)) := by
  refine fcut Try.func44 rfl rfl rfl rfl X ?_
  intro h0 X0
  refine dseq ?_
  refine dreg ?_
  refine lbox rfl rfl rfl rfl rfl X0 (fun b11763 h11765 X11766 => ?_)
  refine lpure (v := .bool false) rfl (p_assign rfl) rfl rfl ?_
  refine lend ?_
  refine nseq ?_
  refine dseq ?_
  refine dreg ?_
  refine lpure (v := .pointer (some ⟨b11763, 0, none⟩)) rfl (p_fa fo_50_0 rfl) rfl rfl ?_
  refine lread (v := .int .i64 p11760.A) rfl (q_load wd_3 rfl) (St.ld X11766 (j := 0) rfl rfl) rfl ?_
  refine lpure (v := .int .i64 p11761) rfl (p_move rfl) rfl rfl ?_
  refine lpure (v := .bool (decide (p11760.A = p11761))) rfl (p_eq rfl) rfl rfl ?_
  refine lpure (v := .bool (decide (p11760.A = p11761))) rfl (p_move rfl) rfl rfl ?_
  refine lsh (τ := Bool) (σ := Unit) (fun s11768 (_ : Unit) => [(1, .int .i64 p11761), (2, .int .i64 p11762), (3, .pointer (some ⟨b11763, 0, none⟩)), (16, .bool s11768)]) (fun s11768 (_ : Unit) hh => St φ h.n hh ([(some b11763, .cells [.int .i64 p11760.A, .int .i64 p11760.B, .int .i64 p11760.Per, .int .i64 p11760.Delay] 50 .exact)])) 5 ?_ ?_
  · rintro s11768 _ t0 h11770 X11769
    refine lpure (v := .bool s11768) rfl (p_move rfl) rfl rfl ?_
    refine lsh (τ := Bool) (σ := Unit) (fun s11772 (_ : Unit) => [(28, .bool s11772)]) (fun s11772 (_ : Unit) hh => St φ h.n hh ([(some b11763, .cells [.int .i64 p11760.A, .int .i64 p11760.B, .int .i64 p11760.Per, .int .i64 p11760.Delay] 50 .exact)])) 11 ?_ ?_
    · rintro s11772 _ t0 h11774 X11773
      refine lpure (v := .bool s11772) rfl (p_assign rfl) rfl rfl ?_
      refine lend ?_
      refine nseq ?_
      refine dret ?_
      exact kcut_r (res_1 resT) X11773 rfl rfl
    · intro j11775 J11776
      refine lcase (i := 17) (show _ = Value.bool s11768 from rfl) (fun k11777 => ?_) (fun k11777 => ?_)
      · refine lskip rfl rfl ?_
        refine lskip rfl rfl ?_
        refine lskip rfl rfl ?_
        refine lskip rfl rfl ?_
        refine lskip rfl rfl ?_
        refine lskip rfl rfl ?_
        refine lskip rfl rfl ?_
        refine lskip rfl rfl ?_
        refine lskip rfl rfl ?_
        refine lskip rfl rfl ?_
        refine lpure (v := .bool true) rfl (p_pick rfl) rfl rfl ?_
        refine Sim.of_eq (congrArg j11775 (show (s11768 || ((decide (p11760.A = p11762)) && (decide (p11760.B = p11761)))) = true from by rw [k11777] <;> rfl)) ?_
        exact ljmpM J11776 true () (sub_cons rfl sub_nil) X11769
      · refine lpure (v := .pointer (some ⟨b11763, 0, none⟩)) rfl (p_fa fo_50_0 rfl) rfl rfl ?_
        refine lread (v := .int .i64 p11760.A) rfl (q_load wd_3 rfl) (St.ld X11769 (j := 0) rfl rfl) rfl ?_
        refine lpure (v := .int .i64 p11762) rfl (p_move rfl) rfl rfl ?_
        refine lpure (v := .bool (decide (p11760.A = p11762))) rfl (p_eq rfl) rfl rfl ?_
        refine lpure (v := .bool (decide (p11760.A = p11762))) rfl (p_move rfl) rfl rfl ?_
        refine lcase (i := 22) (show _ = Value.bool (decide (p11760.A = p11762)) from rfl) (fun k11778 => ?_) (fun k11778 => ?_)
        · refine lpure (v := .pointer (some ⟨b11763, 1, none⟩)) rfl (p_fa fo_50_1 rfl) rfl rfl ?_
          refine lread (v := .int .i64 p11760.B) rfl (q_load wd_3 rfl) (St.ld X11769 (j := 0) rfl rfl) rfl ?_
          refine lpure (v := .int .i64 p11761) rfl (p_move rfl) rfl rfl ?_
          refine lpure (v := .bool (decide (p11760.B = p11761))) rfl (p_eq rfl) rfl rfl ?_
          refine lpure (v := .bool (decide (p11760.B = p11761))) rfl (p_pick rfl) rfl rfl ?_
          refine lpure (v := .bool (decide (p11760.B = p11761))) rfl (p_pick rfl) rfl rfl ?_
          refine Sim.of_eq (congrArg j11775 (show (s11768 || ((decide (p11760.A = p11762)) && (decide (p11760.B = p11761)))) = (decide (p11760.B = p11761)) from by rw [k11777, k11778] <;> rfl)) ?_
          exact ljmpM J11776 (decide (p11760.B = p11761)) () (sub_cons rfl sub_nil) X11769
        · refine lskip rfl rfl ?_
          refine lskip rfl rfl ?_
          refine lskip rfl rfl ?_
          refine lskip rfl rfl ?_
          refine lpure (v := .bool false) rfl (p_pick rfl) rfl rfl ?_
          refine lpure (v := .bool false) rfl (p_pick rfl) rfl rfl ?_
          refine Sim.of_eq (congrArg j11775 (show (s11768 || ((decide (p11760.A = p11762)) && (decide (p11760.B = p11761)))) = false from by rw [k11777, k11778] <;> rfl)) ?_
          exact ljmpM J11776 false () (sub_cons rfl sub_nil) X11769
  · intro j11779 J11780
    refine lcase (i := 11) (show _ = Value.bool (decide (p11760.A = p11761)) from rfl) (fun k11781 => ?_) (fun k11781 => ?_)
    · refine lpure (v := .pointer (some ⟨b11763, 1, none⟩)) rfl (p_fa fo_50_1 rfl) rfl rfl ?_
      refine lread (v := .int .i64 p11760.B) rfl (q_load wd_3 rfl) (St.ld X11766 (j := 0) rfl rfl) rfl ?_
      refine lpure (v := .int .i64 p11762) rfl (p_move rfl) rfl rfl ?_
      refine lpure (v := .bool (decide (p11760.B = p11762))) rfl (p_eq rfl) rfl rfl ?_
      refine lpure (v := .bool (decide (p11760.B = p11762))) rfl (p_pick rfl) rfl rfl ?_
      refine Sim.of_eq (congrArg j11779 (show ((decide (p11760.A = p11761)) && (decide (p11760.B = p11762))) = (decide (p11760.B = p11762)) from by rw [k11781] <;> rfl)) ?_
      exact ljmpM J11780 (decide (p11760.B = p11762)) () (sub_cons rfl (sub_cons rfl (sub_cons rfl (sub_cons rfl sub_nil)))) X11766
    · refine lskip rfl rfl ?_
      refine lskip rfl rfl ?_
      refine lskip rfl rfl ?_
      refine lskip rfl rfl ?_
      refine lpure (v := .bool false) rfl (p_pick rfl) rfl rfl ?_
      refine Sim.of_eq (congrArg j11779 (show ((decide (p11760.A = p11761)) && (decide (p11760.B = p11762))) = false from by rw [k11781] <;> rfl)) ?_
      exact ljmpM J11780 false () (sub_cons rfl (sub_cons rfl (sub_cons rfl (sub_cons rfl sub_nil)))) X11766
/-! isochron/isochronref16.Right -/
theorem f13_ok {n : Nat} {φ : Fz} {lo : Nat} {h : Heap} {own : OwnL} (X : St φ lo h own) (p8949 : ApiTopo) {a8950 : Option Addr} {n8950 c8950 : Nat} {a8951 : Option Addr} {n8951 c8951 : Nat} (H8950 : RSl eBool φ (.slice a8950 n8950 c8950) p8949.Station) (H8951 : RSl eApiLink φ (.slice a8951 n8951 c8951) p8949.Links) : Sim ((recN Try.prog LL cutF (n + 3)).call 13 #[(.agg #[.int .i64 p8949.Nodes, .slice a8950 n8950 c8950, .slice a8951 n8951 c8951])] h) (m_isochronref16_Right p8949) (fun (d : Bool) p => p = (.bool d, h)) := by
  refine fcut Try.func13 rfl rfl rfl rfl X ?_
  intro h0 X0
  refine dseq ?_
  refine dreg ?_
  refine lbox rfl rfl rfl rfl rfl X0 (fun b8952 h8954 X8955 => ?_)
  refine lpure (v := .bool false) rfl (p_assign rfl) rfl rfl ?_
  refine lend ?_
  refine nseq ?_
  refine dseq ?_
  refine dseq ?_
  refine dreg ?_
  refine lpure (v := .pointer (some ⟨b8952, 0, none⟩)) rfl (p_fa fo_25_0 rfl) rfl rfl ?_
  refine lread (v := .int .i64 p8949.Nodes) rfl (q_load wd_3 rfl) (St.ld X8955 (j := 0) rfl rfl) rfl ?_
  refine lpure (v := .bool (decide (p8949.Nodes < 2))) rfl (p_lt rfl) rfl rfl ?_
  refine lpure (v := .bool (decide (p8949.Nodes < 2))) rfl (p_move rfl) rfl rfl ?_
  refine lsh (τ := Bool) (σ := Unit) (fun s8957 (_ : Unit) => [(1, .pointer (some ⟨b8952, 0, none⟩)), (16, .bool s8957)]) (fun s8957 (_ : Unit) hh => St φ h.n hh ([(some b8952, .cells [.int .i64 p8949.Nodes, .slice a8950 n8950 c8950, .slice a8951 n8951 c8951] 25 .exact)])) 4 ?_ ?_
  · rintro s8957 _ t0 h8959 X8958
    refine lpure (v := .bool s8957) rfl (p_move rfl) rfl rfl ?_
    refine lsh (τ := Bool) (σ := Unit) (fun s8961 (_ : Unit) => [(1, .pointer (some ⟨b8952, 0, none⟩)), (24, .bool s8961)]) (fun s8961 (_ : Unit) hh => St φ h.n hh ([(some b8952, .cells [.int .i64 p8949.Nodes, .slice a8950 n8950 c8950, .slice a8951 n8951 c8951] 25 .exact)])) 7 ?_ ?_
    · rintro s8961 _ t0 h8963 X8962
      refine lpure (v := .bool s8961) rfl (p_move rfl) rfl rfl ?_
      refine lsh (τ := Bool) (σ := Unit) (fun s8965 (_ : Unit) => [(1, .pointer (some ⟨b8952, 0, none⟩)), (30, .bool s8965)]) (fun s8965 (_ : Unit) hh => St φ h.n hh ([(some b8952, .cells [.int .i64 p8949.Nodes, .slice a8950 n8950 c8950, .slice a8951 n8951 c8951] 25 .exact)])) 5 ?_ ?_
      · rintro s8965 _ t0 h8967 X8966
        refine lend ?_
        refine nseq ?_
        refine dcond rfl rfl (fun k8968 => ?_) (fun k8968 => ?_)
        · refine dseq ?_
          refine dreg ?_
          refine lpure (v := .bool false) rfl (p_assign rfl) rfl rfl ?_
          refine lend ?_
          refine nseq ?_
          refine dret ?_
          refine rseq ?_
          exact kcut_r (res_1 resT) X8966 rfl rfl
        · refine dskip ?_
          refine nseq ?_
          refine dseq ?_
          refine dreg ?_
          refine lpure (v := .pointer (some ⟨b8952, 0, none⟩)) rfl (p_fa fo_25_0 rfl) rfl rfl ?_
          refine lread (v := .int .i64 p8949.Nodes) rfl (q_load wd_3 rfl) (St.ld X8966 (j := 0) rfl rfl) rfl ?_
          refine Sim.mustM fun k8969 => ?_
          have k8969 := of_decide_eq_true k8969
          obtain ⟨h8969, b8969, vs8969, hv8969, X8969, O8969⟩ := OSl.mk (E := (eInt .i64)) (φ := φ) (a0 := 0) (k := .i64) (k' := .i64) (l := p8949.Nodes) (c := p8949.Nodes) un_28 tb_3 rfl ts_3 rfl rfl tz_3 rfl rfl rfl (by omega) (by omega) (by omega) X8966
          refine lheap rfl (h_makeSlice rfl) hv8969 rfl ?_
          refine lpure (v := .slice (some ⟨b8969, 0, none⟩) (p8949.Nodes).toNat (p8949.Nodes).toNat) rfl (p_assign rfl) rfl rfl ?_
          refine lend ?_
          refine nseq ?_
          refine dseq ?_
          refine dseq ?_
          refine dreg ?_
          refine lpure (v := .int .i64 0) rfl (p_assign rfl) rfl rfl ?_
          refine lend ?_
          refine nseq ?_
          refine dblock ?_
          refine dloopM (τ := (List Int) × Int) (σ := Option Addr × Nat × Nat × Option Nat × Blk) (fun s12068 (a12069, n12069, c12069, ob12069, blk12069) => [(1, .pointer (some ⟨b8952, 0, none⟩)), (3, .slice a12069 n12069 c12069), (4, .int .i64 s12068.2)]) (fun s12068 (a12069, n12069, c12069, ob12069, blk12069) hh => St φ h.n hh ([(ob12069, blk12069), (some b8952, .cells [.int .i64 p8949.Nodes, .slice a8950 n8950 c8950, .slice a8951 n8951 c8951] 25 .exact)]) ∧ OSl (eInt .i64) φ 3 ob12069 blk12069 (.slice a12069 n12069 c12069) s12068.1) ((List.replicate (p8949.Nodes).toNat 0), 0) ((some ⟨b8969, 0, none⟩), (p8949.Nodes).toNat, (p8949.Nodes).toNat, some b8969, (.cells vs8969 3 .exact)) (sub_cons rfl (sub_cons rfl (sub_cons rfl sub_nil))) ⟨X8969, O8969⟩ ?_
          rintro n12382 ih12381 s12068 ⟨a12069, n12069, c12069, ob12069, blk12069⟩ t0 h12384 ⟨X12383, O12069⟩
          refine dseq ?_
          refine dseq ?_
          refine dreg ?_
          refine lpure (v := .int .i64 s12068.2) rfl (p_move rfl) rfl rfl ?_
          refine lpure (v := .pointer (some ⟨b8952, 2, none⟩)) rfl (p_fa fo_25_2 rfl) rfl rfl ?_
          refine lread (v := .slice a8951 n8951 c8951) rfl (q_load wd_23 rfl) (St.ld X12383 (j := 1) rfl rfl) rfl ?_
          refine lpure (v := .int .i64 (p8949.Links.length : Int)) rfl (p_len rfl rfl rfl un_23 rfl) (RSl.lenC H8951) rfl ?_
          refine lpure (v := .bool (decide (s12068.2 < (p8949.Links.length : Int)))) rfl (p_lt rfl) rfl rfl ?_
          refine lend ?_
          refine nseq ?_
          refine dcond rfl rfl (fun k12385 => ?_) (fun k12385 => ?_)
          · refine dskip ?_
            refine nseq ?_
            refine dseq ?_
            refine dblock ?_
            refine dseq ?_
            refine dreg ?_
            refine lpure (v := .pointer (some ⟨b8952, 2, none⟩)) rfl (p_fa fo_25_2 rfl) rfl rfl ?_
            refine lread (v := .slice a8951 n8951 c8951) rfl (q_load wd_23 rfl) (St.ld X12383 (j := 1) rfl rfl) rfl ?_
            refine lpure (v := .int .i64 s12068.2) rfl (p_move rfl) rfl rfl ?_
            refine Sim.bindM fun e12386 he12387 => ?_
            obtain ⟨p12388, cs12388, hp12388, hF12388, hR12388⟩ := RSl.ia H8951 he12387 (kd := .i64) (n := 4) rfl
            obtain rfl := eApiLink_el hR12388
            refine lpure (v := p12388) rfl (p_ia rs_23 rfl) hp12388 rfl ?_
            refine lread (v := .agg #[.int .i64 e12386.A, .int .i64 e12386.B, .int .i64 e12386.Per, .int .i64 e12386.Delay]) rfl (q_load wd_50 rfl) (FP.ldw X12383 hF12388 rfl rfl) rfl ?_
            refine lalloc rfl tz_50 rfl rfl rfl X12383 (fun b12389 h12391 X12392 => ?_)
            refine lstore rfl ts_50 rfl rfl (j := 0) rfl rfl rfl rfl rfl rfl X12392 (fun h12393 X12394 => ?_)
            refine lend ?_
            refine nseq ?_
            refine dseq ?_
            refine dseq ?_
            refine dreg ?_
            refine lread (v := .agg #[.int .i64 p8949.Nodes, .slice a8950 n8950 c8950, .slice a8951 n8951 c8951]) rfl (q_load wd_25 rfl) (St.ld X12394 (j := 2) rfl rfl) rfl ?_
            refine lread (v := .agg #[.int .i64 e12386.A, .int .i64 e12386.B, .int .i64 e12386.Per, .int .i64 e12386.Delay]) rfl (q_load wd_50 rfl) (St.ld X12394 (j := 0) rfl rfl) rfl ?_
            refine lcall rfl rfl ca_43 rfl rfl (f43_ok X12394 p8949 e12386 H8950 H8951) rfl (fun e12395 v12396 h12397 hq12398 => ?_)
            cases hq12398
            refine lpure (v := .bool (!e12395)) rfl (p_not rfl) rfl rfl ?_
            refine lend ?_
            refine nseq ?_
            refine dcond rfl rfl (fun k12399 => ?_) (fun k12399 => ?_)
            · refine dseq ?_
              refine dreg ?_
              refine lpure (v := .bool false) rfl (p_assign rfl) rfl rfl ?_
              refine lend ?_
              refine nseq ?_
              refine dret ?_
              refine rseq ?_
              refine rblock ?_
              refine rseq ?_
              refine rloop ?_
              refine rblock ?_
              refine rseq ?_
              exact kcut_r (res_1 resT) X12394 rfl rfl
            · refine dskip ?_
              refine nseq ?_
              refine dseq ?_
              refine dseq ?_
              refine dreg ?_
              refine lpure (v := .int .i64 0) rfl (p_assign rfl) rfl rfl ?_
              refine lend ?_
              refine nseq ?_
              refine dblock ?_
              refine dloopM (τ := Int) (σ := Unit) (fun s12460 (_ : Unit) => [(1, .pointer (some ⟨b8952, 0, none⟩)), (3, .slice a12069 n12069 c12069), (4, .int .i64 s12068.2), (5, .pointer (some ⟨b12389, 0, none⟩)), (6, .int .i64 s12460)]) (fun s12460 (_ : Unit) hh => St φ h.n hh ([(some b12389, .cells [.int .i64 e12386.A, .int .i64 e12386.B, .int .i64 e12386.Per, .int .i64 e12386.Delay] 50 .exact), (ob12069, blk12069), (some b8952, .cells [.int .i64 p8949.Nodes, .slice a8950 n8950 c8950, .slice a8951 n8951 c8951] 25 .exact)])) 0 () (sub_cons rfl (sub_cons rfl (sub_cons rfl (sub_cons rfl (sub_cons rfl sub_nil))))) X12394 ?_
              rintro n12492 ih12491 s12460 _ t0 h12494 X12493
              refine dseq ?_
              refine dseq ?_
              refine dreg ?_
              refine lpure (v := .int .i64 s12460) rfl (p_move rfl) rfl rfl ?_
              refine lpure (v := .int .i64 s12068.2) rfl (p_move rfl) rfl rfl ?_
              refine lpure (v := .bool (decide (s12460 < s12068.2))) rfl (p_lt rfl) rfl rfl ?_
              refine lend ?_
              refine nseq ?_
              refine dcond rfl rfl (fun k12495 => ?_) (fun k12495 => ?_)
              · refine dskip ?_
                refine nseq ?_
                refine dseq ?_
                refine dblock ?_
                refine dseq ?_
                refine ddraw 0 0 0 (by kernel_rfl) ?_
                refine spure (v := .pointer (some ⟨b8952, 2, none⟩)) rfl (p_fa fo_25_2 rfl) (lo_t (lo_own X12493 (j := 2) (o := 0) (s := none) (f := 0) rfl) rfl) rfl rfl ?_
                refine sload (v := .slice a8951 n8951 c8951) rfl rfl (q_load wd_23 rfl) (St.ld X12493 (j := 2) rfl rfl) (same_self 20 rfl) rfl ?_
                refine spure (v := .int .i64 s12460) rfl (p_move rfl) (lo_t rfl rfl) rfl rfl ?_
                refine Sim.bindM fun e12496 he12497 => ?_
                obtain ⟨p12498, cs12498, hp12498, hF12498, hR12498⟩ := RSl.ia H8951 he12497 (kd := .i64) (n := 4) rfl
                obtain rfl := eApiLink_el hR12498
                refine spure (v := p12498) rfl (p_ia rs_23 rfl) (lo_t (lo_sl X12493 H8951) (lo_t rfl rfl)) hp12498 rfl ?_
                refine sload (v := .agg #[.int .i64 e12496.A, .int .i64 e12496.B, .int .i64 e12496.Per, .int .i64 e12496.Delay]) rfl rfl (q_load wd_50 rfl) (FP.ldw X12493 hF12498 rfl rfl) (same_self 20 rfl) rfl ?_
                refine spure (v := .pointer (some ⟨b12389, 0, none⟩)) rfl (p_fa fo_50_0 rfl) (lo_t (lo_own X12493 (j := 0) (o := 0) (s := none) (f := 0) rfl) rfl) rfl rfl ?_
                refine sload (v := .int .i64 e12386.A) rfl rfl (q_load wd_3 rfl) (St.ld X12493 (j := 0) rfl rfl) (same_self 20 rfl) rfl ?_
                refine spure (v := .pointer (some ⟨b12389, 1, none⟩)) rfl (p_fa fo_50_1 rfl) (lo_t (lo_own X12493 (j := 0) (o := 0) (s := none) (f := 0) rfl) rfl) rfl rfl ?_
                refine sload (v := .int .i64 e12386.B) rfl rfl (q_load wd_3 rfl) (St.ld X12493 (j := 0) rfl rfl) (same_self 20 rfl) rfl ?_
                refine scall (en := fun d => (.bool d)) rfl rfl ca_44 rfl rfl (f44_ok X12493 e12496 (e12386.A) (e12386.B)) rfl (fun e12499 => ?_)
                refine send ?_
                refine nseq ?_
                refine dcond rfl rfl (fun k12503 => ?_) (fun k12503 => ?_)
                · refine dseq ?_
                  refine dreg ?_
                  refine lpure (v := .bool false) rfl (p_assign rfl) rfl rfl ?_
                  refine lend ?_
                  refine nseq ?_
                  refine dret ?_
                  refine rblock ?_
                  refine rseq ?_
                  refine rloop ?_
                  refine rblock ?_
                  refine rseq ?_
                  refine rblock ?_
                  refine rseq ?_
                  refine rloop ?_
                  refine rblock ?_
                  refine rseq ?_
                  exact kcut_r (res_1 resT) X12493 rfl rfl
                · refine dskip ?_
                  refine nblock ?_
                  refine nseq ?_
                  refine dreg ?_
                  refine lpure (v := .int .i64 s12460) rfl (p_move rfl) rfl rfl ?_
                  refine lpure (v := .int .i64 (w64 (s12460 + 1))) rfl (p_add rfl) rfl rfl ?_
                  refine lpure (v := .int .i64 (w64 (s12460 + 1))) rfl (p_assign rfl) rfl rfl ?_
                  refine lend ?_
                  exact kbackM ih12491 (w64 (s12460 + 1)) () (sub_cons rfl (sub_cons rfl (sub_cons rfl (sub_cons rfl (sub_cons rfl sub_nil))))) X12493
              · refine dexit ?_
                refine eseq ?_
                refine eloop ?_
                refine xblock ?_
                refine nseq ?_
                refine dseq ?_
                refine ddraw 1024 1024 0 (by kernel_rfl) ?_
                refine spure (v := .slice a12069 n12069 c12069) rfl (p_move rfl) (lo_t (lo_osl X12493 (j := 1) rfl O12069) rfl) rfl rfl ?_
                refine spure (v := .pointer (some ⟨b12389, 0, none⟩)) rfl (p_fa fo_50_0 rfl) (lo_t (lo_own X12493 (j := 0) (o := 0) (s := none) (f := 0) rfl) rfl) rfl rfl ?_
                refine sload (v := .int .i64 e12386.A) rfl rfl (q_load wd_3 rfl) (St.ld X12493 (j := 0) rfl rfl) (same_self 20 rfl) rfl ?_
                refine spure (v := .slice a12069 n12069 c12069) rfl (p_move rfl) (lo_t (lo_osl X12493 (j := 1) rfl O12069) rfl) rfl rfl ?_
                refine spure (v := .pointer (some ⟨b12389, 0, none⟩)) rfl (p_fa fo_50_0 rfl) (lo_t (lo_own X12493 (j := 0) (o := 0) (s := none) (f := 0) rfl) rfl) rfl rfl ?_
                refine sload (v := .int .i64 e12386.A) rfl rfl (q_load wd_3 rfl) (St.ld X12493 (j := 0) rfl rfl) (same_self 20 rfl) rfl ?_
                refine Sim.bindM fun e12504 he12505 => ?_
                obtain ⟨b12506, vs12506, m12506, off12506, cs12506, rfl, rfl, hp12506, hc12506, hR12506, hl12506, hm12506, hs12506⟩ := OSl.ia O12069 he12505 (kd := .i64) (n := 1) rfl
                have hR12506 : _ = [(.int .i64 e12504 : Value)] := hR12506
                subst hR12506
                refine spure (v := .pointer (some ⟨b12506, off12506, none⟩)) rfl (p_ia rs_28 rfl) (lo_t (lo_osl X12493 (j := 1) rfl O12069) (lo_t rfl rfl)) hp12506 rfl ?_
                refine sload (v := .int .i64 e12504) rfl rfl (q_load wd_3 rfl) (St.ld X12493 (j := 1) rfl (rdE1 hc12506 (k := 0) rfl rfl)) (same_self 20 rfl) rfl ?_
                refine spure (v := .int .i64 (w64 (e12504 + 1))) rfl (p_add rfl) (lo_t rfl (lo_c rfl)) rfl rfl ?_
                refine Sim.bindM fun e12507 he12508 => ?_
                obtain ⟨off12509, cs12509, hp12509, hc12509, hR12509, hl12509, hm12509, hs12509⟩ := OSl.iaC O12069 he12508 (kd := .i64) (n := 1) rfl
                have hR12509 : _ = [(.int .i64 e12507 : Value)] := hR12509
                subst hR12509
                refine spure (v := .pointer (some ⟨b12506, off12509, none⟩)) rfl (p_ia rs_28 rfl) (lo_t (lo_osl X12493 (j := 1) rfl O12069) (lo_t rfl rfl)) hp12509 rfl ?_
                have O12512 := hs12509 [.int .i64 (w64 (e12504 + 1))] ((w64 (e12504 + 1))) rfl
                refine sstore rfl rfl ts_3 rfl rfl (j := 1) rfl hm12509 rfl rfl (ble_iff.2 hl12509) rfl X12493 (fun h12510 X12511 => ?_)
                refine send ?_
                refine nseq ?_
                refine ddraw 1024 1024 0 (by kernel_rfl) ?_
                refine spure (v := .slice a12069 n12069 c12069) rfl (p_move rfl) (lo_t (lo_osl X12511 (j := 1) rfl O12512) rfl) rfl rfl ?_
                refine spure (v := .pointer (some ⟨b12389, 1, none⟩)) rfl (p_fa fo_50_1 rfl) (lo_t (lo_own X12511 (j := 0) (o := 0) (s := none) (f := 0) rfl) rfl) rfl rfl ?_
                refine sload (v := .int .i64 e12386.B) rfl rfl (q_load wd_3 rfl) (St.ld X12511 (j := 0) rfl rfl) (same_self 20 rfl) rfl ?_
                refine spure (v := .slice a12069 n12069 c12069) rfl (p_move rfl) (lo_t (lo_osl X12511 (j := 1) rfl O12512) rfl) rfl rfl ?_
                refine spure (v := .pointer (some ⟨b12389, 1, none⟩)) rfl (p_fa fo_50_1 rfl) (lo_t (lo_own X12511 (j := 0) (o := 0) (s := none) (f := 0) rfl) rfl) rfl rfl ?_
                refine sload (v := .int .i64 e12386.B) rfl rfl (q_load wd_3 rfl) (St.ld X12511 (j := 0) rfl rfl) (same_self 20 rfl) rfl ?_
                refine Sim.bindM fun e12513 he12514 => ?_
                obtain ⟨off12515, cs12515, hp12515, hc12515, hR12515, hl12515, hm12515, hs12515⟩ := OSl.iaC O12512 he12514 (kd := .i64) (n := 1) rfl
                have hR12515 : _ = [(.int .i64 e12513 : Value)] := hR12515
                subst hR12515
                refine spure (v := .pointer (some ⟨b12506, off12515, none⟩)) rfl (p_ia rs_28 rfl) (lo_t (lo_osl X12511 (j := 1) rfl O12512) (lo_t rfl rfl)) hp12515 rfl ?_
                refine sload (v := .int .i64 e12513) rfl rfl (q_load wd_3 rfl) (St.ld X12511 (j := 1) rfl (rdE1 hc12515 (k := 0) rfl rfl)) (same_self 20 rfl) rfl ?_
                refine spure (v := .int .i64 (w64 (e12513 + 1))) rfl (p_add rfl) (lo_t rfl (lo_c rfl)) rfl rfl ?_
                refine Sim.bindM fun e12516 he12517 => ?_
                obtain ⟨off12518, cs12518, hp12518, hc12518, hR12518, hl12518, hm12518, hs12518⟩ := OSl.iaC O12512 he12517 (kd := .i64) (n := 1) rfl
                have hR12518 : _ = [(.int .i64 e12516 : Value)] := hR12518
                subst hR12518
                refine spure (v := .pointer (some ⟨b12506, off12518, none⟩)) rfl (p_ia rs_28 rfl) (lo_t (lo_osl X12511 (j := 1) rfl O12512) (lo_t rfl rfl)) hp12518 rfl ?_
                have O12521 := hs12518 [.int .i64 (w64 (e12513 + 1))] ((w64 (e12513 + 1))) rfl
                refine sstore rfl rfl ts_3 rfl rfl (j := 1) rfl hm12518 rfl rfl (ble_iff.2 hl12518) rfl X12511 (fun h12519 X12520 => ?_)
                refine send ?_
                refine nblock ?_
                refine nseq ?_
                refine dreg ?_
                refine lpure (v := .int .i64 s12068.2) rfl (p_move rfl) rfl rfl ?_
                refine lpure (v := .int .i64 (w64 (s12068.2 + 1))) rfl (p_add rfl) rfl rfl ?_
                refine lpure (v := .int .i64 (w64 (s12068.2 + 1))) rfl (p_assign rfl) rfl rfl ?_
                refine lend ?_
                exact kbackM ih12381 (((s12068.1.set (e12386.A).toNat (w64 (e12504 + 1))).set (e12386.B).toNat (w64 (e12513 + 1))), (w64 (s12068.2 + 1))) (a12069, n12069, c12069, some b12506, (.cells (setAt (setAt vs12506 off12509 [.int .i64 (w64 (e12504 + 1))]) off12518 [.int .i64 (w64 (e12513 + 1))]) 3 m12506)) (sub_cons rfl (sub_cons rfl (sub_cons rfl sub_nil))) ⟨(St.pick X12520 (.skip _ (.keep _ (.keep _ (.nil _))))), O12521⟩
          · refine dexit ?_
            refine eseq ?_
            refine eloop ?_
            refine xblock ?_
            refine nseq ?_
            refine dseq ?_
            refine dreg ?_
            refine lread (v := .agg #[.int .i64 p8949.Nodes, .slice a8950 n8950 c8950, .slice a8951 n8951 c8951]) rfl (q_load wd_25 rfl) (St.ld X12383 (j := 1) rfl rfl) rfl ?_
            refine lcall rfl rfl ca_19 rfl rfl (f19_ok X12383 p8949 0 ([]) H8950 H8951 (.inl ⟨rfl, rfl⟩)) rfl ?_
            rintro e12522 _ h12524 ⟨φ12526, a12529, n12529, c12529, ob12529, blk12529, g12527, X12528, rfl, O12529⟩
            refine lpure (v := .slice a12529 n12529 c12529) rfl (p_assign rfl) rfl rfl ?_
            refine lend ?_
            refine nseq ?_
            refine dseq ?_
            refine dseq ?_
            refine dreg ?_
            refine lpure (v := .int .i64 0) rfl (p_assign rfl) rfl rfl ?_
            refine lend ?_
            refine nseq ?_
            refine dblock ?_
            refine dloopM (τ := (List Int) × (List Bool) × Int) (σ := Option Addr × Nat × Nat × Option Nat × Blk × Option Addr × Nat × Nat × Option Nat × Blk) (fun s12611 (a12612, n12612, c12612, ob12612, blk12612, a12613, n12613, c12613, ob12613, blk12613) => [(1, .pointer (some ⟨b8952, 0, none⟩)), (3, .slice a12612 n12612 c12612), (7, .slice a12613 n12613 c12613), (8, .int .i64 s12611.2.2)]) (fun s12611 (a12612, n12612, c12612, ob12612, blk12612, a12613, n12613, c12613, ob12613, blk12613) hh => St φ12526 h.n hh ([(ob12613, blk12613), (ob12612, blk12612), (some b8952, .cells [.int .i64 p8949.Nodes, .slice a8950 n8950 c8950, .slice a8951 n8951 c8951] 25 .exact)]) ∧ OSl (eInt .i64) φ12526 3 ob12612 blk12612 (.slice a12612 n12612 c12612) s12611.1 ∧ OSl eBool φ12526 4 ob12613 blk12613 (.slice a12613 n12613 c12613) s12611.2.1) (s12068.1, e12522, 0) (a12069, n12069, c12069, ob12069, blk12069, a12529, n12529, c12529, ob12529, blk12529) (sub_cons rfl (sub_cons rfl (sub_cons rfl (sub_cons rfl sub_nil)))) ⟨X12528, (O12069.mono g12527), O12529⟩ ?_
            rintro n12654 ih12653 s12611 ⟨a12612, n12612, c12612, ob12612, blk12612, a12613, n12613, c12613, ob12613, blk12613⟩ t0 h12656 ⟨X12655, O12612, O12613⟩
            refine dseq ?_
            refine dseq ?_
            refine dreg ?_
            refine lpure (v := .int .i64 s12611.2.2) rfl (p_move rfl) rfl rfl ?_
            refine lpure (v := .pointer (some ⟨b8952, 0, none⟩)) rfl (p_fa fo_25_0 rfl) rfl rfl ?_
            refine lread (v := .int .i64 p8949.Nodes) rfl (q_load wd_3 rfl) (St.ld X12655 (j := 2) rfl rfl) rfl ?_
            refine lpure (v := .bool (decide (s12611.2.2 < p8949.Nodes))) rfl (p_lt rfl) rfl rfl ?_
            refine lend ?_
            refine nseq ?_
            refine dcond rfl rfl (fun k12657 => ?_) (fun k12657 => ?_)
            · refine dskip ?_
              refine nseq ?_
              refine dseq ?_
              refine dblock ?_
              refine dseq ?_
              refine dreg ?_
              refine lpure (v := .slice a12613 n12613 c12613) rfl (p_move rfl) rfl rfl ?_
              refine lpure (v := .int .i64 s12611.2.2) rfl (p_move rfl) rfl rfl ?_
              refine Sim.bindM fun e12658 he12659 => ?_
              obtain ⟨b12660, vs12660, m12660, off12660, cs12660, rfl, rfl, hp12660, hc12660, hR12660, hl12660, hm12660, hs12660⟩ := OSl.ia O12613 he12659 (kd := .i64) (n := 1) rfl
              have hR12660 : _ = [(.bool e12658 : Value)] := hR12660
              subst hR12660
              refine lpure (v := .pointer (some ⟨b12660, off12660, none⟩)) rfl (p_ia rs_22 rfl) hp12660 rfl ?_
              refine lread (v := .bool e12658) rfl (q_load wd_4 rfl) (St.ld X12655 (j := 0) rfl (rdE1 hc12660 (k := 0) rfl rfl)) rfl ?_
              refine lpure (v := .bool (!e12658)) rfl (p_not rfl) rfl rfl ?_
              refine lpure (v := .bool (!e12658)) rfl (p_move rfl) rfl rfl ?_
              refine ljoinM (τ := (List Int) × Bool) (σ := Option Addr × Nat × Nat × Option Nat × Blk) (fun s12674 (a12675, n12675, c12675, ob12675, blk12675) => [(1, .pointer (some ⟨b8952, 0, none⟩)), (3, .slice a12675 n12675 c12675), (7, .slice a12613 n12613 c12613), (8, .int .i64 s12611.2.2), (118, .bool s12674.2)]) (fun s12674 (a12675, n12675, c12675, ob12675, blk12675) hh => St φ12526 h.n hh ([(some b12660, .cells vs12660 4 m12660), (ob12675, blk12675), (some b8952, .cells [.int .i64 p8949.Nodes, .slice a8950 n8950 c8950, .slice a8951 n8951 c8951] 25 .exact)]) ∧ OSl (eInt .i64) φ12526 3 ob12675 blk12675 (.slice a12675 n12675 c12675) s12674.1) 20 ?_ ?_
              · rintro s12674 ⟨a12675, n12675, c12675, ob12675, blk12675⟩ t0 h12677 ⟨X12676, O12675⟩
                refine lend ?_
                refine nseq ?_
                refine dcond rfl rfl (fun k12678 => ?_) (fun k12678 => ?_)
                · refine dseq ?_
                  refine dreg ?_
                  refine lpure (v := .bool false) rfl (p_assign rfl) rfl rfl ?_
                  refine lend ?_
                  refine nseq ?_
                  refine dret ?_
                  refine rblock ?_
                  refine rseq ?_
                  refine rloop ?_
                  refine rblock ?_
                  refine rseq ?_
                  exact kcut_r (res_1 resT) X12676 rfl rfl
                · refine dskip ?_
                  refine nblock ?_
                  refine nseq ?_
                  refine dreg ?_
                  refine lpure (v := .int .i64 s12611.2.2) rfl (p_move rfl) rfl rfl ?_
                  refine lpure (v := .int .i64 (w64 (s12611.2.2 + 1))) rfl (p_add rfl) rfl rfl ?_
                  refine lpure (v := .int .i64 (w64 (s12611.2.2 + 1))) rfl (p_assign rfl) rfl rfl ?_
                  refine lend ?_
                  exact kbackM ih12653 (s12674.1, s12611.2.1, (w64 (s12611.2.2 + 1))) (a12675, n12675, c12675, ob12675, blk12675, a12613, n12613, c12613, some b12660, .cells vs12660 4 m12660) (sub_cons rfl (sub_cons rfl (sub_cons rfl (sub_cons rfl sub_nil)))) ⟨X12676, O12675, O12613⟩
              · intro j12679 J12680
                refine lif (i := 98) (show _ = Value.bool (!e12658) from rfl) (fun k12681 => ?_) (fun k12681 => ?_)
                · refine lskip rfl rfl ?_
                  refine lskip rfl rfl ?_
                  refine lskip rfl rfl ?_
                  refine lskip rfl rfl ?_
                  refine lskip rfl rfl ?_
                  refine lskip rfl rfl ?_
                  refine lskip rfl rfl ?_
                  refine lskip rfl rfl ?_
                  refine lskip rfl rfl ?_
                  refine lskip rfl rfl ?_
                  refine lskip rfl rfl ?_
                  refine lskip rfl rfl ?_
                  refine lskip rfl rfl ?_
                  refine lskip rfl rfl ?_
                  refine lskip rfl rfl ?_
                  refine lskip rfl rfl ?_
                  refine lskip rfl rfl ?_
                  refine lskip rfl rfl ?_
                  refine lskip rfl rfl ?_
                  refine lpure (v := .bool true) rfl (p_pick rfl) rfl rfl ?_
                  exact ljmpM J12680 (s12611.1, true) (a12612, n12612, c12612, ob12612, blk12612) (sub_cons rfl (sub_cons rfl (sub_cons rfl (sub_cons rfl (sub_cons rfl sub_nil))))) ⟨X12655, O12612⟩
                · refine lpure (v := .pointer (some ⟨b8952, 1, none⟩)) rfl (p_fa fo_25_1 rfl) rfl rfl ?_
                  refine lread (v := .slice a8950 n8950 c8950) rfl (q_load wd_22 rfl) (St.ld X12655 (j := 2) rfl rfl) rfl ?_
                  refine lpure (v := .int .i64 s12611.2.2) rfl (p_move rfl) rfl rfl ?_
                  refine Sim.bindM fun e12682 he12683 => ?_
                  obtain ⟨p12684, cs12684, hp12684, hF12684, hR12684⟩ := RSl.ia (H8950.mono g12527) he12683 (kd := .i64) (n := 1) rfl
                  have hR12684 : _ = [(.bool e12682 : Value)] := hR12684
                  subst hR12684
                  refine lpure (v := p12684) rfl (p_ia rs_22 rfl) hp12684 rfl ?_
                  refine lread (v := .bool e12682) rfl (q_load wd_4 rfl) (FP.ld X12655 hF12684) rfl ?_
                  refine lpure (v := .bool e12682) rfl (p_move rfl) rfl rfl ?_
                  refine lif (i := 104) (show _ = Value.bool e12682 from rfl) (fun k12685 => ?_) (fun k12685 => ?_)
                  · refine lpure (v := .slice a12612 n12612 c12612) rfl (p_move rfl) rfl rfl ?_
                    refine lpure (v := .int .i64 s12611.2.2) rfl (p_move rfl) rfl rfl ?_
                    refine Sim.bindM fun e12686 he12687 => ?_
                    obtain ⟨b12688, vs12688, m12688, off12688, cs12688, rfl, rfl, hp12688, hc12688, hR12688, hl12688, hm12688, hs12688⟩ := OSl.ia O12612 he12687 (kd := .i64) (n := 1) rfl
                    have hR12688 : _ = [(.int .i64 e12686 : Value)] := hR12688
                    subst hR12688
                    refine lpure (v := .pointer (some ⟨b12688, off12688, none⟩)) rfl (p_ia rs_28 rfl) hp12688 rfl ?_
                    refine lread (v := .int .i64 e12686) rfl (q_load wd_3 rfl) (St.ld X12655 (j := 1) rfl (rdE1 hc12688 (k := 0) rfl rfl)) rfl ?_
                    refine lpure (v := .bool (decide (e12686 < 1))) rfl (p_lt rfl) rfl rfl ?_
                    refine lpure (v := .bool (decide (e12686 < 1))) rfl (p_move rfl) rfl rfl ?_
                    refine lif (i := 110) (show _ = Value.bool (decide (e12686 < 1)) from rfl) (fun k12689 => ?_) (fun k12689 => ?_)
                    · refine lskip rfl rfl ?_
                      refine lskip rfl rfl ?_
                      refine lskip rfl rfl ?_
                      refine lskip rfl rfl ?_
                      refine lskip rfl rfl ?_
                      refine lpure (v := .bool true) rfl (p_pick rfl) rfl rfl ?_
                      refine lpure (v := .bool true) rfl (p_pick rfl) rfl rfl ?_
                      refine lpure (v := .bool true) rfl (p_pick rfl) rfl rfl ?_
                      exact ljmpM J12680 (s12611.1, true) (a12612, n12612, c12612, some b12688, .cells vs12688 3 m12688) (sub_cons rfl (sub_cons rfl (sub_cons rfl (sub_cons rfl (sub_cons rfl sub_nil))))) ⟨X12655, O12612⟩
                    · refine lpure (v := .slice a12612 n12612 c12612) rfl (p_move rfl) rfl rfl ?_
                      refine lpure (v := .int .i64 s12611.2.2) rfl (p_move rfl) rfl rfl ?_
                      refine Sim.bindM fun e12690 he12691 => ?_
                      obtain ⟨off12692, cs12692, hp12692, hc12692, hR12692, hl12692, hm12692, hs12692⟩ := OSl.iaC O12612 he12691 (kd := .i64) (n := 1) rfl
                      have hR12692 : _ = [(.int .i64 e12690 : Value)] := hR12692
                      subst hR12692
                      refine lpure (v := .pointer (some ⟨b12688, off12692, none⟩)) rfl (p_ia rs_28 rfl) hp12692 rfl ?_
                      refine lread (v := .int .i64 e12690) rfl (q_load wd_3 rfl) (St.ld X12655 (j := 1) rfl (rdE1 hc12692 (k := 0) rfl rfl)) rfl ?_
                      refine lpure (v := .bool (decide (2 < e12690))) rfl (p_gt rfl) rfl rfl ?_
                      refine lpure (v := .bool (decide (2 < e12690))) rfl (p_pick rfl) rfl rfl ?_
                      refine lpure (v := .bool (decide (2 < e12690))) rfl (p_pick rfl) rfl rfl ?_
                      refine lpure (v := .bool (decide (2 < e12690))) rfl (p_pick rfl) rfl rfl ?_
                      exact ljmpM J12680 (s12611.1, (decide (2 < e12690))) (a12612, n12612, c12612, some b12688, .cells vs12688 3 m12688) (sub_cons rfl (sub_cons rfl (sub_cons rfl (sub_cons rfl (sub_cons rfl sub_nil))))) ⟨X12655, O12612⟩
                  · refine lskip rfl rfl ?_
                    refine lskip rfl rfl ?_
                    refine lskip rfl rfl ?_
                    refine lskip rfl rfl ?_
                    refine lskip rfl rfl ?_
                    refine lskip rfl rfl ?_
                    refine lskip rfl rfl ?_
                    refine lskip rfl rfl ?_
                    refine lskip rfl rfl ?_
                    refine lskip rfl rfl ?_
                    refine lskip rfl rfl ?_
                    refine lskip rfl rfl ?_
                    refine lpure (v := .bool false) rfl (p_pick rfl) rfl rfl ?_
                    refine lpure (v := .bool false) rfl (p_pick rfl) rfl rfl ?_
                    exact ljmpM J12680 (s12611.1, false) (a12612, n12612, c12612, ob12612, blk12612) (sub_cons rfl (sub_cons rfl (sub_cons rfl (sub_cons rfl (sub_cons rfl sub_nil))))) ⟨X12655, O12612⟩
            · refine dexit ?_
              refine eseq ?_
              refine eloop ?_
              refine xblock ?_
              refine nseq ?_
              refine dseq ?_
              refine dreg ?_
              refine lpure (v := .bool true) rfl (p_assign rfl) rfl rfl ?_
              refine lend ?_
              refine nseq ?_
              refine dret ?_
              exact kcut_r (res_1 resT) X12655 rfl rfl
      · intro j12693 J12694
        refine lcase (i := 25) (show _ = Value.bool s8961 from rfl) (fun k12695 => ?_) (fun k12695 => ?_)
        · refine lskip rfl rfl ?_
          refine lskip rfl rfl ?_
          refine lskip rfl rfl ?_
          refine lskip rfl rfl ?_
          refine lpure (v := .bool true) rfl (p_pick rfl) rfl rfl ?_
          refine Sim.of_eq (congrArg j12693 (show (s8961 || (decide (24 < (p8949.Links.length : Int)))) = true from by rw [k12695] <;> rfl)) ?_
          exact ljmpM J12694 true () (sub_cons rfl (sub_cons rfl sub_nil)) X8962
        · refine lpure (v := .pointer (some ⟨b8952, 2, none⟩)) rfl (p_fa fo_25_2 rfl) rfl rfl ?_
          refine lread (v := .slice a8951 n8951 c8951) rfl (q_load wd_23 rfl) (St.ld X8962 (j := 0) rfl rfl) rfl ?_
          refine lpure (v := .int .i64 (p8949.Links.length : Int)) rfl (p_len rfl rfl rfl un_23 rfl) (RSl.lenC H8951) rfl ?_
          refine lpure (v := .bool (decide (24 < (p8949.Links.length : Int)))) rfl (p_gt rfl) rfl rfl ?_
          refine lpure (v := .bool (decide (24 < (p8949.Links.length : Int)))) rfl (p_pick rfl) rfl rfl ?_
          refine Sim.of_eq (congrArg j12693 (show (s8961 || (decide (24 < (p8949.Links.length : Int)))) = (decide (24 < (p8949.Links.length : Int))) from by rw [k12695] <;> rfl)) ?_
          exact ljmpM J12694 (decide (24 < (p8949.Links.length : Int))) () (sub_cons rfl (sub_cons rfl sub_nil)) X8962
    · intro j12696 J12697
      refine lcase (i := 17) (show _ = Value.bool s8957 from rfl) (fun k12698 => ?_) (fun k12698 => ?_)
      · refine lskip rfl rfl ?_
        refine lskip rfl rfl ?_
        refine lskip rfl rfl ?_
        refine lskip rfl rfl ?_
        refine lskip rfl rfl ?_
        refine lskip rfl rfl ?_
        refine lpure (v := .bool true) rfl (p_pick rfl) rfl rfl ?_
        refine Sim.of_eq (congrArg j12696 (show (s8957 || (decide ((p8949.Station.length : Int) ≠ p8949.Nodes))) = true from by rw [k12698] <;> rfl)) ?_
        exact ljmpM J12697 true () (sub_cons rfl (sub_cons rfl sub_nil)) X8958
      · refine lpure (v := .pointer (some ⟨b8952, 1, none⟩)) rfl (p_fa fo_25_1 rfl) rfl rfl ?_
        refine lread (v := .slice a8950 n8950 c8950) rfl (q_load wd_22 rfl) (St.ld X8958 (j := 0) rfl rfl) rfl ?_
        refine lpure (v := .int .i64 (p8949.Station.length : Int)) rfl (p_len rfl rfl rfl un_22 rfl) (RSl.lenC H8950) rfl ?_
        refine lpure (v := .pointer (some ⟨b8952, 0, none⟩)) rfl (p_fa fo_25_0 rfl) rfl rfl ?_
        refine lread (v := .int .i64 p8949.Nodes) rfl (q_load wd_3 rfl) (St.ld X8958 (j := 0) rfl rfl) rfl ?_
        refine lpure (v := .bool (decide ((p8949.Station.length : Int) ≠ p8949.Nodes))) rfl (p_ne rfl) rfl rfl ?_
        refine lpure (v := .bool (decide ((p8949.Station.length : Int) ≠ p8949.Nodes))) rfl (p_pick rfl) rfl rfl ?_
        refine Sim.of_eq (congrArg j12696 (show (s8957 || (decide ((p8949.Station.length : Int) ≠ p8949.Nodes))) = (decide ((p8949.Station.length : Int) ≠ p8949.Nodes)) from by rw [k12698] <;> rfl)) ?_
        exact ljmpM J12697 (decide ((p8949.Station.length : Int) ≠ p8949.Nodes)) () (sub_cons rfl (sub_cons rfl sub_nil)) X8958
  · intro j12699 J12700
    refine lcase (i := 12) (show _ = Value.bool (decide (p8949.Nodes < 2)) from rfl) (fun k12701 => ?_) (fun k12701 => ?_)
    · refine lskip rfl rfl ?_
      refine lskip rfl rfl ?_
      refine lskip rfl rfl ?_
      refine lpure (v := .bool true) rfl (p_pick rfl) rfl rfl ?_
      refine Sim.of_eq (congrArg j12699 (show ((decide (p8949.Nodes < 2)) || (decide (12 < p8949.Nodes))) = true from by rw [k12701] <;> rfl)) ?_
      exact ljmpM J12700 true () (sub_cons rfl (sub_cons rfl sub_nil)) X8955
    · refine lpure (v := .pointer (some ⟨b8952, 0, none⟩)) rfl (p_fa fo_25_0 rfl) rfl rfl ?_
      refine lread (v := .int .i64 p8949.Nodes) rfl (q_load wd_3 rfl) (St.ld X8955 (j := 0) rfl rfl) rfl ?_
      refine lpure (v := .bool (decide (12 < p8949.Nodes))) rfl (p_gt rfl) rfl rfl ?_
      refine lpure (v := .bool (decide (12 < p8949.Nodes))) rfl (p_pick rfl) rfl rfl ?_
      refine Sim.of_eq (congrArg j12699 (show ((decide (p8949.Nodes < 2)) || (decide (12 < p8949.Nodes))) = (decide (12 < p8949.Nodes)) from by rw [k12701] <;> rfl)) ?_
      exact ljmpM J12700 (decide (12 < p8949.Nodes)) () (sub_cons rfl (sub_cons rfl sub_nil)) X8955
/-! isochron/isochronref16.Port -/
theorem f28_ok {n : Nat} {φ : Fz} {lo : Nat} {h : Heap} {own : OwnL} (X : St φ lo h own) (p12707 : ApiTopo) (p12710 : Int) {a12708 : Option Addr} {n12708 c12708 : Nat} {a12709 : Option Addr} {n12709 c12709 : Nat} (H12708 : RSl eBool φ (.slice a12708 n12708 c12708) p12707.Station) (H12709 : RSl eApiLink φ (.slice a12709 n12709 c12709) p12707.Links) : Sim ((recN Try.prog LL cutF (n + 1)).call 28 #[(.agg #[.int .i64 p12707.Nodes, .slice a12708 n12708 c12708, .slice a12709 n12709 c12709]), (.int .i64 p12710)] h) (m_isochronref16_Port p12707 p12710) (fun (d : Bool) p => p = (.bool d, h)) := by
  refine fcut Try.func28 rfl rfl rfl rfl X ?_
  intro h0 X0
  refine dseq ?_
  refine dreg ?_
  refine lbox rfl rfl rfl rfl rfl X0 (fun b12711 h12713 X12714 => ?_)
  refine lpure (v := .bool false) rfl (p_assign rfl) rfl rfl ?_
  refine lend ?_
  refine nseq ?_
  refine dseq ?_
  refine dreg ?_
  refine lpure (v := .int .i64 p12710) rfl (p_move rfl) rfl rfl ?_
  refine lpure (v := .bool (decide (0 ≤ p12710))) rfl (p_ge rfl) rfl rfl ?_
  refine lpure (v := .bool (decide (0 ≤ p12710))) rfl (p_move rfl) rfl rfl ?_
  refine lsh (τ := Bool) (σ := Unit) (fun s12716 (_ : Unit) => [(14, .bool s12716)]) (fun s12716 (_ : Unit) hh => St φ h.n hh ([(some b12711, .cells [.int .i64 p12707.Nodes, .slice a12708 n12708 c12708, .slice a12709 n12709 c12709] 25 .exact)])) 7 ?_ ?_
  · rintro s12716 _ t0 h12718 X12717
    refine lpure (v := .bool s12716) rfl (p_assign rfl) rfl rfl ?_
    refine lend ?_
    refine nseq ?_
    refine dret ?_
    exact kcut_r (res_1 resT) X12717 rfl rfl
  · intro j12719 J12720
    refine lcase (i := 7) (show _ = Value.bool (decide (0 ≤ p12710)) from rfl) (fun k12721 => ?_) (fun k12721 => ?_)
    · refine lpure (v := .int .i64 p12710) rfl (p_move rfl) rfl rfl ?_
      refine lpure (v := .pointer (some ⟨b12711, 2, none⟩)) rfl (p_fa fo_25_2 rfl) rfl rfl ?_
      refine lread (v := .slice a12709 n12709 c12709) rfl (q_load wd_23 rfl) (St.ld X12714 (j := 0) rfl rfl) rfl ?_
      refine lpure (v := .int .i64 (p12707.Links.length : Int)) rfl (p_len rfl rfl rfl un_23 rfl) (RSl.lenC H12709) rfl ?_
      refine lpure (v := .int .i64 (w64 (2 * (p12707.Links.length : Int)))) rfl (p_mul rfl) rfl rfl ?_
      refine lpure (v := .bool (decide (p12710 < (w64 (2 * (p12707.Links.length : Int)))))) rfl (p_lt rfl) rfl rfl ?_
      refine lpure (v := .bool (decide (p12710 < (w64 (2 * (p12707.Links.length : Int)))))) rfl (p_pick rfl) rfl rfl ?_
      refine Sim.of_eq (congrArg j12719 (show ((decide (0 ≤ p12710)) && (decide (p12710 < (w64 (2 * (p12707.Links.length : Int)))))) = (decide (p12710 < (w64 (2 * (p12707.Links.length : Int))))) from by rw [k12721] <;> rfl)) ?_
      exact ljmpM J12720 (decide (p12710 < (w64 (2 * (p12707.Links.length : Int))))) () (sub_cons rfl sub_nil) X12714
    · refine lskip rfl rfl ?_
      refine lskip rfl rfl ?_
      refine lskip rfl rfl ?_
      refine lskip rfl rfl ?_
      refine lskip rfl rfl ?_
      refine lskip rfl rfl ?_
      refine lpure (v := .bool false) rfl (p_pick rfl) rfl rfl ?_
      refine Sim.of_eq (congrArg j12719 (show ((decide (0 ≤ p12710)) && (decide (p12710 < (w64 (2 * (p12707.Links.length : Int)))))) = false from by rw [k12721] <;> rfl)) ?_
      exact ljmpM J12720 false () (sub_cons rfl sub_nil) X12714
/-! isochron/isochronref16.From -/
theorem f29_ok {n : Nat} {φ : Fz} {lo : Nat} {h : Heap} {own : OwnL} (X : St φ lo h own) (p12778 : ApiTopo) (p12781 : Int) {a12779 : Option Addr} {n12779 c12779 : Nat} {a12780 : Option Addr} {n12780 c12780 : Nat} (H12779 : RSl eBool φ (.slice a12779 n12779 c12779) p12778.Station) (H12780 : RSl eApiLink φ (.slice a12780 n12780 c12780) p12778.Links) : Sim ((recN Try.prog LL cutF (n + 1)).call 29 #[(.agg #[.int .i64 p12778.Nodes, .slice a12779 n12779 c12779, .slice a12780 n12780 c12780]), (.int .i64 p12781)] h) (m_isochronref16_From p12778 p12781) (fun (d : Int) p => p = (.int .i64 d, h)) := by
  refine fcut Try.func29 rfl rfl rfl rfl X ?_
  intro h0 X0
  refine dseq ?_
  refine dreg ?_
  refine lbox rfl rfl rfl rfl rfl X0 (fun b12782 h12784 X12785 => ?_)
  refine lpure (v := .int .i64 0) rfl (p_assign rfl) rfl rfl ?_
  refine lend ?_
  refine nseq ?_
  refine dseq ?_
  refine dreg ?_
  refine lpure (v := .pointer (some ⟨b12782, 2, none⟩)) rfl (p_fa fo_25_2 rfl) rfl rfl ?_
  refine lread (v := .slice a12780 n12780 c12780) rfl (q_load wd_23 rfl) (St.ld X12785 (j := 0) rfl rfl) rfl ?_
  refine lpure (v := .int .i64 p12781) rfl (p_move rfl) rfl rfl ?_
  refine lpure (v := .int .i64 (w64 (Int.tdiv p12781 2))) rfl (p_quo rfl) rfl rfl ?_
  refine Sim.bindM fun e12786 he12787 => ?_
  obtain ⟨p12788, cs12788, hp12788, hF12788, hR12788⟩ := RSl.ia H12780 he12787 (kd := .i64) (n := 4) rfl
  obtain rfl := eApiLink_el hR12788
  refine lpure (v := p12788) rfl (p_ia rs_23 rfl) hp12788 rfl ?_
  refine lread (v := .agg #[.int .i64 e12786.A, .int .i64 e12786.B, .int .i64 e12786.Per, .int .i64 e12786.Delay]) rfl (q_load wd_50 rfl) (FP.ldw X12785 hF12788 rfl rfl) rfl ?_
  refine lalloc rfl tz_50 rfl rfl rfl X12785 (fun b12789 h12791 X12792 => ?_)
  refine lstore rfl ts_50 rfl rfl (j := 0) rfl rfl rfl rfl rfl rfl X12792 (fun h12793 X12794 => ?_)
  refine lend ?_
  refine nseq ?_
  refine dseq ?_
  refine dseq ?_
  refine dreg ?_
  refine lpure (v := .int .i64 p12781) rfl (p_move rfl) rfl rfl ?_
  refine lpure (v := .int .i64 (Int.tmod p12781 2)) rfl (p_rem rfl) rfl rfl ?_
  refine lpure (v := .bool (decide ((Int.tmod p12781 2) = 1))) rfl (p_eq rfl) rfl rfl ?_
  refine lend ?_
  refine nseq ?_
  refine dcond rfl rfl (fun k12795 => ?_) (fun k12795 => ?_)
  · refine dseq ?_
    refine dreg ?_
    refine lpure (v := .pointer (some ⟨b12789, 1, none⟩)) rfl (p_fa fo_50_1 rfl) rfl rfl ?_
    refine lread (v := .int .i64 e12786.B) rfl (q_load wd_3 rfl) (St.ld X12794 (j := 0) rfl rfl) rfl ?_
    refine lpure (v := .int .i64 e12786.B) rfl (p_assign rfl) rfl rfl ?_
    refine lend ?_
    refine nseq ?_
    refine dret ?_
    refine rseq ?_
    exact kcut_r (res_1 resT) X12794 rfl rfl
  · refine dskip ?_
    refine nseq ?_
    refine dseq ?_
    refine dreg ?_
    refine lpure (v := .pointer (some ⟨b12789, 0, none⟩)) rfl (p_fa fo_50_0 rfl) rfl rfl ?_
    refine lread (v := .int .i64 e12786.A) rfl (q_load wd_3 rfl) (St.ld X12794 (j := 0) rfl rfl) rfl ?_
    refine lpure (v := .int .i64 e12786.A) rfl (p_assign rfl) rfl rfl ?_
    refine lend ?_
    refine nseq ?_
    refine dret ?_
    exact kcut_r (res_1 resT) X12794 rfl rfl
/-! isochron/isochronref16.To -/
theorem f30_ok {n : Nat} {φ : Fz} {lo : Nat} {h : Heap} {own : OwnL} (X : St φ lo h own) (p12802 : ApiTopo) (p12805 : Int) {a12803 : Option Addr} {n12803 c12803 : Nat} {a12804 : Option Addr} {n12804 c12804 : Nat} (H12803 : RSl eBool φ (.slice a12803 n12803 c12803) p12802.Station) (H12804 : RSl eApiLink φ (.slice a12804 n12804 c12804) p12802.Links) : Sim ((recN Try.prog LL cutF (n + 1)).call 30 #[(.agg #[.int .i64 p12802.Nodes, .slice a12803 n12803 c12803, .slice a12804 n12804 c12804]), (.int .i64 p12805)] h) (m_isochronref16_To p12802 p12805) (fun (d : Int) p => p = (.int .i64 d, h)) := by
  refine fcut Try.func30 rfl rfl rfl rfl X ?_
  intro h0 X0
  refine dseq ?_
  refine dreg ?_
  refine lbox rfl rfl rfl rfl rfl X0 (fun b12806 h12808 X12809 => ?_)
  refine lpure (v := .int .i64 0) rfl (p_assign rfl) rfl rfl ?_
  refine lend ?_
  refine nseq ?_
  refine dseq ?_
  refine dreg ?_
  refine lpure (v := .pointer (some ⟨b12806, 2, none⟩)) rfl (p_fa fo_25_2 rfl) rfl rfl ?_
  refine lread (v := .slice a12804 n12804 c12804) rfl (q_load wd_23 rfl) (St.ld X12809 (j := 0) rfl rfl) rfl ?_
  refine lpure (v := .int .i64 p12805) rfl (p_move rfl) rfl rfl ?_
  refine lpure (v := .int .i64 (w64 (Int.tdiv p12805 2))) rfl (p_quo rfl) rfl rfl ?_
  refine Sim.bindM fun e12810 he12811 => ?_
  obtain ⟨p12812, cs12812, hp12812, hF12812, hR12812⟩ := RSl.ia H12804 he12811 (kd := .i64) (n := 4) rfl
  obtain rfl := eApiLink_el hR12812
  refine lpure (v := p12812) rfl (p_ia rs_23 rfl) hp12812 rfl ?_
  refine lread (v := .agg #[.int .i64 e12810.A, .int .i64 e12810.B, .int .i64 e12810.Per, .int .i64 e12810.Delay]) rfl (q_load wd_50 rfl) (FP.ldw X12809 hF12812 rfl rfl) rfl ?_
  refine lalloc rfl tz_50 rfl rfl rfl X12809 (fun b12813 h12815 X12816 => ?_)
  refine lstore rfl ts_50 rfl rfl (j := 0) rfl rfl rfl rfl rfl rfl X12816 (fun h12817 X12818 => ?_)
  refine lend ?_
  refine nseq ?_
  refine dseq ?_
  refine dseq ?_
  refine dreg ?_
  refine lpure (v := .int .i64 p12805) rfl (p_move rfl) rfl rfl ?_
  refine lpure (v := .int .i64 (Int.tmod p12805 2)) rfl (p_rem rfl) rfl rfl ?_
  refine lpure (v := .bool (decide ((Int.tmod p12805 2) = 1))) rfl (p_eq rfl) rfl rfl ?_
  refine lend ?_
  refine nseq ?_
  refine dcond rfl rfl (fun k12819 => ?_) (fun k12819 => ?_)
  · refine dseq ?_
    refine dreg ?_
    refine lpure (v := .pointer (some ⟨b12813, 0, none⟩)) rfl (p_fa fo_50_0 rfl) rfl rfl ?_
    refine lread (v := .int .i64 e12810.A) rfl (q_load wd_3 rfl) (St.ld X12818 (j := 0) rfl rfl) rfl ?_
    refine lpure (v := .int .i64 e12810.A) rfl (p_assign rfl) rfl rfl ?_
    refine lend ?_
    refine nseq ?_
    refine dret ?_
    refine rseq ?_
    exact kcut_r (res_1 resT) X12818 rfl rfl
  · refine dskip ?_
    refine nseq ?_
    refine dseq ?_
    refine dreg ?_
    refine lpure (v := .pointer (some ⟨b12813, 1, none⟩)) rfl (p_fa fo_50_1 rfl) rfl rfl ?_
    refine lread (v := .int .i64 e12810.B) rfl (q_load wd_3 rfl) (St.ld X12818 (j := 0) rfl rfl) rfl ?_
    refine lpure (v := .int .i64 e12810.B) rfl (p_assign rfl) rfl rfl ?_
    refine lend ?_
    refine nseq ?_
    refine dret ?_
    exact kcut_r (res_1 resT) X12818 rfl rfl
/-! isochron/isochronref16.Per -/
theorem f31_ok {n : Nat} {φ : Fz} {lo : Nat} {h : Heap} {own : OwnL} (X : St φ lo h own) (p12829 : ApiTopo) (p12832 : Int) {a12830 : Option Addr} {n12830 c12830 : Nat} {a12831 : Option Addr} {n12831 c12831 : Nat} (H12830 : RSl eBool φ (.slice a12830 n12830 c12830) p12829.Station) (H12831 : RSl eApiLink φ (.slice a12831 n12831 c12831) p12829.Links) : Sim ((recN Try.prog LL cutF (n + 1)).call 31 #[(.agg #[.int .i64 p12829.Nodes, .slice a12830 n12830 c12830, .slice a12831 n12831 c12831]), (.int .i64 p12832)] h) (m_isochronref16_Per p12829 p12832) (fun (d : Int) p => p = (.int .i64 d, h)) := by
  refine fcut Try.func31 rfl rfl rfl rfl X ?_
  intro h0 X0
  refine dseq ?_
  refine dreg ?_
  refine lbox rfl rfl rfl rfl rfl X0 (fun b12833 h12835 X12836 => ?_)
  refine lpure (v := .int .i64 0) rfl (p_assign rfl) rfl rfl ?_
  refine lend ?_
  refine nseq ?_
  refine dseq ?_
  refine dreg ?_
  refine lpure (v := .pointer (some ⟨b12833, 2, none⟩)) rfl (p_fa fo_25_2 rfl) rfl rfl ?_
  refine lread (v := .slice a12831 n12831 c12831) rfl (q_load wd_23 rfl) (St.ld X12836 (j := 0) rfl rfl) rfl ?_
  refine lpure (v := .int .i64 p12832) rfl (p_move rfl) rfl rfl ?_
  refine lpure (v := .int .i64 (w64 (Int.tdiv p12832 2))) rfl (p_quo rfl) rfl rfl ?_
  refine Sim.bindM fun e12837 he12838 => ?_
  obtain ⟨p12839, cs12839, hp12839, hF12839, hR12839⟩ := RSl.ia H12831 he12838 (kd := .i64) (n := 4) rfl
  obtain rfl := eApiLink_el hR12839
  refine lpure (v := p12839) rfl (p_ia rs_23 rfl) hp12839 rfl ?_
  refine lpure (v := ptrAdd p12839 2) rfl (p_fa fo_50_2 rfl) (FP.fa hF12839) rfl ?_
  refine lread (v := .int .i64 e12837.Per) rfl (q_load wd_3 rfl) (FP.ld X12836 (FP.add hF12839 (n := 2) (w := 1) rfl rfl)) rfl ?_
  refine lpure (v := .int .i64 e12837.Per) rfl (p_assign rfl) rfl rfl ?_
  refine lend ?_
  refine nseq ?_
  refine dret ?_
  exact kcut_r (res_1 resT) X12836 rfl rfl
/-! isochron/isochronref16.Delay -/
theorem f32_ok {n : Nat} {φ : Fz} {lo : Nat} {h : Heap} {own : OwnL} (X : St φ lo h own) (p12849 : ApiTopo) (p12852 : Int) {a12850 : Option Addr} {n12850 c12850 : Nat} {a12851 : Option Addr} {n12851 c12851 : Nat} (H12850 : RSl eBool φ (.slice a12850 n12850 c12850) p12849.Station) (H12851 : RSl eApiLink φ (.slice a12851 n12851 c12851) p12849.Links) : Sim ((recN Try.prog LL cutF (n + 1)).call 32 #[(.agg #[.int .i64 p12849.Nodes, .slice a12850 n12850 c12850, .slice a12851 n12851 c12851]), (.int .i64 p12852)] h) (m_isochronref16_Delay p12849 p12852) (fun (d : Int) p => p = (.int .i64 d, h)) := by
  refine fcut Try.func32 rfl rfl rfl rfl X ?_
  intro h0 X0
  refine dseq ?_
  refine dreg ?_
  refine lbox rfl rfl rfl rfl rfl X0 (fun b12853 h12855 X12856 => ?_)
  refine lpure (v := .int .i64 0) rfl (p_assign rfl) rfl rfl ?_
  refine lend ?_
  refine nseq ?_
  refine dseq ?_
  refine dreg ?_
  refine lpure (v := .pointer (some ⟨b12853, 2, none⟩)) rfl (p_fa fo_25_2 rfl) rfl rfl ?_
  refine lread (v := .slice a12851 n12851 c12851) rfl (q_load wd_23 rfl) (St.ld X12856 (j := 0) rfl rfl) rfl ?_
  refine lpure (v := .int .i64 p12852) rfl (p_move rfl) rfl rfl ?_
  refine lpure (v := .int .i64 (w64 (Int.tdiv p12852 2))) rfl (p_quo rfl) rfl rfl ?_
  refine Sim.bindM fun e12857 he12858 => ?_
  obtain ⟨p12859, cs12859, hp12859, hF12859, hR12859⟩ := RSl.ia H12851 he12858 (kd := .i64) (n := 4) rfl
  obtain rfl := eApiLink_el hR12859
  refine lpure (v := p12859) rfl (p_ia rs_23 rfl) hp12859 rfl ?_
  refine lpure (v := ptrAdd p12859 3) rfl (p_fa fo_50_3 rfl) (FP.fa hF12859) rfl ?_
  refine lread (v := .int .i64 e12857.Delay) rfl (q_load wd_3 rfl) (FP.ld X12856 (FP.add hF12859 (n := 3) (w := 1) rfl rfl)) rfl ?_
  refine lpure (v := .int .i64 e12857.Delay) rfl (p_assign rfl) rfl rfl ?_
  refine lend ?_
  refine nseq ?_
  refine dret ?_
  exact kcut_r (res_1 resT) X12856 rfl rfl
/-! isochron/isochronref16.Back -/
theorem f33_ok {n : Nat} {φ : Fz} {lo : Nat} {h : Heap} {own : OwnL} (X : St φ lo h own) (p12869 : Int) : Sim ((recN Try.prog LL cutF (n + 1)).call 33 #[(.int .i64 p12869)] h) (m_isochronref16_Back p12869) (fun (d : Int) p => p = (.int .i64 d, h)) := by
  refine fcut Try.func33 rfl rfl rfl rfl X ?_
  intro h0 X0
  refine dseq ?_
  refine dreg ?_
  refine lpure (v := .int .i64 0) rfl (p_assign rfl) rfl rfl ?_
  refine lend ?_
  refine nseq ?_
  refine dseq ?_
  refine dseq ?_
  refine dreg ?_
  refine lpure (v := .int .i64 p12869) rfl (p_move rfl) rfl rfl ?_
  refine lpure (v := .int .i64 (Int.tmod p12869 2)) rfl (p_rem rfl) rfl rfl ?_
  refine lpure (v := .bool (decide ((Int.tmod p12869 2) = 1))) rfl (p_eq rfl) rfl rfl ?_
  refine lend ?_
  refine nseq ?_
  refine dcond rfl rfl (fun k12870 => ?_) (fun k12870 => ?_)
  · refine dseq ?_
    refine dreg ?_
    refine lpure (v := .int .i64 p12869) rfl (p_move rfl) rfl rfl ?_
    refine lpure (v := .int .i64 (w64 (p12869 - 1))) rfl (p_sub rfl) rfl rfl ?_
    refine lpure (v := .int .i64 (w64 (p12869 - 1))) rfl (p_assign rfl) rfl rfl ?_
    refine lend ?_
    refine nseq ?_
    refine dret ?_
    refine rseq ?_
    exact kcut_r (res_1 resT) X0 rfl rfl
  · refine dskip ?_
    refine nseq ?_
    refine dseq ?_
    refine dreg ?_
    refine lpure (v := .int .i64 p12869) rfl (p_move rfl) rfl rfl ?_
    refine lpure (v := .int .i64 (w64 (p12869 + 1))) rfl (p_add rfl) rfl rfl ?_
    refine lpure (v := .int .i64 (w64 (p12869 + 1))) rfl (p_assign rfl) rfl rfl ?_
    refine lend ?_
    refine nseq ?_
    refine dret ?_
    exact kcut_r (res_1 resT) X0 rfl rfl
/-! isochron/isochronlaw16.TopoPorts -/
theorem f6_ok {n : Nat} {φ : Fz} {lo : Nat} {h : Heap} {own : OwnL} (X : St φ lo h own) (p1 : ApiTopo) (p4 : Int) {a2 : Option Addr} {n2 c2 : Nat} {a3 : Option Addr} {n3 c3 : Nat} (H2 : RSl eBool φ (.slice a2 n2 c2) p1.Station) (H3 : RSl eApiLink φ (.slice a3 n3 c3) p1.Links) (K2 : c2 < unk) (K3 : c3 < unk) : Sim ((recN Try.prog LL cutF (n + 10)).call 6 #[(.agg #[.int .i64 p1.Nodes, .slice a2 n2 c2, .slice a3 n3 c3]), (.int .i64 p4)] h) (m_isochronlaw16_TopoPorts p1 p4) (fun (d : Bool) p => p = (.bool d, h)) := by
  refine fcut Try.func6 rfl rfl rfl rfl X ?_
  intro h0 X0
  refine dseq ?_
  refine dreg ?_
  refine lbox rfl rfl rfl rfl rfl X0 (fun b5 h7 X8 => ?_)
  refine lpure (v := .bool false) rfl (p_assign rfl) rfl rfl ?_
  refine lend ?_
  refine nseq ?_
  refine dseq ?_
  refine dseq ?_
  refine dreg ?_
  refine lcall rfl rfl ca_9 rfl rfl (f9_ok X8) rfl (fun e8839 v8840 h8841 hq8842 => ?_)
  cases hq8842
  refine lpure (v := .bool (!e8839)) rfl (p_not rfl) rfl rfl ?_
  refine lend ?_
  refine nseq ?_
  refine dcond rfl rfl (fun k8843 => ?_) (fun k8843 => ?_)
  · refine dseq ?_
    refine dreg ?_
    refine lpure (v := .bool false) rfl (p_assign rfl) rfl rfl ?_
    refine lend ?_
    refine nseq ?_
    refine dret ?_
    refine rseq ?_
    exact kcut_r (res_1 resT) X8 rfl rfl
  · refine dskip ?_
    refine nseq ?_
    refine dseq ?_
    refine dreg ?_
    refine lread (v := .agg #[.int .i64 p1.Nodes, .slice a2 n2 c2, .slice a3 n3 c3]) rfl (q_load wd_25 rfl) (St.ld X8 (j := 0) rfl rfl) rfl ?_
    refine lcall rfl rfl ca_10 rfl rfl (f10_ok X8 p1 H2 H3 K2 K3) rfl ?_
    rintro e8884 _ _ ⟨a8888, n8888, c8888, a8889, n8889, c8889, hq, H8888, H8889⟩
    cases hq
    refine lstore rfl ts_25 rfl rfl (j := 0) rfl rfl rfl rfl rfl rfl X8 (fun h8890 X8891 => ?_)
    refine lend ?_
    refine nseq ?_
    refine dseq ?_
    refine dreg ?_
    refine lread (v := .agg #[.int .i64 e8884.Nodes, .slice a8888 n8888 c8888, .slice a8889 n8889 c8889]) rfl (q_load wd_25 rfl) (St.ld X8891 (j := 0) rfl rfl) rfl ?_
    refine lpure (v := .int .i64 p4) rfl (p_move rfl) rfl rfl ?_
    refine lcall rfl rfl ca_23 rfl rfl (f23_ok X8891 e8884 p4 H8888 H8889) rfl (fun e8892 v8893 h8894 hq8895 => ?_)
    cases hq8895
    refine lpure (v := .tuple #[.int .i64 e8892.1, .int .i64 e8892.2]) rfl (p_move rfl) rfl rfl ?_
    refine lpure (v := .int .i64 e8892.1) rfl (p_extract rfl) rfl rfl ?_
    refine lpure (v := .int .i64 e8892.2) rfl (p_extract rfl) rfl rfl ?_
    refine lpure (v := .int .i64 e8892.1) rfl (p_assign rfl) rfl rfl ?_
    refine lpure (v := .int .i64 e8892.2) rfl (p_assign rfl) rfl rfl ?_
    refine lend ?_
    refine nseq ?_
    refine dseq ?_
    refine dreg ?_
    refine lread (v := .agg #[.int .i64 e8884.Nodes, .slice a8888 n8888 c8888, .slice a8889 n8889 c8889]) rfl (q_load wd_25 rfl) (St.ld X8891 (j := 0) rfl rfl) rfl ?_
    refine lpure (v := .int .i64 p4) rfl (p_move rfl) rfl rfl ?_
    refine lcall rfl rfl ca_24 rfl rfl (f24_ok X8891 e8884 p4 H8888 H8889) rfl (fun e8896 v8897 h8898 hq8899 => ?_)
    cases hq8899
    refine lpure (v := .tuple #[.int .i64 e8896.1, .int .i64 e8896.2]) rfl (p_move rfl) rfl rfl ?_
    refine lpure (v := .int .i64 e8896.1) rfl (p_extract rfl) rfl rfl ?_
    refine lpure (v := .int .i64 e8896.2) rfl (p_extract rfl) rfl rfl ?_
    refine lpure (v := .int .i64 e8896.1) rfl (p_assign rfl) rfl rfl ?_
    refine lpure (v := .int .i64 e8896.2) rfl (p_assign rfl) rfl rfl ?_
    refine lend ?_
    refine nseq ?_
    refine dseq ?_
    refine dreg ?_
    refine lread (v := .agg #[.int .i64 e8884.Nodes, .slice a8888 n8888 c8888, .slice a8889 n8889 c8889]) rfl (q_load wd_25 rfl) (St.ld X8891 (j := 0) rfl rfl) rfl ?_
    refine lpure (v := .int .i64 p4) rfl (p_move rfl) rfl rfl ?_
    refine lcall rfl rfl ca_25 rfl rfl (f25_ok X8891 e8884 p4 H8888 H8889) rfl (fun e8900 v8901 h8902 hq8903 => ?_)
    cases hq8903
    refine lpure (v := .tuple #[.int .i64 e8900.1, .int .i64 e8900.2]) rfl (p_move rfl) rfl rfl ?_
    refine lpure (v := .int .i64 e8900.1) rfl (p_extract rfl) rfl rfl ?_
    refine lpure (v := .int .i64 e8900.2) rfl (p_extract rfl) rfl rfl ?_
    refine lpure (v := .int .i64 e8900.1) rfl (p_assign rfl) rfl rfl ?_
    refine lpure (v := .int .i64 e8900.2) rfl (p_assign rfl) rfl rfl ?_
    refine lend ?_
    refine nseq ?_
    refine dseq ?_
    refine dreg ?_
    refine lread (v := .agg #[.int .i64 e8884.Nodes, .slice a8888 n8888 c8888, .slice a8889 n8889 c8889]) rfl (q_load wd_25 rfl) (St.ld X8891 (j := 0) rfl rfl) rfl ?_
    refine lpure (v := .int .i64 p4) rfl (p_move rfl) rfl rfl ?_
    refine lcall rfl rfl ca_26 rfl rfl (f26_ok X8891 e8884 p4 H8888 H8889) rfl (fun e8904 v8905 h8906 hq8907 => ?_)
    cases hq8907
    refine lpure (v := .tuple #[.int .i64 e8904.1, .int .i64 e8904.2]) rfl (p_move rfl) rfl rfl ?_
    refine lpure (v := .int .i64 e8904.1) rfl (p_extract rfl) rfl rfl ?_
    refine lpure (v := .int .i64 e8904.2) rfl (p_extract rfl) rfl rfl ?_
    refine lpure (v := .int .i64 e8904.1) rfl (p_assign rfl) rfl rfl ?_
    refine lpure (v := .int .i64 e8904.2) rfl (p_assign rfl) rfl rfl ?_
    refine lend ?_
    refine nseq ?_
    refine dseq ?_
    refine dreg ?_
    refine lread (v := .agg #[.int .i64 e8884.Nodes, .slice a8888 n8888 c8888, .slice a8889 n8889 c8889]) rfl (q_load wd_25 rfl) (St.ld X8891 (j := 0) rfl rfl) rfl ?_
    refine lpure (v := .int .i64 p4) rfl (p_move rfl) rfl rfl ?_
    refine lcall rfl rfl ca_27 rfl rfl (f27_ok X8891 e8884 p4 H8888 H8889) rfl (fun e8945 v8946 h8947 hq8948 => ?_)
    cases hq8948
    refine lpure (v := .tuple #[.int .i64 e8945.1, .int .i64 e8945.2]) rfl (p_move rfl) rfl rfl ?_
    refine lpure (v := .int .i64 e8945.1) rfl (p_extract rfl) rfl rfl ?_
    refine lpure (v := .int .i64 e8945.2) rfl (p_extract rfl) rfl rfl ?_
    refine lpure (v := .int .i64 e8945.1) rfl (p_assign rfl) rfl rfl ?_
    refine lpure (v := .int .i64 e8945.2) rfl (p_assign rfl) rfl rfl ?_
    refine lend ?_
    refine nseq ?_
    refine dseq ?_
    refine dreg ?_
    refine lpure (v := .int .i64 0) rfl (p_assign rfl) rfl rfl ?_
    refine lend ?_
    refine nseq ?_
    refine dseq ?_
    refine dseq ?_
    refine dreg ?_
    refine lread (v := .agg #[.int .i64 e8884.Nodes, .slice a8888 n8888 c8888, .slice a8889 n8889 c8889]) rfl (q_load wd_25 rfl) (St.ld X8891 (j := 0) rfl rfl) rfl ?_
    refine lcall rfl rfl ca_13 rfl rfl (f13_ok X8891 e8884 H8888 H8889) rfl (fun e12702 v12703 h12704 hq12705 => ?_)
    cases hq12705
    refine lpure (v := .bool (!e12702)) rfl (p_not rfl) rfl rfl ?_
    refine lend ?_
    refine nseq ?_
    refine djoinM (τ := Int) (σ := Unit) (fun s12727 (_ : Unit) => [(1, .int .i64 p4), (2, .pointer (some ⟨b5, 0, none⟩)), (5, .int .i64 e8892.1), (6, .int .i64 e8892.2), (7, .int .i64 e8896.1), (8, .int .i64 e8896.2), (9, .int .i64 e8900.1), (10, .int .i64 e8900.2), (11, .int .i64 e8904.1), (12, .int .i64 e8904.2), (13, .int .i64 e8945.1), (14, .int .i64 e8945.2), (15, .int .i64 s12727)]) (fun s12727 (_ : Unit) hh => St φ h.n hh ([(some b5, .cells [.int .i64 e8884.Nodes, .slice a8888 n8888 c8888, .slice a8889 n8889 c8889] 25 .exact)])) ?_ ?_
    · rintro s12727 _ t0 h12729 X12728
      refine nseq ?_
      refine dseq ?_
      refine dseq ?_
      refine dreg ?_
      refine lpure (v := .int .i64 e8892.2) rfl (p_move rfl) rfl rfl ?_
      refine lpure (v := .int .i64 s12727) rfl (p_move rfl) rfl rfl ?_
      refine lpure (v := .bool (decide (e8892.2 ≠ s12727))) rfl (p_ne rfl) rfl rfl ?_
      refine lpure (v := .bool (decide (e8892.2 ≠ s12727))) rfl (p_move rfl) rfl rfl ?_
      refine lsh (τ := Bool) (σ := Unit) (fun s12733 (_ : Unit) => [(1, .int .i64 p4), (2, .pointer (some ⟨b5, 0, none⟩)), (5, .int .i64 e8892.1), (7, .int .i64 e8896.1), (9, .int .i64 e8900.1), (10, .int .i64 e8900.2), (11, .int .i64 e8904.1), (12, .int .i64 e8904.2), (13, .int .i64 e8945.1), (14, .int .i64 e8945.2), (15, .int .i64 s12727), (64, .bool s12733)]) (fun s12733 (_ : Unit) hh => St φ h.n hh ([(some b5, .cells [.int .i64 e8884.Nodes, .slice a8888 n8888 c8888, .slice a8889 n8889 c8889] 25 .exact)])) 4 ?_ ?_
      · rintro s12733 _ t0 h12735 X12734
        refine lpure (v := .bool s12733) rfl (p_move rfl) rfl rfl ?_
        refine lsh (τ := Bool) (σ := Unit) (fun s12737 (_ : Unit) => [(1, .int .i64 p4), (2, .pointer (some ⟨b5, 0, none⟩)), (5, .int .i64 e8892.1), (7, .int .i64 e8896.1), (9, .int .i64 e8900.1), (11, .int .i64 e8904.1), (12, .int .i64 e8904.2), (13, .int .i64 e8945.1), (14, .int .i64 e8945.2), (15, .int .i64 s12727), (69, .bool s12737)]) (fun s12737 (_ : Unit) hh => St φ h.n hh ([(some b5, .cells [.int .i64 e8884.Nodes, .slice a8888 n8888 c8888, .slice a8889 n8889 c8889] 25 .exact)])) 4 ?_ ?_
        · rintro s12737 _ t0 h12739 X12738
          refine lpure (v := .bool s12737) rfl (p_move rfl) rfl rfl ?_
          refine lsh (τ := Bool) (σ := Unit) (fun s12741 (_ : Unit) => [(1, .int .i64 p4), (2, .pointer (some ⟨b5, 0, none⟩)), (5, .int .i64 e8892.1), (7, .int .i64 e8896.1), (9, .int .i64 e8900.1), (11, .int .i64 e8904.1), (13, .int .i64 e8945.1), (14, .int .i64 e8945.2), (15, .int .i64 s12727), (74, .bool s12741)]) (fun s12741 (_ : Unit) hh => St φ h.n hh ([(some b5, .cells [.int .i64 e8884.Nodes, .slice a8888 n8888 c8888, .slice a8889 n8889 c8889] 25 .exact)])) 4 ?_ ?_
          · rintro s12741 _ t0 h12743 X12742
            refine lpure (v := .bool s12741) rfl (p_move rfl) rfl rfl ?_
            refine lsh (τ := Bool) (σ := Unit) (fun s12745 (_ : Unit) => [(1, .int .i64 p4), (2, .pointer (some ⟨b5, 0, none⟩)), (5, .int .i64 e8892.1), (7, .int .i64 e8896.1), (9, .int .i64 e8900.1), (11, .int .i64 e8904.1), (13, .int .i64 e8945.1), (15, .int .i64 s12727), (79, .bool s12745)]) (fun s12745 (_ : Unit) hh => St φ h.n hh ([(some b5, .cells [.int .i64 e8884.Nodes, .slice a8888 n8888 c8888, .slice a8889 n8889 c8889] 25 .exact)])) 4 ?_ ?_
            · rintro s12745 _ t0 h12747 X12746
              refine lend ?_
              refine nseq ?_
              refine dcond rfl rfl (fun k12748 => ?_) (fun k12748 => ?_)
              · refine dseq ?_
                refine dreg ?_
                refine lpure (v := .bool false) rfl (p_assign rfl) rfl rfl ?_
                refine lend ?_
                refine nseq ?_
                refine dret ?_
                refine rseq ?_
                exact kcut_r (res_1 resT) X12746 rfl rfl
              · refine dskip ?_
                refine nseq ?_
                refine dseq ?_
                refine dseq ?_
                refine dreg ?_
                refine lpure (v := .int .i64 s12727) rfl (p_move rfl) rfl rfl ?_
                refine lpure (v := .bool (decide (s12727 ≠ 0))) rfl (p_ne rfl) rfl rfl ?_
                refine lend ?_
                refine nseq ?_
                refine dcond rfl rfl (fun k12749 => ?_) (fun k12749 => ?_)
                · refine dseq ?_
                  refine dreg ?_
                  refine lpure (v := .int .i64 e8892.1) rfl (p_move rfl) rfl rfl ?_
                  refine lpure (v := .bool (decide (e8892.1 = 0))) rfl (p_eq rfl) rfl rfl ?_
                  refine lpure (v := .bool (decide (e8892.1 = 0))) rfl (p_move rfl) rfl rfl ?_
                  refine lsh (τ := Bool) (σ := Unit) (fun s12751 (_ : Unit) => [(9, .int .i64 e8900.1), (11, .int .i64 e8904.1), (13, .int .i64 e8945.1), (87, .bool s12751)]) (fun s12751 (_ : Unit) hh => St φ h.n hh ([(some b5, .cells [.int .i64 e8884.Nodes, .slice a8888 n8888 c8888, .slice a8889 n8889 c8889] 25 .exact)])) 3 ?_ ?_
                  · rintro s12751 _ t0 h12753 X12752
                    refine lpure (v := .bool s12751) rfl (p_move rfl) rfl rfl ?_
                    refine lsh (τ := Bool) (σ := Unit) (fun s12755 (_ : Unit) => [(11, .int .i64 e8904.1), (13, .int .i64 e8945.1), (91, .bool s12755)]) (fun s12755 (_ : Unit) hh => St φ h.n hh ([(some b5, .cells [.int .i64 e8884.Nodes, .slice a8888 n8888 c8888, .slice a8889 n8889 c8889] 25 .exact)])) 3 ?_ ?_
                    · rintro s12755 _ t0 h12757 X12756
                      refine lpure (v := .bool s12755) rfl (p_move rfl) rfl rfl ?_
                      refine lsh (τ := Bool) (σ := Unit) (fun s12759 (_ : Unit) => [(13, .int .i64 e8945.1), (95, .bool s12759)]) (fun s12759 (_ : Unit) hh => St φ h.n hh ([(some b5, .cells [.int .i64 e8884.Nodes, .slice a8888 n8888 c8888, .slice a8889 n8889 c8889] 25 .exact)])) 3 ?_ ?_
                      · rintro s12759 _ t0 h12761 X12760
                        refine lpure (v := .bool s12759) rfl (p_move rfl) rfl rfl ?_
                        refine lsh (τ := Bool) (σ := Unit) (fun s12763 (_ : Unit) => [(99, .bool s12763)]) (fun s12763 (_ : Unit) hh => St φ h.n hh ([(some b5, .cells [.int .i64 e8884.Nodes, .slice a8888 n8888 c8888, .slice a8889 n8889 c8889] 25 .exact)])) 3 ?_ ?_
                        · rintro s12763 _ t0 h12765 X12764
                          refine lpure (v := .bool s12763) rfl (p_assign rfl) rfl rfl ?_
                          refine lend ?_
                          refine nseq ?_
                          refine dret ?_
                          refine rseq ?_
                          exact kcut_r (res_1 resT) X12764 rfl rfl
                        · intro j12766 J12767
                          refine lcase (i := 96) (show _ = Value.bool s12759 from rfl) (fun k12768 => ?_) (fun k12768 => ?_)
                          · refine lpure (v := .int .i64 e8945.1) rfl (p_move rfl) rfl rfl ?_
                            refine lpure (v := .bool (decide (e8945.1 = 0))) rfl (p_eq rfl) rfl rfl ?_
                            refine lpure (v := .bool (decide (e8945.1 = 0))) rfl (p_pick rfl) rfl rfl ?_
                            refine Sim.of_eq (congrArg j12766 (show (s12759 && (decide (e8945.1 = 0))) = (decide (e8945.1 = 0)) from by rw [k12768] <;> rfl)) ?_
                            exact ljmpM J12767 (decide (e8945.1 = 0)) () (sub_cons rfl sub_nil) X12760
                          · refine lskip rfl rfl ?_
                            refine lskip rfl rfl ?_
                            refine lpure (v := .bool false) rfl (p_pick rfl) rfl rfl ?_
                            refine Sim.of_eq (congrArg j12766 (show (s12759 && (decide (e8945.1 = 0))) = false from by rw [k12768] <;> rfl)) ?_
                            exact ljmpM J12767 false () (sub_cons rfl sub_nil) X12760
                      · intro j12769 J12770
                        refine lcase (i := 92) (show _ = Value.bool s12755 from rfl) (fun k12771 => ?_) (fun k12771 => ?_)
                        · refine lpure (v := .int .i64 e8904.1) rfl (p_move rfl) rfl rfl ?_
                          refine lpure (v := .bool (decide (e8904.1 = 0))) rfl (p_eq rfl) rfl rfl ?_
                          refine lpure (v := .bool (decide (e8904.1 = 0))) rfl (p_pick rfl) rfl rfl ?_
                          refine Sim.of_eq (congrArg j12769 (show (s12755 && (decide (e8904.1 = 0))) = (decide (e8904.1 = 0)) from by rw [k12771] <;> rfl)) ?_
                          exact ljmpM J12770 (decide (e8904.1 = 0)) () (sub_cons rfl (sub_cons rfl sub_nil)) X12756
                        · refine lskip rfl rfl ?_
                          refine lskip rfl rfl ?_
                          refine lpure (v := .bool false) rfl (p_pick rfl) rfl rfl ?_
                          refine Sim.of_eq (congrArg j12769 (show (s12755 && (decide (e8904.1 = 0))) = false from by rw [k12771] <;> rfl)) ?_
                          exact ljmpM J12770 false () (sub_cons rfl (sub_cons rfl sub_nil)) X12756
                    · intro j12772 J12773
                      refine lcase (i := 88) (show _ = Value.bool s12751 from rfl) (fun k12774 => ?_) (fun k12774 => ?_)
                      · refine lpure (v := .int .i64 e8900.1) rfl (p_move rfl) rfl rfl ?_
                        refine lpure (v := .bool (decide (e8900.1 = 0))) rfl (p_eq rfl) rfl rfl ?_
                        refine lpure (v := .bool (decide (e8900.1 = 0))) rfl (p_pick rfl) rfl rfl ?_
                        refine Sim.of_eq (congrArg j12772 (show (s12751 && (decide (e8900.1 = 0))) = (decide (e8900.1 = 0)) from by rw [k12774] <;> rfl)) ?_
                        exact ljmpM J12773 (decide (e8900.1 = 0)) () (sub_cons rfl (sub_cons rfl (sub_cons rfl sub_nil))) X12752
                      · refine lskip rfl rfl ?_
                        refine lskip rfl rfl ?_
                        refine lpure (v := .bool false) rfl (p_pick rfl) rfl rfl ?_
                        refine Sim.of_eq (congrArg j12772 (show (s12751 && (decide (e8900.1 = 0))) = false from by rw [k12774] <;> rfl)) ?_
                        exact ljmpM J12773 false () (sub_cons rfl (sub_cons rfl (sub_cons rfl sub_nil))) X12752
                  · intro j12775 J12776
                    refine lcase (i := 84) (show _ = Value.bool (decide (e8892.1 = 0)) from rfl) (fun k12777 => ?_) (fun k12777 => ?_)
                    · refine lpure (v := .int .i64 e8896.1) rfl (p_move rfl) rfl rfl ?_
                      refine lpure (v := .bool (decide (e8896.1 = 0))) rfl (p_eq rfl) rfl rfl ?_
                      refine lpure (v := .bool (decide (e8896.1 = 0))) rfl (p_pick rfl) rfl rfl ?_
                      refine Sim.of_eq (congrArg j12775 (show ((decide (e8892.1 = 0)) && (decide (e8896.1 = 0))) = (decide (e8896.1 = 0)) from by rw [k12777] <;> rfl)) ?_
                      exact ljmpM J12776 (decide (e8896.1 = 0)) () (sub_cons rfl (sub_cons rfl (sub_cons rfl (sub_cons rfl sub_nil)))) X12746
                    · refine lskip rfl rfl ?_
                      refine lskip rfl rfl ?_
                      refine lpure (v := .bool false) rfl (p_pick rfl) rfl rfl ?_
                      refine Sim.of_eq (congrArg j12775 (show ((decide (e8892.1 = 0)) && (decide (e8896.1 = 0))) = false from by rw [k12777] <;> rfl)) ?_
                      exact ljmpM J12776 false () (sub_cons rfl (sub_cons rfl (sub_cons rfl (sub_cons rfl sub_nil)))) X12746
                · refine dskip ?_
                  refine nseq ?_
                  refine dseq ?_
                  refine dreg ?_
                  refine lpure (v := .int .i64 e8892.1) rfl (p_move rfl) rfl rfl ?_
                  refine lread (v := .agg #[.int .i64 e8884.Nodes, .slice a8888 n8888 c8888, .slice a8889 n8889 c8889]) rfl (q_load wd_25 rfl) (St.ld X12746 (j := 0) rfl rfl) rfl ?_
                  refine lpure (v := .int .i64 p4) rfl (p_move rfl) rfl rfl ?_
                  refine lcall rfl rfl ca_29 rfl rfl (f29_ok X12746 e8884 p4 H8888 H8889) rfl (fun e12796 v12797 h12798 hq12799 => ?_)
                  cases hq12799
                  refine lpure (v := .bool (decide (e8892.1 = e12796))) rfl (p_eq rfl) rfl rfl ?_
                  refine lpure (v := .bool (decide (e8892.1 = e12796))) rfl (p_move rfl) rfl rfl ?_
                  refine ljoinM (τ := Bool) (σ := Unit) (fun s12824 (_ : Unit) => [(1, .int .i64 p4), (2, .pointer (some ⟨b5, 0, none⟩)), (9, .int .i64 e8900.1), (11, .int .i64 e8904.1), (13, .int .i64 e8945.1), (111, .bool s12824)]) (fun s12824 (_ : Unit) hh => St φ h.n hh ([(some b5, .cells [.int .i64 e8884.Nodes, .slice a8888 n8888 c8888, .slice a8889 n8889 c8889] 25 .exact)])) 6 ?_ ?_
                  · rintro s12824 _ t0 h12826 X12825
                    refine lpure (v := .bool s12824) rfl (p_move rfl) rfl rfl ?_
                    refine ljoinM (τ := Bool) (σ := Unit) (fun s12844 (_ : Unit) => [(1, .int .i64 p4), (2, .pointer (some ⟨b5, 0, none⟩)), (11, .int .i64 e8904.1), (13, .int .i64 e8945.1), (118, .bool s12844)]) (fun s12844 (_ : Unit) hh => St φ h.n hh ([(some b5, .cells [.int .i64 e8884.Nodes, .slice a8888 n8888 c8888, .slice a8889 n8889 c8889] 25 .exact)])) 6 ?_ ?_
                    · rintro s12844 _ t0 h12846 X12845
                      refine lpure (v := .bool s12844) rfl (p_move rfl) rfl rfl ?_
                      refine ljoinM (τ := Bool) (σ := Unit) (fun s12864 (_ : Unit) => [(1, .int .i64 p4), (13, .int .i64 e8945.1), (125, .bool s12864)]) (fun s12864 (_ : Unit) hh => St φ h.n hh ([(some b5, .cells [.int .i64 e8884.Nodes, .slice a8888 n8888 c8888, .slice a8889 n8889 c8889] 25 .exact)])) 6 ?_ ?_
                      · rintro s12864 _ t0 h12866 X12865
                        refine lpure (v := .bool s12864) rfl (p_move rfl) rfl rfl ?_
                        refine ljoinM (τ := Bool) (σ := Unit) (fun s12875 (_ : Unit) => [(131, .bool s12875)]) (fun s12875 (_ : Unit) hh => St φ h.n hh ([(some b5, .cells [.int .i64 e8884.Nodes, .slice a8888 n8888 c8888, .slice a8889 n8889 c8889] 25 .exact)])) 5 ?_ ?_
                        · rintro s12875 _ t0 h12877 X12876
                          refine lpure (v := .bool s12875) rfl (p_assign rfl) rfl rfl ?_
                          refine lend ?_
                          refine nseq ?_
                          refine dret ?_
                          exact kcut_r (res_1 resT) X12876 rfl rfl
                        · intro j12878 J12879
                          refine lif (i := 126) (show _ = Value.bool s12864 from rfl) (fun k12880 => ?_) (fun k12880 => ?_)
                          · refine lpure (v := .int .i64 e8945.1) rfl (p_move rfl) rfl rfl ?_
                            refine lpure (v := .int .i64 p4) rfl (p_move rfl) rfl rfl ?_
                            refine lcall rfl rfl ca_33 rfl rfl (f33_ok X12865 p4) rfl (fun e12881 v12882 h12883 hq12884 => ?_)
                            cases hq12884
                            refine lpure (v := .bool (decide (e8945.1 = e12881))) rfl (p_eq rfl) rfl rfl ?_
                            refine lpure (v := .bool (decide (e8945.1 = e12881))) rfl (p_pick rfl) rfl rfl ?_
                            exact ljmpM J12879 (decide (e8945.1 = e12881)) () (sub_cons rfl sub_nil) X12865
                          · refine lskip rfl rfl ?_
                            refine lskip rfl rfl ?_
                            refine lskip rfl rfl ?_
                            refine lskip rfl rfl ?_
                            refine lpure (v := .bool false) rfl (p_pick rfl) rfl rfl ?_
                            exact ljmpM J12879 false () (sub_cons rfl sub_nil) X12865
                      · intro j12885 J12886
                        refine lif (i := 119) (show _ = Value.bool s12844 from rfl) (fun k12887 => ?_) (fun k12887 => ?_)
                        · refine lpure (v := .int .i64 e8904.1) rfl (p_move rfl) rfl rfl ?_
                          refine lread (v := .agg #[.int .i64 e8884.Nodes, .slice a8888 n8888 c8888, .slice a8889 n8889 c8889]) rfl (q_load wd_25 rfl) (St.ld X12845 (j := 0) rfl rfl) rfl ?_
                          refine lpure (v := .int .i64 p4) rfl (p_move rfl) rfl rfl ?_
                          refine lcall rfl rfl ca_32 rfl rfl (f32_ok X12845 e8884 p4 H8888 H8889) rfl (fun e12888 v12889 h12890 hq12891 => ?_)
                          cases hq12891
                          refine lpure (v := .bool (decide (e8904.1 = e12888))) rfl (p_eq rfl) rfl rfl ?_
                          refine lpure (v := .bool (decide (e8904.1 = e12888))) rfl (p_pick rfl) rfl rfl ?_
                          exact ljmpM J12886 (decide (e8904.1 = e12888)) () (sub_cons rfl (sub_cons rfl (sub_cons rfl sub_nil))) X12845
                        · refine lskip rfl rfl ?_
                          refine lskip rfl rfl ?_
                          refine lskip rfl rfl ?_
                          refine lskip rfl rfl ?_
                          refine lskip rfl rfl ?_
                          refine lpure (v := .bool false) rfl (p_pick rfl) rfl rfl ?_
                          exact ljmpM J12886 false () (sub_cons rfl (sub_cons rfl (sub_cons rfl sub_nil))) X12845
                    · intro j12892 J12893
                      refine lif (i := 112) (show _ = Value.bool s12824 from rfl) (fun k12894 => ?_) (fun k12894 => ?_)
                      · refine lpure (v := .int .i64 e8900.1) rfl (p_move rfl) rfl rfl ?_
                        refine lread (v := .agg #[.int .i64 e8884.Nodes, .slice a8888 n8888 c8888, .slice a8889 n8889 c8889]) rfl (q_load wd_25 rfl) (St.ld X12825 (j := 0) rfl rfl) rfl ?_
                        refine lpure (v := .int .i64 p4) rfl (p_move rfl) rfl rfl ?_
                        refine lcall rfl rfl ca_31 rfl rfl (f31_ok X12825 e8884 p4 H8888 H8889) rfl (fun e12895 v12896 h12897 hq12898 => ?_)
                        cases hq12898
                        refine lpure (v := .bool (decide (e8900.1 = e12895))) rfl (p_eq rfl) rfl rfl ?_
                        refine lpure (v := .bool (decide (e8900.1 = e12895))) rfl (p_pick rfl) rfl rfl ?_
                        exact ljmpM J12893 (decide (e8900.1 = e12895)) () (sub_cons rfl (sub_cons rfl (sub_cons rfl (sub_cons rfl (sub_cons rfl sub_nil))))) X12825
                      · refine lskip rfl rfl ?_
                        refine lskip rfl rfl ?_
                        refine lskip rfl rfl ?_
                        refine lskip rfl rfl ?_
                        refine lskip rfl rfl ?_
                        refine lpure (v := .bool false) rfl (p_pick rfl) rfl rfl ?_
                        exact ljmpM J12893 false () (sub_cons rfl (sub_cons rfl (sub_cons rfl (sub_cons rfl (sub_cons rfl sub_nil))))) X12825
                  · intro j12899 J12900
                    refine lif (i := 105) (show _ = Value.bool (decide (e8892.1 = e12796)) from rfl) (fun k12901 => ?_) (fun k12901 => ?_)
                    · refine lpure (v := .int .i64 e8896.1) rfl (p_move rfl) rfl rfl ?_
                      refine lread (v := .agg #[.int .i64 e8884.Nodes, .slice a8888 n8888 c8888, .slice a8889 n8889 c8889]) rfl (q_load wd_25 rfl) (St.ld X12746 (j := 0) rfl rfl) rfl ?_
                      refine lpure (v := .int .i64 p4) rfl (p_move rfl) rfl rfl ?_
                      refine lcall rfl rfl ca_30 rfl rfl (f30_ok X12746 e8884 p4 H8888 H8889) rfl (fun e12902 v12903 h12904 hq12905 => ?_)
                      cases hq12905
                      refine lpure (v := .bool (decide (e8896.1 = e12902))) rfl (p_eq rfl) rfl rfl ?_
                      refine lpure (v := .bool (decide (e8896.1 = e12902))) rfl (p_pick rfl) rfl rfl ?_
                      exact ljmpM J12900 (decide (e8896.1 = e12902)) () (sub_cons rfl (sub_cons rfl (sub_cons rfl (sub_cons rfl (sub_cons rfl (sub_cons rfl sub_nil)))))) X12746
                    · refine lskip rfl rfl ?_
                      refine lskip rfl rfl ?_
                      refine lskip rfl rfl ?_
                      refine lskip rfl rfl ?_
                      refine lskip rfl rfl ?_
                      refine lpure (v := .bool false) rfl (p_pick rfl) rfl rfl ?_
                      exact ljmpM J12900 false () (sub_cons rfl (sub_cons rfl (sub_cons rfl (sub_cons rfl (sub_cons rfl (sub_cons rfl sub_nil)))))) X12746
            · intro j12906 J12907
              refine lcase (i := 75) (show _ = Value.bool s12741 from rfl) (fun k12908 => ?_) (fun k12908 => ?_)
              · refine lskip rfl rfl ?_
                refine lskip rfl rfl ?_
                refine lskip rfl rfl ?_
                refine lpure (v := .bool true) rfl (p_pick rfl) rfl rfl ?_
                refine Sim.of_eq (congrArg j12906 (show (s12741 || (decide (e8945.2 ≠ s12727))) = true from by rw [k12908] <;> rfl)) ?_
                exact ljmpM J12907 true () (sub_cons rfl (sub_cons rfl (sub_cons rfl (sub_cons rfl (sub_cons rfl (sub_cons rfl (sub_cons rfl (sub_cons rfl (sub_cons rfl sub_nil))))))))) X12742
              · refine lpure (v := .int .i64 e8945.2) rfl (p_move rfl) rfl rfl ?_
                refine lpure (v := .int .i64 s12727) rfl (p_move rfl) rfl rfl ?_
                refine lpure (v := .bool (decide (e8945.2 ≠ s12727))) rfl (p_ne rfl) rfl rfl ?_
                refine lpure (v := .bool (decide (e8945.2 ≠ s12727))) rfl (p_pick rfl) rfl rfl ?_
                refine Sim.of_eq (congrArg j12906 (show (s12741 || (decide (e8945.2 ≠ s12727))) = (decide (e8945.2 ≠ s12727)) from by rw [k12908] <;> rfl)) ?_
                exact ljmpM J12907 (decide (e8945.2 ≠ s12727)) () (sub_cons rfl (sub_cons rfl (sub_cons rfl (sub_cons rfl (sub_cons rfl (sub_cons rfl (sub_cons rfl (sub_cons rfl (sub_cons rfl sub_nil))))))))) X12742
          · intro j12909 J12910
            refine lcase (i := 70) (show _ = Value.bool s12737 from rfl) (fun k12911 => ?_) (fun k12911 => ?_)
            · refine lskip rfl rfl ?_
              refine lskip rfl rfl ?_
              refine lskip rfl rfl ?_
              refine lpure (v := .bool true) rfl (p_pick rfl) rfl rfl ?_
              refine Sim.of_eq (congrArg j12909 (show (s12737 || (decide (e8904.2 ≠ s12727))) = true from by rw [k12911] <;> rfl)) ?_
              exact ljmpM J12910 true () (sub_cons rfl (sub_cons rfl (sub_cons rfl (sub_cons rfl (sub_cons rfl (sub_cons rfl (sub_cons rfl (sub_cons rfl (sub_cons rfl (sub_cons rfl sub_nil)))))))))) X12738
            · refine lpure (v := .int .i64 e8904.2) rfl (p_move rfl) rfl rfl ?_
              refine lpure (v := .int .i64 s12727) rfl (p_move rfl) rfl rfl ?_
              refine lpure (v := .bool (decide (e8904.2 ≠ s12727))) rfl (p_ne rfl) rfl rfl ?_
              refine lpure (v := .bool (decide (e8904.2 ≠ s12727))) rfl (p_pick rfl) rfl rfl ?_
              refine Sim.of_eq (congrArg j12909 (show (s12737 || (decide (e8904.2 ≠ s12727))) = (decide (e8904.2 ≠ s12727)) from by rw [k12911] <;> rfl)) ?_
              exact ljmpM J12910 (decide (e8904.2 ≠ s12727)) () (sub_cons rfl (sub_cons rfl (sub_cons rfl (sub_cons rfl (sub_cons rfl (sub_cons rfl (sub_cons rfl (sub_cons rfl (sub_cons rfl (sub_cons rfl sub_nil)))))))))) X12738
        · intro j12912 J12913
          refine lcase (i := 65) (show _ = Value.bool s12733 from rfl) (fun k12914 => ?_) (fun k12914 => ?_)
          · refine lskip rfl rfl ?_
            refine lskip rfl rfl ?_
            refine lskip rfl rfl ?_
            refine lpure (v := .bool true) rfl (p_pick rfl) rfl rfl ?_
            refine Sim.of_eq (congrArg j12912 (show (s12733 || (decide (e8900.2 ≠ s12727))) = true from by rw [k12914] <;> rfl)) ?_
            exact ljmpM J12913 true () (sub_cons rfl (sub_cons rfl (sub_cons rfl (sub_cons rfl (sub_cons rfl (sub_cons rfl (sub_cons rfl (sub_cons rfl (sub_cons rfl (sub_cons rfl (sub_cons rfl sub_nil))))))))))) X12734
          · refine lpure (v := .int .i64 e8900.2) rfl (p_move rfl) rfl rfl ?_
            refine lpure (v := .int .i64 s12727) rfl (p_move rfl) rfl rfl ?_
            refine lpure (v := .bool (decide (e8900.2 ≠ s12727))) rfl (p_ne rfl) rfl rfl ?_
            refine lpure (v := .bool (decide (e8900.2 ≠ s12727))) rfl (p_pick rfl) rfl rfl ?_
            refine Sim.of_eq (congrArg j12912 (show (s12733 || (decide (e8900.2 ≠ s12727))) = (decide (e8900.2 ≠ s12727)) from by rw [k12914] <;> rfl)) ?_
            exact ljmpM J12913 (decide (e8900.2 ≠ s12727)) () (sub_cons rfl (sub_cons rfl (sub_cons rfl (sub_cons rfl (sub_cons rfl (sub_cons rfl (sub_cons rfl (sub_cons rfl (sub_cons rfl (sub_cons rfl (sub_cons rfl sub_nil))))))))))) X12734
      · intro j12915 J12916
        refine lcase (i := 60) (show _ = Value.bool (decide (e8892.2 ≠ s12727)) from rfl) (fun k12917 => ?_) (fun k12917 => ?_)
        · refine lskip rfl rfl ?_
          refine lskip rfl rfl ?_
          refine lskip rfl rfl ?_
          refine lpure (v := .bool true) rfl (p_pick rfl) rfl rfl ?_
          refine Sim.of_eq (congrArg j12915 (show ((decide (e8892.2 ≠ s12727)) || (decide (e8896.2 ≠ s12727))) = true from by rw [k12917] <;> rfl)) ?_
          exact ljmpM J12916 true () (sub_cons rfl (sub_cons rfl (sub_cons rfl (sub_cons rfl (sub_cons rfl (sub_cons rfl (sub_cons rfl (sub_cons rfl (sub_cons rfl (sub_cons rfl (sub_cons rfl (sub_cons rfl sub_nil)))))))))))) X12728
        · refine lpure (v := .int .i64 e8896.2) rfl (p_move rfl) rfl rfl ?_
          refine lpure (v := .int .i64 s12727) rfl (p_move rfl) rfl rfl ?_
          refine lpure (v := .bool (decide (e8896.2 ≠ s12727))) rfl (p_ne rfl) rfl rfl ?_
          refine lpure (v := .bool (decide (e8896.2 ≠ s12727))) rfl (p_pick rfl) rfl rfl ?_
          refine Sim.of_eq (congrArg j12915 (show ((decide (e8892.2 ≠ s12727)) || (decide (e8896.2 ≠ s12727))) = (decide (e8896.2 ≠ s12727)) from by rw [k12917] <;> rfl)) ?_
          exact ljmpM J12916 (decide (e8896.2 ≠ s12727)) () (sub_cons rfl (sub_cons rfl (sub_cons rfl (sub_cons rfl (sub_cons rfl (sub_cons rfl (sub_cons rfl (sub_cons rfl (sub_cons rfl (sub_cons rfl (sub_cons rfl (sub_cons rfl sub_nil)))))))))))) X12728
    · intro j12730 J12731
      refine dcond rfl rfl (fun k12706 => ?_) (fun k12706 => ?_)
      · refine dreg ?_
        refine lpure (v := .int .i64 260) rfl (p_assign rfl) rfl rfl ?_
        refine lend ?_
        exact jmpM J12731 260 () (sub_cons rfl (sub_cons rfl (sub_cons rfl (sub_cons rfl (sub_cons rfl (sub_cons rfl (sub_cons rfl (sub_cons rfl (sub_cons rfl (sub_cons rfl (sub_cons rfl (sub_cons rfl (sub_cons rfl sub_nil))))))))))))) X8891
      · refine dseq ?_
        refine dreg ?_
        refine lread (v := .agg #[.int .i64 e8884.Nodes, .slice a8888 n8888 c8888, .slice a8889 n8889 c8889]) rfl (q_load wd_25 rfl) (St.ld X8891 (j := 0) rfl rfl) rfl ?_
        refine lpure (v := .int .i64 p4) rfl (p_move rfl) rfl rfl ?_
        refine lcall rfl rfl ca_28 rfl rfl (f28_ok X8891 e8884 p4 H8888 H8889) rfl (fun e12918 v12919 h12920 hq12921 => ?_)
        cases hq12921
        refine lpure (v := .bool (!e12918)) rfl (p_not rfl) rfl rfl ?_
        refine lend ?_
        refine nseq ?_
        refine dcond rfl rfl (fun k12922 => ?_) (fun k12922 => ?_)
        · refine dreg ?_
          refine lpure (v := .int .i64 2) rfl (p_assign rfl) rfl rfl ?_
          refine lend ?_
          exact jmpM J12731 2 () (sub_cons rfl (sub_cons rfl (sub_cons rfl (sub_cons rfl (sub_cons rfl (sub_cons rfl (sub_cons rfl (sub_cons rfl (sub_cons rfl (sub_cons rfl (sub_cons rfl (sub_cons rfl (sub_cons rfl sub_nil))))))))))))) X8891
        · refine dskip ?_
          exact jmpM J12731 0 () (sub_cons rfl (sub_cons rfl (sub_cons rfl (sub_cons rfl (sub_cons rfl (sub_cons rfl (sub_cons rfl (sub_cons rfl (sub_cons rfl (sub_cons rfl (sub_cons rfl (sub_cons rfl (sub_cons rfl sub_nil))))))))))))) X8891
end Go.AM
