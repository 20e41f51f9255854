/- Printed: functions of the given program as functions over plain data, and that the machine does what they say; no claim of its own; no condition. -/
import Derived.Test.YtjemelnmlbcmeaaGrOk1
set_option maxRecDepth 100000
set_option maxHeartbeats 4000000
set_option linter.unusedVariables false
set_option linter.unusedSimpArgs false
namespace Go.AM
open Go Go.Proofs

/-! slices.Equal[[]bool,bool] -/
theorem f18_ok {n : Nat} {φ : Fz} {lo : Nat} {h : Heap} {own : OwnL} (X : St φ lo h own) (p8685 : (List Bool)) (p8687 : (List Bool)) {a8686 : Option Addr} {n8686 c8686 : Nat} {a8688 : Option Addr} {n8688 c8688 : Nat} (H8686 : RSl eBool φ (.slice a8686 n8686 c8686) p8685) (H8688 : RSl eBool φ (.slice a8688 n8688 c8688) p8687) : Sim ((recN Try.prog LL cutF (n + 1)).call 18 #[(.slice a8686 n8686 c8686), (.slice a8688 n8688 c8688)] h) (m_slices_Equal_bool_bool p8685 p8687) (fun (d : Bool) p => p = (.bool d, h)) := by
  refine fcut Try.func18 rfl rfl rfl rfl X ?_
  intro h0 X0
  refine dseq ?_
  refine dreg ?_
  refine lpure (v := .bool false) rfl (p_assign rfl) rfl rfl ?_
  refine lend ?_
  refine nseq ?_
  refine dseq ?_
  refine dseq ?_
  refine dreg ?_
  refine lpure (v := .slice a8686 n8686 c8686) rfl (p_move rfl) rfl rfl ?_
  refine lpure (v := .int .i64 (p8685.length : Int)) rfl (p_len rfl rfl rfl un_22 rfl) (RSl.lenC H8686) rfl ?_
  refine lpure (v := .slice a8688 n8688 c8688) rfl (p_move rfl) rfl rfl ?_
  refine lpure (v := .int .i64 (p8687.length : Int)) rfl (p_len rfl rfl rfl un_22 rfl) (RSl.lenC H8688) rfl ?_
  refine lpure (v := .bool (decide ((p8685.length : Int) ≠ (p8687.length : Int)))) rfl (p_ne rfl) rfl rfl ?_
  refine lend ?_
  refine nseq ?_
  refine dcond rfl rfl (fun k8689 => ?_) (fun k8689 => ?_)
  · refine dseq ?_
    refine dreg ?_
    refine lpure (v := .bool false) rfl (p_assign rfl) rfl rfl ?_
    refine lend ?_
    refine nseq ?_
    refine dret ?_
    refine rseq ?_
    exact kcut_r (res_1 resT) X0 rfl rfl
  · refine dskip ?_
    refine nseq ?_
    refine dseq ?_
    refine dseq ?_
    refine dreg ?_
    refine lpure (v := .slice a8686 n8686 c8686) rfl (p_move rfl) rfl rfl ?_
    refine lpure (v := .int .i64 (p8685.length : Int)) rfl (p_len rfl rfl rfl un_22 rfl) (RSl.lenC H8686) rfl ?_
    refine lpure (v := .int .i64 0) rfl (p_move rfl) rfl rfl ?_
    refine lend ?_
    refine nseq ?_
    refine dblock ?_
    refine dloopM (τ := Int) (σ := Unit) (fun s8712 (_ : Unit) => [(0, .slice a8686 n8686 c8686), (1, .slice a8688 n8688 c8688), (12, .int .i64 (p8685.length : Int)), (13, .int .i64 s8712)]) (fun s8712 (_ : Unit) hh => St φ h.n hh ([])) 0 () (sub_cons rfl (sub_cons rfl (sub_cons rfl (sub_cons rfl sub_nil)))) X0 ?_
    rintro n8725 ih8724 s8712 _ t0 h8727 X8726
    refine dseq ?_
    refine dreg ?_
    refine lpure (v := .bool (decide (s8712 < (p8685.length : Int)))) rfl (p_lt rfl) rfl rfl ?_
    refine lend ?_
    refine nseq ?_
    refine dseq ?_
    refine dcond rfl rfl (fun k8728 => ?_) (fun k8728 => ?_)
    · refine dskip ?_
      refine nseq ?_
      refine dseq ?_
      refine dblock ?_
      refine dseq ?_
      refine dreg ?_
      refine lpure (v := .int .i64 s8712) rfl (p_move rfl) rfl rfl ?_
      refine lpure (v := .int .i64 s8712) rfl (p_assign rfl) rfl rfl ?_
      refine lend ?_
      refine nseq ?_
      refine dseq ?_
      refine ddraw 0 0 0 (by kernel_rfl) ?_
      refine spure (v := .slice a8686 n8686 c8686) rfl (p_move rfl) (lo_t (lo_sl X8726 H8686) rfl) rfl rfl ?_
      refine spure (v := .int .i64 s8712) rfl (p_move rfl) (lo_t rfl rfl) rfl rfl ?_
      refine Sim.bindM fun e8729 he8730 => ?_
      obtain ⟨p8731, cs8731, hp8731, hF8731, hR8731⟩ := RSl.ia H8686 he8730 (kd := .i64) (n := 1) rfl
      have hR8731 : _ = [(.bool e8729 : Value)] := hR8731
      subst hR8731
      refine spure (v := p8731) rfl (p_ia rs_22 rfl) (lo_t (lo_sl X8726 H8686) (lo_t rfl rfl)) hp8731 rfl ?_
      refine sload (v := .bool e8729) rfl rfl (q_load wd_4 rfl) (FP.ld X8726 hF8731) (same_self 20 rfl) rfl ?_
      refine spure (v := .slice a8688 n8688 c8688) rfl (p_move rfl) (lo_t (lo_sl X8726 H8688) rfl) rfl rfl ?_
      refine spure (v := .int .i64 s8712) rfl (p_move rfl) (lo_t rfl rfl) rfl rfl ?_
      refine Sim.bindM fun e8732 he8733 => ?_
      obtain ⟨p8734, cs8734, hp8734, hF8734, hR8734⟩ := RSl.ia H8688 he8733 (kd := .i64) (n := 1) rfl
      have hR8734 : _ = [(.bool e8732 : Value)] := hR8734
      subst hR8734
      refine spure (v := p8734) rfl (p_ia rs_22 rfl) (lo_t (lo_sl X8726 H8688) (lo_t rfl rfl)) hp8734 rfl ?_
      refine sload (v := .bool e8732) rfl rfl (q_load wd_4 rfl) (FP.ld X8726 hF8734) (same_self 20 rfl) rfl ?_
      refine spure (v := .bool (!(e8729 == e8732))) rfl (p_bin rfl) (lo_t rfl (lo_t rfl rfl)) (bin_neB un_4) rfl ?_
      refine send ?_
      refine nseq ?_
      refine dcond rfl rfl (fun k8735 => ?_) (fun k8735 => ?_)
      · refine dseq ?_
        refine dreg ?_
        refine lpure (v := .bool false) rfl (p_assign rfl) rfl rfl ?_
        refine lend ?_
        refine nseq ?_
        refine dret ?_
        refine rblock ?_
        refine rseq ?_
        refine rloop ?_
        refine rblock ?_
        refine rseq ?_
        exact kcut_r (res_1 resT) X8726 rfl rfl
      · refine dskip ?_
        refine nblock ?_
        refine nseq ?_
        refine dreg ?_
        refine lpure (v := .int .i64 (w64 (s8712 + 1))) rfl (p_add rfl) rfl rfl ?_
        refine lpure (v := .int .i64 (w64 (s8712 + 1))) rfl (p_move rfl) rfl rfl ?_
        refine lend ?_
        exact kbackM ih8724 (w64 (s8712 + 1)) () (sub_cons rfl (sub_cons rfl (sub_cons rfl (sub_cons rfl sub_nil)))) X8726
    · refine dexit ?_
      refine eseq ?_
      refine eloop ?_
      refine xblock ?_
      refine nseq ?_
      refine dseq ?_
      refine dreg ?_
      refine lpure (v := .bool true) rfl (p_assign rfl) rfl rfl ?_
      refine lend ?_
      refine nseq ?_
      refine dret ?_
      exact kcut_r (res_1 resT) X8726 rfl rfl
/-! isochron/isochronlaw16.wakes -/
theorem f9_ok {n : Nat} {φ : Fz} {lo : Nat} {h : Heap} {own : OwnL} (X : St φ lo h own) : Sim ((recN Try.prog LL cutF (n + 9)).call 9 #[] h) (m_isochronlaw16_wakes) (fun (d : Bool) p => p = (.bool d, h)) := by
  refine fcut Try.func9 rfl rfl rfl rfl X ?_
  intro h0 X0
  refine dseq ?_
  refine dreg ?_
  refine lpure (v := .bool false) rfl (p_assign rfl) rfl rfl ?_
  refine lend ?_
  refine nseq ?_
  refine dseq ?_
  refine dreg ?_
  refine lcall rfl rfl ca_38 rfl rfl (f38_ok X0) rfl ?_
  rintro e35 _ h37 ⟨φ39, a42, n42, c42, ob42, blk42, a44, n44, c44, ob44, blk44, g40, X41, rfl, O42, O44⟩
  refine lalloc rfl tz_25 rfl rfl rfl X41 (fun b46 h48 X49 => ?_)
  refine lstore rfl ts_25 rfl rfl (j := 0) rfl rfl rfl rfl rfl rfl X49 (fun h50 X51 => ?_)
  refine lend ?_
  refine nseq ?_
  refine dseq ?_
  refine dreg ?_
  refine lread (v := .agg #[.int .i64 e35.Nodes, .slice a42 n42 c42, .slice a44 n44 c44]) rfl (q_load wd_25 rfl) (St.ld X51 (j := 0) rfl rfl) rfl ?_
  obtain ⟨φ6848, g6849, X6850, H6851⟩ := OSl.freeze X51 (j := 1) rfl O42
  obtain ⟨φ6852, g6853, X6854, H6855⟩ := OSl.freeze X6850 (j := 2) rfl (O44.mono g6849)
  refine lcall rfl rfl ca_23 rfl rfl (f23_ok X6854 e35 0 (H6851.mono g6853) H6855) rfl (fun e6856 v6857 h6858 hq6859 => ?_)
  cases hq6859
  refine lpure (v := .tuple #[.int .i64 e6856.1, .int .i64 e6856.2]) rfl (p_move rfl) rfl rfl ?_
  refine lpure (v := .int .i64 e6856.1) rfl (p_extract rfl) rfl rfl ?_
  refine lpure (v := .int .i64 e6856.2) rfl (p_extract rfl) rfl rfl ?_
  refine lpure (v := .int .i64 e6856.1) rfl (p_assign rfl) rfl rfl ?_
  refine lpure (v := .int .i64 e6856.2) rfl (p_assign rfl) rfl rfl ?_
  refine lend ?_
  refine nseq ?_
  refine dseq ?_
  refine dreg ?_
  refine lread (v := .agg #[.int .i64 e35.Nodes, .slice a42 n42 c42, .slice a44 n44 c44]) rfl (q_load wd_25 rfl) (St.ld X51 (j := 0) rfl rfl) rfl ?_
  obtain ⟨φ6892, g6893, X6894, H6895⟩ := OSl.freeze X51 (j := 1) rfl O42
  obtain ⟨φ6896, g6897, X6898, H6899⟩ := OSl.freeze X6894 (j := 2) rfl (O44.mono g6893)
  refine lcall rfl rfl ca_24 rfl rfl (f24_ok X6898 e35 3 (H6895.mono g6897) H6899) rfl (fun e6900 v6901 h6902 hq6903 => ?_)
  cases hq6903
  refine lpure (v := .tuple #[.int .i64 e6900.1, .int .i64 e6900.2]) rfl (p_move rfl) rfl rfl ?_
  refine lpure (v := .int .i64 e6900.1) rfl (p_extract rfl) rfl rfl ?_
  refine lpure (v := .int .i64 e6900.2) rfl (p_extract rfl) rfl rfl ?_
  refine lpure (v := .int .i64 e6900.1) rfl (p_assign rfl) rfl rfl ?_
  refine lpure (v := .int .i64 e6900.2) rfl (p_assign rfl) rfl rfl ?_
  refine lend ?_
  refine nseq ?_
  refine dseq ?_
  refine dreg ?_
  refine lread (v := .agg #[.int .i64 e35.Nodes, .slice a42 n42 c42, .slice a44 n44 c44]) rfl (q_load wd_25 rfl) (St.ld X51 (j := 0) rfl rfl) rfl ?_
  obtain ⟨φ6941, g6942, X6943, H6944⟩ := OSl.freeze X51 (j := 1) rfl O42
  obtain ⟨φ6945, g6946, X6947, H6948⟩ := OSl.freeze X6943 (j := 2) rfl (O44.mono g6942)
  refine lcall rfl rfl ca_25 rfl rfl (f25_ok X6947 e35 5 (H6944.mono g6946) H6948) rfl (fun e6949 v6950 h6951 hq6952 => ?_)
  cases hq6952
  refine lpure (v := .tuple #[.int .i64 e6949.1, .int .i64 e6949.2]) rfl (p_move rfl) rfl rfl ?_
  refine lpure (v := .int .i64 e6949.1) rfl (p_extract rfl) rfl rfl ?_
  refine lpure (v := .int .i64 e6949.2) rfl (p_extract rfl) rfl rfl ?_
  refine lpure (v := .int .i64 e6949.1) rfl (p_assign rfl) rfl rfl ?_
  refine lpure (v := .int .i64 e6949.2) rfl (p_assign rfl) rfl rfl ?_
  refine lend ?_
  refine nseq ?_
  refine dseq ?_
  refine dreg ?_
  refine lread (v := .agg #[.int .i64 e35.Nodes, .slice a42 n42 c42, .slice a44 n44 c44]) rfl (q_load wd_25 rfl) (St.ld X51 (j := 0) rfl rfl) rfl ?_
  obtain ⟨φ6990, g6991, X6992, H6993⟩ := OSl.freeze X51 (j := 1) rfl O42
  obtain ⟨φ6994, g6995, X6996, H6997⟩ := OSl.freeze X6992 (j := 2) rfl (O44.mono g6991)
  refine lcall rfl rfl ca_26 rfl rfl (f26_ok X6996 e35 4 (H6993.mono g6995) H6997) rfl (fun e6998 v6999 h7000 hq7001 => ?_)
  cases hq7001
  refine lpure (v := .tuple #[.int .i64 e6998.1, .int .i64 e6998.2]) rfl (p_move rfl) rfl rfl ?_
  refine lpure (v := .int .i64 e6998.1) rfl (p_extract rfl) rfl rfl ?_
  refine lpure (v := .int .i64 e6998.2) rfl (p_extract rfl) rfl rfl ?_
  refine lpure (v := .int .i64 e6998.1) rfl (p_assign rfl) rfl rfl ?_
  refine lpure (v := .int .i64 e6998.2) rfl (p_assign rfl) rfl rfl ?_
  refine lend ?_
  refine nseq ?_
  refine dseq ?_
  refine dreg ?_
  refine lread (v := .agg #[.int .i64 e35.Nodes, .slice a42 n42 c42, .slice a44 n44 c44]) rfl (q_load wd_25 rfl) (St.ld X51 (j := 0) rfl rfl) rfl ?_
  obtain ⟨φ7734, g7735, X7736, H7737⟩ := OSl.freeze X51 (j := 1) rfl O42
  obtain ⟨φ7738, g7739, X7740, H7741⟩ := OSl.freeze X7736 (j := 2) rfl (O44.mono g7735)
  refine lcall rfl rfl ca_11 rfl rfl (f11_ok X7740 e35 1 (H7737.mono g7739) H7741) rfl ?_
  rintro e7742 _ h7744 ⟨φ7746, a7749, n7749, c7749, ob7749, blk7749, g7747, X7748, rfl, O7749⟩
  refine lpure (v := .tuple #[.slice a7749 n7749 c7749, .int .i64 e7742.2]) rfl (p_move rfl) rfl rfl ?_
  refine lpure (v := .slice a7749 n7749 c7749) rfl (p_extract rfl) rfl rfl ?_
  refine lpure (v := .int .i64 e7742.2) rfl (p_extract rfl) rfl rfl ?_
  refine lpure (v := .slice a7749 n7749 c7749) rfl (p_assign rfl) rfl rfl ?_
  refine lpure (v := .int .i64 e7742.2) rfl (p_assign rfl) rfl rfl ?_
  refine lend ?_
  refine nseq ?_
  refine dseq ?_
  refine dreg ?_
  refine lread (v := .agg #[.int .i64 e35.Nodes, .slice a42 n42 c42, .slice a44 n44 c44]) rfl (q_load wd_25 rfl) (St.ld X7748 (j := 1) rfl rfl) rfl ?_
  refine lcall rfl rfl ca_12 rfl rfl (f12_ok X7748 e35 2 1 (H7737.mono (g7739.trans g7747)) (H7741.mono g7747)) rfl (fun e8220 v8221 h8222 hq8223 => ?_)
  cases hq8223
  refine lpure (v := .tuple #[.int .i64 e8220.1, .int .i64 e8220.2]) rfl (p_move rfl) rfl rfl ?_
  refine lpure (v := .int .i64 e8220.1) rfl (p_extract rfl) rfl rfl ?_
  refine lpure (v := .int .i64 e8220.2) rfl (p_extract rfl) rfl rfl ?_
  refine lpure (v := .int .i64 e8220.1) rfl (p_assign rfl) rfl rfl ?_
  refine lpure (v := .int .i64 e8220.2) rfl (p_assign rfl) rfl rfl ?_
  refine lend ?_
  refine nseq ?_
  refine dseq ?_
  refine dreg ?_
  refine lread (v := .agg #[.int .i64 e35.Nodes, .slice a42 n42 c42, .slice a44 n44 c44]) rfl (q_load wd_25 rfl) (St.ld X7748 (j := 1) rfl rfl) rfl ?_
  obtain ⟨h8224, b8224, hv8224, X8224, O8224⟩ := OSl.lay (E := (eInt .i64)) (φ := φ7746) (cs := [.int .i64 1]) (l := [1]) (len := 1) (parts := [(0, .int .i64 1)]) un_28 ts_3 rfl rfl rfl tz_3 rfl rfl (show RowD (eInt .i64) φ7746 [.int .i64 1] [1] from ⟨[.int .i64 1], _, rfl, rfl, rfl⟩) rfl rfl X7748
  refine lheap rfl (h_buildSlice rfl) hv8224 rfl ?_
  obtain ⟨φ8550, g8551, X8552, H8553⟩ := OSl.freeze X8224 (j := 0) rfl O8224
  refine lcall rfl rfl ca_17 rfl rfl (f17_ok X8552 e35 0 ([1]) (H7737.mono ((g7739.trans g7747).trans g8551)) (H7741.mono (g7747.trans g8551)) H8553) rfl ?_
  rintro e8554 _ h8556 ⟨φ8558, a8561, n8561, c8561, ob8561, blk8561, g8559, X8560, rfl, O8561⟩
  refine lpure (v := .tuple #[.slice a8561 n8561 c8561, .int .i64 e8554.2]) rfl (p_move rfl) rfl rfl ?_
  refine lpure (v := .slice a8561 n8561 c8561) rfl (p_extract rfl) rfl rfl ?_
  refine lpure (v := .int .i64 e8554.2) rfl (p_extract rfl) rfl rfl ?_
  refine lpure (v := .slice a8561 n8561 c8561) rfl (p_assign rfl) rfl rfl ?_
  refine lpure (v := .int .i64 e8554.2) rfl (p_assign rfl) rfl rfl ?_
  refine lend ?_
  refine nseq ?_
  refine dseq ?_
  refine dreg ?_
  refine lread (v := .agg #[.int .i64 e35.Nodes, .slice a42 n42 c42, .slice a44 n44 c44]) rfl (q_load wd_25 rfl) (St.ld X8560 (j := 3) rfl rfl) rfl ?_
  refine lcall rfl rfl ca_23 rfl rfl (f23_ok X8560 e35 6 (H7737.mono (((g7739.trans g7747).trans g8551).trans g8559)) (H7741.mono ((g7747.trans g8551).trans g8559))) rfl (fun e8563 v8564 h8565 hq8566 => ?_)
  cases hq8566
  refine lpure (v := .tuple #[.int .i64 e8563.1, .int .i64 e8563.2]) rfl (p_move rfl) rfl rfl ?_
  refine lpure (v := .int .i64 e8563.1) rfl (p_extract rfl) rfl rfl ?_
  refine lpure (v := .int .i64 e8563.2) rfl (p_extract rfl) rfl rfl ?_
  refine lpure (v := .int .i64 e8563.1) rfl (p_assign rfl) rfl rfl ?_
  refine lpure (v := .int .i64 e8563.2) rfl (p_assign rfl) rfl rfl ?_
  refine lend ?_
  refine nseq ?_
  refine dseq ?_
  refine dreg ?_
  refine lpure (v := .int .i64 e6856.2) rfl (p_move rfl) rfl rfl ?_
  refine lpure (v := .bool (decide (e6856.2 = 0))) rfl (p_eq rfl) rfl rfl ?_
  refine lpure (v := .bool (decide (e6856.2 = 0))) rfl (p_move rfl) rfl rfl ?_
  refine lsh (τ := Bool) (σ := Unit) (fun s8568 (_ : Unit) => [(2, .int .i64 e6856.1), (4, .int .i64 e6900.1), (6, .int .i64 e6949.1), (7, .int .i64 e6949.2), (8, .int .i64 e6998.1), (9, .int .i64 e6998.2), (10, .slice a7749 n7749 c7749), (11, .int .i64 e7742.2), (12, .int .i64 e8220.1), (13, .int .i64 e8220.2), (14, .slice a8561 n8561 c8561), (15, .int .i64 e8554.2), (17, .int .i64 e8563.2), (66, .bool s8568)]) (fun s8568 (_ : Unit) hh => St φ8558 h.n hh ([(ob8561, blk8561), (none, .dead), (ob7749, blk7749), (some b46, .cells [.int .i64 e35.Nodes, .slice a42 n42 c42, .slice a44 n44 c44] 25 .exact), (none, .dead), (none, .dead)])) 3 ?_ ?_
  · rintro s8568 _ t0 h8570 X8569
    refine lpure (v := .bool s8568) rfl (p_move rfl) rfl rfl ?_
    refine lsh (τ := Bool) (σ := Unit) (fun s8572 (_ : Unit) => [(2, .int .i64 e6856.1), (4, .int .i64 e6900.1), (6, .int .i64 e6949.1), (8, .int .i64 e6998.1), (9, .int .i64 e6998.2), (10, .slice a7749 n7749 c7749), (11, .int .i64 e7742.2), (12, .int .i64 e8220.1), (13, .int .i64 e8220.2), (14, .slice a8561 n8561 c8561), (15, .int .i64 e8554.2), (17, .int .i64 e8563.2), (70, .bool s8572)]) (fun s8572 (_ : Unit) hh => St φ8558 h.n hh ([(ob8561, blk8561), (none, .dead), (ob7749, blk7749), (some b46, .cells [.int .i64 e35.Nodes, .slice a42 n42 c42, .slice a44 n44 c44] 25 .exact), (none, .dead), (none, .dead)])) 3 ?_ ?_
    · rintro s8572 _ t0 h8574 X8573
      refine lpure (v := .bool s8572) rfl (p_move rfl) rfl rfl ?_
      refine lsh (τ := Bool) (σ := Unit) (fun s8576 (_ : Unit) => [(2, .int .i64 e6856.1), (4, .int .i64 e6900.1), (6, .int .i64 e6949.1), (8, .int .i64 e6998.1), (10, .slice a7749 n7749 c7749), (11, .int .i64 e7742.2), (12, .int .i64 e8220.1), (13, .int .i64 e8220.2), (14, .slice a8561 n8561 c8561), (15, .int .i64 e8554.2), (17, .int .i64 e8563.2), (74, .bool s8576)]) (fun s8576 (_ : Unit) hh => St φ8558 h.n hh ([(ob8561, blk8561), (none, .dead), (ob7749, blk7749), (some b46, .cells [.int .i64 e35.Nodes, .slice a42 n42 c42, .slice a44 n44 c44] 25 .exact), (none, .dead), (none, .dead)])) 3 ?_ ?_
      · rintro s8576 _ t0 h8578 X8577
        refine lpure (v := .bool s8576) rfl (p_move rfl) rfl rfl ?_
        refine lsh (τ := Bool) (σ := Unit) (fun s8580 (_ : Unit) => [(2, .int .i64 e6856.1), (4, .int .i64 e6900.1), (6, .int .i64 e6949.1), (8, .int .i64 e6998.1), (10, .slice a7749 n7749 c7749), (12, .int .i64 e8220.1), (13, .int .i64 e8220.2), (14, .slice a8561 n8561 c8561), (15, .int .i64 e8554.2), (17, .int .i64 e8563.2), (78, .bool s8580)]) (fun s8580 (_ : Unit) hh => St φ8558 h.n hh ([(ob8561, blk8561), (none, .dead), (ob7749, blk7749), (some b46, .cells [.int .i64 e35.Nodes, .slice a42 n42 c42, .slice a44 n44 c44] 25 .exact), (none, .dead), (none, .dead)])) 3 ?_ ?_
        · rintro s8580 _ t0 h8582 X8581
          refine lpure (v := .bool s8580) rfl (p_move rfl) rfl rfl ?_
          refine lsh (τ := Bool) (σ := Unit) (fun s8584 (_ : Unit) => [(2, .int .i64 e6856.1), (4, .int .i64 e6900.1), (6, .int .i64 e6949.1), (8, .int .i64 e6998.1), (10, .slice a7749 n7749 c7749), (12, .int .i64 e8220.1), (14, .slice a8561 n8561 c8561), (15, .int .i64 e8554.2), (17, .int .i64 e8563.2), (82, .bool s8584)]) (fun s8584 (_ : Unit) hh => St φ8558 h.n hh ([(ob8561, blk8561), (none, .dead), (ob7749, blk7749), (some b46, .cells [.int .i64 e35.Nodes, .slice a42 n42 c42, .slice a44 n44 c44] 25 .exact), (none, .dead), (none, .dead)])) 3 ?_ ?_
          · rintro s8584 _ t0 h8586 X8585
            refine lpure (v := .bool s8584) rfl (p_move rfl) rfl rfl ?_
            refine lsh (τ := Bool) (σ := Unit) (fun s8588 (_ : Unit) => [(2, .int .i64 e6856.1), (4, .int .i64 e6900.1), (6, .int .i64 e6949.1), (8, .int .i64 e6998.1), (10, .slice a7749 n7749 c7749), (12, .int .i64 e8220.1), (14, .slice a8561 n8561 c8561), (17, .int .i64 e8563.2), (86, .bool s8588)]) (fun s8588 (_ : Unit) hh => St φ8558 h.n hh ([(ob8561, blk8561), (none, .dead), (ob7749, blk7749), (some b46, .cells [.int .i64 e35.Nodes, .slice a42 n42 c42, .slice a44 n44 c44] 25 .exact), (none, .dead), (none, .dead)])) 3 ?_ ?_
            · rintro s8588 _ t0 h8590 X8589
              refine lpure (v := .bool s8588) rfl (p_assign rfl) rfl rfl ?_
              refine lend ?_
              refine nseq ?_
              refine dseq ?_
              refine dreg ?_
              refine lpure (v := .bool s8588) rfl (p_move rfl) rfl rfl ?_
              refine lpure (v := .bool s8588) rfl (p_move rfl) rfl rfl ?_
              refine lsh (τ := Bool) (σ := Unit) (fun s8592 (_ : Unit) => [(4, .int .i64 e6900.1), (6, .int .i64 e6949.1), (8, .int .i64 e6998.1), (10, .slice a7749 n7749 c7749), (12, .int .i64 e8220.1), (14, .slice a8561 n8561 c8561), (17, .int .i64 e8563.2), (91, .bool s8592)]) (fun s8592 (_ : Unit) hh => St φ8558 h.n hh ([(ob8561, blk8561), (none, .dead), (ob7749, blk7749), (some b46, .cells [.int .i64 e35.Nodes, .slice a42 n42 c42, .slice a44 n44 c44] 25 .exact), (none, .dead), (none, .dead)])) 3 ?_ ?_
              · rintro s8592 _ t0 h8594 X8593
                refine lpure (v := .bool s8592) rfl (p_move rfl) rfl rfl ?_
                refine lsh (τ := Bool) (σ := Unit) (fun s8596 (_ : Unit) => [(6, .int .i64 e6949.1), (8, .int .i64 e6998.1), (10, .slice a7749 n7749 c7749), (12, .int .i64 e8220.1), (14, .slice a8561 n8561 c8561), (17, .int .i64 e8563.2), (95, .bool s8596)]) (fun s8596 (_ : Unit) hh => St φ8558 h.n hh ([(ob8561, blk8561), (none, .dead), (ob7749, blk7749), (some b46, .cells [.int .i64 e35.Nodes, .slice a42 n42 c42, .slice a44 n44 c44] 25 .exact), (none, .dead), (none, .dead)])) 3 ?_ ?_
                · rintro s8596 _ t0 h8598 X8597
                  refine lpure (v := .bool s8596) rfl (p_move rfl) rfl rfl ?_
                  refine lsh (τ := Bool) (σ := Unit) (fun s8600 (_ : Unit) => [(8, .int .i64 e6998.1), (10, .slice a7749 n7749 c7749), (12, .int .i64 e8220.1), (14, .slice a8561 n8561 c8561), (17, .int .i64 e8563.2), (99, .bool s8600)]) (fun s8600 (_ : Unit) hh => St φ8558 h.n hh ([(ob8561, blk8561), (none, .dead), (ob7749, blk7749), (some b46, .cells [.int .i64 e35.Nodes, .slice a42 n42 c42, .slice a44 n44 c44] 25 .exact), (none, .dead), (none, .dead)])) 3 ?_ ?_
                  · rintro s8600 _ t0 h8602 X8601
                    refine lpure (v := .bool s8600) rfl (p_move rfl) rfl rfl ?_
                    refine lsh (τ := Bool) (σ := Unit) (fun s8604 (_ : Unit) => [(10, .slice a7749 n7749 c7749), (12, .int .i64 e8220.1), (14, .slice a8561 n8561 c8561), (17, .int .i64 e8563.2), (103, .bool s8604)]) (fun s8604 (_ : Unit) hh => St φ8558 h.n hh ([(ob8561, blk8561), (none, .dead), (ob7749, blk7749), (some b46, .cells [.int .i64 e35.Nodes, .slice a42 n42 c42, .slice a44 n44 c44] 25 .exact), (none, .dead), (none, .dead)])) 3 ?_ ?_
                    · rintro s8604 _ t0 h8606 X8605
                      refine lpure (v := .bool s8604) rfl (p_move rfl) rfl rfl ?_
                      refine ljoinM (τ := Bool) (σ := Unit) (fun s8674 (_ : Unit) => [(12, .int .i64 e8220.1), (14, .slice a8561 n8561 c8561), (17, .int .i64 e8563.2), (108, .bool s8674)]) (fun s8674 (_ : Unit) hh => St φ8558 h.n hh ([(ob8561, blk8561), (none, .dead), (ob7749, blk7749), (some b46, .cells [.int .i64 e35.Nodes, .slice a42 n42 c42, .slice a44 n44 c44] 25 .exact), (none, .dead), (none, .dead)])) 4 ?_ ?_
                      · rintro s8674 _ t0 h8676 X8675
                        refine lpure (v := .bool s8674) rfl (p_move rfl) rfl rfl ?_
                        refine lsh (τ := Bool) (σ := Unit) (fun s8678 (_ : Unit) => [(14, .slice a8561 n8561 c8561), (17, .int .i64 e8563.2), (112, .bool s8678)]) (fun s8678 (_ : Unit) hh => St φ8558 h.n hh ([(ob8561, blk8561), (none, .dead), (ob7749, blk7749), (some b46, .cells [.int .i64 e35.Nodes, .slice a42 n42 c42, .slice a44 n44 c44] 25 .exact), (none, .dead), (none, .dead)])) 3 ?_ ?_
                        · rintro s8678 _ t0 h8680 X8679
                          refine lpure (v := .bool s8678) rfl (p_move rfl) rfl rfl ?_
                          refine ljoinM (τ := Bool) (σ := Unit) (fun s8748 (_ : Unit) => [(17, .int .i64 e8563.2), (117, .bool s8748)]) (fun s8748 (_ : Unit) hh => St φ8558 h.n hh ([(ob8561, blk8561), (none, .dead), (ob7749, blk7749), (some b46, .cells [.int .i64 e35.Nodes, .slice a42 n42 c42, .slice a44 n44 c44] 25 .exact), (none, .dead), (none, .dead)])) 4 ?_ ?_
                          · rintro s8748 _ t0 h8750 X8749
                            refine lpure (v := .bool s8748) rfl (p_move rfl) rfl rfl ?_
                            refine lsh (τ := Bool) (σ := Unit) (fun s8752 (_ : Unit) => [(121, .bool s8752)]) (fun s8752 (_ : Unit) hh => St φ8558 h.n hh ([(ob8561, blk8561), (none, .dead), (ob7749, blk7749), (some b46, .cells [.int .i64 e35.Nodes, .slice a42 n42 c42, .slice a44 n44 c44] 25 .exact), (none, .dead), (none, .dead)])) 3 ?_ ?_
                            · rintro s8752 _ t0 h8754 X8753
                              refine lpure (v := .bool s8752) rfl (p_move rfl) rfl rfl ?_
                              refine ljoinM (τ := Bool) (σ := Unit) (fun s8761 (_ : Unit) => [(126, .bool s8761)]) (fun s8761 (_ : Unit) hh => St φ8558 h.n hh ([(ob8561, blk8561), (none, .dead), (ob7749, blk7749), (some b46, .cells [.int .i64 e35.Nodes, .slice a42 n42 c42, .slice a44 n44 c44] 25 .exact), (none, .dead), (none, .dead)])) 4 ?_ ?_
                              · rintro s8761 _ t0 h8763 X8762
                                refine lpure (v := .bool s8761) rfl (p_assign rfl) rfl rfl ?_
                                refine lend ?_
                                refine nseq ?_
                                refine dret ?_
                                exact kcut_r (res_1 resT) X8762 rfl rfl
                              · intro j8764 J8765
                                refine lif (i := 122) (show _ = Value.bool s8752 from rfl) (fun k8766 => ?_) (fun k8766 => ?_)
                                · refine lpure (v := .agg #[.int .i64 0, .slice none 0 0, .slice none 0 0]) rfl (p_build rfl) (build_st' tz_25 pl_25 rfl) rfl ?_
                                  refine lcall rfl rfl ca_34 rfl rfl (f34_ok X8753 ((ApiTopo.mk 0 [] [])) (.inl ⟨rfl, rfl⟩) (.inl ⟨rfl, rfl⟩)) rfl (fun e8767 v8768 h8769 hq8770 => ?_)
                                  cases hq8770
                                  refine lpure (v := .bool (decide (e8767 = 260))) rfl (p_eq rfl) rfl rfl ?_
                                  refine lpure (v := .bool (decide (e8767 = 260))) rfl (p_pick rfl) rfl rfl ?_
                                  exact ljmpM J8765 (decide (e8767 = 260)) () (sub_cons rfl sub_nil) (St.pick X8753 (.keep _ (.none _ (.skip _ (.keep _ (.keep _ (.none _ (.none _ (.nil _)))))))))
                                · refine lskip rfl rfl ?_
                                  refine lskip rfl rfl ?_
                                  refine lskip rfl rfl ?_
                                  refine lpure (v := .bool false) rfl (p_pick rfl) rfl rfl ?_
                                  exact ljmpM J8765 false () (sub_cons rfl sub_nil) (St.pick X8753 (.keep _ (.none _ (.skip _ (.keep _ (.keep _ (.none _ (.none _ (.nil _)))))))))
                            · intro j8771 J8772
                              refine lcase (i := 118) (show _ = Value.bool s8748 from rfl) (fun k8773 => ?_) (fun k8773 => ?_)
                              · refine lpure (v := .int .i64 e8563.2) rfl (p_move rfl) rfl rfl ?_
                                refine lpure (v := .bool (decide (e8563.2 = 2))) rfl (p_eq rfl) rfl rfl ?_
                                refine lpure (v := .bool (decide (e8563.2 = 2))) rfl (p_pick rfl) rfl rfl ?_
                                refine Sim.of_eq (congrArg j8771 (show (s8748 && (decide (e8563.2 = 2))) = (decide (e8563.2 = 2)) from by rw [k8773] <;> rfl)) ?_
                                exact ljmpM J8772 (decide (e8563.2 = 2)) () (sub_cons rfl sub_nil) (St.pick X8749 (.keep _ (.none _ (.skip _ (.keep _ (.keep _ (.none _ (.none _ (.nil _)))))))))
                              · refine lskip rfl rfl ?_
                                refine lskip rfl rfl ?_
                                refine lpure (v := .bool false) rfl (p_pick rfl) rfl rfl ?_
                                refine Sim.of_eq (congrArg j8771 (show (s8748 && (decide (e8563.2 = 2))) = false from by rw [k8773] <;> rfl)) ?_
                                exact ljmpM J8772 false () (sub_cons rfl sub_nil) (St.pick X8749 (.keep _ (.none _ (.skip _ (.keep _ (.keep _ (.none _ (.none _ (.nil _)))))))))
                          · intro j8774 J8775
                            refine lif (i := 113) (show _ = Value.bool s8678 from rfl) (fun k8776 => ?_) (fun k8776 => ?_)
                            · refine lpure (v := .slice a8561 n8561 c8561) rfl (p_move rfl) rfl rfl ?_
                              obtain ⟨h8777, b8777, hv8777, X8777, O8777⟩ := OSl.lay (E := eBool) (φ := φ8558) (cs := [.bool true, .bool true, .bool false, .bool false]) (l := [true, true, false, false]) (len := 4) (parts := [(0, .bool true), (1, .bool true), (2, .bool false), (3, .bool false)]) un_22 ts_4 rfl rfl rfl tz_4 rfl rfl (show RowD eBool φ8558 [.bool true, .bool true, .bool false, .bool false] [true, true, false, false] from ⟨[.bool true], _, rfl, rfl, ⟨[.bool true], _, rfl, rfl, ⟨[.bool false], _, rfl, rfl, ⟨[.bool false], _, rfl, rfl, rfl⟩⟩⟩⟩) rfl rfl X8679
                              refine lheap rfl (h_buildSlice rfl) hv8777 rfl ?_
                              obtain ⟨φ8779, g8780, X8781, H8782⟩ := OSl.freeze X8777 (j := 1) rfl O8561
                              obtain ⟨φ8783, g8784, X8785, H8786⟩ := OSl.freeze X8781 (j := 0) rfl (O8777.mono g8780)
                              refine lcall rfl rfl ca_18 rfl rfl (f18_ok X8785 (e8554.1) ([true, true, false, false]) (H8782.mono g8784) H8786) rfl (fun e8787 v8788 h8789 hq8790 => ?_)
                              cases hq8790
                              refine lpure (v := .bool e8787) rfl (p_pick rfl) rfl rfl ?_
                              exact ljmpM J8775 e8787 () (sub_cons rfl (sub_cons rfl sub_nil)) (St.pick X8777 (.skip _ (.keep _ (.none _ (.skip _ (.keep _ (.keep _ (.none _ (.none _ (.nil _))))))))))
                            · refine lskip rfl rfl ?_
                              refine lskip rfl rfl ?_
                              refine lskip rfl rfl ?_
                              refine lpure (v := .bool false) rfl (p_pick rfl) rfl rfl ?_
                              exact ljmpM J8775 false () (sub_cons rfl (sub_cons rfl sub_nil)) (St.pick X8679 (.keep _ (.none _ (.skip _ (.keep _ (.keep _ (.none _ (.none _ (.nil _)))))))))
                        · intro j8791 J8792
                          refine lcase (i := 109) (show _ = Value.bool s8674 from rfl) (fun k8793 => ?_) (fun k8793 => ?_)
                          · refine lpure (v := .int .i64 e8220.1) rfl (p_move rfl) rfl rfl ?_
                            refine lpure (v := .bool (decide (e8220.1 = 3))) rfl (p_eq rfl) rfl rfl ?_
                            refine lpure (v := .bool (decide (e8220.1 = 3))) rfl (p_pick rfl) rfl rfl ?_
                            refine Sim.of_eq (congrArg j8791 (show (s8674 && (decide (e8220.1 = 3))) = (decide (e8220.1 = 3)) from by rw [k8793] <;> rfl)) ?_
                            exact ljmpM J8792 (decide (e8220.1 = 3)) () (sub_cons rfl (sub_cons rfl (sub_cons rfl sub_nil))) (St.pick X8675 (.keep _ (.none _ (.skip _ (.keep _ (.keep _ (.none _ (.none _ (.nil _)))))))))
                          · refine lskip rfl rfl ?_
                            refine lskip rfl rfl ?_
                            refine lpure (v := .bool false) rfl (p_pick rfl) rfl rfl ?_
                            refine Sim.of_eq (congrArg j8791 (show (s8674 && (decide (e8220.1 = 3))) = false from by rw [k8793] <;> rfl)) ?_
                            exact ljmpM J8792 false () (sub_cons rfl (sub_cons rfl (sub_cons rfl sub_nil))) (St.pick X8675 (.keep _ (.none _ (.skip _ (.keep _ (.keep _ (.none _ (.none _ (.nil _)))))))))
                      · intro j8794 J8795
                        refine lif (i := 104) (show _ = Value.bool s8604 from rfl) (fun k8796 => ?_) (fun k8796 => ?_)
                        · refine lpure (v := .slice a7749 n7749 c7749) rfl (p_move rfl) rfl rfl ?_
                          obtain ⟨h8797, b8797, hv8797, X8797, O8797⟩ := OSl.lay (E := (eInt .i64)) (φ := φ8558) (cs := [.int .i64 1, .int .i64 2]) (l := [1, 2]) (len := 2) (parts := [(0, .int .i64 1), (1, .int .i64 2)]) un_28 ts_3 rfl rfl rfl tz_3 rfl rfl (show RowD (eInt .i64) φ8558 [.int .i64 1, .int .i64 2] [1, 2] from ⟨[.int .i64 1], _, rfl, rfl, ⟨[.int .i64 2], _, rfl, rfl, rfl⟩⟩) rfl rfl X8605
                          refine lheap rfl (h_buildSlice rfl) hv8797 rfl ?_
                          obtain ⟨φ8799, g8800, X8801, H8802⟩ := OSl.freeze X8797 (j := 3) rfl (O7749.mono (g8551.trans g8559))
                          obtain ⟨φ8803, g8804, X8805, H8806⟩ := OSl.freeze X8801 (j := 0) rfl (O8797.mono g8800)
                          refine lcall rfl rfl ca_14 rfl rfl (f14_ok X8805 (e7742.1) ([1, 2]) (H8802.mono g8804) H8806) rfl (fun e8807 v8808 h8809 hq8810 => ?_)
                          cases hq8810
                          refine lpure (v := .bool e8807) rfl (p_pick rfl) rfl rfl ?_
                          exact ljmpM J8795 e8807 () (sub_cons rfl (sub_cons rfl (sub_cons rfl (sub_cons rfl sub_nil)))) (St.pick X8797 (.skip _ (.keep _ (.none _ (.skip _ (.keep _ (.keep _ (.none _ (.none _ (.nil _))))))))))
                        · refine lskip rfl rfl ?_
                          refine lskip rfl rfl ?_
                          refine lskip rfl rfl ?_
                          refine lpure (v := .bool false) rfl (p_pick rfl) rfl rfl ?_
                          exact ljmpM J8795 false () (sub_cons rfl (sub_cons rfl (sub_cons rfl (sub_cons rfl sub_nil)))) (St.pick X8605 (.keep _ (.none _ (.skip _ (.keep _ (.keep _ (.none _ (.none _ (.nil _)))))))))
                    · intro j8811 J8812
                      refine lcase (i := 100) (show _ = Value.bool s8600 from rfl) (fun k8813 => ?_) (fun k8813 => ?_)
                      · refine lpure (v := .int .i64 e6998.1) rfl (p_move rfl) rfl rfl ?_
                        refine lpure (v := .bool (decide (e6998.1 = 7))) rfl (p_eq rfl) rfl rfl ?_
                        refine lpure (v := .bool (decide (e6998.1 = 7))) rfl (p_pick rfl) rfl rfl ?_
                        refine Sim.of_eq (congrArg j8811 (show (s8600 && (decide (e6998.1 = 7))) = (decide (e6998.1 = 7)) from by rw [k8813] <;> rfl)) ?_
                        exact ljmpM J8812 (decide (e6998.1 = 7)) () (sub_cons rfl (sub_cons rfl (sub_cons rfl (sub_cons rfl (sub_cons rfl sub_nil))))) (St.pick X8601 (.keep _ (.none _ (.skip _ (.keep _ (.keep _ (.none _ (.none _ (.nil _)))))))))
                      · refine lskip rfl rfl ?_
                        refine lskip rfl rfl ?_
                        refine lpure (v := .bool false) rfl (p_pick rfl) rfl rfl ?_
                        refine Sim.of_eq (congrArg j8811 (show (s8600 && (decide (e6998.1 = 7))) = false from by rw [k8813] <;> rfl)) ?_
                        exact ljmpM J8812 false () (sub_cons rfl (sub_cons rfl (sub_cons rfl (sub_cons rfl (sub_cons rfl sub_nil))))) (St.pick X8601 (.keep _ (.none _ (.skip _ (.keep _ (.keep _ (.none _ (.none _ (.nil _)))))))))
                  · intro j8814 J8815
                    refine lcase (i := 96) (show _ = Value.bool s8596 from rfl) (fun k8816 => ?_) (fun k8816 => ?_)
                    · refine lpure (v := .int .i64 e6949.1) rfl (p_move rfl) rfl rfl ?_
                      refine lpure (v := .bool (decide (e6949.1 = 80))) rfl (p_eq rfl) rfl rfl ?_
                      refine lpure (v := .bool (decide (e6949.1 = 80))) rfl (p_pick rfl) rfl rfl ?_
                      refine Sim.of_eq (congrArg j8814 (show (s8596 && (decide (e6949.1 = 80))) = (decide (e6949.1 = 80)) from by rw [k8816] <;> rfl)) ?_
                      exact ljmpM J8815 (decide (e6949.1 = 80)) () (sub_cons rfl (sub_cons rfl (sub_cons rfl (sub_cons rfl (sub_cons rfl (sub_cons rfl sub_nil)))))) (St.pick X8597 (.keep _ (.none _ (.skip _ (.keep _ (.keep _ (.none _ (.none _ (.nil _)))))))))
                    · refine lskip rfl rfl ?_
                      refine lskip rfl rfl ?_
                      refine lpure (v := .bool false) rfl (p_pick rfl) rfl rfl ?_
                      refine Sim.of_eq (congrArg j8814 (show (s8596 && (decide (e6949.1 = 80))) = false from by rw [k8816] <;> rfl)) ?_
                      exact ljmpM J8815 false () (sub_cons rfl (sub_cons rfl (sub_cons rfl (sub_cons rfl (sub_cons rfl (sub_cons rfl sub_nil)))))) (St.pick X8597 (.keep _ (.none _ (.skip _ (.keep _ (.keep _ (.none _ (.none _ (.nil _)))))))))
                · intro j8817 J8818
                  refine lcase (i := 92) (show _ = Value.bool s8592 from rfl) (fun k8819 => ?_) (fun k8819 => ?_)
                  · refine lpure (v := .int .i64 e6900.1) rfl (p_move rfl) rfl rfl ?_
                    refine lpure (v := .bool (decide (e6900.1 = 1))) rfl (p_eq rfl) rfl rfl ?_
                    refine lpure (v := .bool (decide (e6900.1 = 1))) rfl (p_pick rfl) rfl rfl ?_
                    refine Sim.of_eq (congrArg j8817 (show (s8592 && (decide (e6900.1 = 1))) = (decide (e6900.1 = 1)) from by rw [k8819] <;> rfl)) ?_
                    exact ljmpM J8818 (decide (e6900.1 = 1)) () (sub_cons rfl (sub_cons rfl (sub_cons rfl (sub_cons rfl (sub_cons rfl (sub_cons rfl (sub_cons rfl sub_nil))))))) (St.pick X8593 (.keep _ (.none _ (.skip _ (.keep _ (.keep _ (.none _ (.none _ (.nil _)))))))))
                  · refine lskip rfl rfl ?_
                    refine lskip rfl rfl ?_
                    refine lpure (v := .bool false) rfl (p_pick rfl) rfl rfl ?_
                    refine Sim.of_eq (congrArg j8817 (show (s8592 && (decide (e6900.1 = 1))) = false from by rw [k8819] <;> rfl)) ?_
                    exact ljmpM J8818 false () (sub_cons rfl (sub_cons rfl (sub_cons rfl (sub_cons rfl (sub_cons rfl (sub_cons rfl (sub_cons rfl sub_nil))))))) (St.pick X8593 (.keep _ (.none _ (.skip _ (.keep _ (.keep _ (.none _ (.none _ (.nil _)))))))))
              · intro j8820 J8821
                refine lcase (i := 88) (show _ = Value.bool s8588 from rfl) (fun k8822 => ?_) (fun k8822 => ?_)
                · refine lpure (v := .int .i64 e6856.1) rfl (p_move rfl) rfl rfl ?_
                  refine lpure (v := .bool (decide (e6856.1 = 0))) rfl (p_eq rfl) rfl rfl ?_
                  refine lpure (v := .bool (decide (e6856.1 = 0))) rfl (p_pick rfl) rfl rfl ?_
                  refine Sim.of_eq (congrArg j8820 (show (s8588 && (decide (e6856.1 = 0))) = (decide (e6856.1 = 0)) from by rw [k8822] <;> rfl)) ?_
                  exact ljmpM J8821 (decide (e6856.1 = 0)) () (sub_cons rfl (sub_cons rfl (sub_cons rfl (sub_cons rfl (sub_cons rfl (sub_cons rfl (sub_cons rfl (sub_cons rfl sub_nil)))))))) (St.pick X8589 (.keep _ (.none _ (.skip _ (.keep _ (.keep _ (.none _ (.none _ (.nil _)))))))))
                · refine lskip rfl rfl ?_
                  refine lskip rfl rfl ?_
                  refine lpure (v := .bool false) rfl (p_pick rfl) rfl rfl ?_
                  refine Sim.of_eq (congrArg j8820 (show (s8588 && (decide (e6856.1 = 0))) = false from by rw [k8822] <;> rfl)) ?_
                  exact ljmpM J8821 false () (sub_cons rfl (sub_cons rfl (sub_cons rfl (sub_cons rfl (sub_cons rfl (sub_cons rfl (sub_cons rfl (sub_cons rfl sub_nil)))))))) (St.pick X8589 (.keep _ (.none _ (.skip _ (.keep _ (.keep _ (.none _ (.none _ (.nil _)))))))))
            · intro j8823 J8824
              refine lcase (i := 83) (show _ = Value.bool s8584 from rfl) (fun k8825 => ?_) (fun k8825 => ?_)
              · refine lpure (v := .int .i64 e8554.2) rfl (p_move rfl) rfl rfl ?_
                refine lpure (v := .bool (decide (e8554.2 = 0))) rfl (p_eq rfl) rfl rfl ?_
                refine lpure (v := .bool (decide (e8554.2 = 0))) rfl (p_pick rfl) rfl rfl ?_
                refine Sim.of_eq (congrArg j8823 (show (s8584 && (decide (e8554.2 = 0))) = (decide (e8554.2 = 0)) from by rw [k8825] <;> rfl)) ?_
                exact ljmpM J8824 (decide (e8554.2 = 0)) () (sub_cons rfl (sub_cons rfl (sub_cons rfl (sub_cons rfl (sub_cons rfl (sub_cons rfl (sub_cons rfl (sub_cons rfl (sub_cons rfl sub_nil))))))))) (St.pick X8585 (.keep _ (.none _ (.skip _ (.keep _ (.keep _ (.none _ (.none _ (.nil _)))))))))
              · refine lskip rfl rfl ?_
                refine lskip rfl rfl ?_
                refine lpure (v := .bool false) rfl (p_pick rfl) rfl rfl ?_
                refine Sim.of_eq (congrArg j8823 (show (s8584 && (decide (e8554.2 = 0))) = false from by rw [k8825] <;> rfl)) ?_
                exact ljmpM J8824 false () (sub_cons rfl (sub_cons rfl (sub_cons rfl (sub_cons rfl (sub_cons rfl (sub_cons rfl (sub_cons rfl (sub_cons rfl (sub_cons rfl sub_nil))))))))) (St.pick X8585 (.keep _ (.none _ (.skip _ (.keep _ (.keep _ (.none _ (.none _ (.nil _)))))))))
          · intro j8826 J8827
            refine lcase (i := 79) (show _ = Value.bool s8580 from rfl) (fun k8828 => ?_) (fun k8828 => ?_)
            · refine lpure (v := .int .i64 e8220.2) rfl (p_move rfl) rfl rfl ?_
              refine lpure (v := .bool (decide (e8220.2 = 0))) rfl (p_eq rfl) rfl rfl ?_
              refine lpure (v := .bool (decide (e8220.2 = 0))) rfl (p_pick rfl) rfl rfl ?_
              refine Sim.of_eq (congrArg j8826 (show (s8580 && (decide (e8220.2 = 0))) = (decide (e8220.2 = 0)) from by rw [k8828] <;> rfl)) ?_
              exact ljmpM J8827 (decide (e8220.2 = 0)) () (sub_cons rfl (sub_cons rfl (sub_cons rfl (sub_cons rfl (sub_cons rfl (sub_cons rfl (sub_cons rfl (sub_cons rfl (sub_cons rfl (sub_cons rfl sub_nil)))))))))) (St.pick X8581 (.keep _ (.none _ (.skip _ (.keep _ (.keep _ (.none _ (.none _ (.nil _)))))))))
            · refine lskip rfl rfl ?_
              refine lskip rfl rfl ?_
              refine lpure (v := .bool false) rfl (p_pick rfl) rfl rfl ?_
              refine Sim.of_eq (congrArg j8826 (show (s8580 && (decide (e8220.2 = 0))) = false from by rw [k8828] <;> rfl)) ?_
              exact ljmpM J8827 false () (sub_cons rfl (sub_cons rfl (sub_cons rfl (sub_cons rfl (sub_cons rfl (sub_cons rfl (sub_cons rfl (sub_cons rfl (sub_cons rfl (sub_cons rfl sub_nil)))))))))) (St.pick X8581 (.keep _ (.none _ (.skip _ (.keep _ (.keep _ (.none _ (.none _ (.nil _)))))))))
        · intro j8829 J8830
          refine lcase (i := 75) (show _ = Value.bool s8576 from rfl) (fun k8831 => ?_) (fun k8831 => ?_)
          · refine lpure (v := .int .i64 e7742.2) rfl (p_move rfl) rfl rfl ?_
            refine lpure (v := .bool (decide (e7742.2 = 0))) rfl (p_eq rfl) rfl rfl ?_
            refine lpure (v := .bool (decide (e7742.2 = 0))) rfl (p_pick rfl) rfl rfl ?_
            refine Sim.of_eq (congrArg j8829 (show (s8576 && (decide (e7742.2 = 0))) = (decide (e7742.2 = 0)) from by rw [k8831] <;> rfl)) ?_
            exact ljmpM J8830 (decide (e7742.2 = 0)) () (sub_cons rfl (sub_cons rfl (sub_cons rfl (sub_cons rfl (sub_cons rfl (sub_cons rfl (sub_cons rfl (sub_cons rfl (sub_cons rfl (sub_cons rfl (sub_cons rfl sub_nil))))))))))) (St.pick X8577 (.keep _ (.none _ (.skip _ (.keep _ (.keep _ (.none _ (.none _ (.nil _)))))))))
          · refine lskip rfl rfl ?_
            refine lskip rfl rfl ?_
            refine lpure (v := .bool false) rfl (p_pick rfl) rfl rfl ?_
            refine Sim.of_eq (congrArg j8829 (show (s8576 && (decide (e7742.2 = 0))) = false from by rw [k8831] <;> rfl)) ?_
            exact ljmpM J8830 false () (sub_cons rfl (sub_cons rfl (sub_cons rfl (sub_cons rfl (sub_cons rfl (sub_cons rfl (sub_cons rfl (sub_cons rfl (sub_cons rfl (sub_cons rfl (sub_cons rfl sub_nil))))))))))) (St.pick X8577 (.keep _ (.none _ (.skip _ (.keep _ (.keep _ (.none _ (.none _ (.nil _)))))))))
      · intro j8832 J8833
        refine lcase (i := 71) (show _ = Value.bool s8572 from rfl) (fun k8834 => ?_) (fun k8834 => ?_)
        · refine lpure (v := .int .i64 e6998.2) rfl (p_move rfl) rfl rfl ?_
          refine lpure (v := .bool (decide (e6998.2 = 0))) rfl (p_eq rfl) rfl rfl ?_
          refine lpure (v := .bool (decide (e6998.2 = 0))) rfl (p_pick rfl) rfl rfl ?_
          refine Sim.of_eq (congrArg j8832 (show (s8572 && (decide (e6998.2 = 0))) = (decide (e6998.2 = 0)) from by rw [k8834] <;> rfl)) ?_
          exact ljmpM J8833 (decide (e6998.2 = 0)) () (sub_cons rfl (sub_cons rfl (sub_cons rfl (sub_cons rfl (sub_cons rfl (sub_cons rfl (sub_cons rfl (sub_cons rfl (sub_cons rfl (sub_cons rfl (sub_cons rfl (sub_cons rfl sub_nil)))))))))))) (St.pick X8573 (.keep _ (.none _ (.skip _ (.keep _ (.keep _ (.none _ (.none _ (.nil _)))))))))
        · refine lskip rfl rfl ?_
          refine lskip rfl rfl ?_
          refine lpure (v := .bool false) rfl (p_pick rfl) rfl rfl ?_
          refine Sim.of_eq (congrArg j8832 (show (s8572 && (decide (e6998.2 = 0))) = false from by rw [k8834] <;> rfl)) ?_
          exact ljmpM J8833 false () (sub_cons rfl (sub_cons rfl (sub_cons rfl (sub_cons rfl (sub_cons rfl (sub_cons rfl (sub_cons rfl (sub_cons rfl (sub_cons rfl (sub_cons rfl (sub_cons rfl (sub_cons rfl sub_nil)))))))))))) (St.pick X8573 (.keep _ (.none _ (.skip _ (.keep _ (.keep _ (.none _ (.none _ (.nil _)))))))))
    · intro j8835 J8836
      refine lcase (i := 67) (show _ = Value.bool s8568 from rfl) (fun k8837 => ?_) (fun k8837 => ?_)
      · refine lpure (v := .int .i64 e6949.2) rfl (p_move rfl) rfl rfl ?_
        refine lpure (v := .bool (decide (e6949.2 = 0))) rfl (p_eq rfl) rfl rfl ?_
        refine lpure (v := .bool (decide (e6949.2 = 0))) rfl (p_pick rfl) rfl rfl ?_
        refine Sim.of_eq (congrArg j8835 (show (s8568 && (decide (e6949.2 = 0))) = (decide (e6949.2 = 0)) from by rw [k8837] <;> rfl)) ?_
        exact ljmpM J8836 (decide (e6949.2 = 0)) () (sub_cons rfl (sub_cons rfl (sub_cons rfl (sub_cons rfl (sub_cons rfl (sub_cons rfl (sub_cons rfl (sub_cons rfl (sub_cons rfl (sub_cons rfl (sub_cons rfl (sub_cons rfl (sub_cons rfl sub_nil))))))))))))) (St.pick X8569 (.keep _ (.none _ (.skip _ (.keep _ (.keep _ (.none _ (.none _ (.nil _)))))))))
      · refine lskip rfl rfl ?_
        refine lskip rfl rfl ?_
        refine lpure (v := .bool false) rfl (p_pick rfl) rfl rfl ?_
        refine Sim.of_eq (congrArg j8835 (show (s8568 && (decide (e6949.2 = 0))) = false from by rw [k8837] <;> rfl)) ?_
        exact ljmpM J8836 false () (sub_cons rfl (sub_cons rfl (sub_cons rfl (sub_cons rfl (sub_cons rfl (sub_cons rfl (sub_cons rfl (sub_cons rfl (sub_cons rfl (sub_cons rfl (sub_cons rfl (sub_cons rfl (sub_cons rfl sub_nil))))))))))))) (St.pick X8569 (.keep _ (.none _ (.skip _ (.keep _ (.keep _ (.none _ (.none _ (.nil _)))))))))
  · intro j8838 J8839
    refine lcase (i := 63) (show _ = Value.bool (decide (e6856.2 = 0)) from rfl) (fun k8840 => ?_) (fun k8840 => ?_)
    · refine lpure (v := .int .i64 e6900.2) rfl (p_move rfl) rfl rfl ?_
      refine lpure (v := .bool (decide (e6900.2 = 0))) rfl (p_eq rfl) rfl rfl ?_
      refine lpure (v := .bool (decide (e6900.2 = 0))) rfl (p_pick rfl) rfl rfl ?_
      refine Sim.of_eq (congrArg j8838 (show ((decide (e6856.2 = 0)) && (decide (e6900.2 = 0))) = (decide (e6900.2 = 0)) from by rw [k8840] <;> rfl)) ?_
      exact ljmpM J8839 (decide (e6900.2 = 0)) () (sub_cons rfl (sub_cons rfl (sub_cons rfl (sub_cons rfl (sub_cons rfl (sub_cons rfl (sub_cons rfl (sub_cons rfl (sub_cons rfl (sub_cons rfl (sub_cons rfl (sub_cons rfl (sub_cons rfl (sub_cons rfl sub_nil)))))))))))))) (St.pick X8560 (.keep _ (.none _ (.skip _ (.keep _ (.keep _ (.none _ (.none _ (.nil _)))))))))
    · refine lskip rfl rfl ?_
      refine lskip rfl rfl ?_
      refine lpure (v := .bool false) rfl (p_pick rfl) rfl rfl ?_
      refine Sim.of_eq (congrArg j8838 (show ((decide (e6856.2 = 0)) && (decide (e6900.2 = 0))) = false from by rw [k8840] <;> rfl)) ?_
      exact ljmpM J8839 false () (sub_cons rfl (sub_cons rfl (sub_cons rfl (sub_cons rfl (sub_cons rfl (sub_cons rfl (sub_cons rfl (sub_cons rfl (sub_cons rfl (sub_cons rfl (sub_cons rfl (sub_cons rfl (sub_cons rfl (sub_cons rfl sub_nil)))))))))))))) (St.pick X8560 (.keep _ (.none _ (.skip _ (.keep _ (.keep _ (.none _ (.none _ (.nil _)))))))))
/-! isochron/isochronlaw16.few -/
theorem f10_ok {n : Nat} {φ : Fz} {lo : Nat} {h : Heap} {own : OwnL} (X : St φ lo h own) (p8869 : ApiTopo) {a8870 : Option Addr} {n8870 c8870 : Nat} {a8871 : Option Addr} {n8871 c8871 : Nat} (H8870 : RSl eBool φ (.slice a8870 n8870 c8870) p8869.Station) (H8871 : RSl eApiLink φ (.slice a8871 n8871 c8871) p8869.Links) (K8870 : c8870 < unk) (K8871 : c8871 < unk) : Sim ((recN Try.prog LL cutF (n + 1)).call 10 #[(.agg #[.int .i64 p8869.Nodes, .slice a8870 n8870 c8870, .slice a8871 n8871 c8871])] h) (m_isochronlaw16_few p8869) (fun (d : ApiTopo) p => ∃ a8888 : Option Addr, ∃ n8888 : Nat, ∃ c8888 : Nat, ∃ a8889 : Option Addr, ∃ n8889 : Nat, ∃ c8889 : Nat, p = (.agg #[.int .i64 d.Nodes, .slice a8888 n8888 c8888, .slice a8889 n8889 c8889], h) ∧ RSl eBool φ (.slice a8888 n8888 c8888) d.Station ∧ RSl eApiLink φ (.slice a8889 n8889 c8889) d.Links) := by
  refine fcut Try.func10 rfl rfl rfl rfl X ?_
  intro h0 X0
  refine dseq ?_
  refine dreg ?_
  refine lbox rfl rfl rfl rfl rfl X0 (fun b8872 h8874 X8875 => ?_)
  refine lalloc rfl tz_25 rfl rfl rfl X8875 (fun b8876 h8878 X8879 => ?_)
  refine lend ?_
  refine nseq ?_
  refine dseq ?_
  refine ddraw 163840 163840 10320 (by kernel_rfl) ?_
  refine spure (v := .pointer (some ⟨b8872, 1, none⟩)) rfl (p_fa fo_25_1 rfl) (lo_t (lo_own X8879 (j := 1) (o := 0) (s := none) (f := 0) rfl) rfl) rfl rfl ?_
  refine sload (v := .slice a8870 n8870 c8870) rfl rfl (q_load wd_22 rfl) (St.ld X8879 (j := 1) rfl rfl) (same_self 20 rfl) rfl ?_
  refine spure (v := .pointer (some ⟨b8872, 1, none⟩)) rfl (p_fa fo_25_1 rfl) (lo_t (lo_own X8879 (j := 1) (o := 0) (s := none) (f := 0) rfl) rfl) rfl rfl ?_
  refine sload (v := .slice a8870 n8870 c8870) rfl rfl (q_load wd_22 rfl) (St.ld X8879 (j := 1) rfl rfl) (same_self 20 rfl) rfl ?_
  refine spure (v := .int .i64 (p8869.Station.length : Int)) rfl (p_len rfl rfl rfl un_22 rfl) (lo_t (lo_sl X8879 H8870) rfl) (RSl.lenC H8870) rfl ?_
  refine spure (v := .int .i64 (min (p8869.Station.length : Int) 20)) rfl (p_min rfl rfl rfl) (lo_t rfl (lo_c rfl)) rfl rfl ?_
  refine Sim.mustM fun k8880 => ?_
  have k8880 := of_decide_eq_true k8880
  obtain ⟨a8880, n8880, c8880, hv8880, H8880, K8880⟩ := RSl.sliceC H8870 K8870 (m := 1) rfl bnd_none (bnd_int (show 0 ≤ (min (p8869.Station.length : Int) 20) from by omega)) (by omega) (by omega)
  refine spure rfl (p_slice rs_22 rfl (evo_ok rfl) (evo_ok rfl) (evo_ok rfl)) (lo_t (lo_sl X8879 H8870) (lo_t rfl rfl)) hv8880 rfl ?_
  refine spure (v := .pointer (some ⟨b8872, 2, none⟩)) rfl (p_fa fo_25_2 rfl) (lo_t (lo_own X8879 (j := 1) (o := 0) (s := none) (f := 0) rfl) rfl) rfl rfl ?_
  refine sload (v := .slice a8871 n8871 c8871) rfl rfl (q_load wd_23 rfl) (St.ld X8879 (j := 1) rfl rfl) (same_self 20 rfl) rfl ?_
  refine spure (v := .pointer (some ⟨b8872, 2, none⟩)) rfl (p_fa fo_25_2 rfl) (lo_t (lo_own X8879 (j := 1) (o := 0) (s := none) (f := 0) rfl) rfl) rfl rfl ?_
  refine sload (v := .slice a8871 n8871 c8871) rfl rfl (q_load wd_23 rfl) (St.ld X8879 (j := 1) rfl rfl) (same_self 20 rfl) rfl ?_
  refine spure (v := .int .i64 (p8869.Links.length : Int)) rfl (p_len rfl rfl rfl un_23 rfl) (lo_t (lo_sl X8879 H8871) rfl) (RSl.lenC H8871) rfl ?_
  refine spure (v := .int .i64 (min (p8869.Links.length : Int) 30)) rfl (p_min rfl rfl rfl) (lo_t rfl (lo_c rfl)) rfl rfl ?_
  refine Sim.mustM fun k8881 => ?_
  have k8881 := of_decide_eq_true k8881
  obtain ⟨a8881, n8881, c8881, hv8881, H8881, K8881⟩ := RSl.sliceC H8871 K8871 (m := 4) rfl bnd_none (bnd_int (show 0 ≤ (min (p8869.Links.length : Int) 30) from by omega)) (by omega) (by omega)
  refine spure rfl (p_slice rs_23 rfl (evo_ok rfl) (evo_ok rfl) (evo_ok rfl)) (lo_t (lo_sl X8879 H8871) (lo_t rfl rfl)) hv8881 rfl ?_
  refine spure (v := .pointer (some ⟨b8872, 1, none⟩)) rfl (p_fa fo_25_1 rfl) (lo_t (lo_own X8879 (j := 1) (o := 0) (s := none) (f := 0) rfl) rfl) rfl rfl ?_
  refine sstore rfl rfl ts_22 rfl rfl (j := 1) rfl rfl rfl rfl rfl rfl X8879 (fun h8882 X8883 => ?_)
  refine spure (v := .pointer (some ⟨b8872, 2, none⟩)) rfl (p_fa fo_25_2 rfl) (lo_t (lo_own X8883 (j := 1) (o := 0) (s := none) (f := 0) rfl) rfl) rfl rfl ?_
  refine sstore rfl rfl ts_23 rfl rfl (j := 1) rfl rfl rfl rfl rfl rfl X8883 (fun h8884 X8885 => ?_)
  refine send ?_
  refine nseq ?_
  refine dseq ?_
  refine dreg ?_
  refine lread (v := .agg #[.int .i64 p8869.Nodes, .slice a8880 n8880 c8880, .slice a8881 n8881 c8881]) rfl (q_load wd_25 rfl) (St.ld X8885 (j := 1) rfl rfl) rfl ?_
  refine lstore rfl ts_25 rfl rfl (j := 0) rfl rfl rfl rfl rfl rfl X8885 (fun h8886 X8887 => ?_)
  refine lend ?_
  refine nseq ?_
  refine dret ?_
  exact kcut_r (res_1 (resC wd_25 (St.ld X8887 (j := 0) rfl rfl))) X8887 (lo_agg (all_cons rfl (all_cons (lo_slF X.fzlt H8880) (all_cons (lo_slF X.fzlt H8881) all_nil)))) ⟨a8880, n8880, c8880, a8881, n8881, c8881, rfl, H8880, H8881⟩
/-! isochron/isochronref16.node -/
theorem f63_ok {n : Nat} {φ : Fz} {lo : Nat} {h : Heap} {own : OwnL} (X : St φ lo h own) (p8960 : ApiTopo) (p8963 : Int) {a8961 : Option Addr} {n8961 c8961 : Nat} {a8962 : Option Addr} {n8962 c8962 : Nat} (H8961 : RSl eBool φ (.slice a8961 n8961 c8961) p8960.Station) (H8962 : RSl eApiLink φ (.slice a8962 n8962 c8962) p8960.Links) : Sim ((recN Try.prog LL cutF (n + 1)).call 63 #[(.agg #[.int .i64 p8960.Nodes, .slice a8961 n8961 c8961, .slice a8962 n8962 c8962]), (.int .i64 p8963)] h) (m_isochronref16_node p8960 p8963) (fun (d : Bool) p => p = (.bool d, h)) := by
  refine fcut Try.func63 rfl rfl rfl rfl X ?_
  intro h0 X0
  refine dseq ?_
  refine dreg ?_
  refine lbox rfl rfl rfl rfl rfl X0 (fun b8964 h8966 X8967 => ?_)
  refine lpure (v := .bool false) rfl (p_assign rfl) rfl rfl ?_
  refine lend ?_
  refine nseq ?_
  refine dseq ?_
  refine dreg ?_
  refine lpure (v := .int .i64 p8963) rfl (p_move rfl) rfl rfl ?_
  refine lpure (v := .bool (decide (0 ≤ p8963))) rfl (p_ge rfl) rfl rfl ?_
  refine lpure (v := .bool (decide (0 ≤ p8963))) rfl (p_move rfl) rfl rfl ?_
  refine lsh (τ := Bool) (σ := Unit) (fun s8969 (_ : Unit) => [(12, .bool s8969)]) (fun s8969 (_ : Unit) hh => St φ h.n hh ([(some b8964, .cells [.int .i64 p8960.Nodes, .slice a8961 n8961 c8961, .slice a8962 n8962 c8962] 25 .exact)])) 5 ?_ ?_
  · rintro s8969 _ t0 h8971 X8970
    refine lpure (v := .bool s8969) rfl (p_assign rfl) rfl rfl ?_
    refine lend ?_
    refine nseq ?_
    refine dret ?_
    exact kcut_r (res_1 resT) X8970 rfl rfl
  · intro j8972 J8973
    refine lcase (i := 7) (show _ = Value.bool (decide (0 ≤ p8963)) from rfl) (fun k8974 => ?_) (fun k8974 => ?_)
    · refine lpure (v := .int .i64 p8963) rfl (p_move rfl) rfl rfl ?_
      refine lpure (v := .pointer (some ⟨b8964, 0, none⟩)) rfl (p_fa fo_25_0 rfl) rfl rfl ?_
      refine lread (v := .int .i64 p8960.Nodes) rfl (q_load wd_3 rfl) (St.ld X8967 (j := 0) rfl rfl) rfl ?_
      refine lpure (v := .bool (decide (p8963 < p8960.Nodes))) rfl (p_lt rfl) rfl rfl ?_
      refine lpure (v := .bool (decide (p8963 < p8960.Nodes))) rfl (p_pick rfl) rfl rfl ?_
      refine Sim.of_eq (congrArg j8972 (show ((decide (0 ≤ p8963)) && (decide (p8963 < p8960.Nodes))) = (decide (p8963 < p8960.Nodes)) from by rw [k8974] <;> rfl)) ?_
      exact ljmpM J8973 (decide (p8963 < p8960.Nodes)) () (sub_cons rfl sub_nil) X8967
    · refine lskip rfl rfl ?_
      refine lskip rfl rfl ?_
      refine lskip rfl rfl ?_
      refine lskip rfl rfl ?_
      refine lpure (v := .bool false) rfl (p_pick rfl) rfl rfl ?_
      refine Sim.of_eq (congrArg j8972 (show ((decide (0 ≤ p8963)) && (decide (p8963 < p8960.Nodes))) = false from by rw [k8974] <;> rfl)) ?_
      exact ljmpM J8973 false () (sub_cons rfl sub_nil) X8967
/-! isochron/isochronref16.link -/
theorem f43_ok {n : Nat} {φ : Fz} {lo : Nat} {h : Heap} {own : OwnL} (X : St φ lo h own) (p8948 : ApiTopo) (p8951 : ApiLink) {a8949 : Option Addr} {n8949 c8949 : Nat} {a8950 : Option Addr} {n8950 c8950 : Nat} (H8949 : RSl eBool φ (.slice a8949 n8949 c8949) p8948.Station) (H8950 : RSl eApiLink φ (.slice a8950 n8950 c8950) p8948.Links) : Sim ((recN Try.prog LL cutF (n + 2)).call 43 #[(.agg #[.int .i64 p8948.Nodes, .slice a8949 n8949 c8949, .slice a8950 n8950 c8950]), (.agg #[.int .i64 p8951.A, .int .i64 p8951.B, .int .i64 p8951.Per, .int .i64 p8951.Delay])] h) (m_isochronref16_link p8948 p8951) (fun (d : Bool) p => p = (.bool d, h)) := by
  refine fcut Try.func43 rfl rfl rfl rfl X ?_
  intro h0 X0
  refine dseq ?_
  refine dreg ?_
  refine lbox rfl rfl rfl rfl rfl X0 (fun b8952 h8954 X8955 => ?_)
  refine lbox rfl rfl rfl rfl rfl X8955 (fun b8956 h8958 X8959 => ?_)
  refine lpure (v := .bool false) rfl (p_assign rfl) rfl rfl ?_
  refine lend ?_
  refine nseq ?_
  refine dseq ?_
  refine dseq ?_
  refine dreg ?_
  refine lread (v := .agg #[.int .i64 p8948.Nodes, .slice a8949 n8949 c8949, .slice a8950 n8950 c8950]) rfl (q_load wd_25 rfl) (St.ld X8959 (j := 1) rfl rfl) rfl ?_
  refine lpure (v := .pointer (some ⟨b8956, 0, none⟩)) rfl (p_fa fo_50_0 rfl) rfl rfl ?_
  refine lread (v := .int .i64 p8951.A) rfl (q_load wd_3 rfl) (St.ld X8959 (j := 0) rfl rfl) rfl ?_
  refine lcall rfl rfl ca_63 rfl rfl (f63_ok X8959 p8948 (p8951.A) H8949 H8950) rfl (fun e8975 v8976 h8977 hq8978 => ?_)
  cases hq8978
  refine lpure (v := .bool (!e8975)) rfl (p_not rfl) rfl rfl ?_
  refine lpure (v := .bool (!e8975)) rfl (p_move rfl) rfl rfl ?_
  refine ljoinM (τ := Bool) (σ := Unit) (fun s8985 (_ : Unit) => [(2, .pointer (some ⟨b8952, 0, none⟩)), (3, .pointer (some ⟨b8956, 0, none⟩)), (16, .bool s8985)]) (fun s8985 (_ : Unit) hh => St φ h.n hh ([(some b8956, .cells [.int .i64 p8951.A, .int .i64 p8951.B, .int .i64 p8951.Per, .int .i64 p8951.Delay] 50 .exact), (some b8952, .cells [.int .i64 p8948.Nodes, .slice a8949 n8949 c8949, .slice a8950 n8950 c8950] 25 .exact)])) 6 ?_ ?_
  · rintro s8985 _ t0 h8987 X8986
    refine lpure (v := .bool s8985) rfl (p_move rfl) rfl rfl ?_
    refine lsh (τ := Bool) (σ := Unit) (fun s8989 (_ : Unit) => [(2, .pointer (some ⟨b8952, 0, none⟩)), (3, .pointer (some ⟨b8956, 0, none⟩)), (23, .bool s8989)]) (fun s8989 (_ : Unit) hh => St φ h.n hh ([(some b8956, .cells [.int .i64 p8951.A, .int .i64 p8951.B, .int .i64 p8951.Per, .int .i64 p8951.Delay] 50 .exact), (some b8952, .cells [.int .i64 p8948.Nodes, .slice a8949 n8949 c8949, .slice a8950 n8950 c8950] 25 .exact)])) 6 ?_ ?_
    · rintro s8989 _ t0 h8991 X8990
      refine lpure (v := .bool s8989) rfl (p_move rfl) rfl rfl ?_
      refine ljoinM (τ := Bool) (σ := Unit) (fun s9001 (_ : Unit) => [(3, .pointer (some ⟨b8956, 0, none⟩)), (39, .bool s9001)]) (fun s9001 (_ : Unit) hh => St φ h.n hh ([(some b8956, .cells [.int .i64 p8951.A, .int .i64 p8951.B, .int .i64 p8951.Per, .int .i64 p8951.Delay] 50 .exact), (some b8952, .cells [.int .i64 p8948.Nodes, .slice a8949 n8949 c8949, .slice a8950 n8950 c8950] 25 .exact)])) 15 ?_ ?_
      · rintro s9001 _ t0 h9003 X9002
        refine lend ?_
        refine nseq ?_
        refine dcond rfl rfl (fun k9004 => ?_) (fun k9004 => ?_)
        · refine dseq ?_
          refine dreg ?_
          refine lpure (v := .bool false) rfl (p_assign rfl) rfl rfl ?_
          refine lend ?_
          refine nseq ?_
          refine dret ?_
          refine rseq ?_
          exact kcut_r (res_1 resT) X9002 rfl rfl
        · refine dskip ?_
          refine nseq ?_
          refine dseq ?_
          refine dreg ?_
          refine lpure (v := .pointer (some ⟨b8956, 2, none⟩)) rfl (p_fa fo_50_2 rfl) rfl rfl ?_
          refine lread (v := .int .i64 p8951.Per) rfl (q_load wd_3 rfl) (St.ld X9002 (j := 0) rfl rfl) rfl ?_
          refine lpure (v := .bool (decide (1 ≤ p8951.Per))) rfl (p_ge rfl) rfl rfl ?_
          refine lpure (v := .bool (decide (1 ≤ p8951.Per))) rfl (p_move rfl) rfl rfl ?_
          refine lsh (τ := Bool) (σ := Unit) (fun s9006 (_ : Unit) => [(3, .pointer (some ⟨b8956, 0, none⟩)), (47, .bool s9006)]) (fun s9006 (_ : Unit) hh => St φ h.n hh ([(some b8956, .cells [.int .i64 p8951.A, .int .i64 p8951.B, .int .i64 p8951.Per, .int .i64 p8951.Delay] 50 .exact), (some b8952, .cells [.int .i64 p8948.Nodes, .slice a8949 n8949 c8949, .slice a8950 n8950 c8950] 25 .exact)])) 4 ?_ ?_
          · rintro s9006 _ t0 h9008 X9007
            refine lpure (v := .bool s9006) rfl (p_move rfl) rfl rfl ?_
            refine lsh (τ := Bool) (σ := Unit) (fun s9010 (_ : Unit) => [(3, .pointer (some ⟨b8956, 0, none⟩)), (52, .bool s9010)]) (fun s9010 (_ : Unit) hh => St φ h.n hh ([(some b8956, .cells [.int .i64 p8951.A, .int .i64 p8951.B, .int .i64 p8951.Per, .int .i64 p8951.Delay] 50 .exact), (some b8952, .cells [.int .i64 p8948.Nodes, .slice a8949 n8949 c8949, .slice a8950 n8950 c8950] 25 .exact)])) 4 ?_ ?_
            · rintro s9010 _ t0 h9012 X9011
              refine lpure (v := .bool s9010) rfl (p_move rfl) rfl rfl ?_
              refine lsh (τ := Bool) (σ := Unit) (fun s9014 (_ : Unit) => [(57, .bool s9014)]) (fun s9014 (_ : Unit) hh => St φ h.n hh ([(some b8956, .cells [.int .i64 p8951.A, .int .i64 p8951.B, .int .i64 p8951.Per, .int .i64 p8951.Delay] 50 .exact), (some b8952, .cells [.int .i64 p8948.Nodes, .slice a8949 n8949 c8949, .slice a8950 n8950 c8950] 25 .exact)])) 4 ?_ ?_
              · rintro s9014 _ t0 h9016 X9015
                refine lpure (v := .bool s9014) rfl (p_assign rfl) rfl rfl ?_
                refine lend ?_
                refine nseq ?_
                refine dret ?_
                exact kcut_r (res_1 resT) X9015 rfl rfl
              · intro j9017 J9018
                refine lcase (i := 53) (show _ = Value.bool s9010 from rfl) (fun k9019 => ?_) (fun k9019 => ?_)
                · refine lpure (v := .pointer (some ⟨b8956, 3, none⟩)) rfl (p_fa fo_50_3 rfl) rfl rfl ?_
                  refine lread (v := .int .i64 p8951.Delay) rfl (q_load wd_3 rfl) (St.ld X9011 (j := 0) rfl rfl) rfl ?_
                  refine lpure (v := .bool (decide (p8951.Delay ≤ 10000))) rfl (p_le rfl) rfl rfl ?_
                  refine lpure (v := .bool (decide (p8951.Delay ≤ 10000))) rfl (p_pick rfl) rfl rfl ?_
                  refine Sim.of_eq (congrArg j9017 (show (s9010 && (decide (p8951.Delay ≤ 10000))) = (decide (p8951.Delay ≤ 10000)) from by rw [k9019] <;> rfl)) ?_
                  exact ljmpM J9018 (decide (p8951.Delay ≤ 10000)) () (sub_cons rfl sub_nil) X9011
                · refine lskip rfl rfl ?_
                  refine lskip rfl rfl ?_
                  refine lskip rfl rfl ?_
                  refine lpure (v := .bool false) rfl (p_pick rfl) rfl rfl ?_
                  refine Sim.of_eq (congrArg j9017 (show (s9010 && (decide (p8951.Delay ≤ 10000))) = false from by rw [k9019] <;> rfl)) ?_
                  exact ljmpM J9018 false () (sub_cons rfl sub_nil) X9011
            · intro j9020 J9021
              refine lcase (i := 48) (show _ = Value.bool s9006 from rfl) (fun k9022 => ?_) (fun k9022 => ?_)
              · refine lpure (v := .pointer (some ⟨b8956, 3, none⟩)) rfl (p_fa fo_50_3 rfl) rfl rfl ?_
                refine lread (v := .int .i64 p8951.Delay) rfl (q_load wd_3 rfl) (St.ld X9007 (j := 0) rfl rfl) rfl ?_
                refine lpure (v := .bool (decide (0 ≤ p8951.Delay))) rfl (p_ge rfl) rfl rfl ?_
                refine lpure (v := .bool (decide (0 ≤ p8951.Delay))) rfl (p_pick rfl) rfl rfl ?_
                refine Sim.of_eq (congrArg j9020 (show (s9006 && (decide (0 ≤ p8951.Delay))) = (decide (0 ≤ p8951.Delay)) from by rw [k9022] <;> rfl)) ?_
                exact ljmpM J9021 (decide (0 ≤ p8951.Delay)) () (sub_cons rfl (sub_cons rfl sub_nil)) X9007
              · refine lskip rfl rfl ?_
                refine lskip rfl rfl ?_
                refine lskip rfl rfl ?_
                refine lpure (v := .bool false) rfl (p_pick rfl) rfl rfl ?_
                refine Sim.of_eq (congrArg j9020 (show (s9006 && (decide (0 ≤ p8951.Delay))) = false from by rw [k9022] <;> rfl)) ?_
                exact ljmpM J9021 false () (sub_cons rfl (sub_cons rfl sub_nil)) X9007
          · intro j9023 J9024
            refine lcase (i := 43) (show _ = Value.bool (decide (1 ≤ p8951.Per)) from rfl) (fun k9025 => ?_) (fun k9025 => ?_)
            · refine lpure (v := .pointer (some ⟨b8956, 2, none⟩)) rfl (p_fa fo_50_2 rfl) rfl rfl ?_
              refine lread (v := .int .i64 p8951.Per) rfl (q_load wd_3 rfl) (St.ld X9002 (j := 0) rfl rfl) rfl ?_
              refine lpure (v := .bool (decide (p8951.Per ≤ 1000))) rfl (p_le rfl) rfl rfl ?_
              refine lpure (v := .bool (decide (p8951.Per ≤ 1000))) rfl (p_pick rfl) rfl rfl ?_
              refine Sim.of_eq (congrArg j9023 (show ((decide (1 ≤ p8951.Per)) && (decide (p8951.Per ≤ 1000))) = (decide (p8951.Per ≤ 1000)) from by rw [k9025] <;> rfl)) ?_
              exact ljmpM J9024 (decide (p8951.Per ≤ 1000)) () (sub_cons rfl (sub_cons rfl sub_nil)) X9002
            · refine lskip rfl rfl ?_
              refine lskip rfl rfl ?_
              refine lskip rfl rfl ?_
              refine lpure (v := .bool false) rfl (p_pick rfl) rfl rfl ?_
              refine Sim.of_eq (congrArg j9023 (show ((decide (1 ≤ p8951.Per)) && (decide (p8951.Per ≤ 1000))) = false from by rw [k9025] <;> rfl)) ?_
              exact ljmpM J9024 false () (sub_cons rfl (sub_cons rfl sub_nil)) X9002
      · intro j9026 J9027
        refine lif (i := 24) (show _ = Value.bool s8989 from rfl) (fun k9028 => ?_) (fun k9028 => ?_)
        · refine lskip rfl rfl ?_
          refine lskip rfl rfl ?_
          refine lskip rfl rfl ?_
          refine lskip rfl rfl ?_
          refine lskip rfl rfl ?_
          refine lskip rfl rfl ?_
          refine lskip rfl rfl ?_
          refine lskip rfl rfl ?_
          refine lskip rfl rfl ?_
          refine lskip rfl rfl ?_
          refine lskip rfl rfl ?_
          refine lskip rfl rfl ?_
          refine lskip rfl rfl ?_
          refine lskip rfl rfl ?_
          refine lpure (v := .bool true) rfl (p_pick rfl) rfl rfl ?_
          exact ljmpM J9027 true () (sub_cons rfl (sub_cons rfl sub_nil)) X8990
        · refine lpure (v := .pointer (some ⟨b8952, 1, none⟩)) rfl (p_fa fo_25_1 rfl) rfl rfl ?_
          refine lread (v := .slice a8949 n8949 c8949) rfl (q_load wd_22 rfl) (St.ld X8990 (j := 1) rfl rfl) rfl ?_
          refine lpure (v := .pointer (some ⟨b8956, 0, none⟩)) rfl (p_fa fo_50_0 rfl) rfl rfl ?_
          refine lread (v := .int .i64 p8951.A) rfl (q_load wd_3 rfl) (St.ld X8990 (j := 0) rfl rfl) rfl ?_
          refine Sim.bindM fun e9029 he9030 => ?_
          obtain ⟨p9031, cs9031, hp9031, hF9031, hR9031⟩ := RSl.ia H8949 he9030 (kd := .i64) (n := 1) rfl
          have hR9031 : _ = [(.bool e9029 : Value)] := hR9031
          subst hR9031
          refine lpure (v := p9031) rfl (p_ia rs_22 rfl) hp9031 rfl ?_
          refine lread (v := .bool e9029) rfl (q_load wd_4 rfl) (FP.ld X8990 hF9031) rfl ?_
          refine lpure (v := .bool e9029) rfl (p_move rfl) rfl rfl ?_
          refine lif (i := 31) (show _ = Value.bool e9029 from rfl) (fun k9032 => ?_) (fun k9032 => ?_)
          · refine lpure (v := .pointer (some ⟨b8952, 1, none⟩)) rfl (p_fa fo_25_1 rfl) rfl rfl ?_
            refine lread (v := .slice a8949 n8949 c8949) rfl (q_load wd_22 rfl) (St.ld X8990 (j := 1) rfl rfl) rfl ?_
            refine lpure (v := .pointer (some ⟨b8956, 1, none⟩)) rfl (p_fa fo_50_1 rfl) rfl rfl ?_
            refine lread (v := .int .i64 p8951.B) rfl (q_load wd_3 rfl) (St.ld X8990 (j := 0) rfl rfl) rfl ?_
            refine Sim.bindM fun e9033 he9034 => ?_
            obtain ⟨p9035, cs9035, hp9035, hF9035, hR9035⟩ := RSl.ia H8949 he9034 (kd := .i64) (n := 1) rfl
            have hR9035 : _ = [(.bool e9033 : Value)] := hR9035
            subst hR9035
            refine lpure (v := p9035) rfl (p_ia rs_22 rfl) hp9035 rfl ?_
            refine lread (v := .bool e9033) rfl (q_load wd_4 rfl) (FP.ld X8990 hF9035) rfl ?_
            refine lpure (v := .bool e9033) rfl (p_pick rfl) rfl rfl ?_
            refine lpure (v := .bool e9033) rfl (p_pick rfl) rfl rfl ?_
            exact ljmpM J9027 e9033 () (sub_cons rfl (sub_cons rfl sub_nil)) X8990
          · refine lskip rfl rfl ?_
            refine lskip rfl rfl ?_
            refine lskip rfl rfl ?_
            refine lskip rfl rfl ?_
            refine lskip rfl rfl ?_
            refine lskip rfl rfl ?_
            refine lpure (v := .bool false) rfl (p_pick rfl) rfl rfl ?_
            refine lpure (v := .bool false) rfl (p_pick rfl) rfl rfl ?_
            exact ljmpM J9027 false () (sub_cons rfl (sub_cons rfl sub_nil)) X8990
    · intro j9036 J9037
      refine lcase (i := 17) (show _ = Value.bool s8985 from rfl) (fun k9038 => ?_) (fun k9038 => ?_)
      · refine lskip rfl rfl ?_
        refine lskip rfl rfl ?_
        refine lskip rfl rfl ?_
        refine lskip rfl rfl ?_
        refine lskip rfl rfl ?_
        refine lpure (v := .bool true) rfl (p_pick rfl) rfl rfl ?_
        refine Sim.of_eq (congrArg j9036 (show (s8985 || (decide (p8951.A = p8951.B))) = true from by rw [k9038] <;> rfl)) ?_
        exact ljmpM J9037 true () (sub_cons rfl (sub_cons rfl (sub_cons rfl sub_nil))) X8986
      · refine lpure (v := .pointer (some ⟨b8956, 0, none⟩)) rfl (p_fa fo_50_0 rfl) rfl rfl ?_
        refine lread (v := .int .i64 p8951.A) rfl (q_load wd_3 rfl) (St.ld X8986 (j := 0) rfl rfl) rfl ?_
        refine lpure (v := .pointer (some ⟨b8956, 1, none⟩)) rfl (p_fa fo_50_1 rfl) rfl rfl ?_
        refine lread (v := .int .i64 p8951.B) rfl (q_load wd_3 rfl) (St.ld X8986 (j := 0) rfl rfl) rfl ?_
        refine lpure (v := .bool (decide (p8951.A = p8951.B))) rfl (p_eq rfl) rfl rfl ?_
        refine lpure (v := .bool (decide (p8951.A = p8951.B))) rfl (p_pick rfl) rfl rfl ?_
        refine Sim.of_eq (congrArg j9036 (show (s8985 || (decide (p8951.A = p8951.B))) = (decide (p8951.A = p8951.B)) from by rw [k9038] <;> rfl)) ?_
        exact ljmpM J9037 (decide (p8951.A = p8951.B)) () (sub_cons rfl (sub_cons rfl (sub_cons rfl sub_nil))) X8986
  · intro j9039 J9040
    refine lif (i := 10) (show _ = Value.bool (!e8975) from rfl) (fun k9041 => ?_) (fun k9041 => ?_)
    · refine lskip rfl rfl ?_
      refine lskip rfl rfl ?_
      refine lskip rfl rfl ?_
      refine lskip rfl rfl ?_
      refine lskip rfl rfl ?_
      refine lpure (v := .bool true) rfl (p_pick rfl) rfl rfl ?_
      exact ljmpM J9040 true () (sub_cons rfl (sub_cons rfl (sub_cons rfl sub_nil))) X8959
    · refine lread (v := .agg #[.int .i64 p8948.Nodes, .slice a8949 n8949 c8949, .slice a8950 n8950 c8950]) rfl (q_load wd_25 rfl) (St.ld X8959 (j := 1) rfl rfl) rfl ?_
      refine lpure (v := .pointer (some ⟨b8956, 1, none⟩)) rfl (p_fa fo_50_1 rfl) rfl rfl ?_
      refine lread (v := .int .i64 p8951.B) rfl (q_load wd_3 rfl) (St.ld X8959 (j := 0) rfl rfl) rfl ?_
      refine lcall rfl rfl ca_63 rfl rfl (f63_ok X8959 p8948 (p8951.B) H8949 H8950) rfl (fun e9042 v9043 h9044 hq9045 => ?_)
      cases hq9045
      refine lpure (v := .bool (!e9042)) rfl (p_not rfl) rfl rfl ?_
      refine lpure (v := .bool (!e9042)) rfl (p_pick rfl) rfl rfl ?_
      exact ljmpM J9040 (!e9042) () (sub_cons rfl (sub_cons rfl (sub_cons rfl sub_nil))) X8959
/-! isochron/isochronref16.In -/
theorem f48_ok {n : Nat} {φ : Fz} {lo : Nat} {h : Heap} {own : OwnL} (X : St φ lo h own) (p9151 : (List Int)) (p9153 : Int) {a9152 : Option Addr} {n9152 c9152 : Nat} (H9152 : RSl (eInt .i64) φ (.slice a9152 n9152 c9152) p9151) : Sim ((recN Try.prog LL cutF (n + 1)).call 48 #[(.slice a9152 n9152 c9152), (.int .i64 p9153)] h) (m_isochronref16_In p9151 p9153) (fun (d : Bool) p => p = (.bool d, h)) := by
  refine fcut Try.func48 rfl rfl rfl rfl X ?_
  intro h0 X0
  refine dseq ?_
  refine dreg ?_
  refine lpure (v := .bool false) rfl (p_assign rfl) rfl rfl ?_
  refine lend ?_
  refine nseq ?_
  refine dseq ?_
  refine dseq ?_
  refine dreg ?_
  refine lpure (v := .int .i64 0) rfl (p_assign rfl) rfl rfl ?_
  refine lend ?_
  refine nseq ?_
  refine dblock ?_
  refine dloopM (τ := Int) (σ := Unit) (fun s9170 (_ : Unit) => [(0, .slice a9152 n9152 c9152), (1, .int .i64 p9153), (5, .int .i64 s9170)]) (fun s9170 (_ : Unit) hh => St φ h.n hh ([])) 0 () (sub_cons rfl (sub_cons rfl (sub_cons rfl sub_nil))) X0 ?_
  rintro n9180 ih9179 s9170 _ t0 h9182 X9181
  refine dseq ?_
  refine dseq ?_
  refine dreg ?_
  refine lpure (v := .int .i64 s9170) rfl (p_move rfl) rfl rfl ?_
  refine lpure (v := .slice a9152 n9152 c9152) rfl (p_move rfl) rfl rfl ?_
  refine lpure (v := .int .i64 (p9151.length : Int)) rfl (p_len rfl rfl rfl un_28 rfl) (RSl.lenC H9152) rfl ?_
  refine lpure (v := .bool (decide (s9170 < (p9151.length : Int)))) rfl (p_lt rfl) rfl rfl ?_
  refine lend ?_
  refine nseq ?_
  refine dcond rfl rfl (fun k9183 => ?_) (fun k9183 => ?_)
  · refine dskip ?_
    refine nseq ?_
    refine dseq ?_
    refine dblock ?_
    refine dseq ?_
    refine dreg ?_
    refine lpure (v := .slice a9152 n9152 c9152) rfl (p_move rfl) rfl rfl ?_
    refine lpure (v := .int .i64 s9170) rfl (p_move rfl) rfl rfl ?_
    refine Sim.bindM fun e9184 he9185 => ?_
    obtain ⟨p9186, cs9186, hp9186, hF9186, hR9186⟩ := RSl.ia H9152 he9185 (kd := .i64) (n := 1) rfl
    have hR9186 : _ = [(.int .i64 e9184 : Value)] := hR9186
    subst hR9186
    refine lpure (v := p9186) rfl (p_ia rs_28 rfl) hp9186 rfl ?_
    refine lread (v := .int .i64 e9184) rfl (q_load wd_3 rfl) (FP.ld X9181 hF9186) rfl ?_
    refine lpure (v := .int .i64 p9153) rfl (p_move rfl) rfl rfl ?_
    refine lpure (v := .bool (decide (e9184 = p9153))) rfl (p_eq rfl) rfl rfl ?_
    refine lend ?_
    refine nseq ?_
    refine dcond rfl rfl (fun k9187 => ?_) (fun k9187 => ?_)
    · refine dseq ?_
      refine dreg ?_
      refine lpure (v := .bool true) rfl (p_assign rfl) rfl rfl ?_
      refine lend ?_
      refine nseq ?_
      refine dret ?_
      refine rblock ?_
      refine rseq ?_
      refine rloop ?_
      refine rblock ?_
      refine rseq ?_
      exact kcut_r (res_1 resT) X9181 rfl rfl
    · refine dskip ?_
      refine nblock ?_
      refine nseq ?_
      refine dreg ?_
      refine lpure (v := .int .i64 s9170) rfl (p_move rfl) rfl rfl ?_
      refine lpure (v := .int .i64 (w64 (s9170 + 1))) rfl (p_add rfl) rfl rfl ?_
      refine lpure (v := .int .i64 (w64 (s9170 + 1))) rfl (p_assign rfl) rfl rfl ?_
      refine lend ?_
      exact kbackM ih9179 (w64 (s9170 + 1)) () (sub_cons rfl (sub_cons rfl (sub_cons rfl sub_nil))) X9181
  · refine dexit ?_
    refine eseq ?_
    refine eloop ?_
    refine xblock ?_
    refine nseq ?_
    refine dseq ?_
    refine dreg ?_
    refine lpure (v := .bool false) rfl (p_assign rfl) rfl rfl ?_
    refine lend ?_
    refine nseq ?_
    refine dret ?_
    exact kcut_r (res_1 resT) X9181 rfl rfl
/-! isochron/isochronref16.Reach -/
theorem f19_ok {n : Nat} {φ : Fz} {lo : Nat} {h : Heap} {own : OwnL} (X : St φ lo h own) (p10342 : ApiTopo) (p10345 : Int) (p10346 : (List Int)) {a10343 : Option Addr} {n10343 c10343 : Nat} {a10344 : Option Addr} {n10344 c10344 : Nat} {a10347 : Option Addr} {n10347 c10347 : Nat} (H10343 : RSl eBool φ (.slice a10343 n10343 c10343) p10342.Station) (H10344 : RSl eApiLink φ (.slice a10344 n10344 c10344) p10342.Links) (H10347 : RSl (eInt .i64) φ (.slice a10347 n10347 c10347) p10346) : Sim ((recN Try.prog LL cutF (n + 2)).call 19 #[(.agg #[.int .i64 p10342.Nodes, .slice a10343 n10343 c10343, .slice a10344 n10344 c10344]), (.int .i64 p10345), (.slice a10347 n10347 c10347)] h) (m_isochronref16_Reach p10342 p10345 p10346) (fun (d : (List Bool)) p => ∃ φ2 : Fz, ∃ a11531 : Option Addr, ∃ n11531 : Nat, ∃ c11531 : Nat, ∃ ob11531 : Option Nat, ∃ blk11531 : Blk, Fz.le φ φ2 ∧ St φ2 lo p.2 ((ob11531, blk11531) :: own) ∧ p.1 = .slice a11531 n11531 c11531 ∧ OSl eBool φ2 4 ob11531 blk11531 (.slice a11531 n11531 c11531) d) := by
  refine fopen Try.func19 rfl rfl rfl rfl ?_
  refine dseq ?_
  refine dreg ?_
  refine lbox rfl rfl rfl rfl rfl X (fun b10348 h10350 X10351 => ?_)
  refine lpure (v := .slice none 0 0) rfl (p_assign rfl) rfl rfl ?_
  refine lend ?_
  refine nseq ?_
  refine dseq ?_
  refine dreg ?_
  refine lpure (v := .pointer (some ⟨b10348, 0, none⟩)) rfl (p_fa fo_25_0 rfl) rfl rfl ?_
  refine lread (v := .int .i64 p10342.Nodes) rfl (q_load wd_3 rfl) (St.ld X10351 (j := 0) rfl rfl) rfl ?_
  refine Sim.mustM fun k10352 => ?_
  have k10352 := of_decide_eq_true k10352
  obtain ⟨h10352, b10352, vs10352, hv10352, X10352, O10352⟩ := OSl.mk (E := eBool) (φ := φ) (a0 := false) (k := .i64) (k' := .i64) (l := p10342.Nodes) (c := p10342.Nodes) un_22 tb_4 rfl ts_4 rfl rfl tz_4 rfl rfl rfl (by omega) (by omega) (by omega) X10351
  refine lheap rfl (h_makeSlice rfl) hv10352 rfl ?_
  refine lpure (v := .slice (some ⟨b10352, 0, none⟩) (p10342.Nodes).toNat (p10342.Nodes).toNat) rfl (p_assign rfl) rfl rfl ?_
  refine lend ?_
  refine nseq ?_
  refine dseq ?_
  refine dreg ?_
  refine lpure (v := .slice (some ⟨b10352, 0, none⟩) (p10342.Nodes).toNat (p10342.Nodes).toNat) rfl (p_move rfl) rfl rfl ?_
  refine lpure (v := .int .i64 p10345) rfl (p_move rfl) rfl rfl ?_
  refine Sim.bindM fun e10354 he10355 => ?_
  obtain ⟨off10356, cs10356, hp10356, hc10356, hR10356, hl10356, hm10356, hs10356⟩ := OSl.iaC O10352 he10355 (kd := .i64) (n := 1) rfl
  have hR10356 : _ = [(.bool e10354 : Value)] := hR10356
  subst hR10356
  refine lpure (v := .pointer (some ⟨b10352, off10356, none⟩)) rfl (p_ia rs_22 rfl) hp10356 rfl ?_
  have O10359 := hs10356 [.bool true] (true) rfl
  refine lstore rfl ts_4 rfl rfl (j := 0) rfl hm10356 rfl rfl (ble_iff.2 hl10356) rfl X10352 (fun h10357 X10358 => ?_)
  refine lend ?_
  refine nseq ?_
  refine dseq ?_
  refine dseq ?_
  refine dreg ?_
  refine lpure (v := .int .i64 0) rfl (p_assign rfl) rfl rfl ?_
  refine lend ?_
  refine nseq ?_
  refine dblock ?_
  refine dloopM (τ := (List Bool) × Int) (σ := Option Addr × Nat × Nat × Option Nat × Blk) (fun s10944 (a10945, n10945, c10945, ob10945, blk10945) => [(2, .slice a10347 n10347 c10347), (3, .pointer (some ⟨b10348, 0, none⟩)), (7, .slice a10945 n10945 c10945), (8, .int .i64 s10944.2)]) (fun s10944 (a10945, n10945, c10945, ob10945, blk10945) hh => St φ lo hh ((ob10945, blk10945) :: (some b10348, .cells [.int .i64 p10342.Nodes, .slice a10343 n10343 c10343, .slice a10344 n10344 c10344] 25 .exact) :: own) ∧ OSl eBool φ 4 ob10945 blk10945 (.slice a10945 n10945 c10945) s10944.1) (((List.replicate (p10342.Nodes).toNat false).set (p10345).toNat true), 0) ((some ⟨b10352, 0, none⟩), (p10342.Nodes).toNat, (p10342.Nodes).toNat, some b10352, (.cells (setAt vs10352 off10356 [.bool true]) 4 .exact)) (sub_cons rfl (sub_cons rfl (sub_cons rfl (sub_cons rfl sub_nil)))) ⟨X10358, O10359⟩ ?_
  rintro n11239 ih11238 s10944 ⟨a10945, n10945, c10945, ob10945, blk10945⟩ t0 h11241 ⟨X11240, O10945⟩
  refine dseq ?_
  refine dseq ?_
  refine dreg ?_
  refine lpure (v := .int .i64 s10944.2) rfl (p_move rfl) rfl rfl ?_
  refine lpure (v := .pointer (some ⟨b10348, 0, none⟩)) rfl (p_fa fo_25_0 rfl) rfl rfl ?_
  refine lread (v := .int .i64 p10342.Nodes) rfl (q_load wd_3 rfl) (St.ld X11240 (j := 1) rfl rfl) rfl ?_
  refine lpure (v := .bool (decide (s10944.2 < p10342.Nodes))) rfl (p_lt rfl) rfl rfl ?_
  refine lend ?_
  refine nseq ?_
  refine dcond rfl rfl (fun k11242 => ?_) (fun k11242 => ?_)
  · refine dskip ?_
    refine nseq ?_
    refine dseq ?_
    refine dblock ?_
    refine dseq ?_
    refine dreg ?_
    refine lpure (v := .int .i64 0) rfl (p_assign rfl) rfl rfl ?_
    refine lend ?_
    refine nseq ?_
    refine dblock ?_
    refine dloopM (τ := (List Bool) × Int) (σ := Option Addr × Nat × Nat × Option Nat × Blk) (fun s11386 (a11387, n11387, c11387, ob11387, blk11387) => [(2, .slice a10347 n10347 c10347), (3, .pointer (some ⟨b10348, 0, none⟩)), (7, .slice a11387 n11387 c11387), (8, .int .i64 s10944.2), (9, .int .i64 s11386.2)]) (fun s11386 (a11387, n11387, c11387, ob11387, blk11387) hh => St φ lo hh ((ob11387, blk11387) :: (some b10348, .cells [.int .i64 p10342.Nodes, .slice a10343 n10343 c10343, .slice a10344 n10344 c10344] 25 .exact) :: own) ∧ OSl eBool φ 4 ob11387 blk11387 (.slice a11387 n11387 c11387) s11386.1) (s10944.1, 0) (a10945, n10945, c10945, ob10945, blk10945) (sub_cons rfl (sub_cons rfl (sub_cons rfl (sub_cons rfl (sub_cons rfl sub_nil))))) ⟨X11240, O10945⟩ ?_
    rintro n11460 ih11459 s11386 ⟨a11387, n11387, c11387, ob11387, blk11387⟩ t0 h11462 ⟨X11461, O11387⟩
    refine dseq ?_
    refine dseq ?_
    refine dreg ?_
    refine lpure (v := .int .i64 s11386.2) rfl (p_move rfl) rfl rfl ?_
    refine lpure (v := .pointer (some ⟨b10348, 2, none⟩)) rfl (p_fa fo_25_2 rfl) rfl rfl ?_
    refine lread (v := .slice a10344 n10344 c10344) rfl (q_load wd_23 rfl) (St.ld X11461 (j := 1) rfl rfl) rfl ?_
    refine lpure (v := .int .i64 (p10342.Links.length : Int)) rfl (p_len rfl rfl rfl un_23 rfl) (RSl.lenC H10344) rfl ?_
    refine lpure (v := .bool (decide (s11386.2 < (p10342.Links.length : Int)))) rfl (p_lt rfl) rfl rfl ?_
    refine lend ?_
    refine nseq ?_
    refine dcond rfl rfl (fun k11463 => ?_) (fun k11463 => ?_)
    · refine dskip ?_
      refine nseq ?_
      refine dseq ?_
      refine dblock ?_
      refine dseq ?_
      refine dreg ?_
      refine lpure (v := .pointer (some ⟨b10348, 2, none⟩)) rfl (p_fa fo_25_2 rfl) rfl rfl ?_
      refine lread (v := .slice a10344 n10344 c10344) rfl (q_load wd_23 rfl) (St.ld X11461 (j := 1) rfl rfl) rfl ?_
      refine lpure (v := .int .i64 s11386.2) rfl (p_move rfl) rfl rfl ?_
      refine Sim.bindM fun e11464 he11465 => ?_
      obtain ⟨p11466, cs11466, hp11466, hF11466, hR11466⟩ := RSl.ia H10344 he11465 (kd := .i64) (n := 4) rfl
      obtain rfl := eApiLink_el hR11466
      refine lpure (v := p11466) rfl (p_ia rs_23 rfl) hp11466 rfl ?_
      refine lread (v := .agg #[.int .i64 e11464.A, .int .i64 e11464.B, .int .i64 e11464.Per, .int .i64 e11464.Delay]) rfl (q_load wd_50 rfl) (FP.ldw X11461 hF11466 rfl rfl) rfl ?_
      refine lalloc rfl tz_50 rfl rfl rfl X11461 (fun b11467 h11469 X11470 => ?_)
      refine lstore rfl ts_50 rfl rfl (j := 0) rfl rfl rfl rfl rfl rfl X11470 (fun h11471 X11472 => ?_)
      refine lend ?_
      refine nseq ?_
      refine dseq ?_
      refine dreg ?_
      refine lpure (v := .slice a10347 n10347 c10347) rfl (p_move rfl) rfl rfl ?_
      refine lpure (v := .int .i64 s11386.2) rfl (p_move rfl) rfl rfl ?_
      refine lcall rfl rfl ca_48 rfl rfl (f48_ok X11472 p10346 (s11386.2) H10347) rfl (fun e11473 v11474 h11475 hq11476 => ?_)
      cases hq11476
      refine lpure (v := .bool (!e11473)) rfl (p_not rfl) rfl rfl ?_
      refine lpure (v := .bool (!e11473)) rfl (p_move rfl) rfl rfl ?_
      refine ljoinM (τ := (List Bool) × Bool) (σ := Option Addr × Nat × Nat × Option Nat × Blk) (fun s11486 (a11487, n11487, c11487, ob11487, blk11487) => [(2, .slice a10347 n10347 c10347), (3, .pointer (some ⟨b10348, 0, none⟩)), (7, .slice a11487 n11487 c11487), (8, .int .i64 s10944.2), (9, .int .i64 s11386.2), (10, .pointer (some ⟨b11467, 0, none⟩)), (52, .bool s11486.2)]) (fun s11486 (a11487, n11487, c11487, ob11487, blk11487) hh => St φ lo hh ((some b11467, .cells [.int .i64 e11464.A, .int .i64 e11464.B, .int .i64 e11464.Per, .int .i64 e11464.Delay] 50 .exact) :: (ob11487, blk11487) :: (some b10348, .cells [.int .i64 p10342.Nodes, .slice a10343 n10343 c10343, .slice a10344 n10344 c10344] 25 .exact) :: own) ∧ OSl eBool φ 4 ob11487 blk11487 (.slice a11487 n11487 c11487) s11486.1) 13 ?_ ?_
      · rintro s11486 ⟨a11487, n11487, c11487, ob11487, blk11487⟩ t0 h11489 ⟨X11488, O11487⟩
        refine lend ?_
        refine nseq ?_
        refine djoinM (τ := (List Bool)) (σ := Option Addr × Nat × Nat × Option Nat × Blk) (fun s11503 (a11504, n11504, c11504, ob11504, blk11504) => [(2, .slice a10347 n10347 c10347), (3, .pointer (some ⟨b10348, 0, none⟩)), (7, .slice a11504 n11504 c11504), (8, .int .i64 s10944.2), (9, .int .i64 s11386.2)]) (fun s11503 (a11504, n11504, c11504, ob11504, blk11504) hh => St φ lo hh ((some b11467, .cells [.int .i64 e11464.A, .int .i64 e11464.B, .int .i64 e11464.Per, .int .i64 e11464.Delay] 50 .exact) :: (ob11504, blk11504) :: (some b10348, .cells [.int .i64 p10342.Nodes, .slice a10343 n10343 c10343, .slice a10344 n10344 c10344] 25 .exact) :: own) ∧ OSl eBool φ 4 ob11504 blk11504 (.slice a11504 n11504 c11504) s11503) ?_ ?_
        · rintro s11503 ⟨a11504, n11504, c11504, ob11504, blk11504⟩ t0 h11506 ⟨X11505, O11504⟩
          refine nblock ?_
          refine nseq ?_
          refine dreg ?_
          refine lpure (v := .int .i64 s11386.2) rfl (p_move rfl) rfl rfl ?_
          refine lpure (v := .int .i64 (w64 (s11386.2 + 1))) rfl (p_add rfl) rfl rfl ?_
          refine lpure (v := .int .i64 (w64 (s11386.2 + 1))) rfl (p_assign rfl) rfl rfl ?_
          refine lend ?_
          exact kbackM ih11459 (s11503, (w64 (s11386.2 + 1))) (a11504, n11504, c11504, ob11504, blk11504) (sub_cons rfl (sub_cons rfl (sub_cons rfl (sub_cons rfl (sub_cons rfl sub_nil))))) ⟨(St.pick X11505 (.skip _ (.keep _ (.keep _ (.refl _))))), O11504⟩
        · intro j11507 J11508
          refine dcond rfl rfl (fun k11490 => ?_) (fun k11490 => ?_)
          · refine dseq ?_
            refine dreg ?_
            refine lpure (v := .slice a11487 n11487 c11487) rfl (p_move rfl) rfl rfl ?_
            refine lpure (v := .pointer (some ⟨b11467, 0, none⟩)) rfl (p_fa fo_50_0 rfl) rfl rfl ?_
            refine lread (v := .int .i64 e11464.A) rfl (q_load wd_3 rfl) (St.ld X11488 (j := 0) rfl rfl) rfl ?_
            refine Sim.bindM fun e11509 he11510 => ?_
            obtain ⟨b11511, vs11511, m11511, off11511, cs11511, rfl, rfl, hp11511, hc11511, hR11511, hl11511, hm11511, hs11511⟩ := OSl.ia O11487 he11510 (kd := .i64) (n := 1) rfl
            have hR11511 : _ = [(.bool e11509 : Value)] := hR11511
            subst hR11511
            refine lpure (v := .pointer (some ⟨b11511, off11511, none⟩)) rfl (p_ia rs_22 rfl) hp11511 rfl ?_
            have O11514 := hs11511 [.bool true] (true) rfl
            refine lstore rfl ts_4 rfl rfl (j := 1) rfl hm11511 rfl rfl (ble_iff.2 hl11511) rfl X11488 (fun h11512 X11513 => ?_)
            refine lend ?_
            refine nseq ?_
            refine dreg ?_
            refine lpure (v := .slice a11487 n11487 c11487) rfl (p_move rfl) rfl rfl ?_
            refine lpure (v := .pointer (some ⟨b11467, 1, none⟩)) rfl (p_fa fo_50_1 rfl) rfl rfl ?_
            refine lread (v := .int .i64 e11464.B) rfl (q_load wd_3 rfl) (St.ld X11513 (j := 0) rfl rfl) rfl ?_
            refine Sim.bindM fun e11515 he11516 => ?_
            obtain ⟨off11517, cs11517, hp11517, hc11517, hR11517, hl11517, hm11517, hs11517⟩ := OSl.iaC O11514 he11516 (kd := .i64) (n := 1) rfl
            have hR11517 : _ = [(.bool e11515 : Value)] := hR11517
            subst hR11517
            refine lpure (v := .pointer (some ⟨b11511, off11517, none⟩)) rfl (p_ia rs_22 rfl) hp11517 rfl ?_
            have O11520 := hs11517 [.bool true] (true) rfl
            refine lstore rfl ts_4 rfl rfl (j := 1) rfl hm11517 rfl rfl (ble_iff.2 hl11517) rfl X11513 (fun h11518 X11519 => ?_)
            refine lend ?_
            exact jmpM J11508 ((s11486.1.set (e11464.A).toNat true).set (e11464.B).toNat true) (a11487, n11487, c11487, some b11511, (.cells (setAt (setAt vs11511 off11511 [.bool true]) off11517 [.bool true]) 4 m11511)) (sub_cons rfl (sub_cons rfl (sub_cons rfl (sub_cons rfl (sub_cons rfl sub_nil))))) ⟨X11519, O11520⟩
          · refine dskip ?_
            exact jmpM J11508 s11486.1 (a11487, n11487, c11487, ob11487, blk11487) (sub_cons rfl (sub_cons rfl (sub_cons rfl (sub_cons rfl (sub_cons rfl sub_nil))))) ⟨X11488, O11487⟩
      · intro j11521 J11522
        refine lif (i := 39) (show _ = Value.bool (!e11473) from rfl) (fun k11523 => ?_) (fun k11523 => ?_)
        · refine lpure (v := .slice a11387 n11387 c11387) rfl (p_move rfl) rfl rfl ?_
          refine lpure (v := .pointer (some ⟨b11467, 0, none⟩)) rfl (p_fa fo_50_0 rfl) rfl rfl ?_
          refine lread (v := .int .i64 e11464.A) rfl (q_load wd_3 rfl) (St.ld X11472 (j := 0) rfl rfl) rfl ?_
          refine Sim.bindM fun e11524 he11525 => ?_
          obtain ⟨b11526, vs11526, m11526, off11526, cs11526, rfl, rfl, hp11526, hc11526, hR11526, hl11526, hm11526, hs11526⟩ := OSl.ia O11387 he11525 (kd := .i64) (n := 1) rfl
          have hR11526 : _ = [(.bool e11524 : Value)] := hR11526
          subst hR11526
          refine lpure (v := .pointer (some ⟨b11526, off11526, none⟩)) rfl (p_ia rs_22 rfl) hp11526 rfl ?_
          refine lread (v := .bool e11524) rfl (q_load wd_4 rfl) (St.ld X11472 (j := 1) rfl (rdE1 hc11526 (k := 0) rfl rfl)) rfl ?_
          refine lpure (v := .bool e11524) rfl (p_move rfl) rfl rfl ?_
          refine lif (i := 45) (show _ = Value.bool e11524 from rfl) (fun k11527 => ?_) (fun k11527 => ?_)
          · refine lskip rfl rfl ?_
            refine lskip rfl rfl ?_
            refine lskip rfl rfl ?_
            refine lskip rfl rfl ?_
            refine lskip rfl rfl ?_
            refine lpure (v := .bool true) rfl (p_pick rfl) rfl rfl ?_
            refine lpure (v := .bool true) rfl (p_pick rfl) rfl rfl ?_
            exact ljmpM J11522 (s11386.1, true) (a11387, n11387, c11387, some b11526, .cells vs11526 4 m11526) (sub_cons rfl (sub_cons rfl (sub_cons rfl (sub_cons rfl (sub_cons rfl (sub_cons rfl (sub_cons rfl sub_nil))))))) ⟨X11472, O11387⟩
          · refine lpure (v := .slice a11387 n11387 c11387) rfl (p_move rfl) rfl rfl ?_
            refine lpure (v := .pointer (some ⟨b11467, 1, none⟩)) rfl (p_fa fo_50_1 rfl) rfl rfl ?_
            refine lread (v := .int .i64 e11464.B) rfl (q_load wd_3 rfl) (St.ld X11472 (j := 0) rfl rfl) rfl ?_
            refine Sim.bindM fun e11528 he11529 => ?_
            obtain ⟨off11530, cs11530, hp11530, hc11530, hR11530, hl11530, hm11530, hs11530⟩ := OSl.iaC O11387 he11529 (kd := .i64) (n := 1) rfl
            have hR11530 : _ = [(.bool e11528 : Value)] := hR11530
            subst hR11530
            refine lpure (v := .pointer (some ⟨b11526, off11530, none⟩)) rfl (p_ia rs_22 rfl) hp11530 rfl ?_
            refine lread (v := .bool e11528) rfl (q_load wd_4 rfl) (St.ld X11472 (j := 1) rfl (rdE1 hc11530 (k := 0) rfl rfl)) rfl ?_
            refine lpure (v := .bool e11528) rfl (p_pick rfl) rfl rfl ?_
            refine lpure (v := .bool e11528) rfl (p_pick rfl) rfl rfl ?_
            exact ljmpM J11522 (s11386.1, e11528) (a11387, n11387, c11387, some b11526, .cells vs11526 4 m11526) (sub_cons rfl (sub_cons rfl (sub_cons rfl (sub_cons rfl (sub_cons rfl (sub_cons rfl (sub_cons rfl sub_nil))))))) ⟨X11472, O11387⟩
        · refine lskip rfl rfl ?_
          refine lskip rfl rfl ?_
          refine lskip rfl rfl ?_
          refine lskip rfl rfl ?_
          refine lskip rfl rfl ?_
          refine lskip rfl rfl ?_
          refine lskip rfl rfl ?_
          refine lskip rfl rfl ?_
          refine lskip rfl rfl ?_
          refine lskip rfl rfl ?_
          refine lskip rfl rfl ?_
          refine lskip rfl rfl ?_
          refine lpure (v := .bool false) rfl (p_pick rfl) rfl rfl ?_
          exact ljmpM J11522 (s11386.1, false) (a11387, n11387, c11387, ob11387, blk11387) (sub_cons rfl (sub_cons rfl (sub_cons rfl (sub_cons rfl (sub_cons rfl (sub_cons rfl (sub_cons rfl sub_nil))))))) ⟨X11472, O11387⟩
    · refine dexit ?_
      refine eseq ?_
      refine eloop ?_
      refine xblock ?_
      refine nblock ?_
      refine nseq ?_
      refine dreg ?_
      refine lpure (v := .int .i64 s10944.2) rfl (p_move rfl) rfl rfl ?_
      refine lpure (v := .int .i64 (w64 (s10944.2 + 1))) rfl (p_add rfl) rfl rfl ?_
      refine lpure (v := .int .i64 (w64 (s10944.2 + 1))) rfl (p_assign rfl) rfl rfl ?_
      refine lend ?_
      exact kbackM ih11238 (s11386.1, (w64 (s10944.2 + 1))) (a11387, n11387, c11387, ob11387, blk11387) (sub_cons rfl (sub_cons rfl (sub_cons rfl (sub_cons rfl sub_nil)))) ⟨X11461, O11387⟩
  · refine dexit ?_
    refine eseq ?_
    refine eloop ?_
    refine xblock ?_
    refine nseq ?_
    refine dseq ?_
    refine dreg ?_
    refine lpure (v := .slice a10945 n10945 c10945) rfl (p_move rfl) rfl rfl ?_
    refine lpure (v := .slice a10945 n10945 c10945) rfl (p_assign rfl) rfl rfl ?_
    refine lend ?_
    refine nseq ?_
    refine dret ?_
    exact kopen_r (res_1 resT) ⟨φ, a10945, n10945, c10945, ob10945, blk10945, (Fz.le_refl _), St.pick X11240 (.keep _ (.skip _ (.refl _))), rfl, O10945⟩
/-! isochron/isochronref16.Joins -/
theorem f44_ok {n : Nat} {φ : Fz} {lo : Nat} {h : Heap} {own : OwnL} (X : St φ lo h own) (p11724 : ApiLink) (p11725 : Int) (p11726 : Int) : Sim ((recN Try.prog LL cutF (n + 1)).call 44 #[(.agg #[.int .i64 p11724.A, .int .i64 p11724.B, .int .i64 p11724.Per, .int .i64 p11724.Delay]), (.int .i64 p11725), (.int .i64 p11726)] h) (m_isochronref16_Joins p11724 p11725 p11726) (fun (d : Bool) p => p = (.bool d, h)) := by
  refine fcut Try.func44 rfl rfl rfl rfl X ?_
  intro h0 X0
  refine dseq ?_
  refine dreg ?_
  refine lbox rfl rfl rfl rfl rfl X0 (fun b11727 h11729 X11730 => ?_)
  refine lpure (v := .bool false) rfl (p_assign rfl) rfl rfl ?_
  refine lend ?_
  refine nseq ?_
  refine dseq ?_
  refine dreg ?_
  refine lpure (v := .pointer (some ⟨b11727, 0, none⟩)) rfl (p_fa fo_50_0 rfl) rfl rfl ?_
  refine lread (v := .int .i64 p11724.A) rfl (q_load wd_3 rfl) (St.ld X11730 (j := 0) rfl rfl) rfl ?_
  refine lpure (v := .int .i64 p11725) rfl (p_move rfl) rfl rfl ?_
  refine lpure (v := .bool (decide (p11724.A = p11725))) rfl (p_eq rfl) rfl rfl ?_
  refine lpure (v := .bool (decide (p11724.A = p11725))) rfl (p_move rfl) rfl rfl ?_
  refine lsh (τ := Bool) (σ := Unit) (fun s11732 (_ : Unit) => [(1, .int .i64 p11725), (2, .int .i64 p11726), (3, .pointer (some ⟨b11727, 0, none⟩)), (16, .bool s11732)]) (fun s11732 (_ : Unit) hh => St φ h.n hh ([(some b11727, .cells [.int .i64 p11724.A, .int .i64 p11724.B, .int .i64 p11724.Per, .int .i64 p11724.Delay] 50 .exact)])) 5 ?_ ?_
  · rintro s11732 _ t0 h11734 X11733
    refine lpure (v := .bool s11732) rfl (p_move rfl) rfl rfl ?_
    refine lsh (τ := Bool) (σ := Unit) (fun s11736 (_ : Unit) => [(28, .bool s11736)]) (fun s11736 (_ : Unit) hh => St φ h.n hh ([(some b11727, .cells [.int .i64 p11724.A, .int .i64 p11724.B, .int .i64 p11724.Per, .int .i64 p11724.Delay] 50 .exact)])) 11 ?_ ?_
    · rintro s11736 _ t0 h11738 X11737
      refine lpure (v := .bool s11736) rfl (p_assign rfl) rfl rfl ?_
      refine lend ?_
      refine nseq ?_
      refine dret ?_
      exact kcut_r (res_1 resT) X11737 rfl rfl
    · intro j11739 J11740
      refine lcase (i := 17) (show _ = Value.bool s11732 from rfl) (fun k11741 => ?_) (fun k11741 => ?_)
      · refine lskip rfl rfl ?_
        refine lskip rfl rfl ?_
        refine lskip rfl rfl ?_
        refine lskip rfl rfl ?_
        refine lskip rfl rfl ?_
        refine lskip rfl rfl ?_
        refine lskip rfl rfl ?_
        refine lskip rfl rfl ?_
        refine lskip rfl rfl ?_
        refine lskip rfl rfl ?_
        refine lpure (v := .bool true) rfl (p_pick rfl) rfl rfl ?_
        refine Sim.of_eq (congrArg j11739 (show (s11732 || ((decide (p11724.A = p11726)) && (decide (p11724.B = p11725)))) = true from by rw [k11741] <;> rfl)) ?_
        exact ljmpM J11740 true () (sub_cons rfl sub_nil) X11733
      · refine lpure (v := .pointer (some ⟨b11727, 0, none⟩)) rfl (p_fa fo_50_0 rfl) rfl rfl ?_
        refine lread (v := .int .i64 p11724.A) rfl (q_load wd_3 rfl) (St.ld X11733 (j := 0) rfl rfl) rfl ?_
        refine lpure (v := .int .i64 p11726) rfl (p_move rfl) rfl rfl ?_
        refine lpure (v := .bool (decide (p11724.A = p11726))) rfl (p_eq rfl) rfl rfl ?_
        refine lpure (v := .bool (decide (p11724.A = p11726))) rfl (p_move rfl) rfl rfl ?_
        refine lcase (i := 22) (show _ = Value.bool (decide (p11724.A = p11726)) from rfl) (fun k11742 => ?_) (fun k11742 => ?_)
        · refine lpure (v := .pointer (some ⟨b11727, 1, none⟩)) rfl (p_fa fo_50_1 rfl) rfl rfl ?_
          refine lread (v := .int .i64 p11724.B) rfl (q_load wd_3 rfl) (St.ld X11733 (j := 0) rfl rfl) rfl ?_
          refine lpure (v := .int .i64 p11725) rfl (p_move rfl) rfl rfl ?_
          refine lpure (v := .bool (decide (p11724.B = p11725))) rfl (p_eq rfl) rfl rfl ?_
          refine lpure (v := .bool (decide (p11724.B = p11725))) rfl (p_pick rfl) rfl rfl ?_
          refine lpure (v := .bool (decide (p11724.B = p11725))) rfl (p_pick rfl) rfl rfl ?_
          refine Sim.of_eq (congrArg j11739 (show (s11732 || ((decide (p11724.A = p11726)) && (decide (p11724.B = p11725)))) = (decide (p11724.B = p11725)) from by rw [k11741, k11742] <;> rfl)) ?_
          exact ljmpM J11740 (decide (p11724.B = p11725)) () (sub_cons rfl sub_nil) X11733
        · refine lskip rfl rfl ?_
          refine lskip rfl rfl ?_
          refine lskip rfl rfl ?_
          refine lskip rfl rfl ?_
          refine lpure (v := .bool false) rfl (p_pick rfl) rfl rfl ?_
          refine lpure (v := .bool false) rfl (p_pick rfl) rfl rfl ?_
          refine Sim.of_eq (congrArg j11739 (show (s11732 || ((decide (p11724.A = p11726)) && (decide (p11724.B = p11725)))) = false from by rw [k11741, k11742] <;> rfl)) ?_
          exact ljmpM J11740 false () (sub_cons rfl sub_nil) X11733
  · intro j11743 J11744
    refine lcase (i := 11) (show _ = Value.bool (decide (p11724.A = p11725)) from rfl) (fun k11745 => ?_) (fun k11745 => ?_)
    · refine lpure (v := .pointer (some ⟨b11727, 1, none⟩)) rfl (p_fa fo_50_1 rfl) rfl rfl ?_
      refine lread (v := .int .i64 p11724.B) rfl (q_load wd_3 rfl) (St.ld X11730 (j := 0) rfl rfl) rfl ?_
      refine lpure (v := .int .i64 p11726) rfl (p_move rfl) rfl rfl ?_
      refine lpure (v := .bool (decide (p11724.B = p11726))) rfl (p_eq rfl) rfl rfl ?_
      refine lpure (v := .bool (decide (p11724.B = p11726))) rfl (p_pick rfl) rfl rfl ?_
      refine Sim.of_eq (congrArg j11743 (show ((decide (p11724.A = p11725)) && (decide (p11724.B = p11726))) = (decide (p11724.B = p11726)) from by rw [k11745] <;> rfl)) ?_
      exact ljmpM J11744 (decide (p11724.B = p11726)) () (sub_cons rfl (sub_cons rfl (sub_cons rfl (sub_cons rfl sub_nil)))) X11730
    · refine lskip rfl rfl ?_
      refine lskip rfl rfl ?_
      refine lskip rfl rfl ?_
      refine lskip rfl rfl ?_
      refine lpure (v := .bool false) rfl (p_pick rfl) rfl rfl ?_
      refine Sim.of_eq (congrArg j11743 (show ((decide (p11724.A = p11725)) && (decide (p11724.B = p11726))) = false from by rw [k11745] <;> rfl)) ?_
      exact ljmpM J11744 false () (sub_cons rfl (sub_cons rfl (sub_cons rfl (sub_cons rfl sub_nil)))) X11730
/-! isochron/isochronref16.Right -/
theorem f13_ok {n : Nat} {φ : Fz} {lo : Nat} {h : Heap} {own : OwnL} (X : St φ lo h own) (p8913 : ApiTopo) {a8914 : Option Addr} {n8914 c8914 : Nat} {a8915 : Option Addr} {n8915 c8915 : Nat} (H8914 : RSl eBool φ (.slice a8914 n8914 c8914) p8913.Station) (H8915 : RSl eApiLink φ (.slice a8915 n8915 c8915) p8913.Links) : Sim ((recN Try.prog LL cutF (n + 3)).call 13 #[(.agg #[.int .i64 p8913.Nodes, .slice a8914 n8914 c8914, .slice a8915 n8915 c8915])] h) (m_isochronref16_Right p8913) (fun (d : Bool) p => p = (.bool d, h)) := by
  refine fcut Try.func13 rfl rfl rfl rfl X ?_
  intro h0 X0
  refine dseq ?_
  refine dreg ?_
  refine lbox rfl rfl rfl rfl rfl X0 (fun b8916 h8918 X8919 => ?_)
  refine lpure (v := .bool false) rfl (p_assign rfl) rfl rfl ?_
  refine lend ?_
  refine nseq ?_
  refine dseq ?_
  refine dseq ?_
  refine dreg ?_
  refine lpure (v := .pointer (some ⟨b8916, 0, none⟩)) rfl (p_fa fo_25_0 rfl) rfl rfl ?_
  refine lread (v := .int .i64 p8913.Nodes) rfl (q_load wd_3 rfl) (St.ld X8919 (j := 0) rfl rfl) rfl ?_
  refine lpure (v := .bool (decide (p8913.Nodes < 2))) rfl (p_lt rfl) rfl rfl ?_
  refine lpure (v := .bool (decide (p8913.Nodes < 2))) rfl (p_move rfl) rfl rfl ?_
  refine lsh (τ := Bool) (σ := Unit) (fun s8921 (_ : Unit) => [(1, .pointer (some ⟨b8916, 0, none⟩)), (16, .bool s8921)]) (fun s8921 (_ : Unit) hh => St φ h.n hh ([(some b8916, .cells [.int .i64 p8913.Nodes, .slice a8914 n8914 c8914, .slice a8915 n8915 c8915] 25 .exact)])) 4 ?_ ?_
  · rintro s8921 _ t0 h8923 X8922
    refine lpure (v := .bool s8921) rfl (p_move rfl) rfl rfl ?_
    refine lsh (τ := Bool) (σ := Unit) (fun s8925 (_ : Unit) => [(1, .pointer (some ⟨b8916, 0, none⟩)), (24, .bool s8925)]) (fun s8925 (_ : Unit) hh => St φ h.n hh ([(some b8916, .cells [.int .i64 p8913.Nodes, .slice a8914 n8914 c8914, .slice a8915 n8915 c8915] 25 .exact)])) 7 ?_ ?_
    · rintro s8925 _ t0 h8927 X8926
      refine lpure (v := .bool s8925) rfl (p_move rfl) rfl rfl ?_
      refine lsh (τ := Bool) (σ := Unit) (fun s8929 (_ : Unit) => [(1, .pointer (some ⟨b8916, 0, none⟩)), (30, .bool s8929)]) (fun s8929 (_ : Unit) hh => St φ h.n hh ([(some b8916, .cells [.int .i64 p8913.Nodes, .slice a8914 n8914 c8914, .slice a8915 n8915 c8915] 25 .exact)])) 5 ?_ ?_
      · rintro s8929 _ t0 h8931 X8930
        refine lend ?_
        refine nseq ?_
        refine dcond rfl rfl (fun k8932 => ?_) (fun k8932 => ?_)
        · refine dseq ?_
          refine dreg ?_
          refine lpure (v := .bool false) rfl (p_assign rfl) rfl rfl ?_
          refine lend ?_
          refine nseq ?_
          refine dret ?_
          refine rseq ?_
          exact kcut_r (res_1 resT) X8930 rfl rfl
        · refine dskip ?_
          refine nseq ?_
          refine dseq ?_
          refine dreg ?_
          refine lpure (v := .pointer (some ⟨b8916, 0, none⟩)) rfl (p_fa fo_25_0 rfl) rfl rfl ?_
          refine lread (v := .int .i64 p8913.Nodes) rfl (q_load wd_3 rfl) (St.ld X8930 (j := 0) rfl rfl) rfl ?_
          refine Sim.mustM fun k8933 => ?_
          have k8933 := of_decide_eq_true k8933
          obtain ⟨h8933, b8933, vs8933, hv8933, X8933, O8933⟩ := OSl.mk (E := (eInt .i64)) (φ := φ) (a0 := 0) (k := .i64) (k' := .i64) (l := p8913.Nodes) (c := p8913.Nodes) un_28 tb_3 rfl ts_3 rfl rfl tz_3 rfl rfl rfl (by omega) (by omega) (by omega) X8930
          refine lheap rfl (h_makeSlice rfl) hv8933 rfl ?_
          refine lpure (v := .slice (some ⟨b8933, 0, none⟩) (p8913.Nodes).toNat (p8913.Nodes).toNat) rfl (p_assign rfl) rfl rfl ?_
          refine lend ?_
          refine nseq ?_
          refine dseq ?_
          refine dseq ?_
          refine dreg ?_
          refine lpure (v := .int .i64 0) rfl (p_assign rfl) rfl rfl ?_
          refine lend ?_
          refine nseq ?_
          refine dblock ?_
          refine dloopM (τ := (List Int) × Int) (σ := Option Addr × Nat × Nat × Option Nat × Blk) (fun s12032 (a12033, n12033, c12033, ob12033, blk12033) => [(1, .pointer (some ⟨b8916, 0, none⟩)), (3, .slice a12033 n12033 c12033), (4, .int .i64 s12032.2)]) (fun s12032 (a12033, n12033, c12033, ob12033, blk12033) hh => St φ h.n hh ([(ob12033, blk12033), (some b8916, .cells [.int .i64 p8913.Nodes, .slice a8914 n8914 c8914, .slice a8915 n8915 c8915] 25 .exact)]) ∧ OSl (eInt .i64) φ 3 ob12033 blk12033 (.slice a12033 n12033 c12033) s12032.1) ((List.replicate (p8913.Nodes).toNat 0), 0) ((some ⟨b8933, 0, none⟩), (p8913.Nodes).toNat, (p8913.Nodes).toNat, some b8933, (.cells vs8933 3 .exact)) (sub_cons rfl (sub_cons rfl (sub_cons rfl sub_nil))) ⟨X8933, O8933⟩ ?_
          rintro n12346 ih12345 s12032 ⟨a12033, n12033, c12033, ob12033, blk12033⟩ t0 h12348 ⟨X12347, O12033⟩
          refine dseq ?_
          refine dseq ?_
          refine dreg ?_
          refine lpure (v := .int .i64 s12032.2) rfl (p_move rfl) rfl rfl ?_
          refine lpure (v := .pointer (some ⟨b8916, 2, none⟩)) rfl (p_fa fo_25_2 rfl) rfl rfl ?_
          refine lread (v := .slice a8915 n8915 c8915) rfl (q_load wd_23 rfl) (St.ld X12347 (j := 1) rfl rfl) rfl ?_
          refine lpure (v := .int .i64 (p8913.Links.length : Int)) rfl (p_len rfl rfl rfl un_23 rfl) (RSl.lenC H8915) rfl ?_
          refine lpure (v := .bool (decide (s12032.2 < (p8913.Links.length : Int)))) rfl (p_lt rfl) rfl rfl ?_
          refine lend ?_
          refine nseq ?_
          refine dcond rfl rfl (fun k12349 => ?_) (fun k12349 => ?_)
          · refine dskip ?_
            refine nseq ?_
            refine dseq ?_
            refine dblock ?_
            refine dseq ?_
            refine dreg ?_
            refine lpure (v := .pointer (some ⟨b8916, 2, none⟩)) rfl (p_fa fo_25_2 rfl) rfl rfl ?_
            refine lread (v := .slice a8915 n8915 c8915) rfl (q_load wd_23 rfl) (St.ld X12347 (j := 1) rfl rfl) rfl ?_
            refine lpure (v := .int .i64 s12032.2) rfl (p_move rfl) rfl rfl ?_
            refine Sim.bindM fun e12350 he12351 => ?_
            obtain ⟨p12352, cs12352, hp12352, hF12352, hR12352⟩ := RSl.ia H8915 he12351 (kd := .i64) (n := 4) rfl
            obtain rfl := eApiLink_el hR12352
            refine lpure (v := p12352) rfl (p_ia rs_23 rfl) hp12352 rfl ?_
            refine lread (v := .agg #[.int .i64 e12350.A, .int .i64 e12350.B, .int .i64 e12350.Per, .int .i64 e12350.Delay]) rfl (q_load wd_50 rfl) (FP.ldw X12347 hF12352 rfl rfl) rfl ?_
            refine lalloc rfl tz_50 rfl rfl rfl X12347 (fun b12353 h12355 X12356 => ?_)
            refine lstore rfl ts_50 rfl rfl (j := 0) rfl rfl rfl rfl rfl rfl X12356 (fun h12357 X12358 => ?_)
            refine lend ?_
            refine nseq ?_
            refine dseq ?_
            refine dseq ?_
            refine dreg ?_
            refine lread (v := .agg #[.int .i64 p8913.Nodes, .slice a8914 n8914 c8914, .slice a8915 n8915 c8915]) rfl (q_load wd_25 rfl) (St.ld X12358 (j := 2) rfl rfl) rfl ?_
            refine lread (v := .agg #[.int .i64 e12350.A, .int .i64 e12350.B, .int .i64 e12350.Per, .int .i64 e12350.Delay]) rfl (q_load wd_50 rfl) (St.ld X12358 (j := 0) rfl rfl) rfl ?_
            refine lcall rfl rfl ca_43 rfl rfl (f43_ok X12358 p8913 e12350 H8914 H8915) rfl (fun e12359 v12360 h12361 hq12362 => ?_)
            cases hq12362
            refine lpure (v := .bool (!e12359)) rfl (p_not rfl) rfl rfl ?_
            refine lend ?_
            refine nseq ?_
            refine dcond rfl rfl (fun k12363 => ?_) (fun k12363 => ?_)
            · refine dseq ?_
              refine dreg ?_
              refine lpure (v := .bool false) rfl (p_assign rfl) rfl rfl ?_
              refine lend ?_
              refine nseq ?_
              refine dret ?_
              refine rseq ?_
              refine rblock ?_
              refine rseq ?_
              refine rloop ?_
              refine rblock ?_
              refine rseq ?_
              exact kcut_r (res_1 resT) X12358 rfl rfl
            · refine dskip ?_
              refine nseq ?_
              refine dseq ?_
              refine dseq ?_
              refine dreg ?_
              refine lpure (v := .int .i64 0) rfl (p_assign rfl) rfl rfl ?_
              refine lend ?_
              refine nseq ?_
              refine dblock ?_
              refine dloopM (τ := Int) (σ := Unit) (fun s12424 (_ : Unit) => [(1, .pointer (some ⟨b8916, 0, none⟩)), (3, .slice a12033 n12033 c12033), (4, .int .i64 s12032.2), (5, .pointer (some ⟨b12353, 0, none⟩)), (6, .int .i64 s12424)]) (fun s12424 (_ : Unit) hh => St φ h.n hh ([(some b12353, .cells [.int .i64 e12350.A, .int .i64 e12350.B, .int .i64 e12350.Per, .int .i64 e12350.Delay] 50 .exact), (ob12033, blk12033), (some b8916, .cells [.int .i64 p8913.Nodes, .slice a8914 n8914 c8914, .slice a8915 n8915 c8915] 25 .exact)])) 0 () (sub_cons rfl (sub_cons rfl (sub_cons rfl (sub_cons rfl (sub_cons rfl sub_nil))))) X12358 ?_
              rintro n12456 ih12455 s12424 _ t0 h12458 X12457
              refine dseq ?_
              refine dseq ?_
              refine dreg ?_
              refine lpure (v := .int .i64 s12424) rfl (p_move rfl) rfl rfl ?_
              refine lpure (v := .int .i64 s12032.2) rfl (p_move rfl) rfl rfl ?_
              refine lpure (v := .bool (decide (s12424 < s12032.2))) rfl (p_lt rfl) rfl rfl ?_
              refine lend ?_
              refine nseq ?_
              refine dcond rfl rfl (fun k12459 => ?_) (fun k12459 => ?_)
              · refine dskip ?_
                refine nseq ?_
                refine dseq ?_
                refine dblock ?_
                refine dseq ?_
                refine ddraw 0 0 0 (by kernel_rfl) ?_
                refine spure (v := .pointer (some ⟨b8916, 2, none⟩)) rfl (p_fa fo_25_2 rfl) (lo_t (lo_own X12457 (j := 2) (o := 0) (s := none) (f := 0) rfl) rfl) rfl rfl ?_
                refine sload (v := .slice a8915 n8915 c8915) rfl rfl (q_load wd_23 rfl) (St.ld X12457 (j := 2) rfl rfl) (same_self 20 rfl) rfl ?_
                refine spure (v := .int .i64 s12424) rfl (p_move rfl) (lo_t rfl rfl) rfl rfl ?_
                refine Sim.bindM fun e12460 he12461 => ?_
                obtain ⟨p12462, cs12462, hp12462, hF12462, hR12462⟩ := RSl.ia H8915 he12461 (kd := .i64) (n := 4) rfl
                obtain rfl := eApiLink_el hR12462
                refine spure (v := p12462) rfl (p_ia rs_23 rfl) (lo_t (lo_sl X12457 H8915) (lo_t rfl rfl)) hp12462 rfl ?_
                refine sload (v := .agg #[.int .i64 e12460.A, .int .i64 e12460.B, .int .i64 e12460.Per, .int .i64 e12460.Delay]) rfl rfl (q_load wd_50 rfl) (FP.ldw X12457 hF12462 rfl rfl) (same_self 20 rfl) rfl ?_
                refine spure (v := .pointer (some ⟨b12353, 0, none⟩)) rfl (p_fa fo_50_0 rfl) (lo_t (lo_own X12457 (j := 0) (o := 0) (s := none) (f := 0) rfl) rfl) rfl rfl ?_
                refine sload (v := .int .i64 e12350.A) rfl rfl (q_load wd_3 rfl) (St.ld X12457 (j := 0) rfl rfl) (same_self 20 rfl) rfl ?_
                refine spure (v := .pointer (some ⟨b12353, 1, none⟩)) rfl (p_fa fo_50_1 rfl) (lo_t (lo_own X12457 (j := 0) (o := 0) (s := none) (f := 0) rfl) rfl) rfl rfl ?_
                refine sload (v := .int .i64 e12350.B) rfl rfl (q_load wd_3 rfl) (St.ld X12457 (j := 0) rfl rfl) (same_self 20 rfl) rfl ?_
                refine scall (en := fun d => (.bool d)) rfl rfl ca_44 rfl rfl (f44_ok X12457 e12460 (e12350.A) (e12350.B)) rfl (fun e12463 => ?_)
                refine send ?_
                refine nseq ?_
                refine dcond rfl rfl (fun k12467 => ?_) (fun k12467 => ?_)
                · refine dseq ?_
                  refine dreg ?_
                  refine lpure (v := .bool false) rfl (p_assign rfl) rfl rfl ?_
                  refine lend ?_
                  refine nseq ?_
                  refine dret ?_
                  refine rblock ?_
                  refine rseq ?_
                  refine rloop ?_
                  refine rblock ?_
                  refine rseq ?_
                  refine rblock ?_
                  refine rseq ?_
                  refine rloop ?_
                  refine rblock ?_
                  refine rseq ?_
                  exact kcut_r (res_1 resT) X12457 rfl rfl
                · refine dskip ?_
                  refine nblock ?_
                  refine nseq ?_
                  refine dreg ?_
                  refine lpure (v := .int .i64 s12424) rfl (p_move rfl) rfl rfl ?_
                  refine lpure (v := .int .i64 (w64 (s12424 + 1))) rfl (p_add rfl) rfl rfl ?_
                  refine lpure (v := .int .i64 (w64 (s12424 + 1))) rfl (p_assign rfl) rfl rfl ?_
                  refine lend ?_
                  exact kbackM ih12455 (w64 (s12424 + 1)) () (sub_cons rfl (sub_cons rfl (sub_cons rfl (sub_cons rfl (sub_cons rfl sub_nil))))) X12457
              · refine dexit ?_
                refine eseq ?_
                refine eloop ?_
                refine xblock ?_
                refine nseq ?_
                refine dseq ?_
                refine ddraw 1024 1024 0 (by kernel_rfl) ?_
                refine spure (v := .slice a12033 n12033 c12033) rfl (p_move rfl) (lo_t (lo_osl X12457 (j := 1) rfl O12033) rfl) rfl rfl ?_
                refine spure (v := .pointer (some ⟨b12353, 0, none⟩)) rfl (p_fa fo_50_0 rfl) (lo_t (lo_own X12457 (j := 0) (o := 0) (s := none) (f := 0) rfl) rfl) rfl rfl ?_
                refine sload (v := .int .i64 e12350.A) rfl rfl (q_load wd_3 rfl) (St.ld X12457 (j := 0) rfl rfl) (same_self 20 rfl) rfl ?_
                refine spure (v := .slice a12033 n12033 c12033) rfl (p_move rfl) (lo_t (lo_osl X12457 (j := 1) rfl O12033) rfl) rfl rfl ?_
                refine spure (v := .pointer (some ⟨b12353, 0, none⟩)) rfl (p_fa fo_50_0 rfl) (lo_t (lo_own X12457 (j := 0) (o := 0) (s := none) (f := 0) rfl) rfl) rfl rfl ?_
                refine sload (v := .int .i64 e12350.A) rfl rfl (q_load wd_3 rfl) (St.ld X12457 (j := 0) rfl rfl) (same_self 20 rfl) rfl ?_
                refine Sim.bindM fun e12468 he12469 => ?_
                obtain ⟨b12470, vs12470, m12470, off12470, cs12470, rfl, rfl, hp12470, hc12470, hR12470, hl12470, hm12470, hs12470⟩ := OSl.ia O12033 he12469 (kd := .i64) (n := 1) rfl
                have hR12470 : _ = [(.int .i64 e12468 : Value)] := hR12470
                subst hR12470
                refine spure (v := .pointer (some ⟨b12470, off12470, none⟩)) rfl (p_ia rs_28 rfl) (lo_t (lo_osl X12457 (j := 1) rfl O12033) (lo_t rfl rfl)) hp12470 rfl ?_
                refine sload (v := .int .i64 e12468) rfl rfl (q_load wd_3 rfl) (St.ld X12457 (j := 1) rfl (rdE1 hc12470 (k := 0) rfl rfl)) (same_self 20 rfl) rfl ?_
                refine spure (v := .int .i64 (w64 (e12468 + 1))) rfl (p_add rfl) (lo_t rfl (lo_c rfl)) rfl rfl ?_
                refine Sim.bindM fun e12471 he12472 => ?_
                obtain ⟨off12473, cs12473, hp12473, hc12473, hR12473, hl12473, hm12473, hs12473⟩ := OSl.iaC O12033 he12472 (kd := .i64) (n := 1) rfl
                have hR12473 : _ = [(.int .i64 e12471 : Value)] := hR12473
                subst hR12473
                refine spure (v := .pointer (some ⟨b12470, off12473, none⟩)) rfl (p_ia rs_28 rfl) (lo_t (lo_osl X12457 (j := 1) rfl O12033) (lo_t rfl rfl)) hp12473 rfl ?_
                have O12476 := hs12473 [.int .i64 (w64 (e12468 + 1))] ((w64 (e12468 + 1))) rfl
                refine sstore rfl rfl ts_3 rfl rfl (j := 1) rfl hm12473 rfl rfl (ble_iff.2 hl12473) rfl X12457 (fun h12474 X12475 => ?_)
                refine send ?_
                refine nseq ?_
                refine ddraw 1024 1024 0 (by kernel_rfl) ?_
                refine spure (v := .slice a12033 n12033 c12033) rfl (p_move rfl) (lo_t (lo_osl X12475 (j := 1) rfl O12476) rfl) rfl rfl ?_
                refine spure (v := .pointer (some ⟨b12353, 1, none⟩)) rfl (p_fa fo_50_1 rfl) (lo_t (lo_own X12475 (j := 0) (o := 0) (s := none) (f := 0) rfl) rfl) rfl rfl ?_
                refine sload (v := .int .i64 e12350.B) rfl rfl (q_load wd_3 rfl) (St.ld X12475 (j := 0) rfl rfl) (same_self 20 rfl) rfl ?_
                refine spure (v := .slice a12033 n12033 c12033) rfl (p_move rfl) (lo_t (lo_osl X12475 (j := 1) rfl O12476) rfl) rfl rfl ?_
                refine spure (v := .pointer (some ⟨b12353, 1, none⟩)) rfl (p_fa fo_50_1 rfl) (lo_t (lo_own X12475 (j := 0) (o := 0) (s := none) (f := 0) rfl) rfl) rfl rfl ?_
                refine sload (v := .int .i64 e12350.B) rfl rfl (q_load wd_3 rfl) (St.ld X12475 (j := 0) rfl rfl) (same_self 20 rfl) rfl ?_
                refine Sim.bindM fun e12477 he12478 => ?_
                obtain ⟨off12479, cs12479, hp12479, hc12479, hR12479, hl12479, hm12479, hs12479⟩ := OSl.iaC O12476 he12478 (kd := .i64) (n := 1) rfl
                have hR12479 : _ = [(.int .i64 e12477 : Value)] := hR12479
                subst hR12479
                refine spure (v := .pointer (some ⟨b12470, off12479, none⟩)) rfl (p_ia rs_28 rfl) (lo_t (lo_osl X12475 (j := 1) rfl O12476) (lo_t rfl rfl)) hp12479 rfl ?_
                refine sload (v := .int .i64 e12477) rfl rfl (q_load wd_3 rfl) (St.ld X12475 (j := 1) rfl (rdE1 hc12479 (k := 0) rfl rfl)) (same_self 20 rfl) rfl ?_
                refine spure (v := .int .i64 (w64 (e12477 + 1))) rfl (p_add rfl) (lo_t rfl (lo_c rfl)) rfl rfl ?_
                refine Sim.bindM fun e12480 he12481 => ?_
                obtain ⟨off12482, cs12482, hp12482, hc12482, hR12482, hl12482, hm12482, hs12482⟩ := OSl.iaC O12476 he12481 (kd := .i64) (n := 1) rfl
                have hR12482 : _ = [(.int .i64 e12480 : Value)] := hR12482
                subst hR12482
                refine spure (v := .pointer (some ⟨b12470, off12482, none⟩)) rfl (p_ia rs_28 rfl) (lo_t (lo_osl X12475 (j := 1) rfl O12476) (lo_t rfl rfl)) hp12482 rfl ?_
                have O12485 := hs12482 [.int .i64 (w64 (e12477 + 1))] ((w64 (e12477 + 1))) rfl
                refine sstore rfl rfl ts_3 rfl rfl (j := 1) rfl hm12482 rfl rfl (ble_iff.2 hl12482) rfl X12475 (fun h12483 X12484 => ?_)
                refine send ?_
                refine nblock ?_
                refine nseq ?_
                refine dreg ?_
                refine lpure (v := .int .i64 s12032.2) rfl (p_move rfl) rfl rfl ?_
                refine lpure (v := .int .i64 (w64 (s12032.2 + 1))) rfl (p_add rfl) rfl rfl ?_
                refine lpure (v := .int .i64 (w64 (s12032.2 + 1))) rfl (p_assign rfl) rfl rfl ?_
                refine lend ?_
                exact kbackM ih12345 (((s12032.1.set (e12350.A).toNat (w64 (e12468 + 1))).set (e12350.B).toNat (w64 (e12477 + 1))), (w64 (s12032.2 + 1))) (a12033, n12033, c12033, some b12470, (.cells (setAt (setAt vs12470 off12473 [.int .i64 (w64 (e12468 + 1))]) off12482 [.int .i64 (w64 (e12477 + 1))]) 3 m12470)) (sub_cons rfl (sub_cons rfl (sub_cons rfl sub_nil))) ⟨(St.pick X12484 (.skip _ (.keep _ (.keep _ (.nil _))))), O12485⟩
          · refine dexit ?_
            refine eseq ?_
            refine eloop ?_
            refine xblock ?_
            refine nseq ?_
            refine dseq ?_
            refine dreg ?_
            refine lread (v := .agg #[.int .i64 p8913.Nodes, .slice a8914 n8914 c8914, .slice a8915 n8915 c8915]) rfl (q_load wd_25 rfl) (St.ld X12347 (j := 1) rfl rfl) rfl ?_
            refine lcall rfl rfl ca_19 rfl rfl (f19_ok X12347 p8913 0 ([]) H8914 H8915 (.inl ⟨rfl, rfl⟩)) rfl ?_
            rintro e12486 _ h12488 ⟨φ12490, a12493, n12493, c12493, ob12493, blk12493, g12491, X12492, rfl, O12493⟩
            refine lpure (v := .slice a12493 n12493 c12493) rfl (p_assign rfl) rfl rfl ?_
            refine lend ?_
            refine nseq ?_
            refine dseq ?_
            refine dseq ?_
            refine dreg ?_
            refine lpure (v := .int .i64 0) rfl (p_assign rfl) rfl rfl ?_
            refine lend ?_
            refine nseq ?_
            refine dblock ?_
            refine dloopM (τ := (List Int) × (List Bool) × Int) (σ := Option Addr × Nat × Nat × Option Nat × Blk × Option Addr × Nat × Nat × Option Nat × Blk) (fun s12575 (a12576, n12576, c12576, ob12576, blk12576, a12577, n12577, c12577, ob12577, blk12577) => [(1, .pointer (some ⟨b8916, 0, none⟩)), (3, .slice a12576 n12576 c12576), (7, .slice a12577 n12577 c12577), (8, .int .i64 s12575.2.2)]) (fun s12575 (a12576, n12576, c12576, ob12576, blk12576, a12577, n12577, c12577, ob12577, blk12577) hh => St φ12490 h.n hh ([(ob12577, blk12577), (ob12576, blk12576), (some b8916, .cells [.int .i64 p8913.Nodes, .slice a8914 n8914 c8914, .slice a8915 n8915 c8915] 25 .exact)]) ∧ OSl (eInt .i64) φ12490 3 ob12576 blk12576 (.slice a12576 n12576 c12576) s12575.1 ∧ OSl eBool φ12490 4 ob12577 blk12577 (.slice a12577 n12577 c12577) s12575.2.1) (s12032.1, e12486, 0) (a12033, n12033, c12033, ob12033, blk12033, a12493, n12493, c12493, ob12493, blk12493) (sub_cons rfl (sub_cons rfl (sub_cons rfl (sub_cons rfl sub_nil)))) ⟨X12492, (O12033.mono g12491), O12493⟩ ?_
            rintro n12618 ih12617 s12575 ⟨a12576, n12576, c12576, ob12576, blk12576, a12577, n12577, c12577, ob12577, blk12577⟩ t0 h12620 ⟨X12619, O12576, O12577⟩
            refine dseq ?_
            refine dseq ?_
            refine dreg ?_
            refine lpure (v := .int .i64 s12575.2.2) rfl (p_move rfl) rfl rfl ?_
            refine lpure (v := .pointer (some ⟨b8916, 0, none⟩)) rfl (p_fa fo_25_0 rfl) rfl rfl ?_
            refine lread (v := .int .i64 p8913.Nodes) rfl (q_load wd_3 rfl) (St.ld X12619 (j := 2) rfl rfl) rfl ?_
            refine lpure (v := .bool (decide (s12575.2.2 < p8913.Nodes))) rfl (p_lt rfl) rfl rfl ?_
            refine lend ?_
            refine nseq ?_
            refine dcond rfl rfl (fun k12621 => ?_) (fun k12621 => ?_)
            · refine dskip ?_
              refine nseq ?_
              refine dseq ?_
              refine dblock ?_
              refine dseq ?_
              refine dreg ?_
              refine lpure (v := .slice a12577 n12577 c12577) rfl (p_move rfl) rfl rfl ?_
              refine lpure (v := .int .i64 s12575.2.2) rfl (p_move rfl) rfl rfl ?_
              refine Sim.bindM fun e12622 he12623 => ?_
              obtain ⟨b12624, vs12624, m12624, off12624, cs12624, rfl, rfl, hp12624, hc12624, hR12624, hl12624, hm12624, hs12624⟩ := OSl.ia O12577 he12623 (kd := .i64) (n := 1) rfl
              have hR12624 : _ = [(.bool e12622 : Value)] := hR12624
              subst hR12624
              refine lpure (v := .pointer (some ⟨b12624, off12624, none⟩)) rfl (p_ia rs_22 rfl) hp12624 rfl ?_
              refine lread (v := .bool e12622) rfl (q_load wd_4 rfl) (St.ld X12619 (j := 0) rfl (rdE1 hc12624 (k := 0) rfl rfl)) rfl ?_
              refine lpure (v := .bool (!e12622)) rfl (p_not rfl) rfl rfl ?_
              refine lpure (v := .bool (!e12622)) rfl (p_move rfl) rfl rfl ?_
              refine ljoinM (τ := (List Int) × Bool) (σ := Option Addr × Nat × Nat × Option Nat × Blk) (fun s12638 (a12639, n12639, c12639, ob12639, blk12639) => [(1, .pointer (some ⟨b8916, 0, none⟩)), (3, .slice a12639 n12639 c12639), (7, .slice a12577 n12577 c12577), (8, .int .i64 s12575.2.2), (118, .bool s12638.2)]) (fun s12638 (a12639, n12639, c12639, ob12639, blk12639) hh => St φ12490 h.n hh ([(some b12624, .cells vs12624 4 m12624), (ob12639, blk12639), (some b8916, .cells [.int .i64 p8913.Nodes, .slice a8914 n8914 c8914, .slice a8915 n8915 c8915] 25 .exact)]) ∧ OSl (eInt .i64) φ12490 3 ob12639 blk12639 (.slice a12639 n12639 c12639) s12638.1) 20 ?_ ?_
              · rintro s12638 ⟨a12639, n12639, c12639, ob12639, blk12639⟩ t0 h12641 ⟨X12640, O12639⟩
                refine lend ?_
                refine nseq ?_
                refine dcond rfl rfl (fun k12642 => ?_) (fun k12642 => ?_)
                · refine dseq ?_
                  refine dreg ?_
                  refine lpure (v := .bool false) rfl (p_assign rfl) rfl rfl ?_
                  refine lend ?_
                  refine nseq ?_
                  refine dret ?_
                  refine rblock ?_
                  refine rseq ?_
                  refine rloop ?_
                  refine rblock ?_
                  refine rseq ?_
                  exact kcut_r (res_1 resT) X12640 rfl rfl
                · refine dskip ?_
                  refine nblock ?_
                  refine nseq ?_
                  refine dreg ?_
                  refine lpure (v := .int .i64 s12575.2.2) rfl (p_move rfl) rfl rfl ?_
                  refine lpure (v := .int .i64 (w64 (s12575.2.2 + 1))) rfl (p_add rfl) rfl rfl ?_
                  refine lpure (v := .int .i64 (w64 (s12575.2.2 + 1))) rfl (p_assign rfl) rfl rfl ?_
                  refine lend ?_
                  exact kbackM ih12617 (s12638.1, s12575.2.1, (w64 (s12575.2.2 + 1))) (a12639, n12639, c12639, ob12639, blk12639, a12577, n12577, c12577, some b12624, .cells vs12624 4 m12624) (sub_cons rfl (sub_cons rfl (sub_cons rfl (sub_cons rfl sub_nil)))) ⟨X12640, O12639, O12577⟩
              · intro j12643 J12644
                refine lif (i := 98) (show _ = Value.bool (!e12622) from rfl) (fun k12645 => ?_) (fun k12645 => ?_)
                · refine lskip rfl rfl ?_
                  refine lskip rfl rfl ?_
                  refine lskip rfl rfl ?_
                  refine lskip rfl rfl ?_
                  refine lskip rfl rfl ?_
                  refine lskip rfl rfl ?_
                  refine lskip rfl rfl ?_
                  refine lskip rfl rfl ?_
                  refine lskip rfl rfl ?_
                  refine lskip rfl rfl ?_
                  refine lskip rfl rfl ?_
                  refine lskip rfl rfl ?_
                  refine lskip rfl rfl ?_
                  refine lskip rfl rfl ?_
                  refine lskip rfl rfl ?_
                  refine lskip rfl rfl ?_
                  refine lskip rfl rfl ?_
                  refine lskip rfl rfl ?_
                  refine lskip rfl rfl ?_
                  refine lpure (v := .bool true) rfl (p_pick rfl) rfl rfl ?_
                  exact ljmpM J12644 (s12575.1, true) (a12576, n12576, c12576, ob12576, blk12576) (sub_cons rfl (sub_cons rfl (sub_cons rfl (sub_cons rfl (sub_cons rfl sub_nil))))) ⟨X12619, O12576⟩
                · refine lpure (v := .pointer (some ⟨b8916, 1, none⟩)) rfl (p_fa fo_25_1 rfl) rfl rfl ?_
                  refine lread (v := .slice a8914 n8914 c8914) rfl (q_load wd_22 rfl) (St.ld X12619 (j := 2) rfl rfl) rfl ?_
                  refine lpure (v := .int .i64 s12575.2.2) rfl (p_move rfl) rfl rfl ?_
                  refine Sim.bindM fun e12646 he12647 => ?_
                  obtain ⟨p12648, cs12648, hp12648, hF12648, hR12648⟩ := RSl.ia (H8914.mono g12491) he12647 (kd := .i64) (n := 1) rfl
                  have hR12648 : _ = [(.bool e12646 : Value)] := hR12648
                  subst hR12648
                  refine lpure (v := p12648) rfl (p_ia rs_22 rfl) hp12648 rfl ?_
                  refine lread (v := .bool e12646) rfl (q_load wd_4 rfl) (FP.ld X12619 hF12648) rfl ?_
                  refine lpure (v := .bool e12646) rfl (p_move rfl) rfl rfl ?_
                  refine lif (i := 104) (show _ = Value.bool e12646 from rfl) (fun k12649 => ?_) (fun k12649 => ?_)
                  · refine lpure (v := .slice a12576 n12576 c12576) rfl (p_move rfl) rfl rfl ?_
                    refine lpure (v := .int .i64 s12575.2.2) rfl (p_move rfl) rfl rfl ?_
                    refine Sim.bindM fun e12650 he12651 => ?_
                    obtain ⟨b12652, vs12652, m12652, off12652, cs12652, rfl, rfl, hp12652, hc12652, hR12652, hl12652, hm12652, hs12652⟩ := OSl.ia O12576 he12651 (kd := .i64) (n := 1) rfl
                    have hR12652 : _ = [(.int .i64 e12650 : Value)] := hR12652
                    subst hR12652
                    refine lpure (v := .pointer (some ⟨b12652, off12652, none⟩)) rfl (p_ia rs_28 rfl) hp12652 rfl ?_
                    refine lread (v := .int .i64 e12650) rfl (q_load wd_3 rfl) (St.ld X12619 (j := 1) rfl (rdE1 hc12652 (k := 0) rfl rfl)) rfl ?_
                    refine lpure (v := .bool (decide (e12650 < 1))) rfl (p_lt rfl) rfl rfl ?_
                    refine lpure (v := .bool (decide (e12650 < 1))) rfl (p_move rfl) rfl rfl ?_
                    refine lif (i := 110) (show _ = Value.bool (decide (e12650 < 1)) from rfl) (fun k12653 => ?_) (fun k12653 => ?_)
                    · refine lskip rfl rfl ?_
                      refine lskip rfl rfl ?_
                      refine lskip rfl rfl ?_
                      refine lskip rfl rfl ?_
                      refine lskip rfl rfl ?_
                      refine lpure (v := .bool true) rfl (p_pick rfl) rfl rfl ?_
                      refine lpure (v := .bool true) rfl (p_pick rfl) rfl rfl ?_
                      refine lpure (v := .bool true) rfl (p_pick rfl) rfl rfl ?_
                      exact ljmpM J12644 (s12575.1, true) (a12576, n12576, c12576, some b12652, .cells vs12652 3 m12652) (sub_cons rfl (sub_cons rfl (sub_cons rfl (sub_cons rfl (sub_cons rfl sub_nil))))) ⟨X12619, O12576⟩
                    · refine lpure (v := .slice a12576 n12576 c12576) rfl (p_move rfl) rfl rfl ?_
                      refine lpure (v := .int .i64 s12575.2.2) rfl (p_move rfl) rfl rfl ?_
                      refine Sim.bindM fun e12654 he12655 => ?_
                      obtain ⟨off12656, cs12656, hp12656, hc12656, hR12656, hl12656, hm12656, hs12656⟩ := OSl.iaC O12576 he12655 (kd := .i64) (n := 1) rfl
                      have hR12656 : _ = [(.int .i64 e12654 : Value)] := hR12656
                      subst hR12656
                      refine lpure (v := .pointer (some ⟨b12652, off12656, none⟩)) rfl (p_ia rs_28 rfl) hp12656 rfl ?_
                      refine lread (v := .int .i64 e12654) rfl (q_load wd_3 rfl) (St.ld X12619 (j := 1) rfl (rdE1 hc12656 (k := 0) rfl rfl)) rfl ?_
                      refine lpure (v := .bool (decide (2 < e12654))) rfl (p_gt rfl) rfl rfl ?_
                      refine lpure (v := .bool (decide (2 < e12654))) rfl (p_pick rfl) rfl rfl ?_
                      refine lpure (v := .bool (decide (2 < e12654))) rfl (p_pick rfl) rfl rfl ?_
                      refine lpure (v := .bool (decide (2 < e12654))) rfl (p_pick rfl) rfl rfl ?_
                      exact ljmpM J12644 (s12575.1, (decide (2 < e12654))) (a12576, n12576, c12576, some b12652, .cells vs12652 3 m12652) (sub_cons rfl (sub_cons rfl (sub_cons rfl (sub_cons rfl (sub_cons rfl sub_nil))))) ⟨X12619, O12576⟩
                  · refine lskip rfl rfl ?_
                    refine lskip rfl rfl ?_
                    refine lskip rfl rfl ?_
                    refine lskip rfl rfl ?_
                    refine lskip rfl rfl ?_
                    refine lskip rfl rfl ?_
                    refine lskip rfl rfl ?_
                    refine lskip rfl rfl ?_
                    refine lskip rfl rfl ?_
                    refine lskip rfl rfl ?_
                    refine lskip rfl rfl ?_
                    refine lskip rfl rfl ?_
                    refine lpure (v := .bool false) rfl (p_pick rfl) rfl rfl ?_
                    refine lpure (v := .bool false) rfl (p_pick rfl) rfl rfl ?_
                    exact ljmpM J12644 (s12575.1, false) (a12576, n12576, c12576, ob12576, blk12576) (sub_cons rfl (sub_cons rfl (sub_cons rfl (sub_cons rfl (sub_cons rfl sub_nil))))) ⟨X12619, O12576⟩
            · refine dexit ?_
              refine eseq ?_
              refine eloop ?_
              refine xblock ?_
              refine nseq ?_
              refine dseq ?_
              refine dreg ?_
              refine lpure (v := .bool true) rfl (p_assign rfl) rfl rfl ?_
              refine lend ?_
              refine nseq ?_
              refine dret ?_
              exact kcut_r (res_1 resT) X12619 rfl rfl
      · intro j12657 J12658
        refine lcase (i := 25) (show _ = Value.bool s8925 from rfl) (fun k12659 => ?_) (fun k12659 => ?_)
        · refine lskip rfl rfl ?_
          refine lskip rfl rfl ?_
          refine lskip rfl rfl ?_
          refine lskip rfl rfl ?_
          refine lpure (v := .bool true) rfl (p_pick rfl) rfl rfl ?_
          refine Sim.of_eq (congrArg j12657 (show (s8925 || (decide (24 < (p8913.Links.length : Int)))) = true from by rw [k12659] <;> rfl)) ?_
          exact ljmpM J12658 true () (sub_cons rfl (sub_cons rfl sub_nil)) X8926
        · refine lpure (v := .pointer (some ⟨b8916, 2, none⟩)) rfl (p_fa fo_25_2 rfl) rfl rfl ?_
          refine lread (v := .slice a8915 n8915 c8915) rfl (q_load wd_23 rfl) (St.ld X8926 (j := 0) rfl rfl) rfl ?_
          refine lpure (v := .int .i64 (p8913.Links.length : Int)) rfl (p_len rfl rfl rfl un_23 rfl) (RSl.lenC H8915) rfl ?_
          refine lpure (v := .bool (decide (24 < (p8913.Links.length : Int)))) rfl (p_gt rfl) rfl rfl ?_
          refine lpure (v := .bool (decide (24 < (p8913.Links.length : Int)))) rfl (p_pick rfl) rfl rfl ?_
          refine Sim.of_eq (congrArg j12657 (show (s8925 || (decide (24 < (p8913.Links.length : Int)))) = (decide (24 < (p8913.Links.length : Int))) from by rw [k12659] <;> rfl)) ?_
          exact ljmpM J12658 (decide (24 < (p8913.Links.length : Int))) () (sub_cons rfl (sub_cons rfl sub_nil)) X8926
    · intro j12660 J12661
      refine lcase (i := 17) (show _ = Value.bool s8921 from rfl) (fun k12662 => ?_) (fun k12662 => ?_)
      · refine lskip rfl rfl ?_
        refine lskip rfl rfl ?_
        refine lskip rfl rfl ?_
        refine lskip rfl rfl ?_
        refine lskip rfl rfl ?_
        refine lskip rfl rfl ?_
        refine lpure (v := .bool true) rfl (p_pick rfl) rfl rfl ?_
        refine Sim.of_eq (congrArg j12660 (show (s8921 || (decide ((p8913.Station.length : Int) ≠ p8913.Nodes))) = true from by rw [k12662] <;> rfl)) ?_
        exact ljmpM J12661 true () (sub_cons rfl (sub_cons rfl sub_nil)) X8922
      · refine lpure (v := .pointer (some ⟨b8916, 1, none⟩)) rfl (p_fa fo_25_1 rfl) rfl rfl ?_
        refine lread (v := .slice a8914 n8914 c8914) rfl (q_load wd_22 rfl) (St.ld X8922 (j := 0) rfl rfl) rfl ?_
        refine lpure (v := .int .i64 (p8913.Station.length : Int)) rfl (p_len rfl rfl rfl un_22 rfl) (RSl.lenC H8914) rfl ?_
        refine lpure (v := .pointer (some ⟨b8916, 0, none⟩)) rfl (p_fa fo_25_0 rfl) rfl rfl ?_
        refine lread (v := .int .i64 p8913.Nodes) rfl (q_load wd_3 rfl) (St.ld X8922 (j := 0) rfl rfl) rfl ?_
        refine lpure (v := .bool (decide ((p8913.Station.length : Int) ≠ p8913.Nodes))) rfl (p_ne rfl) rfl rfl ?_
        refine lpure (v := .bool (decide ((p8913.Station.length : Int) ≠ p8913.Nodes))) rfl (p_pick rfl) rfl rfl ?_
        refine Sim.of_eq (congrArg j12660 (show (s8921 || (decide ((p8913.Station.length : Int) ≠ p8913.Nodes))) = (decide ((p8913.Station.length : Int) ≠ p8913.Nodes)) from by rw [k12662] <;> rfl)) ?_
        exact ljmpM J12661 (decide ((p8913.Station.length : Int) ≠ p8913.Nodes)) () (sub_cons rfl (sub_cons rfl sub_nil)) X8922
  · intro j12663 J12664
    refine lcase (i := 12) (show _ = Value.bool (decide (p8913.Nodes < 2)) from rfl) (fun k12665 => ?_) (fun k12665 => ?_)
    · refine lskip rfl rfl ?_
      refine lskip rfl rfl ?_
      refine lskip rfl rfl ?_
      refine lpure (v := .bool true) rfl (p_pick rfl) rfl rfl ?_
      refine Sim.of_eq (congrArg j12663 (show ((decide (p8913.Nodes < 2)) || (decide (12 < p8913.Nodes))) = true from by rw [k12665] <;> rfl)) ?_
      exact ljmpM J12664 true () (sub_cons rfl (sub_cons rfl sub_nil)) X8919
    · refine lpure (v := .pointer (some ⟨b8916, 0, none⟩)) rfl (p_fa fo_25_0 rfl) rfl rfl ?_
      refine lread (v := .int .i64 p8913.Nodes) rfl (q_load wd_3 rfl) (St.ld X8919 (j := 0) rfl rfl) rfl ?_
      refine lpure (v := .bool (decide (12 < p8913.Nodes))) rfl (p_gt rfl) rfl rfl ?_
      refine lpure (v := .bool (decide (12 < p8913.Nodes))) rfl (p_pick rfl) rfl rfl ?_
      refine Sim.of_eq (congrArg j12663 (show ((decide (p8913.Nodes < 2)) || (decide (12 < p8913.Nodes))) = (decide (12 < p8913.Nodes)) from by rw [k12665] <;> rfl)) ?_
      exact ljmpM J12664 (decide (12 < p8913.Nodes)) () (sub_cons rfl (sub_cons rfl sub_nil)) X8919
/-! isochron/isochronlaw16.TopoReaches -/
theorem f4_ok {n : Nat} {φ : Fz} {lo : Nat} {h : Heap} {own : OwnL} (X : St φ lo h own) (p1 : ApiTopo) (p4 : Int) (p5 : (List Int)) {a2 : Option Addr} {n2 c2 : Nat} {a3 : Option Addr} {n3 c3 : Nat} {a6 : Option Addr} {n6 c6 : Nat} (H2 : RSl eBool φ (.slice a2 n2 c2) p1.Station) (H3 : RSl eApiLink φ (.slice a3 n3 c3) p1.Links) (H6 : RSl (eInt .i64) φ (.slice a6 n6 c6) p5) (K2 : c2 < unk) (K3 : c3 < unk) (K6 : c6 < unk) : Sim ((recN Try.prog LL cutF (n + 10)).call 4 #[(.agg #[.int .i64 p1.Nodes, .slice a2 n2 c2, .slice a3 n3 c3]), (.int .i64 p4), (.slice a6 n6 c6)] h) (m_isochronlaw16_TopoReaches p1 p4 p5) (fun (d : Bool) p => p = (.bool d, h)) := by
  refine fcut Try.func4 rfl rfl rfl rfl X ?_
  intro h0 X0
  refine dseq ?_
  refine dreg ?_
  refine lbox rfl rfl rfl rfl rfl X0 (fun b7 h9 X10 => ?_)
  refine lpure (v := .bool false) rfl (p_assign rfl) rfl rfl ?_
  refine lend ?_
  refine nseq ?_
  refine dseq ?_
  refine dseq ?_
  refine dreg ?_
  refine lcall rfl rfl ca_9 rfl rfl (f9_ok X10) rfl (fun e8841 v8842 h8843 hq8844 => ?_)
  cases hq8844
  refine lpure (v := .bool (!e8841)) rfl (p_not rfl) rfl rfl ?_
  refine lend ?_
  refine nseq ?_
  refine dcond rfl rfl (fun k8845 => ?_) (fun k8845 => ?_)
  · refine dseq ?_
    refine dreg ?_
    refine lpure (v := .bool false) rfl (p_assign rfl) rfl rfl ?_
    refine lend ?_
    refine nseq ?_
    refine dret ?_
    refine rseq ?_
    exact kcut_r (res_1 resT) X10 rfl rfl
  · refine dskip ?_
    refine nseq ?_
    refine dseq ?_
    refine dgo_start (n := 11) rfl (by kernel_rfl) ?_
    refine gload (v := .agg #[.int .i64 p1.Nodes, .slice a2 n2 c2, .slice a3 n3 c3]) rfl (q_load wd_25 rfl) (St.ld X10 (j := 0) rfl rfl) rfl ?_
    refine gwait rfl (still_call rfl rfl ca_10 rfl) rfl ?_
    obtain ⟨hv8846, ho8847⟩ := lay_at (E := (eInt .i64)) (φ := φ) (cs := []) (l := ([] : List Int)) (len := 0) (parts := []) un_28 ts_3 rfl rfl rfl tz_3 rfl rfl (show RowD (eInt .i64) φ [] ([] : List Int) from rfl) rfl rfl
    refine glay rfl rfl rfl hv8846 rfl rfl X10 (fun b8846 h8846 X8846 => ?_)
    have O8846 := ho8847 b8846
    refine gpure (v := .slice a6 n6 c6) rfl (p_move rfl) (lo_t (lo_sl X8846 H6) rfl) rfl rfl ?_
    refine gpure (v := .slice a6 n6 c6) rfl (p_move rfl) (lo_t (lo_sl X8846 H6) rfl) rfl rfl ?_
    refine gpure (v := .int .i64 (p5.length : Int)) rfl (p_len rfl rfl rfl un_28 rfl) (lo_t (lo_sl X8846 H6) rfl) (RSl.lenC H6) rfl ?_
    refine gpure (v := .int .i64 (min (p5.length : Int) 40)) rfl (p_min rfl rfl rfl) (lo_t rfl (lo_c rfl)) rfl rfl ?_
    refine Sim.mustM fun k8849 => ?_
    have k8849 := of_decide_eq_true k8849
    obtain ⟨a8849, n8849, c8849, hv8849, H8849, K8849⟩ := RSl.sliceC H6 K6 (m := 1) rfl bnd_none (bnd_int (show 0 ≤ (min (p5.length : Int) 40) from by omega)) (by omega) (by omega)
    refine gpure rfl (p_slice rs_28 rfl (evo_ok rfl) (evo_ok rfl) (evo_ok rfl)) (lo_t (lo_sl X8846 H6) (lo_t rfl rfl)) hv8849 rfl ?_
    refine dgo_skip ?_
    refine dgo_skip ?_
    refine dgo_skip ?_
    refine gcall (m := 10) [false] (rk_cons (q_load wd_25 rfl) (St.ld X8846 (j := 1) rfl rfl) (same_self 20 rfl) rk_nil) rfl rfl rfl rfl rfl ca_10 rfl rfl (f10_ok X8846 p1 H2 H3 K2 K3) rfl ?_
    rintro e8890 _ _ ⟨a8894, n8894, c8894, a8895, n8895, c8895, hq, H8894, H8895⟩
    cases hq
    refine dgo_skip ?_
    refine dgo_skip ?_
    refine dgo_skip ?_
    refine dgo_skip ?_
    refine dgo_skip ?_
    refine dgo_skip ?_
    refine dgo_skip ?_
    refine dgo_skip ?_
    obtain ⟨ws8896, hw8896⟩ := RSl.read H8849 X8846 (n := 1) rfl
    refine Sim.mustM fun k8896 => ?_
    obtain ⟨h8896, a8896, c8896, ob8896, blk8896, hv8896, X8896, O8896⟩ := OSl.append O8846 X8846 (j := 0) rfl hw8896 k8896 (ts := #[28, 28]) rfl un_28 (argOk_of ax_28_28) ts_3 rfl rfl tb_3 rfl tz_3 rfl
    refine geither (m := 9) rfl (append_still rfl rfl rfl rfl hv8896) rk_nil rfl (h_builtin rfl rfl) hv8896 rfl ?_
    refine gwait rfl (still_store rfl rfl rfl) rfl ?_
    refine dgo_skip ?_
    obtain ⟨h8897, hst8899, X8898⟩ := St.st X8896 (j := 1) (o := 0) (n := 3) (x := .agg #[.int .i64 e8890.Nodes, .slice a8894 n8894 c8894, .slice a8895 n8895 c8895]) rfl rfl rfl rfl rfl rfl
    refine gact0 (m := 8) [] rk_nil rfl rfl rfl rfl (h_store ts_25 rfl) hst8899 ?_
    refine dgo_skip ?_
    refine dgo_skip ?_
    refine dgo_skip ?_
    refine dgo_skip ?_
    refine dgo_skip ?_
    refine dgo_skip ?_
    refine dgo_skip ?_
    refine dgo_skip ?_
    refine dgo_skip ?_
    refine dgo_skip ?_
    refine gpure (v := .slice a8896 (([] : List Int).length + (p5.take ((min (p5.length : Int) 40)).toNat).length) c8896) rfl (p_assign rfl) (lo_t (lo_osl X8898 (j := 0) rfl O8896) rfl) rfl rfl ?_
    refine gend rk_nil ?_
    refine nseq ?_
    refine dseq ?_
    refine dreg ?_
    refine lread (v := .agg #[.int .i64 e8890.Nodes, .slice a8894 n8894 c8894, .slice a8895 n8895 c8895]) rfl (q_load wd_25 rfl) (St.ld X8898 (j := 1) rfl rfl) rfl ?_
    refine lpure (v := .int .i64 p4) rfl (p_move rfl) rfl rfl ?_
    refine lpure (v := .slice a8896 (([] : List Int).length + (p5.take ((min (p5.length : Int) 40)).toNat).length) c8896) rfl (p_move rfl) rfl rfl ?_
    obtain ⟨φ8900, g8901, X8902, H8903⟩ := OSl.freeze X8898 (j := 0) rfl O8896
    refine lcall rfl rfl ca_17 rfl rfl (f17_ok X8902 e8890 p4 ((([] : List Int) ++ (p5.take ((min (p5.length : Int) 40)).toNat))) (H8894.mono g8901) (H8895.mono g8901) H8903) rfl ?_
    rintro e8904 _ h8906 ⟨φ8908, a8911, n8911, c8911, ob8911, blk8911, g8909, X8910, rfl, O8911⟩
    refine lpure (v := .tuple #[.slice a8911 n8911 c8911, .int .i64 e8904.2]) rfl (p_move rfl) rfl rfl ?_
    refine lpure (v := .slice a8911 n8911 c8911) rfl (p_extract rfl) rfl rfl ?_
    refine lpure (v := .int .i64 e8904.2) rfl (p_extract rfl) rfl rfl ?_
    refine lpure (v := .slice a8911 n8911 c8911) rfl (p_assign rfl) rfl rfl ?_
    refine lpure (v := .int .i64 e8904.2) rfl (p_assign rfl) rfl rfl ?_
    refine lend ?_
    refine nseq ?_
    refine dseq ?_
    refine dseq ?_
    refine dreg ?_
    refine lread (v := .agg #[.int .i64 e8890.Nodes, .slice a8894 n8894 c8894, .slice a8895 n8895 c8895]) rfl (q_load wd_25 rfl) (St.ld X8910 (j := 2) rfl rfl) rfl ?_
    refine lcall rfl rfl ca_13 rfl rfl (f13_ok X8910 e8890 (H8894.mono (g8901.trans g8909)) (H8895.mono (g8901.trans g8909))) rfl (fun e12666 v12667 h12668 hq12669 => ?_)
    cases hq12669
    refine lpure (v := .bool (!e12666)) rfl (p_not rfl) rfl rfl ?_
    refine lend ?_
    refine nseq ?_
    refine dcond rfl rfl (fun k12670 => ?_) (fun k12670 => ?_)
    · refine dseq ?_
      refine dreg ?_
      refine lpure (v := .int .i64 e8904.2) rfl (p_move rfl) rfl rfl ?_
      refine lpure (v := .bool (decide (e8904.2 = 260))) rfl (p_eq rfl) rfl rfl ?_
      refine lpure (v := .bool (decide (e8904.2 = 260))) rfl (p_move rfl) rfl rfl ?_
      refine lsh (τ := Bool) (σ := Unit) (fun s12672 (_ : Unit) => [(39, .bool s12672)]) (fun s12672 (_ : Unit) hh => St φ8908 h.n hh ([(ob8911, blk8911), (none, .dead), (some b7, .cells [.int .i64 e8890.Nodes, .slice a8894 n8894 c8894, .slice a8895 n8895 c8895] 25 .exact)])) 4 ?_ ?_
      · rintro s12672 _ t0 h12674 X12673
        refine lpure (v := .bool s12672) rfl (p_assign rfl) rfl rfl ?_
        refine lend ?_
        refine nseq ?_
        refine dret ?_
        refine rseq ?_
        exact kcut_r (res_1 resT) X12673 rfl rfl
      · intro j12675 J12676
        refine lcase (i := 35) (show _ = Value.bool (decide (e8904.2 = 260)) from rfl) (fun k12677 => ?_) (fun k12677 => ?_)
        · refine lpure (v := .slice a8911 n8911 c8911) rfl (p_move rfl) rfl rfl ?_
          refine lpure (v := .int .i64 (e8904.1.length : Int)) rfl (p_len rfl rfl rfl un_22 rfl) (OSl.len O8911) rfl ?_
          refine lpure (v := .bool (decide ((e8904.1.length : Int) = 0))) rfl (p_eq rfl) rfl rfl ?_
          refine lpure (v := .bool (decide ((e8904.1.length : Int) = 0))) rfl (p_pick rfl) rfl rfl ?_
          refine Sim.of_eq (congrArg j12675 (show ((decide (e8904.2 = 260)) && (decide ((e8904.1.length : Int) = 0))) = (decide ((e8904.1.length : Int) = 0)) from by rw [k12677] <;> rfl)) ?_
          exact ljmpM J12676 (decide ((e8904.1.length : Int) = 0)) () (sub_cons rfl sub_nil) (St.pick X8910 (.keep _ (.none _ (.skip _ (.keep _ (.nil _))))))
        · refine lskip rfl rfl ?_
          refine lskip rfl rfl ?_
          refine lskip rfl rfl ?_
          refine lpure (v := .bool false) rfl (p_pick rfl) rfl rfl ?_
          refine Sim.of_eq (congrArg j12675 (show ((decide (e8904.2 = 260)) && (decide ((e8904.1.length : Int) = 0))) = false from by rw [k12677] <;> rfl)) ?_
          exact ljmpM J12676 false () (sub_cons rfl sub_nil) (St.pick X8910 (.keep _ (.none _ (.skip _ (.keep _ (.nil _))))))
    · refine dskip ?_
      refine nseq ?_
      refine dseq ?_
      refine dreg ?_
      refine lpure (v := .int .i64 p4) rfl (p_move rfl) rfl rfl ?_
      refine lpure (v := .bool (decide (p4 < 0))) rfl (p_lt rfl) rfl rfl ?_
      refine lpure (v := .bool (decide (p4 < 0))) rfl (p_move rfl) rfl rfl ?_
      refine lsh (τ := Bool) (σ := Unit) (fun s12679 (_ : Unit) => [(1, .int .i64 p4), (2, .slice a8896 (([] : List Int).length + (p5.take ((min (p5.length : Int) 40)).toNat).length) c8896), (3, .pointer (some ⟨b7, 0, none⟩)), (7, .slice a8911 n8911 c8911), (8, .int .i64 e8904.2), (47, .bool s12679)]) (fun s12679 (_ : Unit) hh => St φ8908 h.n hh ([(ob8911, blk8911), (none, .dead), (some b7, .cells [.int .i64 e8890.Nodes, .slice a8894 n8894 c8894, .slice a8895 n8895 c8895] 25 .exact)])) 5 ?_ ?_
      · rintro s12679 _ t0 h12681 X12680
        refine lpure (v := .bool s12679) rfl (p_assign rfl) rfl rfl ?_
        refine lend ?_
        refine nseq ?_
        refine dseq ?_
        refine dseq ?_
        refine dreg ?_
        refine lpure (v := .slice a8896 (([] : List Int).length + (p5.take ((min (p5.length : Int) 40)).toNat).length) c8896) rfl (p_move rfl) rfl rfl ?_
        refine lpure (v := .int .i64 ((([] : List Int) ++ (p5.take ((min (p5.length : Int) 40)).toNat)).length : Int)) rfl (p_len rfl rfl rfl un_28 rfl) (RSl.lenC (H8903.mono g8909)) rfl ?_
        refine lpure (v := .int .i64 0) rfl (p_move rfl) rfl rfl ?_
        refine lend ?_
        refine nseq ?_
        refine dblock ?_
        refine dloopM (τ := Bool × Int) (σ := Unit) (fun s12844 (_ : Unit) => [(1, .int .i64 p4), (2, .slice a8896 (([] : List Int).length + (p5.take ((min (p5.length : Int) 40)).toNat).length) c8896), (3, .pointer (some ⟨b7, 0, none⟩)), (7, .slice a8911 n8911 c8911), (8, .int .i64 e8904.2), (9, .bool s12844.1), (48, .slice a8896 (([] : List Int).length + (p5.take ((min (p5.length : Int) 40)).toNat).length) c8896), (49, .int .i64 ((([] : List Int) ++ (p5.take ((min (p5.length : Int) 40)).toNat)).length : Int)), (50, .int .i64 s12844.2)]) (fun s12844 (_ : Unit) hh => St φ8908 h.n hh ([(ob8911, blk8911), (none, .dead), (some b7, .cells [.int .i64 e8890.Nodes, .slice a8894 n8894 c8894, .slice a8895 n8895 c8895] 25 .exact)])) (s12679, 0) () (sub_cons rfl (sub_cons rfl (sub_cons rfl (sub_cons rfl (sub_cons rfl (sub_cons rfl (sub_cons rfl (sub_cons rfl (sub_cons rfl sub_nil))))))))) (St.pick X12680 (.keep _ (.none _ (.skip _ (.keep _ (.nil _)))))) ?_
        rintro n12927 ih12926 s12844 _ t0 h12929 X12928
        refine dseq ?_
        refine dreg ?_
        refine lpure (v := .bool (decide (s12844.2 < ((([] : List Int) ++ (p5.take ((min (p5.length : Int) 40)).toNat)).length : Int)))) rfl (p_lt rfl) rfl rfl ?_
        refine lend ?_
        refine nseq ?_
        refine dseq ?_
        refine dcond rfl rfl (fun k12930 => ?_) (fun k12930 => ?_)
        · refine dskip ?_
          refine nseq ?_
          refine dseq ?_
          refine dblock ?_
          refine dseq ?_
          refine dreg ?_
          refine Sim.bindM fun e12931 he12932 => ?_
          obtain ⟨p12933, cs12933, hp12933, hF12933, hR12933⟩ := RSl.ia (H8903.mono g8909) he12932 (kd := .i64) (n := 1) rfl
          have hR12933 : _ = [(.int .i64 e12931 : Value)] := hR12933
          subst hR12933
          refine lpure (v := p12933) rfl (p_ia rs_28 rfl) hp12933 rfl ?_
          refine lread (v := .int .i64 e12931) rfl (q_load wd_3 rfl) (FP.ld X12928 hF12933) rfl ?_
          refine lpure (v := .int .i64 e12931) rfl (p_assign rfl) rfl rfl ?_
          refine lend ?_
          refine nseq ?_
          refine dreg ?_
          refine lpure (v := .bool s12844.1) rfl (p_move rfl) rfl rfl ?_
          refine lpure (v := .bool s12844.1) rfl (p_move rfl) rfl rfl ?_
          refine lsh (τ := Bool) (σ := Unit) (fun s12935 (_ : Unit) => [(1, .int .i64 p4), (2, .slice a8896 (([] : List Int).length + (p5.take ((min (p5.length : Int) 40)).toNat).length) c8896), (3, .pointer (some ⟨b7, 0, none⟩)), (7, .slice a8911 n8911 c8911), (8, .int .i64 e8904.2), (11, .int .i64 e12931), (48, .slice a8896 (([] : List Int).length + (p5.take ((min (p5.length : Int) 40)).toNat).length) c8896), (49, .int .i64 ((([] : List Int) ++ (p5.take ((min (p5.length : Int) 40)).toNat)).length : Int)), (50, .int .i64 s12844.2), (58, .bool s12935)]) (fun s12935 (_ : Unit) hh => St φ8908 h.n hh ([(ob8911, blk8911), (none, .dead), (some b7, .cells [.int .i64 e8890.Nodes, .slice a8894 n8894 c8894, .slice a8895 n8895 c8895] 25 .exact)])) 3 ?_ ?_
          · rintro s12935 _ t0 h12937 X12936
            refine lpure (v := .bool s12935) rfl (p_move rfl) rfl rfl ?_
            refine lsh (τ := Bool) (σ := Unit) (fun s12939 (_ : Unit) => [(1, .int .i64 p4), (2, .slice a8896 (([] : List Int).length + (p5.take ((min (p5.length : Int) 40)).toNat).length) c8896), (3, .pointer (some ⟨b7, 0, none⟩)), (7, .slice a8911 n8911 c8911), (8, .int .i64 e8904.2), (48, .slice a8896 (([] : List Int).length + (p5.take ((min (p5.length : Int) 40)).toNat).length) c8896), (49, .int .i64 ((([] : List Int) ++ (p5.take ((min (p5.length : Int) 40)).toNat)).length : Int)), (50, .int .i64 s12844.2), (65, .bool s12939)]) (fun s12939 (_ : Unit) hh => St φ8908 h.n hh ([(ob8911, blk8911), (none, .dead), (some b7, .cells [.int .i64 e8890.Nodes, .slice a8894 n8894 c8894, .slice a8895 n8895 c8895] 25 .exact)])) 6 ?_ ?_
            · rintro s12939 _ t0 h12941 X12940
              refine lpure (v := .bool s12939) rfl (p_assign rfl) rfl rfl ?_
              refine lend ?_
              refine nblock ?_
              refine nseq ?_
              refine dreg ?_
              refine lpure (v := .int .i64 (w64 (s12844.2 + 1))) rfl (p_add rfl) rfl rfl ?_
              refine lpure (v := .int .i64 (w64 (s12844.2 + 1))) rfl (p_move rfl) rfl rfl ?_
              refine lend ?_
              exact kbackM ih12926 (s12939, (w64 (s12844.2 + 1))) () (sub_cons rfl (sub_cons rfl (sub_cons rfl (sub_cons rfl (sub_cons rfl (sub_cons rfl (sub_cons rfl (sub_cons rfl (sub_cons rfl sub_nil))))))))) (St.pick X12940 (.keep _ (.none _ (.skip _ (.keep _ (.nil _))))))
            · intro j12942 J12943
              refine lcase (i := 59) (show _ = Value.bool s12935 from rfl) (fun k12944 => ?_) (fun k12944 => ?_)
              · refine lskip rfl rfl ?_
                refine lskip rfl rfl ?_
                refine lskip rfl rfl ?_
                refine lskip rfl rfl ?_
                refine lskip rfl rfl ?_
                refine lpure (v := .bool true) rfl (p_pick rfl) rfl rfl ?_
                refine Sim.of_eq (congrArg j12942 (show (s12935 || (decide ((e8890.Links.length : Int) ≤ e12931))) = true from by rw [k12944] <;> rfl)) ?_
                exact ljmpM J12943 true () (sub_cons rfl (sub_cons rfl (sub_cons rfl (sub_cons rfl (sub_cons rfl (sub_cons rfl (sub_cons rfl (sub_cons rfl (sub_cons rfl sub_nil))))))))) (St.pick X12936 (.keep _ (.none _ (.skip _ (.keep _ (.nil _))))))
              · refine lpure (v := .int .i64 e12931) rfl (p_move rfl) rfl rfl ?_
                refine lpure (v := .pointer (some ⟨b7, 2, none⟩)) rfl (p_fa fo_25_2 rfl) rfl rfl ?_
                refine lread (v := .slice a8895 n8895 c8895) rfl (q_load wd_23 rfl) (St.ld X12936 (j := 2) rfl rfl) rfl ?_
                refine lpure (v := .int .i64 (e8890.Links.length : Int)) rfl (p_len rfl rfl rfl un_23 rfl) (RSl.lenC (H8895.mono (g8901.trans g8909))) rfl ?_
                refine lpure (v := .bool (decide ((e8890.Links.length : Int) ≤ e12931))) rfl (p_ge rfl) rfl rfl ?_
                refine lpure (v := .bool (decide ((e8890.Links.length : Int) ≤ e12931))) rfl (p_pick rfl) rfl rfl ?_
                refine Sim.of_eq (congrArg j12942 (show (s12935 || (decide ((e8890.Links.length : Int) ≤ e12931))) = (decide ((e8890.Links.length : Int) ≤ e12931)) from by rw [k12944] <;> rfl)) ?_
                exact ljmpM J12943 (decide ((e8890.Links.length : Int) ≤ e12931)) () (sub_cons rfl (sub_cons rfl (sub_cons rfl (sub_cons rfl (sub_cons rfl (sub_cons rfl (sub_cons rfl (sub_cons rfl (sub_cons rfl sub_nil))))))))) (St.pick X12936 (.keep _ (.none _ (.skip _ (.keep _ (.nil _))))))
          · intro j12945 J12946
            refine lcase (i := 55) (show _ = Value.bool s12844.1 from rfl) (fun k12947 => ?_) (fun k12947 => ?_)
            · refine lskip rfl rfl ?_
              refine lskip rfl rfl ?_
              refine lpure (v := .bool true) rfl (p_pick rfl) rfl rfl ?_
              refine Sim.of_eq (congrArg j12945 (show (s12844.1 || (decide (e12931 < 0))) = true from by rw [k12947] <;> rfl)) ?_
              exact ljmpM J12946 true () (sub_cons rfl (sub_cons rfl (sub_cons rfl (sub_cons rfl (sub_cons rfl (sub_cons rfl (sub_cons rfl (sub_cons rfl (sub_cons rfl (sub_cons rfl sub_nil)))))))))) (St.pick X12928 (.keep _ (.none _ (.skip _ (.keep _ (.nil _))))))
            · refine lpure (v := .int .i64 e12931) rfl (p_move rfl) rfl rfl ?_
              refine lpure (v := .bool (decide (e12931 < 0))) rfl (p_lt rfl) rfl rfl ?_
              refine lpure (v := .bool (decide (e12931 < 0))) rfl (p_pick rfl) rfl rfl ?_
              refine Sim.of_eq (congrArg j12945 (show (s12844.1 || (decide (e12931 < 0))) = (decide (e12931 < 0)) from by rw [k12947] <;> rfl)) ?_
              exact ljmpM J12946 (decide (e12931 < 0)) () (sub_cons rfl (sub_cons rfl (sub_cons rfl (sub_cons rfl (sub_cons rfl (sub_cons rfl (sub_cons rfl (sub_cons rfl (sub_cons rfl (sub_cons rfl sub_nil)))))))))) (St.pick X12928 (.keep _ (.none _ (.skip _ (.keep _ (.nil _))))))
        · refine dexit ?_
          refine eseq ?_
          refine eloop ?_
          refine xblock ?_
          refine nseq ?_
          refine dseq ?_
          refine dseq ?_
          refine dreg ?_
          refine lpure (v := .bool s12844.1) rfl (p_move rfl) rfl rfl ?_
          refine lend ?_
          refine nseq ?_
          refine dcond rfl rfl (fun k12948 => ?_) (fun k12948 => ?_)
          · refine dseq ?_
            refine dreg ?_
            refine lpure (v := .int .i64 e8904.2) rfl (p_move rfl) rfl rfl ?_
            refine lpure (v := .bool (decide (e8904.2 = 2))) rfl (p_eq rfl) rfl rfl ?_
            refine lpure (v := .bool (decide (e8904.2 = 2))) rfl (p_move rfl) rfl rfl ?_
            refine lsh (τ := Bool) (σ := Unit) (fun s12950 (_ : Unit) => [(74, .bool s12950)]) (fun s12950 (_ : Unit) hh => St φ8908 h.n hh ([(ob8911, blk8911), (none, .dead), (some b7, .cells [.int .i64 e8890.Nodes, .slice a8894 n8894 c8894, .slice a8895 n8895 c8895] 25 .exact)])) 4 ?_ ?_
            · rintro s12950 _ t0 h12952 X12951
              refine lpure (v := .bool s12950) rfl (p_assign rfl) rfl rfl ?_
              refine lend ?_
              refine nseq ?_
              refine dret ?_
              refine rseq ?_
              exact kcut_r (res_1 resT) X12951 rfl rfl
            · intro j12953 J12954
              refine lcase (i := 70) (show _ = Value.bool (decide (e8904.2 = 2)) from rfl) (fun k12955 => ?_) (fun k12955 => ?_)
              · refine lpure (v := .slice a8911 n8911 c8911) rfl (p_move rfl) rfl rfl ?_
                refine lpure (v := .int .i64 (e8904.1.length : Int)) rfl (p_len rfl rfl rfl un_22 rfl) (OSl.len O8911) rfl ?_
                refine lpure (v := .bool (decide ((e8904.1.length : Int) = 0))) rfl (p_eq rfl) rfl rfl ?_
                refine lpure (v := .bool (decide ((e8904.1.length : Int) = 0))) rfl (p_pick rfl) rfl rfl ?_
                refine Sim.of_eq (congrArg j12953 (show ((decide (e8904.2 = 2)) && (decide ((e8904.1.length : Int) = 0))) = (decide ((e8904.1.length : Int) = 0)) from by rw [k12955] <;> rfl)) ?_
                exact ljmpM J12954 (decide ((e8904.1.length : Int) = 0)) () (sub_cons rfl sub_nil) (St.pick X12928 (.keep _ (.none _ (.skip _ (.keep _ (.nil _))))))
              · refine lskip rfl rfl ?_
                refine lskip rfl rfl ?_
                refine lskip rfl rfl ?_
                refine lpure (v := .bool false) rfl (p_pick rfl) rfl rfl ?_
                refine Sim.of_eq (congrArg j12953 (show ((decide (e8904.2 = 2)) && (decide ((e8904.1.length : Int) = 0))) = false from by rw [k12955] <;> rfl)) ?_
                exact ljmpM J12954 false () (sub_cons rfl sub_nil) (St.pick X12928 (.keep _ (.none _ (.skip _ (.keep _ (.nil _))))))
          · refine dskip ?_
            refine nseq ?_
            refine dseq ?_
            refine dreg ?_
            refine lpure (v := .int .i64 e8904.2) rfl (p_move rfl) rfl rfl ?_
            refine lpure (v := .bool (decide (e8904.2 = 0))) rfl (p_eq rfl) rfl rfl ?_
            refine lpure (v := .bool (decide (e8904.2 = 0))) rfl (p_move rfl) rfl rfl ?_
            refine ljoinM (τ := Bool) (σ := Fz) (fun s12979 φ12980 => [(84, .bool s12979)]) (fun s12979 φ12980 hh => St φ12980 h.n hh ([(ob8911, blk8911), (none, .dead), (some b7, .cells [.int .i64 e8890.Nodes, .slice a8894 n8894 c8894, .slice a8895 n8895 c8895] 25 .exact)]) ∧ Fz.le φ8908 φ12980) 7 ?_ ?_
            · rintro s12979 φ12980 t0 h12983 ⟨X12982, g12981⟩
              refine lpure (v := .bool s12979) rfl (p_assign rfl) rfl rfl ?_
              refine lend ?_
              refine nseq ?_
              refine dret ?_
              exact kcut_r (res_1 resT) X12982 rfl rfl
            · intro j12984 J12985
              refine lif (i := 77) (show _ = Value.bool (decide (e8904.2 = 0)) from rfl) (fun k12986 => ?_) (fun k12986 => ?_)
              · refine lpure (v := .slice a8911 n8911 c8911) rfl (p_move rfl) rfl rfl ?_
                refine lread (v := .agg #[.int .i64 e8890.Nodes, .slice a8894 n8894 c8894, .slice a8895 n8895 c8895]) rfl (q_load wd_25 rfl) (St.ld X12928 (j := 2) rfl rfl) rfl ?_
                refine lpure (v := .int .i64 p4) rfl (p_move rfl) rfl rfl ?_
                refine lpure (v := .slice a8896 (([] : List Int).length + (p5.take ((min (p5.length : Int) 40)).toNat).length) c8896) rfl (p_move rfl) rfl rfl ?_
                refine lcall rfl rfl ca_19 rfl rfl (f19_ok X12928 e8890 p4 ((([] : List Int) ++ (p5.take ((min (p5.length : Int) 40)).toNat))) (H8894.mono (g8901.trans g8909)) (H8895.mono (g8901.trans g8909)) (H8903.mono g8909)) rfl ?_
                rintro e12987 _ h12989 ⟨φ12991, a12994, n12994, c12994, ob12994, blk12994, g12992, X12993, rfl, O12994⟩
                obtain ⟨φ12996, g12997, X12998, H12999⟩ := OSl.freeze X12993 (j := 1) rfl (O8911.mono g12992)
                obtain ⟨φ13000, g13001, X13002, H13003⟩ := OSl.freeze X12998 (j := 0) rfl (O12994.mono g12997)
                refine lcall rfl rfl ca_18 rfl rfl (f18_ok X13002 (e8904.1) e12987 (H12999.mono g13001) H13003) rfl (fun e13004 v13005 h13006 hq13007 => ?_)
                cases hq13007
                refine lpure (v := .bool e13004) rfl (p_pick rfl) rfl rfl ?_
                exact ljmpM J12985 e13004 φ12991 (sub_cons rfl sub_nil) ⟨(St.pick X12993 (.skip _ (.keep _ (.none _ (.skip _ (.keep _ (.nil _))))))), g12992⟩
              · refine lskip rfl rfl ?_
                refine lskip rfl rfl ?_
                refine lskip rfl rfl ?_
                refine lskip rfl rfl ?_
                refine lskip rfl rfl ?_
                refine lskip rfl rfl ?_
                refine lpure (v := .bool false) rfl (p_pick rfl) rfl rfl ?_
                exact ljmpM J12985 false φ8908 (sub_cons rfl sub_nil) ⟨(St.pick X12928 (.keep _ (.none _ (.skip _ (.keep _ (.nil _)))))), (Fz.le_refl _)⟩
      · intro j13008 J13009
        refine lcase (i := 42) (show _ = Value.bool (decide (p4 < 0)) from rfl) (fun k13010 => ?_) (fun k13010 => ?_)
        · refine lskip rfl rfl ?_
          refine lskip rfl rfl ?_
          refine lskip rfl rfl ?_
          refine lskip rfl rfl ?_
          refine lpure (v := .bool true) rfl (p_pick rfl) rfl rfl ?_
          refine Sim.of_eq (congrArg j13008 (show ((decide (p4 < 0)) || (decide (e8890.Nodes ≤ p4))) = true from by rw [k13010] <;> rfl)) ?_
          exact ljmpM J13009 true () (sub_cons rfl (sub_cons rfl (sub_cons rfl (sub_cons rfl (sub_cons rfl (sub_cons rfl sub_nil)))))) (St.pick X8910 (.keep _ (.none _ (.skip _ (.keep _ (.nil _))))))
        · refine lpure (v := .int .i64 p4) rfl (p_move rfl) rfl rfl ?_
          refine lpure (v := .pointer (some ⟨b7, 0, none⟩)) rfl (p_fa fo_25_0 rfl) rfl rfl ?_
          refine lread (v := .int .i64 e8890.Nodes) rfl (q_load wd_3 rfl) (St.ld X8910 (j := 2) rfl rfl) rfl ?_
          refine lpure (v := .bool (decide (e8890.Nodes ≤ p4))) rfl (p_ge rfl) rfl rfl ?_
          refine lpure (v := .bool (decide (e8890.Nodes ≤ p4))) rfl (p_pick rfl) rfl rfl ?_
          refine Sim.of_eq (congrArg j13008 (show ((decide (p4 < 0)) || (decide (e8890.Nodes ≤ p4))) = (decide (e8890.Nodes ≤ p4)) from by rw [k13010] <;> rfl)) ?_
          exact ljmpM J13009 (decide (e8890.Nodes ≤ p4)) () (sub_cons rfl (sub_cons rfl (sub_cons rfl (sub_cons rfl (sub_cons rfl (sub_cons rfl sub_nil)))))) (St.pick X8910 (.keep _ (.none _ (.skip _ (.keep _ (.nil _))))))
end Go.AM
