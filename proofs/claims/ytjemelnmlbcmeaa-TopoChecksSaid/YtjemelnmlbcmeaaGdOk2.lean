/- Printed: functions of the given program as functions over plain data, and that the machine does what they say; no claim of its own; no condition. -/
import Derived.Test.YtjemelnmlbcmeaaGdOk1
set_option maxRecDepth 100000
set_option maxHeartbeats 4000000
set_option linter.unusedVariables false
set_option linter.unusedSimpArgs false
namespace Go.AM
open Go Go.Proofs

/-! slices.Equal[[]bool,bool] -/
theorem f18_ok {n : Nat} {φ : Fz} {lo : Nat} {h : Heap} {own : OwnL} (X : St φ lo h own) (p8689 : (List Bool)) (p8691 : (List Bool)) {a8690 : Option Addr} {n8690 c8690 : Nat} {a8692 : Option Addr} {n8692 c8692 : Nat} (H8690 : RSl eBool φ (.slice a8690 n8690 c8690) p8689) (H8692 : RSl eBool φ (.slice a8692 n8692 c8692) p8691) : Sim ((recN Try.prog LL cutF (n + 1)).call 18 #[(.slice a8690 n8690 c8690), (.slice a8692 n8692 c8692)] h) (m_slices_Equal_bool_bool p8689 p8691) (fun (d : Bool) p => p = (.bool d, h)) := by
  refine fcut Try.func18 rfl rfl rfl rfl X ?_
  intro h0 X0
  refine dseq ?_
  refine dreg ?_
  refine lpure (v := .bool false) rfl (p_assign rfl) rfl rfl ?_
  refine lend ?_
  refine nseq ?_
  refine dseq ?_
  refine dseq ?_
  refine dreg ?_
  refine lpure (v := .slice a8690 n8690 c8690) rfl (p_move rfl) rfl rfl ?_
  refine lpure (v := .int .i64 (p8689.length : Int)) rfl (p_len rfl rfl rfl un_22 rfl) (RSl.lenC H8690) rfl ?_
  refine lpure (v := .slice a8692 n8692 c8692) rfl (p_move rfl) rfl rfl ?_
  refine lpure (v := .int .i64 (p8691.length : Int)) rfl (p_len rfl rfl rfl un_22 rfl) (RSl.lenC H8692) rfl ?_
  refine lpure (v := .bool (decide ((p8689.length : Int) ≠ (p8691.length : Int)))) rfl (p_ne rfl) rfl rfl ?_
  refine lend ?_
  refine nseq ?_
  refine dcond rfl rfl (fun k8693 => ?_) (fun k8693 => ?_)
  · refine dseq ?_
    refine dreg ?_
    refine lpure (v := .bool false) rfl (p_assign rfl) rfl rfl ?_
    refine lend ?_
    refine nseq ?_
    refine dret ?_
    refine rseq ?_
    exact kcut_r (res_1 resT) X0 rfl rfl
  · refine dskip ?_
    refine nseq ?_
    refine dseq ?_
    refine dseq ?_
    refine dreg ?_
    refine lpure (v := .slice a8690 n8690 c8690) rfl (p_move rfl) rfl rfl ?_
    refine lpure (v := .int .i64 (p8689.length : Int)) rfl (p_len rfl rfl rfl un_22 rfl) (RSl.lenC H8690) rfl ?_
    refine lpure (v := .int .i64 0) rfl (p_move rfl) rfl rfl ?_
    refine lend ?_
    refine nseq ?_
    refine dblock ?_
    refine dloopM (τ := Int) (σ := Unit) (fun s8716 (_ : Unit) => [(0, .slice a8690 n8690 c8690), (1, .slice a8692 n8692 c8692), (12, .int .i64 (p8689.length : Int)), (13, .int .i64 s8716)]) (fun s8716 (_ : Unit) hh => St φ h.n hh ([])) 0 () (sub_cons rfl (sub_cons rfl (sub_cons rfl (sub_cons rfl sub_nil)))) X0 ?_
    rintro n8729 ih8728 s8716 _ t0 h8731 X8730
    refine dseq ?_
    refine dreg ?_
    refine lpure (v := .bool (decide (s8716 < (p8689.length : Int)))) rfl (p_lt rfl) rfl rfl ?_
    refine lend ?_
    refine nseq ?_
    refine dseq ?_
    refine dcond rfl rfl (fun k8732 => ?_) (fun k8732 => ?_)
    · refine dskip ?_
      refine nseq ?_
      refine dseq ?_
      refine dblock ?_
      refine dseq ?_
      refine dreg ?_
      refine lpure (v := .int .i64 s8716) rfl (p_move rfl) rfl rfl ?_
      refine lpure (v := .int .i64 s8716) rfl (p_assign rfl) rfl rfl ?_
      refine lend ?_
      refine nseq ?_
      refine dseq ?_
      refine ddraw 0 0 0 (by kernel_rfl) ?_
      refine spure (v := .slice a8690 n8690 c8690) rfl (p_move rfl) (lo_t (lo_sl X8730 H8690) rfl) rfl rfl ?_
      refine spure (v := .int .i64 s8716) rfl (p_move rfl) (lo_t rfl rfl) rfl rfl ?_
      refine Sim.bindM fun e8733 he8734 => ?_
      obtain ⟨p8735, cs8735, hp8735, hF8735, hR8735⟩ := RSl.ia H8690 he8734 (kd := .i64) (n := 1) rfl
      have hR8735 : _ = [(.bool e8733 : Value)] := hR8735
      subst hR8735
      refine spure (v := p8735) rfl (p_ia rs_22 rfl) (lo_t (lo_sl X8730 H8690) (lo_t rfl rfl)) hp8735 rfl ?_
      refine sload (v := .bool e8733) rfl rfl (q_load wd_4 rfl) (FP.ld X8730 hF8735) (same_self 20 rfl) rfl ?_
      refine spure (v := .slice a8692 n8692 c8692) rfl (p_move rfl) (lo_t (lo_sl X8730 H8692) rfl) rfl rfl ?_
      refine spure (v := .int .i64 s8716) rfl (p_move rfl) (lo_t rfl rfl) rfl rfl ?_
      refine Sim.bindM fun e8736 he8737 => ?_
      obtain ⟨p8738, cs8738, hp8738, hF8738, hR8738⟩ := RSl.ia H8692 he8737 (kd := .i64) (n := 1) rfl
      have hR8738 : _ = [(.bool e8736 : Value)] := hR8738
      subst hR8738
      refine spure (v := p8738) rfl (p_ia rs_22 rfl) (lo_t (lo_sl X8730 H8692) (lo_t rfl rfl)) hp8738 rfl ?_
      refine sload (v := .bool e8736) rfl rfl (q_load wd_4 rfl) (FP.ld X8730 hF8738) (same_self 20 rfl) rfl ?_
      refine spure (v := .bool (!(e8733 == e8736))) rfl (p_bin rfl) (lo_t rfl (lo_t rfl rfl)) (bin_neB un_4) rfl ?_
      refine send ?_
      refine nseq ?_
      refine dcond rfl rfl (fun k8739 => ?_) (fun k8739 => ?_)
      · refine dseq ?_
        refine dreg ?_
        refine lpure (v := .bool false) rfl (p_assign rfl) rfl rfl ?_
        refine lend ?_
        refine nseq ?_
        refine dret ?_
        refine rblock ?_
        refine rseq ?_
        refine rloop ?_
        refine rblock ?_
        refine rseq ?_
        exact kcut_r (res_1 resT) X8730 rfl rfl
      · refine dskip ?_
        refine nblock ?_
        refine nseq ?_
        refine dreg ?_
        refine lpure (v := .int .i64 (w64 (s8716 + 1))) rfl (p_add rfl) rfl rfl ?_
        refine lpure (v := .int .i64 (w64 (s8716 + 1))) rfl (p_move rfl) rfl rfl ?_
        refine lend ?_
        exact kbackM ih8728 (w64 (s8716 + 1)) () (sub_cons rfl (sub_cons rfl (sub_cons rfl (sub_cons rfl sub_nil)))) X8730
    · refine dexit ?_
      refine eseq ?_
      refine eloop ?_
      refine xblock ?_
      refine nseq ?_
      refine dseq ?_
      refine dreg ?_
      refine lpure (v := .bool true) rfl (p_assign rfl) rfl rfl ?_
      refine lend ?_
      refine nseq ?_
      refine dret ?_
      exact kcut_r (res_1 resT) X8730 rfl rfl
/-! isochron/isochronlaw16.wakes -/
theorem f9_ok {n : Nat} {φ : Fz} {lo : Nat} {h : Heap} {own : OwnL} (X : St φ lo h own) : Sim ((recN Try.prog LL cutF (n + 9)).call 9 #[] h) (m_isochronlaw16_wakes) (fun (d : Bool) p => p = (.bool d, h)) := by
  refine fcut Try.func9 rfl rfl rfl rfl X ?_
  intro h0 X0
  refine dseq ?_
  refine dreg ?_
  refine lpure (v := .bool false) rfl (p_assign rfl) rfl rfl ?_
  refine lend ?_
  refine nseq ?_
  refine dseq ?_
  refine dreg ?_
  refine lcall rfl rfl ca_38 rfl rfl (f38_ok X0) rfl ?_
  rintro e39 _ h41 ⟨φ43, a46, n46, c46, ob46, blk46, a48, n48, c48, ob48, blk48, g44, X45, rfl, O46, O48⟩
  refine lalloc rfl tz_25 rfl rfl rfl X45 (fun b50 h52 X53 => ?_)
  refine lstore rfl ts_25 rfl rfl (j := 0) rfl rfl rfl rfl rfl rfl X53 (fun h54 X55 => ?_)
  refine lend ?_
  refine nseq ?_
  refine dseq ?_
  refine dreg ?_
  refine lread (v := .agg #[.int .i64 e39.Nodes, .slice a46 n46 c46, .slice a48 n48 c48]) rfl (q_load wd_25 rfl) (St.ld X55 (j := 0) rfl rfl) rfl ?_
  obtain ⟨φ6852, g6853, X6854, H6855⟩ := OSl.freeze X55 (j := 1) rfl O46
  obtain ⟨φ6856, g6857, X6858, H6859⟩ := OSl.freeze X6854 (j := 2) rfl (O48.mono g6853)
  refine lcall rfl rfl ca_23 rfl rfl (f23_ok X6858 e39 0 (H6855.mono g6857) H6859) rfl (fun e6860 v6861 h6862 hq6863 => ?_)
  cases hq6863
  refine lpure (v := .tuple #[.int .i64 e6860.1, .int .i64 e6860.2]) rfl (p_move rfl) rfl rfl ?_
  refine lpure (v := .int .i64 e6860.1) rfl (p_extract rfl) rfl rfl ?_
  refine lpure (v := .int .i64 e6860.2) rfl (p_extract rfl) rfl rfl ?_
  refine lpure (v := .int .i64 e6860.1) rfl (p_assign rfl) rfl rfl ?_
  refine lpure (v := .int .i64 e6860.2) rfl (p_assign rfl) rfl rfl ?_
  refine lend ?_
  refine nseq ?_
  refine dseq ?_
  refine dreg ?_
  refine lread (v := .agg #[.int .i64 e39.Nodes, .slice a46 n46 c46, .slice a48 n48 c48]) rfl (q_load wd_25 rfl) (St.ld X55 (j := 0) rfl rfl) rfl ?_
  obtain ⟨φ6896, g6897, X6898, H6899⟩ := OSl.freeze X55 (j := 1) rfl O46
  obtain ⟨φ6900, g6901, X6902, H6903⟩ := OSl.freeze X6898 (j := 2) rfl (O48.mono g6897)
  refine lcall rfl rfl ca_24 rfl rfl (f24_ok X6902 e39 3 (H6899.mono g6901) H6903) rfl (fun e6904 v6905 h6906 hq6907 => ?_)
  cases hq6907
  refine lpure (v := .tuple #[.int .i64 e6904.1, .int .i64 e6904.2]) rfl (p_move rfl) rfl rfl ?_
  refine lpure (v := .int .i64 e6904.1) rfl (p_extract rfl) rfl rfl ?_
  refine lpure (v := .int .i64 e6904.2) rfl (p_extract rfl) rfl rfl ?_
  refine lpure (v := .int .i64 e6904.1) rfl (p_assign rfl) rfl rfl ?_
  refine lpure (v := .int .i64 e6904.2) rfl (p_assign rfl) rfl rfl ?_
  refine lend ?_
  refine nseq ?_
  refine dseq ?_
  refine dreg ?_
  refine lread (v := .agg #[.int .i64 e39.Nodes, .slice a46 n46 c46, .slice a48 n48 c48]) rfl (q_load wd_25 rfl) (St.ld X55 (j := 0) rfl rfl) rfl ?_
  obtain ⟨φ6945, g6946, X6947, H6948⟩ := OSl.freeze X55 (j := 1) rfl O46
  obtain ⟨φ6949, g6950, X6951, H6952⟩ := OSl.freeze X6947 (j := 2) rfl (O48.mono g6946)
  refine lcall rfl rfl ca_25 rfl rfl (f25_ok X6951 e39 5 (H6948.mono g6950) H6952) rfl (fun e6953 v6954 h6955 hq6956 => ?_)
  cases hq6956
  refine lpure (v := .tuple #[.int .i64 e6953.1, .int .i64 e6953.2]) rfl (p_move rfl) rfl rfl ?_
  refine lpure (v := .int .i64 e6953.1) rfl (p_extract rfl) rfl rfl ?_
  refine lpure (v := .int .i64 e6953.2) rfl (p_extract rfl) rfl rfl ?_
  refine lpure (v := .int .i64 e6953.1) rfl (p_assign rfl) rfl rfl ?_
  refine lpure (v := .int .i64 e6953.2) rfl (p_assign rfl) rfl rfl ?_
  refine lend ?_
  refine nseq ?_
  refine dseq ?_
  refine dreg ?_
  refine lread (v := .agg #[.int .i64 e39.Nodes, .slice a46 n46 c46, .slice a48 n48 c48]) rfl (q_load wd_25 rfl) (St.ld X55 (j := 0) rfl rfl) rfl ?_
  obtain ⟨φ6994, g6995, X6996, H6997⟩ := OSl.freeze X55 (j := 1) rfl O46
  obtain ⟨φ6998, g6999, X7000, H7001⟩ := OSl.freeze X6996 (j := 2) rfl (O48.mono g6995)
  refine lcall rfl rfl ca_26 rfl rfl (f26_ok X7000 e39 4 (H6997.mono g6999) H7001) rfl (fun e7002 v7003 h7004 hq7005 => ?_)
  cases hq7005
  refine lpure (v := .tuple #[.int .i64 e7002.1, .int .i64 e7002.2]) rfl (p_move rfl) rfl rfl ?_
  refine lpure (v := .int .i64 e7002.1) rfl (p_extract rfl) rfl rfl ?_
  refine lpure (v := .int .i64 e7002.2) rfl (p_extract rfl) rfl rfl ?_
  refine lpure (v := .int .i64 e7002.1) rfl (p_assign rfl) rfl rfl ?_
  refine lpure (v := .int .i64 e7002.2) rfl (p_assign rfl) rfl rfl ?_
  refine lend ?_
  refine nseq ?_
  refine dseq ?_
  refine dreg ?_
  refine lread (v := .agg #[.int .i64 e39.Nodes, .slice a46 n46 c46, .slice a48 n48 c48]) rfl (q_load wd_25 rfl) (St.ld X55 (j := 0) rfl rfl) rfl ?_
  obtain ⟨φ7738, g7739, X7740, H7741⟩ := OSl.freeze X55 (j := 1) rfl O46
  obtain ⟨φ7742, g7743, X7744, H7745⟩ := OSl.freeze X7740 (j := 2) rfl (O48.mono g7739)
  refine lcall rfl rfl ca_11 rfl rfl (f11_ok X7744 e39 1 (H7741.mono g7743) H7745) rfl ?_
  rintro e7746 _ h7748 ⟨φ7750, a7753, n7753, c7753, ob7753, blk7753, g7751, X7752, rfl, O7753⟩
  refine lpure (v := .tuple #[.slice a7753 n7753 c7753, .int .i64 e7746.2]) rfl (p_move rfl) rfl rfl ?_
  refine lpure (v := .slice a7753 n7753 c7753) rfl (p_extract rfl) rfl rfl ?_
  refine lpure (v := .int .i64 e7746.2) rfl (p_extract rfl) rfl rfl ?_
  refine lpure (v := .slice a7753 n7753 c7753) rfl (p_assign rfl) rfl rfl ?_
  refine lpure (v := .int .i64 e7746.2) rfl (p_assign rfl) rfl rfl ?_
  refine lend ?_
  refine nseq ?_
  refine dseq ?_
  refine dreg ?_
  refine lread (v := .agg #[.int .i64 e39.Nodes, .slice a46 n46 c46, .slice a48 n48 c48]) rfl (q_load wd_25 rfl) (St.ld X7752 (j := 1) rfl rfl) rfl ?_
  refine lcall rfl rfl ca_12 rfl rfl (f12_ok X7752 e39 2 1 (H7741.mono (g7743.trans g7751)) (H7745.mono g7751)) rfl (fun e8224 v8225 h8226 hq8227 => ?_)
  cases hq8227
  refine lpure (v := .tuple #[.int .i64 e8224.1, .int .i64 e8224.2]) rfl (p_move rfl) rfl rfl ?_
  refine lpure (v := .int .i64 e8224.1) rfl (p_extract rfl) rfl rfl ?_
  refine lpure (v := .int .i64 e8224.2) rfl (p_extract rfl) rfl rfl ?_
  refine lpure (v := .int .i64 e8224.1) rfl (p_assign rfl) rfl rfl ?_
  refine lpure (v := .int .i64 e8224.2) rfl (p_assign rfl) rfl rfl ?_
  refine lend ?_
  refine nseq ?_
  refine dseq ?_
  refine dreg ?_
  refine lread (v := .agg #[.int .i64 e39.Nodes, .slice a46 n46 c46, .slice a48 n48 c48]) rfl (q_load wd_25 rfl) (St.ld X7752 (j := 1) rfl rfl) rfl ?_
  obtain ⟨h8228, b8228, hv8228, X8228, O8228⟩ := OSl.lay (E := (eInt .i64)) (φ := φ7750) (cs := [.int .i64 1]) (l := [1]) (len := 1) (parts := [(0, .int .i64 1)]) un_28 ts_3 rfl rfl rfl tz_3 rfl rfl (show RowD (eInt .i64) φ7750 [.int .i64 1] [1] from ⟨[.int .i64 1], _, rfl, rfl, rfl⟩) rfl rfl X7752
  refine lheap rfl (h_buildSlice rfl) hv8228 rfl ?_
  obtain ⟨φ8554, g8555, X8556, H8557⟩ := OSl.freeze X8228 (j := 0) rfl O8228
  refine lcall rfl rfl ca_17 rfl rfl (f17_ok X8556 e39 0 ([1]) (H7741.mono ((g7743.trans g7751).trans g8555)) (H7745.mono (g7751.trans g8555)) H8557) rfl ?_
  rintro e8558 _ h8560 ⟨φ8562, a8565, n8565, c8565, ob8565, blk8565, g8563, X8564, rfl, O8565⟩
  refine lpure (v := .tuple #[.slice a8565 n8565 c8565, .int .i64 e8558.2]) rfl (p_move rfl) rfl rfl ?_
  refine lpure (v := .slice a8565 n8565 c8565) rfl (p_extract rfl) rfl rfl ?_
  refine lpure (v := .int .i64 e8558.2) rfl (p_extract rfl) rfl rfl ?_
  refine lpure (v := .slice a8565 n8565 c8565) rfl (p_assign rfl) rfl rfl ?_
  refine lpure (v := .int .i64 e8558.2) rfl (p_assign rfl) rfl rfl ?_
  refine lend ?_
  refine nseq ?_
  refine dseq ?_
  refine dreg ?_
  refine lread (v := .agg #[.int .i64 e39.Nodes, .slice a46 n46 c46, .slice a48 n48 c48]) rfl (q_load wd_25 rfl) (St.ld X8564 (j := 3) rfl rfl) rfl ?_
  refine lcall rfl rfl ca_23 rfl rfl (f23_ok X8564 e39 6 (H7741.mono (((g7743.trans g7751).trans g8555).trans g8563)) (H7745.mono ((g7751.trans g8555).trans g8563))) rfl (fun e8567 v8568 h8569 hq8570 => ?_)
  cases hq8570
  refine lpure (v := .tuple #[.int .i64 e8567.1, .int .i64 e8567.2]) rfl (p_move rfl) rfl rfl ?_
  refine lpure (v := .int .i64 e8567.1) rfl (p_extract rfl) rfl rfl ?_
  refine lpure (v := .int .i64 e8567.2) rfl (p_extract rfl) rfl rfl ?_
  refine lpure (v := .int .i64 e8567.1) rfl (p_assign rfl) rfl rfl ?_
  refine lpure (v := .int .i64 e8567.2) rfl (p_assign rfl) rfl rfl ?_
  refine lend ?_
  refine nseq ?_
  refine dseq ?_
  refine dreg ?_
  refine lpure (v := .int .i64 e6860.2) rfl (p_move rfl) rfl rfl ?_
  refine lpure (v := .bool (decide (e6860.2 = 0))) rfl (p_eq rfl) rfl rfl ?_
  refine lpure (v := .bool (decide (e6860.2 = 0))) rfl (p_move rfl) rfl rfl ?_
  refine lsh (τ := Bool) (σ := Unit) (fun s8572 (_ : Unit) => [(2, .int .i64 e6860.1), (4, .int .i64 e6904.1), (6, .int .i64 e6953.1), (7, .int .i64 e6953.2), (8, .int .i64 e7002.1), (9, .int .i64 e7002.2), (10, .slice a7753 n7753 c7753), (11, .int .i64 e7746.2), (12, .int .i64 e8224.1), (13, .int .i64 e8224.2), (14, .slice a8565 n8565 c8565), (15, .int .i64 e8558.2), (17, .int .i64 e8567.2), (66, .bool s8572)]) (fun s8572 (_ : Unit) hh => St φ8562 h.n hh ([(ob8565, blk8565), (none, .dead), (ob7753, blk7753), (some b50, .cells [.int .i64 e39.Nodes, .slice a46 n46 c46, .slice a48 n48 c48] 25 .exact), (none, .dead), (none, .dead)])) 3 ?_ ?_
  · rintro s8572 _ t0 h8574 X8573
    refine lpure (v := .bool s8572) rfl (p_move rfl) rfl rfl ?_
    refine lsh (τ := Bool) (σ := Unit) (fun s8576 (_ : Unit) => [(2, .int .i64 e6860.1), (4, .int .i64 e6904.1), (6, .int .i64 e6953.1), (8, .int .i64 e7002.1), (9, .int .i64 e7002.2), (10, .slice a7753 n7753 c7753), (11, .int .i64 e7746.2), (12, .int .i64 e8224.1), (13, .int .i64 e8224.2), (14, .slice a8565 n8565 c8565), (15, .int .i64 e8558.2), (17, .int .i64 e8567.2), (70, .bool s8576)]) (fun s8576 (_ : Unit) hh => St φ8562 h.n hh ([(ob8565, blk8565), (none, .dead), (ob7753, blk7753), (some b50, .cells [.int .i64 e39.Nodes, .slice a46 n46 c46, .slice a48 n48 c48] 25 .exact), (none, .dead), (none, .dead)])) 3 ?_ ?_
    · rintro s8576 _ t0 h8578 X8577
      refine lpure (v := .bool s8576) rfl (p_move rfl) rfl rfl ?_
      refine lsh (τ := Bool) (σ := Unit) (fun s8580 (_ : Unit) => [(2, .int .i64 e6860.1), (4, .int .i64 e6904.1), (6, .int .i64 e6953.1), (8, .int .i64 e7002.1), (10, .slice a7753 n7753 c7753), (11, .int .i64 e7746.2), (12, .int .i64 e8224.1), (13, .int .i64 e8224.2), (14, .slice a8565 n8565 c8565), (15, .int .i64 e8558.2), (17, .int .i64 e8567.2), (74, .bool s8580)]) (fun s8580 (_ : Unit) hh => St φ8562 h.n hh ([(ob8565, blk8565), (none, .dead), (ob7753, blk7753), (some b50, .cells [.int .i64 e39.Nodes, .slice a46 n46 c46, .slice a48 n48 c48] 25 .exact), (none, .dead), (none, .dead)])) 3 ?_ ?_
      · rintro s8580 _ t0 h8582 X8581
        refine lpure (v := .bool s8580) rfl (p_move rfl) rfl rfl ?_
        refine lsh (τ := Bool) (σ := Unit) (fun s8584 (_ : Unit) => [(2, .int .i64 e6860.1), (4, .int .i64 e6904.1), (6, .int .i64 e6953.1), (8, .int .i64 e7002.1), (10, .slice a7753 n7753 c7753), (12, .int .i64 e8224.1), (13, .int .i64 e8224.2), (14, .slice a8565 n8565 c8565), (15, .int .i64 e8558.2), (17, .int .i64 e8567.2), (78, .bool s8584)]) (fun s8584 (_ : Unit) hh => St φ8562 h.n hh ([(ob8565, blk8565), (none, .dead), (ob7753, blk7753), (some b50, .cells [.int .i64 e39.Nodes, .slice a46 n46 c46, .slice a48 n48 c48] 25 .exact), (none, .dead), (none, .dead)])) 3 ?_ ?_
        · rintro s8584 _ t0 h8586 X8585
          refine lpure (v := .bool s8584) rfl (p_move rfl) rfl rfl ?_
          refine lsh (τ := Bool) (σ := Unit) (fun s8588 (_ : Unit) => [(2, .int .i64 e6860.1), (4, .int .i64 e6904.1), (6, .int .i64 e6953.1), (8, .int .i64 e7002.1), (10, .slice a7753 n7753 c7753), (12, .int .i64 e8224.1), (14, .slice a8565 n8565 c8565), (15, .int .i64 e8558.2), (17, .int .i64 e8567.2), (82, .bool s8588)]) (fun s8588 (_ : Unit) hh => St φ8562 h.n hh ([(ob8565, blk8565), (none, .dead), (ob7753, blk7753), (some b50, .cells [.int .i64 e39.Nodes, .slice a46 n46 c46, .slice a48 n48 c48] 25 .exact), (none, .dead), (none, .dead)])) 3 ?_ ?_
          · rintro s8588 _ t0 h8590 X8589
            refine lpure (v := .bool s8588) rfl (p_move rfl) rfl rfl ?_
            refine lsh (τ := Bool) (σ := Unit) (fun s8592 (_ : Unit) => [(2, .int .i64 e6860.1), (4, .int .i64 e6904.1), (6, .int .i64 e6953.1), (8, .int .i64 e7002.1), (10, .slice a7753 n7753 c7753), (12, .int .i64 e8224.1), (14, .slice a8565 n8565 c8565), (17, .int .i64 e8567.2), (86, .bool s8592)]) (fun s8592 (_ : Unit) hh => St φ8562 h.n hh ([(ob8565, blk8565), (none, .dead), (ob7753, blk7753), (some b50, .cells [.int .i64 e39.Nodes, .slice a46 n46 c46, .slice a48 n48 c48] 25 .exact), (none, .dead), (none, .dead)])) 3 ?_ ?_
            · rintro s8592 _ t0 h8594 X8593
              refine lpure (v := .bool s8592) rfl (p_assign rfl) rfl rfl ?_
              refine lend ?_
              refine nseq ?_
              refine dseq ?_
              refine dreg ?_
              refine lpure (v := .bool s8592) rfl (p_move rfl) rfl rfl ?_
              refine lpure (v := .bool s8592) rfl (p_move rfl) rfl rfl ?_
              refine lsh (τ := Bool) (σ := Unit) (fun s8596 (_ : Unit) => [(4, .int .i64 e6904.1), (6, .int .i64 e6953.1), (8, .int .i64 e7002.1), (10, .slice a7753 n7753 c7753), (12, .int .i64 e8224.1), (14, .slice a8565 n8565 c8565), (17, .int .i64 e8567.2), (91, .bool s8596)]) (fun s8596 (_ : Unit) hh => St φ8562 h.n hh ([(ob8565, blk8565), (none, .dead), (ob7753, blk7753), (some b50, .cells [.int .i64 e39.Nodes, .slice a46 n46 c46, .slice a48 n48 c48] 25 .exact), (none, .dead), (none, .dead)])) 3 ?_ ?_
              · rintro s8596 _ t0 h8598 X8597
                refine lpure (v := .bool s8596) rfl (p_move rfl) rfl rfl ?_
                refine lsh (τ := Bool) (σ := Unit) (fun s8600 (_ : Unit) => [(6, .int .i64 e6953.1), (8, .int .i64 e7002.1), (10, .slice a7753 n7753 c7753), (12, .int .i64 e8224.1), (14, .slice a8565 n8565 c8565), (17, .int .i64 e8567.2), (95, .bool s8600)]) (fun s8600 (_ : Unit) hh => St φ8562 h.n hh ([(ob8565, blk8565), (none, .dead), (ob7753, blk7753), (some b50, .cells [.int .i64 e39.Nodes, .slice a46 n46 c46, .slice a48 n48 c48] 25 .exact), (none, .dead), (none, .dead)])) 3 ?_ ?_
                · rintro s8600 _ t0 h8602 X8601
                  refine lpure (v := .bool s8600) rfl (p_move rfl) rfl rfl ?_
                  refine lsh (τ := Bool) (σ := Unit) (fun s8604 (_ : Unit) => [(8, .int .i64 e7002.1), (10, .slice a7753 n7753 c7753), (12, .int .i64 e8224.1), (14, .slice a8565 n8565 c8565), (17, .int .i64 e8567.2), (99, .bool s8604)]) (fun s8604 (_ : Unit) hh => St φ8562 h.n hh ([(ob8565, blk8565), (none, .dead), (ob7753, blk7753), (some b50, .cells [.int .i64 e39.Nodes, .slice a46 n46 c46, .slice a48 n48 c48] 25 .exact), (none, .dead), (none, .dead)])) 3 ?_ ?_
                  · rintro s8604 _ t0 h8606 X8605
                    refine lpure (v := .bool s8604) rfl (p_move rfl) rfl rfl ?_
                    refine lsh (τ := Bool) (σ := Unit) (fun s8608 (_ : Unit) => [(10, .slice a7753 n7753 c7753), (12, .int .i64 e8224.1), (14, .slice a8565 n8565 c8565), (17, .int .i64 e8567.2), (103, .bool s8608)]) (fun s8608 (_ : Unit) hh => St φ8562 h.n hh ([(ob8565, blk8565), (none, .dead), (ob7753, blk7753), (some b50, .cells [.int .i64 e39.Nodes, .slice a46 n46 c46, .slice a48 n48 c48] 25 .exact), (none, .dead), (none, .dead)])) 3 ?_ ?_
                    · rintro s8608 _ t0 h8610 X8609
                      refine lpure (v := .bool s8608) rfl (p_move rfl) rfl rfl ?_
                      refine ljoinM (τ := Bool) (σ := Unit) (fun s8678 (_ : Unit) => [(12, .int .i64 e8224.1), (14, .slice a8565 n8565 c8565), (17, .int .i64 e8567.2), (108, .bool s8678)]) (fun s8678 (_ : Unit) hh => St φ8562 h.n hh ([(ob8565, blk8565), (none, .dead), (ob7753, blk7753), (some b50, .cells [.int .i64 e39.Nodes, .slice a46 n46 c46, .slice a48 n48 c48] 25 .exact), (none, .dead), (none, .dead)])) 4 ?_ ?_
                      · rintro s8678 _ t0 h8680 X8679
                        refine lpure (v := .bool s8678) rfl (p_move rfl) rfl rfl ?_
                        refine lsh (τ := Bool) (σ := Unit) (fun s8682 (_ : Unit) => [(14, .slice a8565 n8565 c8565), (17, .int .i64 e8567.2), (112, .bool s8682)]) (fun s8682 (_ : Unit) hh => St φ8562 h.n hh ([(ob8565, blk8565), (none, .dead), (ob7753, blk7753), (some b50, .cells [.int .i64 e39.Nodes, .slice a46 n46 c46, .slice a48 n48 c48] 25 .exact), (none, .dead), (none, .dead)])) 3 ?_ ?_
                        · rintro s8682 _ t0 h8684 X8683
                          refine lpure (v := .bool s8682) rfl (p_move rfl) rfl rfl ?_
                          refine ljoinM (τ := Bool) (σ := Unit) (fun s8752 (_ : Unit) => [(17, .int .i64 e8567.2), (117, .bool s8752)]) (fun s8752 (_ : Unit) hh => St φ8562 h.n hh ([(ob8565, blk8565), (none, .dead), (ob7753, blk7753), (some b50, .cells [.int .i64 e39.Nodes, .slice a46 n46 c46, .slice a48 n48 c48] 25 .exact), (none, .dead), (none, .dead)])) 4 ?_ ?_
                          · rintro s8752 _ t0 h8754 X8753
                            refine lpure (v := .bool s8752) rfl (p_move rfl) rfl rfl ?_
                            refine lsh (τ := Bool) (σ := Unit) (fun s8756 (_ : Unit) => [(121, .bool s8756)]) (fun s8756 (_ : Unit) hh => St φ8562 h.n hh ([(ob8565, blk8565), (none, .dead), (ob7753, blk7753), (some b50, .cells [.int .i64 e39.Nodes, .slice a46 n46 c46, .slice a48 n48 c48] 25 .exact), (none, .dead), (none, .dead)])) 3 ?_ ?_
                            · rintro s8756 _ t0 h8758 X8757
                              refine lpure (v := .bool s8756) rfl (p_move rfl) rfl rfl ?_
                              refine ljoinM (τ := Bool) (σ := Unit) (fun s8765 (_ : Unit) => [(126, .bool s8765)]) (fun s8765 (_ : Unit) hh => St φ8562 h.n hh ([(ob8565, blk8565), (none, .dead), (ob7753, blk7753), (some b50, .cells [.int .i64 e39.Nodes, .slice a46 n46 c46, .slice a48 n48 c48] 25 .exact), (none, .dead), (none, .dead)])) 4 ?_ ?_
                              · rintro s8765 _ t0 h8767 X8766
                                refine lpure (v := .bool s8765) rfl (p_assign rfl) rfl rfl ?_
                                refine lend ?_
                                refine nseq ?_
                                refine dret ?_
                                exact kcut_r (res_1 resT) X8766 rfl rfl
                              · intro j8768 J8769
                                refine lif (i := 122) (show _ = Value.bool s8756 from rfl) (fun k8770 => ?_) (fun k8770 => ?_)
                                · refine lpure (v := .agg #[.int .i64 0, .slice none 0 0, .slice none 0 0]) rfl (p_build rfl) (build_st' tz_25 pl_25 rfl) rfl ?_
                                  refine lcall rfl rfl ca_34 rfl rfl (f34_ok X8757 ((ApiTopo.mk 0 [] [])) (.inl ⟨rfl, rfl⟩) (.inl ⟨rfl, rfl⟩)) rfl (fun e8771 v8772 h8773 hq8774 => ?_)
                                  cases hq8774
                                  refine lpure (v := .bool (decide (e8771 = 260))) rfl (p_eq rfl) rfl rfl ?_
                                  refine lpure (v := .bool (decide (e8771 = 260))) rfl (p_pick rfl) rfl rfl ?_
                                  exact ljmpM J8769 (decide (e8771 = 260)) () (sub_cons rfl sub_nil) (St.pick X8757 (.keep _ (.none _ (.skip _ (.keep _ (.keep _ (.none _ (.none _ (.nil _)))))))))
                                · refine lskip rfl rfl ?_
                                  refine lskip rfl rfl ?_
                                  refine lskip rfl rfl ?_
                                  refine lpure (v := .bool false) rfl (p_pick rfl) rfl rfl ?_
                                  exact ljmpM J8769 false () (sub_cons rfl sub_nil) (St.pick X8757 (.keep _ (.none _ (.skip _ (.keep _ (.keep _ (.none _ (.none _ (.nil _)))))))))
                            · intro j8775 J8776
                              refine lcase (i := 118) (show _ = Value.bool s8752 from rfl) (fun k8777 => ?_) (fun k8777 => ?_)
                              · refine lpure (v := .int .i64 e8567.2) rfl (p_move rfl) rfl rfl ?_
                                refine lpure (v := .bool (decide (e8567.2 = 2))) rfl (p_eq rfl) rfl rfl ?_
                                refine lpure (v := .bool (decide (e8567.2 = 2))) rfl (p_pick rfl) rfl rfl ?_
                                refine Sim.of_eq (congrArg j8775 (show (s8752 && (decide (e8567.2 = 2))) = (decide (e8567.2 = 2)) from by rw [k8777] <;> rfl)) ?_
                                exact ljmpM J8776 (decide (e8567.2 = 2)) () (sub_cons rfl sub_nil) (St.pick X8753 (.keep _ (.none _ (.skip _ (.keep _ (.keep _ (.none _ (.none _ (.nil _)))))))))
                              · refine lskip rfl rfl ?_
                                refine lskip rfl rfl ?_
                                refine lpure (v := .bool false) rfl (p_pick rfl) rfl rfl ?_
                                refine Sim.of_eq (congrArg j8775 (show (s8752 && (decide (e8567.2 = 2))) = false from by rw [k8777] <;> rfl)) ?_
                                exact ljmpM J8776 false () (sub_cons rfl sub_nil) (St.pick X8753 (.keep _ (.none _ (.skip _ (.keep _ (.keep _ (.none _ (.none _ (.nil _)))))))))
                          · intro j8778 J8779
                            refine lif (i := 113) (show _ = Value.bool s8682 from rfl) (fun k8780 => ?_) (fun k8780 => ?_)
                            · refine lpure (v := .slice a8565 n8565 c8565) rfl (p_move rfl) rfl rfl ?_
                              obtain ⟨h8781, b8781, hv8781, X8781, O8781⟩ := OSl.lay (E := eBool) (φ := φ8562) (cs := [.bool true, .bool true, .bool false, .bool false]) (l := [true, true, false, false]) (len := 4) (parts := [(0, .bool true), (1, .bool true), (2, .bool false), (3, .bool false)]) un_22 ts_4 rfl rfl rfl tz_4 rfl rfl (show RowD eBool φ8562 [.bool true, .bool true, .bool false, .bool false] [true, true, false, false] from ⟨[.bool true], _, rfl, rfl, ⟨[.bool true], _, rfl, rfl, ⟨[.bool false], _, rfl, rfl, ⟨[.bool false], _, rfl, rfl, rfl⟩⟩⟩⟩) rfl rfl X8683
                              refine lheap rfl (h_buildSlice rfl) hv8781 rfl ?_
                              obtain ⟨φ8783, g8784, X8785, H8786⟩ := OSl.freeze X8781 (j := 1) rfl O8565
                              obtain ⟨φ8787, g8788, X8789, H8790⟩ := OSl.freeze X8785 (j := 0) rfl (O8781.mono g8784)
                              refine lcall rfl rfl ca_18 rfl rfl (f18_ok X8789 (e8558.1) ([true, true, false, false]) (H8786.mono g8788) H8790) rfl (fun e8791 v8792 h8793 hq8794 => ?_)
                              cases hq8794
                              refine lpure (v := .bool e8791) rfl (p_pick rfl) rfl rfl ?_
                              exact ljmpM J8779 e8791 () (sub_cons rfl (sub_cons rfl sub_nil)) (St.pick X8781 (.skip _ (.keep _ (.none _ (.skip _ (.keep _ (.keep _ (.none _ (.none _ (.nil _))))))))))
                            · refine lskip rfl rfl ?_
                              refine lskip rfl rfl ?_
                              refine lskip rfl rfl ?_
                              refine lpure (v := .bool false) rfl (p_pick rfl) rfl rfl ?_
                              exact ljmpM J8779 false () (sub_cons rfl (sub_cons rfl sub_nil)) (St.pick X8683 (.keep _ (.none _ (.skip _ (.keep _ (.keep _ (.none _ (.none _ (.nil _)))))))))
                        · intro j8795 J8796
                          refine lcase (i := 109) (show _ = Value.bool s8678 from rfl) (fun k8797 => ?_) (fun k8797 => ?_)
                          · refine lpure (v := .int .i64 e8224.1) rfl (p_move rfl) rfl rfl ?_
                            refine lpure (v := .bool (decide (e8224.1 = 3))) rfl (p_eq rfl) rfl rfl ?_
                            refine lpure (v := .bool (decide (e8224.1 = 3))) rfl (p_pick rfl) rfl rfl ?_
                            refine Sim.of_eq (congrArg j8795 (show (s8678 && (decide (e8224.1 = 3))) = (decide (e8224.1 = 3)) from by rw [k8797] <;> rfl)) ?_
                            exact ljmpM J8796 (decide (e8224.1 = 3)) () (sub_cons rfl (sub_cons rfl (sub_cons rfl sub_nil))) (St.pick X8679 (.keep _ (.none _ (.skip _ (.keep _ (.keep _ (.none _ (.none _ (.nil _)))))))))
                          · refine lskip rfl rfl ?_
                            refine lskip rfl rfl ?_
                            refine lpure (v := .bool false) rfl (p_pick rfl) rfl rfl ?_
                            refine Sim.of_eq (congrArg j8795 (show (s8678 && (decide (e8224.1 = 3))) = false from by rw [k8797] <;> rfl)) ?_
                            exact ljmpM J8796 false () (sub_cons rfl (sub_cons rfl (sub_cons rfl sub_nil))) (St.pick X8679 (.keep _ (.none _ (.skip _ (.keep _ (.keep _ (.none _ (.none _ (.nil _)))))))))
                      · intro j8798 J8799
                        refine lif (i := 104) (show _ = Value.bool s8608 from rfl) (fun k8800 => ?_) (fun k8800 => ?_)
                        · refine lpure (v := .slice a7753 n7753 c7753) rfl (p_move rfl) rfl rfl ?_
                          obtain ⟨h8801, b8801, hv8801, X8801, O8801⟩ := OSl.lay (E := (eInt .i64)) (φ := φ8562) (cs := [.int .i64 1, .int .i64 2]) (l := [1, 2]) (len := 2) (parts := [(0, .int .i64 1), (1, .int .i64 2)]) un_28 ts_3 rfl rfl rfl tz_3 rfl rfl (show RowD (eInt .i64) φ8562 [.int .i64 1, .int .i64 2] [1, 2] from ⟨[.int .i64 1], _, rfl, rfl, ⟨[.int .i64 2], _, rfl, rfl, rfl⟩⟩) rfl rfl X8609
                          refine lheap rfl (h_buildSlice rfl) hv8801 rfl ?_
                          obtain ⟨φ8803, g8804, X8805, H8806⟩ := OSl.freeze X8801 (j := 3) rfl (O7753.mono (g8555.trans g8563))
                          obtain ⟨φ8807, g8808, X8809, H8810⟩ := OSl.freeze X8805 (j := 0) rfl (O8801.mono g8804)
                          refine lcall rfl rfl ca_14 rfl rfl (f14_ok X8809 (e7746.1) ([1, 2]) (H8806.mono g8808) H8810) rfl (fun e8811 v8812 h8813 hq8814 => ?_)
                          cases hq8814
                          refine lpure (v := .bool e8811) rfl (p_pick rfl) rfl rfl ?_
                          exact ljmpM J8799 e8811 () (sub_cons rfl (sub_cons rfl (sub_cons rfl (sub_cons rfl sub_nil)))) (St.pick X8801 (.skip _ (.keep _ (.none _ (.skip _ (.keep _ (.keep _ (.none _ (.none _ (.nil _))))))))))
                        · refine lskip rfl rfl ?_
                          refine lskip rfl rfl ?_
                          refine lskip rfl rfl ?_
                          refine lpure (v := .bool false) rfl (p_pick rfl) rfl rfl ?_
                          exact ljmpM J8799 false () (sub_cons rfl (sub_cons rfl (sub_cons rfl (sub_cons rfl sub_nil)))) (St.pick X8609 (.keep _ (.none _ (.skip _ (.keep _ (.keep _ (.none _ (.none _ (.nil _)))))))))
                    · intro j8815 J8816
                      refine lcase (i := 100) (show _ = Value.bool s8604 from rfl) (fun k8817 => ?_) (fun k8817 => ?_)
                      · refine lpure (v := .int .i64 e7002.1) rfl (p_move rfl) rfl rfl ?_
                        refine lpure (v := .bool (decide (e7002.1 = 7))) rfl (p_eq rfl) rfl rfl ?_
                        refine lpure (v := .bool (decide (e7002.1 = 7))) rfl (p_pick rfl) rfl rfl ?_
                        refine Sim.of_eq (congrArg j8815 (show (s8604 && (decide (e7002.1 = 7))) = (decide (e7002.1 = 7)) from by rw [k8817] <;> rfl)) ?_
                        exact ljmpM J8816 (decide (e7002.1 = 7)) () (sub_cons rfl (sub_cons rfl (sub_cons rfl (sub_cons rfl (sub_cons rfl sub_nil))))) (St.pick X8605 (.keep _ (.none _ (.skip _ (.keep _ (.keep _ (.none _ (.none _ (.nil _)))))))))
                      · refine lskip rfl rfl ?_
                        refine lskip rfl rfl ?_
                        refine lpure (v := .bool false) rfl (p_pick rfl) rfl rfl ?_
                        refine Sim.of_eq (congrArg j8815 (show (s8604 && (decide (e7002.1 = 7))) = false from by rw [k8817] <;> rfl)) ?_
                        exact ljmpM J8816 false () (sub_cons rfl (sub_cons rfl (sub_cons rfl (sub_cons rfl (sub_cons rfl sub_nil))))) (St.pick X8605 (.keep _ (.none _ (.skip _ (.keep _ (.keep _ (.none _ (.none _ (.nil _)))))))))
                  · intro j8818 J8819
                    refine lcase (i := 96) (show _ = Value.bool s8600 from rfl) (fun k8820 => ?_) (fun k8820 => ?_)
                    · refine lpure (v := .int .i64 e6953.1) rfl (p_move rfl) rfl rfl ?_
                      refine lpure (v := .bool (decide (e6953.1 = 80))) rfl (p_eq rfl) rfl rfl ?_
                      refine lpure (v := .bool (decide (e6953.1 = 80))) rfl (p_pick rfl) rfl rfl ?_
                      refine Sim.of_eq (congrArg j8818 (show (s8600 && (decide (e6953.1 = 80))) = (decide (e6953.1 = 80)) from by rw [k8820] <;> rfl)) ?_
                      exact ljmpM J8819 (decide (e6953.1 = 80)) () (sub_cons rfl (sub_cons rfl (sub_cons rfl (sub_cons rfl (sub_cons rfl (sub_cons rfl sub_nil)))))) (St.pick X8601 (.keep _ (.none _ (.skip _ (.keep _ (.keep _ (.none _ (.none _ (.nil _)))))))))
                    · refine lskip rfl rfl ?_
                      refine lskip rfl rfl ?_
                      refine lpure (v := .bool false) rfl (p_pick rfl) rfl rfl ?_
                      refine Sim.of_eq (congrArg j8818 (show (s8600 && (decide (e6953.1 = 80))) = false from by rw [k8820] <;> rfl)) ?_
                      exact ljmpM J8819 false () (sub_cons rfl (sub_cons rfl (sub_cons rfl (sub_cons rfl (sub_cons rfl (sub_cons rfl sub_nil)))))) (St.pick X8601 (.keep _ (.none _ (.skip _ (.keep _ (.keep _ (.none _ (.none _ (.nil _)))))))))
                · intro j8821 J8822
                  refine lcase (i := 92) (show _ = Value.bool s8596 from rfl) (fun k8823 => ?_) (fun k8823 => ?_)
                  · refine lpure (v := .int .i64 e6904.1) rfl (p_move rfl) rfl rfl ?_
                    refine lpure (v := .bool (decide (e6904.1 = 1))) rfl (p_eq rfl) rfl rfl ?_
                    refine lpure (v := .bool (decide (e6904.1 = 1))) rfl (p_pick rfl) rfl rfl ?_
                    refine Sim.of_eq (congrArg j8821 (show (s8596 && (decide (e6904.1 = 1))) = (decide (e6904.1 = 1)) from by rw [k8823] <;> rfl)) ?_
                    exact ljmpM J8822 (decide (e6904.1 = 1)) () (sub_cons rfl (sub_cons rfl (sub_cons rfl (sub_cons rfl (sub_cons rfl (sub_cons rfl (sub_cons rfl sub_nil))))))) (St.pick X8597 (.keep _ (.none _ (.skip _ (.keep _ (.keep _ (.none _ (.none _ (.nil _)))))))))
                  · refine lskip rfl rfl ?_
                    refine lskip rfl rfl ?_
                    refine lpure (v := .bool false) rfl (p_pick rfl) rfl rfl ?_
                    refine Sim.of_eq (congrArg j8821 (show (s8596 && (decide (e6904.1 = 1))) = false from by rw [k8823] <;> rfl)) ?_
                    exact ljmpM J8822 false () (sub_cons rfl (sub_cons rfl (sub_cons rfl (sub_cons rfl (sub_cons rfl (sub_cons rfl (sub_cons rfl sub_nil))))))) (St.pick X8597 (.keep _ (.none _ (.skip _ (.keep _ (.keep _ (.none _ (.none _ (.nil _)))))))))
              · intro j8824 J8825
                refine lcase (i := 88) (show _ = Value.bool s8592 from rfl) (fun k8826 => ?_) (fun k8826 => ?_)
                · refine lpure (v := .int .i64 e6860.1) rfl (p_move rfl) rfl rfl ?_
                  refine lpure (v := .bool (decide (e6860.1 = 0))) rfl (p_eq rfl) rfl rfl ?_
                  refine lpure (v := .bool (decide (e6860.1 = 0))) rfl (p_pick rfl) rfl rfl ?_
                  refine Sim.of_eq (congrArg j8824 (show (s8592 && (decide (e6860.1 = 0))) = (decide (e6860.1 = 0)) from by rw [k8826] <;> rfl)) ?_
                  exact ljmpM J8825 (decide (e6860.1 = 0)) () (sub_cons rfl (sub_cons rfl (sub_cons rfl (sub_cons rfl (sub_cons rfl (sub_cons rfl (sub_cons rfl (sub_cons rfl sub_nil)))))))) (St.pick X8593 (.keep _ (.none _ (.skip _ (.keep _ (.keep _ (.none _ (.none _ (.nil _)))))))))
                · refine lskip rfl rfl ?_
                  refine lskip rfl rfl ?_
                  refine lpure (v := .bool false) rfl (p_pick rfl) rfl rfl ?_
                  refine Sim.of_eq (congrArg j8824 (show (s8592 && (decide (e6860.1 = 0))) = false from by rw [k8826] <;> rfl)) ?_
                  exact ljmpM J8825 false () (sub_cons rfl (sub_cons rfl (sub_cons rfl (sub_cons rfl (sub_cons rfl (sub_cons rfl (sub_cons rfl (sub_cons rfl sub_nil)))))))) (St.pick X8593 (.keep _ (.none _ (.skip _ (.keep _ (.keep _ (.none _ (.none _ (.nil _)))))))))
            · intro j8827 J8828
              refine lcase (i := 83) (show _ = Value.bool s8588 from rfl) (fun k8829 => ?_) (fun k8829 => ?_)
              · refine lpure (v := .int .i64 e8558.2) rfl (p_move rfl) rfl rfl ?_
                refine lpure (v := .bool (decide (e8558.2 = 0))) rfl (p_eq rfl) rfl rfl ?_
                refine lpure (v := .bool (decide (e8558.2 = 0))) rfl (p_pick rfl) rfl rfl ?_
                refine Sim.of_eq (congrArg j8827 (show (s8588 && (decide (e8558.2 = 0))) = (decide (e8558.2 = 0)) from by rw [k8829] <;> rfl)) ?_
                exact ljmpM J8828 (decide (e8558.2 = 0)) () (sub_cons rfl (sub_cons rfl (sub_cons rfl (sub_cons rfl (sub_cons rfl (sub_cons rfl (sub_cons rfl (sub_cons rfl (sub_cons rfl sub_nil))))))))) (St.pick X8589 (.keep _ (.none _ (.skip _ (.keep _ (.keep _ (.none _ (.none _ (.nil _)))))))))
              · refine lskip rfl rfl ?_
                refine lskip rfl rfl ?_
                refine lpure (v := .bool false) rfl (p_pick rfl) rfl rfl ?_
                refine Sim.of_eq (congrArg j8827 (show (s8588 && (decide (e8558.2 = 0))) = false from by rw [k8829] <;> rfl)) ?_
                exact ljmpM J8828 false () (sub_cons rfl (sub_cons rfl (sub_cons rfl (sub_cons rfl (sub_cons rfl (sub_cons rfl (sub_cons rfl (sub_cons rfl (sub_cons rfl sub_nil))))))))) (St.pick X8589 (.keep _ (.none _ (.skip _ (.keep _ (.keep _ (.none _ (.none _ (.nil _)))))))))
          · intro j8830 J8831
            refine lcase (i := 79) (show _ = Value.bool s8584 from rfl) (fun k8832 => ?_) (fun k8832 => ?_)
            · refine lpure (v := .int .i64 e8224.2) rfl (p_move rfl) rfl rfl ?_
              refine lpure (v := .bool (decide (e8224.2 = 0))) rfl (p_eq rfl) rfl rfl ?_
              refine lpure (v := .bool (decide (e8224.2 = 0))) rfl (p_pick rfl) rfl rfl ?_
              refine Sim.of_eq (congrArg j8830 (show (s8584 && (decide (e8224.2 = 0))) = (decide (e8224.2 = 0)) from by rw [k8832] <;> rfl)) ?_
              exact ljmpM J8831 (decide (e8224.2 = 0)) () (sub_cons rfl (sub_cons rfl (sub_cons rfl (sub_cons rfl (sub_cons rfl (sub_cons rfl (sub_cons rfl (sub_cons rfl (sub_cons rfl (sub_cons rfl sub_nil)))))))))) (St.pick X8585 (.keep _ (.none _ (.skip _ (.keep _ (.keep _ (.none _ (.none _ (.nil _)))))))))
            · refine lskip rfl rfl ?_
              refine lskip rfl rfl ?_
              refine lpure (v := .bool false) rfl (p_pick rfl) rfl rfl ?_
              refine Sim.of_eq (congrArg j8830 (show (s8584 && (decide (e8224.2 = 0))) = false from by rw [k8832] <;> rfl)) ?_
              exact ljmpM J8831 false () (sub_cons rfl (sub_cons rfl (sub_cons rfl (sub_cons rfl (sub_cons rfl (sub_cons rfl (sub_cons rfl (sub_cons rfl (sub_cons rfl (sub_cons rfl sub_nil)))))))))) (St.pick X8585 (.keep _ (.none _ (.skip _ (.keep _ (.keep _ (.none _ (.none _ (.nil _)))))))))
        · intro j8833 J8834
          refine lcase (i := 75) (show _ = Value.bool s8580 from rfl) (fun k8835 => ?_) (fun k8835 => ?_)
          · refine lpure (v := .int .i64 e7746.2) rfl (p_move rfl) rfl rfl ?_
            refine lpure (v := .bool (decide (e7746.2 = 0))) rfl (p_eq rfl) rfl rfl ?_
            refine lpure (v := .bool (decide (e7746.2 = 0))) rfl (p_pick rfl) rfl rfl ?_
            refine Sim.of_eq (congrArg j8833 (show (s8580 && (decide (e7746.2 = 0))) = (decide (e7746.2 = 0)) from by rw [k8835] <;> rfl)) ?_
            exact ljmpM J8834 (decide (e7746.2 = 0)) () (sub_cons rfl (sub_cons rfl (sub_cons rfl (sub_cons rfl (sub_cons rfl (sub_cons rfl (sub_cons rfl (sub_cons rfl (sub_cons rfl (sub_cons rfl (sub_cons rfl sub_nil))))))))))) (St.pick X8581 (.keep _ (.none _ (.skip _ (.keep _ (.keep _ (.none _ (.none _ (.nil _)))))))))
          · refine lskip rfl rfl ?_
            refine lskip rfl rfl ?_
            refine lpure (v := .bool false) rfl (p_pick rfl) rfl rfl ?_
            refine Sim.of_eq (congrArg j8833 (show (s8580 && (decide (e7746.2 = 0))) = false from by rw [k8835] <;> rfl)) ?_
            exact ljmpM J8834 false () (sub_cons rfl (sub_cons rfl (sub_cons rfl (sub_cons rfl (sub_cons rfl (sub_cons rfl (sub_cons rfl (sub_cons rfl (sub_cons rfl (sub_cons rfl (sub_cons rfl sub_nil))))))))))) (St.pick X8581 (.keep _ (.none _ (.skip _ (.keep _ (.keep _ (.none _ (.none _ (.nil _)))))))))
      · intro j8836 J8837
        refine lcase (i := 71) (show _ = Value.bool s8576 from rfl) (fun k8838 => ?_) (fun k8838 => ?_)
        · refine lpure (v := .int .i64 e7002.2) rfl (p_move rfl) rfl rfl ?_
          refine lpure (v := .bool (decide (e7002.2 = 0))) rfl (p_eq rfl) rfl rfl ?_
          refine lpure (v := .bool (decide (e7002.2 = 0))) rfl (p_pick rfl) rfl rfl ?_
          refine Sim.of_eq (congrArg j8836 (show (s8576 && (decide (e7002.2 = 0))) = (decide (e7002.2 = 0)) from by rw [k8838] <;> rfl)) ?_
          exact ljmpM J8837 (decide (e7002.2 = 0)) () (sub_cons rfl (sub_cons rfl (sub_cons rfl (sub_cons rfl (sub_cons rfl (sub_cons rfl (sub_cons rfl (sub_cons rfl (sub_cons rfl (sub_cons rfl (sub_cons rfl (sub_cons rfl sub_nil)))))))))))) (St.pick X8577 (.keep _ (.none _ (.skip _ (.keep _ (.keep _ (.none _ (.none _ (.nil _)))))))))
        · refine lskip rfl rfl ?_
          refine lskip rfl rfl ?_
          refine lpure (v := .bool false) rfl (p_pick rfl) rfl rfl ?_
          refine Sim.of_eq (congrArg j8836 (show (s8576 && (decide (e7002.2 = 0))) = false from by rw [k8838] <;> rfl)) ?_
          exact ljmpM J8837 false () (sub_cons rfl (sub_cons rfl (sub_cons rfl (sub_cons rfl (sub_cons rfl (sub_cons rfl (sub_cons rfl (sub_cons rfl (sub_cons rfl (sub_cons rfl (sub_cons rfl (sub_cons rfl sub_nil)))))))))))) (St.pick X8577 (.keep _ (.none _ (.skip _ (.keep _ (.keep _ (.none _ (.none _ (.nil _)))))))))
    · intro j8839 J8840
      refine lcase (i := 67) (show _ = Value.bool s8572 from rfl) (fun k8841 => ?_) (fun k8841 => ?_)
      · refine lpure (v := .int .i64 e6953.2) rfl (p_move rfl) rfl rfl ?_
        refine lpure (v := .bool (decide (e6953.2 = 0))) rfl (p_eq rfl) rfl rfl ?_
        refine lpure (v := .bool (decide (e6953.2 = 0))) rfl (p_pick rfl) rfl rfl ?_
        refine Sim.of_eq (congrArg j8839 (show (s8572 && (decide (e6953.2 = 0))) = (decide (e6953.2 = 0)) from by rw [k8841] <;> rfl)) ?_
        exact ljmpM J8840 (decide (e6953.2 = 0)) () (sub_cons rfl (sub_cons rfl (sub_cons rfl (sub_cons rfl (sub_cons rfl (sub_cons rfl (sub_cons rfl (sub_cons rfl (sub_cons rfl (sub_cons rfl (sub_cons rfl (sub_cons rfl (sub_cons rfl sub_nil))))))))))))) (St.pick X8573 (.keep _ (.none _ (.skip _ (.keep _ (.keep _ (.none _ (.none _ (.nil _)))))))))
      · refine lskip rfl rfl ?_
        refine lskip rfl rfl ?_
        refine lpure (v := .bool false) rfl (p_pick rfl) rfl rfl ?_
        refine Sim.of_eq (congrArg j8839 (show (s8572 && (decide (e6953.2 = 0))) = false from by rw [k8841] <;> rfl)) ?_
        exact ljmpM J8840 false () (sub_cons rfl (sub_cons rfl (sub_cons rfl (sub_cons rfl (sub_cons rfl (sub_cons rfl (sub_cons rfl (sub_cons rfl (sub_cons rfl (sub_cons rfl (sub_cons rfl (sub_cons rfl (sub_cons rfl sub_nil))))))))))))) (St.pick X8573 (.keep _ (.none _ (.skip _ (.keep _ (.keep _ (.none _ (.none _ (.nil _)))))))))
  · intro j8842 J8843
    refine lcase (i := 63) (show _ = Value.bool (decide (e6860.2 = 0)) from rfl) (fun k8844 => ?_) (fun k8844 => ?_)
    · refine lpure (v := .int .i64 e6904.2) rfl (p_move rfl) rfl rfl ?_
      refine lpure (v := .bool (decide (e6904.2 = 0))) rfl (p_eq rfl) rfl rfl ?_
      refine lpure (v := .bool (decide (e6904.2 = 0))) rfl (p_pick rfl) rfl rfl ?_
      refine Sim.of_eq (congrArg j8842 (show ((decide (e6860.2 = 0)) && (decide (e6904.2 = 0))) = (decide (e6904.2 = 0)) from by rw [k8844] <;> rfl)) ?_
      exact ljmpM J8843 (decide (e6904.2 = 0)) () (sub_cons rfl (sub_cons rfl (sub_cons rfl (sub_cons rfl (sub_cons rfl (sub_cons rfl (sub_cons rfl (sub_cons rfl (sub_cons rfl (sub_cons rfl (sub_cons rfl (sub_cons rfl (sub_cons rfl (sub_cons rfl sub_nil)))))))))))))) (St.pick X8564 (.keep _ (.none _ (.skip _ (.keep _ (.keep _ (.none _ (.none _ (.nil _)))))))))
    · refine lskip rfl rfl ?_
      refine lskip rfl rfl ?_
      refine lpure (v := .bool false) rfl (p_pick rfl) rfl rfl ?_
      refine Sim.of_eq (congrArg j8842 (show ((decide (e6860.2 = 0)) && (decide (e6904.2 = 0))) = false from by rw [k8844] <;> rfl)) ?_
      exact ljmpM J8843 false () (sub_cons rfl (sub_cons rfl (sub_cons rfl (sub_cons rfl (sub_cons rfl (sub_cons rfl (sub_cons rfl (sub_cons rfl (sub_cons rfl (sub_cons rfl (sub_cons rfl (sub_cons rfl (sub_cons rfl (sub_cons rfl sub_nil)))))))))))))) (St.pick X8564 (.keep _ (.none _ (.skip _ (.keep _ (.keep _ (.none _ (.none _ (.nil _)))))))))
/-! isochron/isochronlaw16.few -/
theorem f10_ok {n : Nat} {φ : Fz} {lo : Nat} {h : Heap} {own : OwnL} (X : St φ lo h own) (p8869 : ApiTopo) {a8870 : Option Addr} {n8870 c8870 : Nat} {a8871 : Option Addr} {n8871 c8871 : Nat} (H8870 : RSl eBool φ (.slice a8870 n8870 c8870) p8869.Station) (H8871 : RSl eApiLink φ (.slice a8871 n8871 c8871) p8869.Links) (K8870 : c8870 < unk) (K8871 : c8871 < unk) : Sim ((recN Try.prog LL cutF (n + 1)).call 10 #[(.agg #[.int .i64 p8869.Nodes, .slice a8870 n8870 c8870, .slice a8871 n8871 c8871])] h) (m_isochronlaw16_few p8869) (fun (d : ApiTopo) p => ∃ a8888 : Option Addr, ∃ n8888 : Nat, ∃ c8888 : Nat, ∃ a8889 : Option Addr, ∃ n8889 : Nat, ∃ c8889 : Nat, p = (.agg #[.int .i64 d.Nodes, .slice a8888 n8888 c8888, .slice a8889 n8889 c8889], h) ∧ RSl eBool φ (.slice a8888 n8888 c8888) d.Station ∧ RSl eApiLink φ (.slice a8889 n8889 c8889) d.Links) := by
  refine fcut Try.func10 rfl rfl rfl rfl X ?_
  intro h0 X0
  refine dseq ?_
  refine dreg ?_
  refine lbox rfl rfl rfl rfl rfl X0 (fun b8872 h8874 X8875 => ?_)
  refine lalloc rfl tz_25 rfl rfl rfl X8875 (fun b8876 h8878 X8879 => ?_)
  refine lend ?_
  refine nseq ?_
  refine dseq ?_
  refine ddraw 163840 163840 10320 (by kernel_rfl) ?_
  refine spure (v := .pointer (some ⟨b8872, 1, none⟩)) rfl (p_fa fo_25_1 rfl) (lo_t (lo_own X8879 (j := 1) (o := 0) (s := none) (f := 0) rfl) rfl) rfl rfl ?_
  refine sload (v := .slice a8870 n8870 c8870) rfl rfl (q_load wd_22 rfl) (St.ld X8879 (j := 1) rfl rfl) (same_self 20 rfl) rfl ?_
  refine spure (v := .pointer (some ⟨b8872, 1, none⟩)) rfl (p_fa fo_25_1 rfl) (lo_t (lo_own X8879 (j := 1) (o := 0) (s := none) (f := 0) rfl) rfl) rfl rfl ?_
  refine sload (v := .slice a8870 n8870 c8870) rfl rfl (q_load wd_22 rfl) (St.ld X8879 (j := 1) rfl rfl) (same_self 20 rfl) rfl ?_
  refine spure (v := .int .i64 (p8869.Station.length : Int)) rfl (p_len rfl rfl rfl un_22 rfl) (lo_t (lo_sl X8879 H8870) rfl) (RSl.lenC H8870) rfl ?_
  refine spure (v := .int .i64 (min (p8869.Station.length : Int) 20)) rfl (p_min rfl rfl rfl) (lo_t rfl (lo_c rfl)) rfl rfl ?_
  refine Sim.mustM fun k8880 => ?_
  have k8880 := of_decide_eq_true k8880
  obtain ⟨a8880, n8880, c8880, hv8880, H8880, K8880⟩ := RSl.sliceC H8870 K8870 (m := 1) rfl bnd_none (bnd_int (show 0 ≤ (min (p8869.Station.length : Int) 20) from by omega)) (by omega) (by omega)
  refine spure rfl (p_slice rs_22 rfl (evo_ok rfl) (evo_ok rfl) (evo_ok rfl)) (lo_t (lo_sl X8879 H8870) (lo_t rfl rfl)) hv8880 rfl ?_
  refine spure (v := .pointer (some ⟨b8872, 2, none⟩)) rfl (p_fa fo_25_2 rfl) (lo_t (lo_own X8879 (j := 1) (o := 0) (s := none) (f := 0) rfl) rfl) rfl rfl ?_
  refine sload (v := .slice a8871 n8871 c8871) rfl rfl (q_load wd_23 rfl) (St.ld X8879 (j := 1) rfl rfl) (same_self 20 rfl) rfl ?_
  refine spure (v := .pointer (some ⟨b8872, 2, none⟩)) rfl (p_fa fo_25_2 rfl) (lo_t (lo_own X8879 (j := 1) (o := 0) (s := none) (f := 0) rfl) rfl) rfl rfl ?_
  refine sload (v := .slice a8871 n8871 c8871) rfl rfl (q_load wd_23 rfl) (St.ld X8879 (j := 1) rfl rfl) (same_self 20 rfl) rfl ?_
  refine spure (v := .int .i64 (p8869.Links.length : Int)) rfl (p_len rfl rfl rfl un_23 rfl) (lo_t (lo_sl X8879 H8871) rfl) (RSl.lenC H8871) rfl ?_
  refine spure (v := .int .i64 (min (p8869.Links.length : Int) 30)) rfl (p_min rfl rfl rfl) (lo_t rfl (lo_c rfl)) rfl rfl ?_
  refine Sim.mustM fun k8881 => ?_
  have k8881 := of_decide_eq_true k8881
  obtain ⟨a8881, n8881, c8881, hv8881, H8881, K8881⟩ := RSl.sliceC H8871 K8871 (m := 4) rfl bnd_none (bnd_int (show 0 ≤ (min (p8869.Links.length : Int) 30) from by omega)) (by omega) (by omega)
  refine spure rfl (p_slice rs_23 rfl (evo_ok rfl) (evo_ok rfl) (evo_ok rfl)) (lo_t (lo_sl X8879 H8871) (lo_t rfl rfl)) hv8881 rfl ?_
  refine spure (v := .pointer (some ⟨b8872, 1, none⟩)) rfl (p_fa fo_25_1 rfl) (lo_t (lo_own X8879 (j := 1) (o := 0) (s := none) (f := 0) rfl) rfl) rfl rfl ?_
  refine sstore rfl rfl ts_22 rfl rfl (j := 1) rfl rfl rfl rfl rfl rfl X8879 (fun h8882 X8883 => ?_)
  refine spure (v := .pointer (some ⟨b8872, 2, none⟩)) rfl (p_fa fo_25_2 rfl) (lo_t (lo_own X8883 (j := 1) (o := 0) (s := none) (f := 0) rfl) rfl) rfl rfl ?_
  refine sstore rfl rfl ts_23 rfl rfl (j := 1) rfl rfl rfl rfl rfl rfl X8883 (fun h8884 X8885 => ?_)
  refine send ?_
  refine nseq ?_
  refine dseq ?_
  refine dreg ?_
  refine lread (v := .agg #[.int .i64 p8869.Nodes, .slice a8880 n8880 c8880, .slice a8881 n8881 c8881]) rfl (q_load wd_25 rfl) (St.ld X8885 (j := 1) rfl rfl) rfl ?_
  refine lstore rfl ts_25 rfl rfl (j := 0) rfl rfl rfl rfl rfl rfl X8885 (fun h8886 X8887 => ?_)
  refine lend ?_
  refine nseq ?_
  refine dret ?_
  exact kcut_r (res_1 (resC wd_25 (St.ld X8887 (j := 0) rfl rfl))) X8887 (lo_agg (all_cons rfl (all_cons (lo_slF X.fzlt H8880) (all_cons (lo_slF X.fzlt H8881) all_nil)))) ⟨a8880, n8880, c8880, a8881, n8881, c8881, rfl, H8880, H8881⟩
/-! isochron/isochronref16.node -/
theorem f63_ok {n : Nat} {φ : Fz} {lo : Nat} {h : Heap} {own : OwnL} (X : St φ lo h own) (p8953 : ApiTopo) (p8956 : Int) {a8954 : Option Addr} {n8954 c8954 : Nat} {a8955 : Option Addr} {n8955 c8955 : Nat} (H8954 : RSl eBool φ (.slice a8954 n8954 c8954) p8953.Station) (H8955 : RSl eApiLink φ (.slice a8955 n8955 c8955) p8953.Links) : Sim ((recN Try.prog LL cutF (n + 1)).call 63 #[(.agg #[.int .i64 p8953.Nodes, .slice a8954 n8954 c8954, .slice a8955 n8955 c8955]), (.int .i64 p8956)] h) (m_isochronref16_node p8953 p8956) (fun (d : Bool) p => p = (.bool d, h)) := by
  refine fcut Try.func63 rfl rfl rfl rfl X ?_
  intro h0 X0
  refine dseq ?_
  refine dreg ?_
  refine lbox rfl rfl rfl rfl rfl X0 (fun b8957 h8959 X8960 => ?_)
  refine lpure (v := .bool false) rfl (p_assign rfl) rfl rfl ?_
  refine lend ?_
  refine nseq ?_
  refine dseq ?_
  refine dreg ?_
  refine lpure (v := .int .i64 p8956) rfl (p_move rfl) rfl rfl ?_
  refine lpure (v := .bool (decide (0 ≤ p8956))) rfl (p_ge rfl) rfl rfl ?_
  refine lpure (v := .bool (decide (0 ≤ p8956))) rfl (p_move rfl) rfl rfl ?_
  refine lsh (τ := Bool) (σ := Unit) (fun s8962 (_ : Unit) => [(12, .bool s8962)]) (fun s8962 (_ : Unit) hh => St φ h.n hh ([(some b8957, .cells [.int .i64 p8953.Nodes, .slice a8954 n8954 c8954, .slice a8955 n8955 c8955] 25 .exact)])) 5 ?_ ?_
  · rintro s8962 _ t0 h8964 X8963
    refine lpure (v := .bool s8962) rfl (p_assign rfl) rfl rfl ?_
    refine lend ?_
    refine nseq ?_
    refine dret ?_
    exact kcut_r (res_1 resT) X8963 rfl rfl
  · intro j8965 J8966
    refine lcase (i := 7) (show _ = Value.bool (decide (0 ≤ p8956)) from rfl) (fun k8967 => ?_) (fun k8967 => ?_)
    · refine lpure (v := .int .i64 p8956) rfl (p_move rfl) rfl rfl ?_
      refine lpure (v := .pointer (some ⟨b8957, 0, none⟩)) rfl (p_fa fo_25_0 rfl) rfl rfl ?_
      refine lread (v := .int .i64 p8953.Nodes) rfl (q_load wd_3 rfl) (St.ld X8960 (j := 0) rfl rfl) rfl ?_
      refine lpure (v := .bool (decide (p8956 < p8953.Nodes))) rfl (p_lt rfl) rfl rfl ?_
      refine lpure (v := .bool (decide (p8956 < p8953.Nodes))) rfl (p_pick rfl) rfl rfl ?_
      refine Sim.of_eq (congrArg j8965 (show ((decide (0 ≤ p8956)) && (decide (p8956 < p8953.Nodes))) = (decide (p8956 < p8953.Nodes)) from by rw [k8967] <;> rfl)) ?_
      exact ljmpM J8966 (decide (p8956 < p8953.Nodes)) () (sub_cons rfl sub_nil) X8960
    · refine lskip rfl rfl ?_
      refine lskip rfl rfl ?_
      refine lskip rfl rfl ?_
      refine lskip rfl rfl ?_
      refine lpure (v := .bool false) rfl (p_pick rfl) rfl rfl ?_
      refine Sim.of_eq (congrArg j8965 (show ((decide (0 ≤ p8956)) && (decide (p8956 < p8953.Nodes))) = false from by rw [k8967] <;> rfl)) ?_
      exact ljmpM J8966 false () (sub_cons rfl sub_nil) X8960
/-! isochron/isochronref16.link -/
theorem f43_ok {n : Nat} {φ : Fz} {lo : Nat} {h : Heap} {own : OwnL} (X : St φ lo h own) (p8941 : ApiTopo) (p8944 : ApiLink) {a8942 : Option Addr} {n8942 c8942 : Nat} {a8943 : Option Addr} {n8943 c8943 : Nat} (H8942 : RSl eBool φ (.slice a8942 n8942 c8942) p8941.Station) (H8943 : RSl eApiLink φ (.slice a8943 n8943 c8943) p8941.Links) : Sim ((recN Try.prog LL cutF (n + 2)).call 43 #[(.agg #[.int .i64 p8941.Nodes, .slice a8942 n8942 c8942, .slice a8943 n8943 c8943]), (.agg #[.int .i64 p8944.A, .int .i64 p8944.B, .int .i64 p8944.Per, .int .i64 p8944.Delay])] h) (m_isochronref16_link p8941 p8944) (fun (d : Bool) p => p = (.bool d, h)) := by
  refine fcut Try.func43 rfl rfl rfl rfl X ?_
  intro h0 X0
  refine dseq ?_
  refine dreg ?_
  refine lbox rfl rfl rfl rfl rfl X0 (fun b8945 h8947 X8948 => ?_)
  refine lbox rfl rfl rfl rfl rfl X8948 (fun b8949 h8951 X8952 => ?_)
  refine lpure (v := .bool false) rfl (p_assign rfl) rfl rfl ?_
  refine lend ?_
  refine nseq ?_
  refine dseq ?_
  refine dseq ?_
  refine dreg ?_
  refine lread (v := .agg #[.int .i64 p8941.Nodes, .slice a8942 n8942 c8942, .slice a8943 n8943 c8943]) rfl (q_load wd_25 rfl) (St.ld X8952 (j := 1) rfl rfl) rfl ?_
  refine lpure (v := .pointer (some ⟨b8949, 0, none⟩)) rfl (p_fa fo_50_0 rfl) rfl rfl ?_
  refine lread (v := .int .i64 p8944.A) rfl (q_load wd_3 rfl) (St.ld X8952 (j := 0) rfl rfl) rfl ?_
  refine lcall rfl rfl ca_63 rfl rfl (f63_ok X8952 p8941 (p8944.A) H8942 H8943) rfl (fun e8968 v8969 h8970 hq8971 => ?_)
  cases hq8971
  refine lpure (v := .bool (!e8968)) rfl (p_not rfl) rfl rfl ?_
  refine lpure (v := .bool (!e8968)) rfl (p_move rfl) rfl rfl ?_
  refine ljoinM (τ := Bool) (σ := Unit) (fun s8978 (_ : Unit) => [(2, .pointer (some ⟨b8945, 0, none⟩)), (3, .pointer (some ⟨b8949, 0, none⟩)), (16, .bool s8978)]) (fun s8978 (_ : Unit) hh => St φ h.n hh ([(some b8949, .cells [.int .i64 p8944.A, .int .i64 p8944.B, .int .i64 p8944.Per, .int .i64 p8944.Delay] 50 .exact), (some b8945, .cells [.int .i64 p8941.Nodes, .slice a8942 n8942 c8942, .slice a8943 n8943 c8943] 25 .exact)])) 6 ?_ ?_
  · rintro s8978 _ t0 h8980 X8979
    refine lpure (v := .bool s8978) rfl (p_move rfl) rfl rfl ?_
    refine lsh (τ := Bool) (σ := Unit) (fun s8982 (_ : Unit) => [(2, .pointer (some ⟨b8945, 0, none⟩)), (3, .pointer (some ⟨b8949, 0, none⟩)), (23, .bool s8982)]) (fun s8982 (_ : Unit) hh => St φ h.n hh ([(some b8949, .cells [.int .i64 p8944.A, .int .i64 p8944.B, .int .i64 p8944.Per, .int .i64 p8944.Delay] 50 .exact), (some b8945, .cells [.int .i64 p8941.Nodes, .slice a8942 n8942 c8942, .slice a8943 n8943 c8943] 25 .exact)])) 6 ?_ ?_
    · rintro s8982 _ t0 h8984 X8983
      refine lpure (v := .bool s8982) rfl (p_move rfl) rfl rfl ?_
      refine ljoinM (τ := Bool) (σ := Unit) (fun s8994 (_ : Unit) => [(3, .pointer (some ⟨b8949, 0, none⟩)), (39, .bool s8994)]) (fun s8994 (_ : Unit) hh => St φ h.n hh ([(some b8949, .cells [.int .i64 p8944.A, .int .i64 p8944.B, .int .i64 p8944.Per, .int .i64 p8944.Delay] 50 .exact), (some b8945, .cells [.int .i64 p8941.Nodes, .slice a8942 n8942 c8942, .slice a8943 n8943 c8943] 25 .exact)])) 15 ?_ ?_
      · rintro s8994 _ t0 h8996 X8995
        refine lend ?_
        refine nseq ?_
        refine dcond rfl rfl (fun k8997 => ?_) (fun k8997 => ?_)
        · refine dseq ?_
          refine dreg ?_
          refine lpure (v := .bool false) rfl (p_assign rfl) rfl rfl ?_
          refine lend ?_
          refine nseq ?_
          refine dret ?_
          refine rseq ?_
          exact kcut_r (res_1 resT) X8995 rfl rfl
        · refine dskip ?_
          refine nseq ?_
          refine dseq ?_
          refine dreg ?_
          refine lpure (v := .pointer (some ⟨b8949, 2, none⟩)) rfl (p_fa fo_50_2 rfl) rfl rfl ?_
          refine lread (v := .int .i64 p8944.Per) rfl (q_load wd_3 rfl) (St.ld X8995 (j := 0) rfl rfl) rfl ?_
          refine lpure (v := .bool (decide (1 ≤ p8944.Per))) rfl (p_ge rfl) rfl rfl ?_
          refine lpure (v := .bool (decide (1 ≤ p8944.Per))) rfl (p_move rfl) rfl rfl ?_
          refine lsh (τ := Bool) (σ := Unit) (fun s8999 (_ : Unit) => [(3, .pointer (some ⟨b8949, 0, none⟩)), (47, .bool s8999)]) (fun s8999 (_ : Unit) hh => St φ h.n hh ([(some b8949, .cells [.int .i64 p8944.A, .int .i64 p8944.B, .int .i64 p8944.Per, .int .i64 p8944.Delay] 50 .exact), (some b8945, .cells [.int .i64 p8941.Nodes, .slice a8942 n8942 c8942, .slice a8943 n8943 c8943] 25 .exact)])) 4 ?_ ?_
          · rintro s8999 _ t0 h9001 X9000
            refine lpure (v := .bool s8999) rfl (p_move rfl) rfl rfl ?_
            refine lsh (τ := Bool) (σ := Unit) (fun s9003 (_ : Unit) => [(3, .pointer (some ⟨b8949, 0, none⟩)), (52, .bool s9003)]) (fun s9003 (_ : Unit) hh => St φ h.n hh ([(some b8949, .cells [.int .i64 p8944.A, .int .i64 p8944.B, .int .i64 p8944.Per, .int .i64 p8944.Delay] 50 .exact), (some b8945, .cells [.int .i64 p8941.Nodes, .slice a8942 n8942 c8942, .slice a8943 n8943 c8943] 25 .exact)])) 4 ?_ ?_
            · rintro s9003 _ t0 h9005 X9004
              refine lpure (v := .bool s9003) rfl (p_move rfl) rfl rfl ?_
              refine lsh (τ := Bool) (σ := Unit) (fun s9007 (_ : Unit) => [(57, .bool s9007)]) (fun s9007 (_ : Unit) hh => St φ h.n hh ([(some b8949, .cells [.int .i64 p8944.A, .int .i64 p8944.B, .int .i64 p8944.Per, .int .i64 p8944.Delay] 50 .exact), (some b8945, .cells [.int .i64 p8941.Nodes, .slice a8942 n8942 c8942, .slice a8943 n8943 c8943] 25 .exact)])) 4 ?_ ?_
              · rintro s9007 _ t0 h9009 X9008
                refine lpure (v := .bool s9007) rfl (p_assign rfl) rfl rfl ?_
                refine lend ?_
                refine nseq ?_
                refine dret ?_
                exact kcut_r (res_1 resT) X9008 rfl rfl
              · intro j9010 J9011
                refine lcase (i := 53) (show _ = Value.bool s9003 from rfl) (fun k9012 => ?_) (fun k9012 => ?_)
                · refine lpure (v := .pointer (some ⟨b8949, 3, none⟩)) rfl (p_fa fo_50_3 rfl) rfl rfl ?_
                  refine lread (v := .int .i64 p8944.Delay) rfl (q_load wd_3 rfl) (St.ld X9004 (j := 0) rfl rfl) rfl ?_
                  refine lpure (v := .bool (decide (p8944.Delay ≤ 10000))) rfl (p_le rfl) rfl rfl ?_
                  refine lpure (v := .bool (decide (p8944.Delay ≤ 10000))) rfl (p_pick rfl) rfl rfl ?_
                  refine Sim.of_eq (congrArg j9010 (show (s9003 && (decide (p8944.Delay ≤ 10000))) = (decide (p8944.Delay ≤ 10000)) from by rw [k9012] <;> rfl)) ?_
                  exact ljmpM J9011 (decide (p8944.Delay ≤ 10000)) () (sub_cons rfl sub_nil) X9004
                · refine lskip rfl rfl ?_
                  refine lskip rfl rfl ?_
                  refine lskip rfl rfl ?_
                  refine lpure (v := .bool false) rfl (p_pick rfl) rfl rfl ?_
                  refine Sim.of_eq (congrArg j9010 (show (s9003 && (decide (p8944.Delay ≤ 10000))) = false from by rw [k9012] <;> rfl)) ?_
                  exact ljmpM J9011 false () (sub_cons rfl sub_nil) X9004
            · intro j9013 J9014
              refine lcase (i := 48) (show _ = Value.bool s8999 from rfl) (fun k9015 => ?_) (fun k9015 => ?_)
              · refine lpure (v := .pointer (some ⟨b8949, 3, none⟩)) rfl (p_fa fo_50_3 rfl) rfl rfl ?_
                refine lread (v := .int .i64 p8944.Delay) rfl (q_load wd_3 rfl) (St.ld X9000 (j := 0) rfl rfl) rfl ?_
                refine lpure (v := .bool (decide (0 ≤ p8944.Delay))) rfl (p_ge rfl) rfl rfl ?_
                refine lpure (v := .bool (decide (0 ≤ p8944.Delay))) rfl (p_pick rfl) rfl rfl ?_
                refine Sim.of_eq (congrArg j9013 (show (s8999 && (decide (0 ≤ p8944.Delay))) = (decide (0 ≤ p8944.Delay)) from by rw [k9015] <;> rfl)) ?_
                exact ljmpM J9014 (decide (0 ≤ p8944.Delay)) () (sub_cons rfl (sub_cons rfl sub_nil)) X9000
              · refine lskip rfl rfl ?_
                refine lskip rfl rfl ?_
                refine lskip rfl rfl ?_
                refine lpure (v := .bool false) rfl (p_pick rfl) rfl rfl ?_
                refine Sim.of_eq (congrArg j9013 (show (s8999 && (decide (0 ≤ p8944.Delay))) = false from by rw [k9015] <;> rfl)) ?_
                exact ljmpM J9014 false () (sub_cons rfl (sub_cons rfl sub_nil)) X9000
          · intro j9016 J9017
            refine lcase (i := 43) (show _ = Value.bool (decide (1 ≤ p8944.Per)) from rfl) (fun k9018 => ?_) (fun k9018 => ?_)
            · refine lpure (v := .pointer (some ⟨b8949, 2, none⟩)) rfl (p_fa fo_50_2 rfl) rfl rfl ?_
              refine lread (v := .int .i64 p8944.Per) rfl (q_load wd_3 rfl) (St.ld X8995 (j := 0) rfl rfl) rfl ?_
              refine lpure (v := .bool (decide (p8944.Per ≤ 1000))) rfl (p_le rfl) rfl rfl ?_
              refine lpure (v := .bool (decide (p8944.Per ≤ 1000))) rfl (p_pick rfl) rfl rfl ?_
              refine Sim.of_eq (congrArg j9016 (show ((decide (1 ≤ p8944.Per)) && (decide (p8944.Per ≤ 1000))) = (decide (p8944.Per ≤ 1000)) from by rw [k9018] <;> rfl)) ?_
              exact ljmpM J9017 (decide (p8944.Per ≤ 1000)) () (sub_cons rfl (sub_cons rfl sub_nil)) X8995
            · refine lskip rfl rfl ?_
              refine lskip rfl rfl ?_
              refine lskip rfl rfl ?_
              refine lpure (v := .bool false) rfl (p_pick rfl) rfl rfl ?_
              refine Sim.of_eq (congrArg j9016 (show ((decide (1 ≤ p8944.Per)) && (decide (p8944.Per ≤ 1000))) = false from by rw [k9018] <;> rfl)) ?_
              exact ljmpM J9017 false () (sub_cons rfl (sub_cons rfl sub_nil)) X8995
      · intro j9019 J9020
        refine lif (i := 24) (show _ = Value.bool s8982 from rfl) (fun k9021 => ?_) (fun k9021 => ?_)
        · refine lskip rfl rfl ?_
          refine lskip rfl rfl ?_
          refine lskip rfl rfl ?_
          refine lskip rfl rfl ?_
          refine lskip rfl rfl ?_
          refine lskip rfl rfl ?_
          refine lskip rfl rfl ?_
          refine lskip rfl rfl ?_
          refine lskip rfl rfl ?_
          refine lskip rfl rfl ?_
          refine lskip rfl rfl ?_
          refine lskip rfl rfl ?_
          refine lskip rfl rfl ?_
          refine lskip rfl rfl ?_
          refine lpure (v := .bool true) rfl (p_pick rfl) rfl rfl ?_
          exact ljmpM J9020 true () (sub_cons rfl (sub_cons rfl sub_nil)) X8983
        · refine lpure (v := .pointer (some ⟨b8945, 1, none⟩)) rfl (p_fa fo_25_1 rfl) rfl rfl ?_
          refine lread (v := .slice a8942 n8942 c8942) rfl (q_load wd_22 rfl) (St.ld X8983 (j := 1) rfl rfl) rfl ?_
          refine lpure (v := .pointer (some ⟨b8949, 0, none⟩)) rfl (p_fa fo_50_0 rfl) rfl rfl ?_
          refine lread (v := .int .i64 p8944.A) rfl (q_load wd_3 rfl) (St.ld X8983 (j := 0) rfl rfl) rfl ?_
          refine Sim.bindM fun e9022 he9023 => ?_
          obtain ⟨p9024, cs9024, hp9024, hF9024, hR9024⟩ := RSl.ia H8942 he9023 (kd := .i64) (n := 1) rfl
          have hR9024 : _ = [(.bool e9022 : Value)] := hR9024
          subst hR9024
          refine lpure (v := p9024) rfl (p_ia rs_22 rfl) hp9024 rfl ?_
          refine lread (v := .bool e9022) rfl (q_load wd_4 rfl) (FP.ld X8983 hF9024) rfl ?_
          refine lpure (v := .bool e9022) rfl (p_move rfl) rfl rfl ?_
          refine lif (i := 31) (show _ = Value.bool e9022 from rfl) (fun k9025 => ?_) (fun k9025 => ?_)
          · refine lpure (v := .pointer (some ⟨b8945, 1, none⟩)) rfl (p_fa fo_25_1 rfl) rfl rfl ?_
            refine lread (v := .slice a8942 n8942 c8942) rfl (q_load wd_22 rfl) (St.ld X8983 (j := 1) rfl rfl) rfl ?_
            refine lpure (v := .pointer (some ⟨b8949, 1, none⟩)) rfl (p_fa fo_50_1 rfl) rfl rfl ?_
            refine lread (v := .int .i64 p8944.B) rfl (q_load wd_3 rfl) (St.ld X8983 (j := 0) rfl rfl) rfl ?_
            refine Sim.bindM fun e9026 he9027 => ?_
            obtain ⟨p9028, cs9028, hp9028, hF9028, hR9028⟩ := RSl.ia H8942 he9027 (kd := .i64) (n := 1) rfl
            have hR9028 : _ = [(.bool e9026 : Value)] := hR9028
            subst hR9028
            refine lpure (v := p9028) rfl (p_ia rs_22 rfl) hp9028 rfl ?_
            refine lread (v := .bool e9026) rfl (q_load wd_4 rfl) (FP.ld X8983 hF9028) rfl ?_
            refine lpure (v := .bool e9026) rfl (p_pick rfl) rfl rfl ?_
            refine lpure (v := .bool e9026) rfl (p_pick rfl) rfl rfl ?_
            exact ljmpM J9020 e9026 () (sub_cons rfl (sub_cons rfl sub_nil)) X8983
          · refine lskip rfl rfl ?_
            refine lskip rfl rfl ?_
            refine lskip rfl rfl ?_
            refine lskip rfl rfl ?_
            refine lskip rfl rfl ?_
            refine lskip rfl rfl ?_
            refine lpure (v := .bool false) rfl (p_pick rfl) rfl rfl ?_
            refine lpure (v := .bool false) rfl (p_pick rfl) rfl rfl ?_
            exact ljmpM J9020 false () (sub_cons rfl (sub_cons rfl sub_nil)) X8983
    · intro j9029 J9030
      refine lcase (i := 17) (show _ = Value.bool s8978 from rfl) (fun k9031 => ?_) (fun k9031 => ?_)
      · refine lskip rfl rfl ?_
        refine lskip rfl rfl ?_
        refine lskip rfl rfl ?_
        refine lskip rfl rfl ?_
        refine lskip rfl rfl ?_
        refine lpure (v := .bool true) rfl (p_pick rfl) rfl rfl ?_
        refine Sim.of_eq (congrArg j9029 (show (s8978 || (decide (p8944.A = p8944.B))) = true from by rw [k9031] <;> rfl)) ?_
        exact ljmpM J9030 true () (sub_cons rfl (sub_cons rfl (sub_cons rfl sub_nil))) X8979
      · refine lpure (v := .pointer (some ⟨b8949, 0, none⟩)) rfl (p_fa fo_50_0 rfl) rfl rfl ?_
        refine lread (v := .int .i64 p8944.A) rfl (q_load wd_3 rfl) (St.ld X8979 (j := 0) rfl rfl) rfl ?_
        refine lpure (v := .pointer (some ⟨b8949, 1, none⟩)) rfl (p_fa fo_50_1 rfl) rfl rfl ?_
        refine lread (v := .int .i64 p8944.B) rfl (q_load wd_3 rfl) (St.ld X8979 (j := 0) rfl rfl) rfl ?_
        refine lpure (v := .bool (decide (p8944.A = p8944.B))) rfl (p_eq rfl) rfl rfl ?_
        refine lpure (v := .bool (decide (p8944.A = p8944.B))) rfl (p_pick rfl) rfl rfl ?_
        refine Sim.of_eq (congrArg j9029 (show (s8978 || (decide (p8944.A = p8944.B))) = (decide (p8944.A = p8944.B)) from by rw [k9031] <;> rfl)) ?_
        exact ljmpM J9030 (decide (p8944.A = p8944.B)) () (sub_cons rfl (sub_cons rfl (sub_cons rfl sub_nil))) X8979
  · intro j9032 J9033
    refine lif (i := 10) (show _ = Value.bool (!e8968) from rfl) (fun k9034 => ?_) (fun k9034 => ?_)
    · refine lskip rfl rfl ?_
      refine lskip rfl rfl ?_
      refine lskip rfl rfl ?_
      refine lskip rfl rfl ?_
      refine lskip rfl rfl ?_
      refine lpure (v := .bool true) rfl (p_pick rfl) rfl rfl ?_
      exact ljmpM J9033 true () (sub_cons rfl (sub_cons rfl (sub_cons rfl sub_nil))) X8952
    · refine lread (v := .agg #[.int .i64 p8941.Nodes, .slice a8942 n8942 c8942, .slice a8943 n8943 c8943]) rfl (q_load wd_25 rfl) (St.ld X8952 (j := 1) rfl rfl) rfl ?_
      refine lpure (v := .pointer (some ⟨b8949, 1, none⟩)) rfl (p_fa fo_50_1 rfl) rfl rfl ?_
      refine lread (v := .int .i64 p8944.B) rfl (q_load wd_3 rfl) (St.ld X8952 (j := 0) rfl rfl) rfl ?_
      refine lcall rfl rfl ca_63 rfl rfl (f63_ok X8952 p8941 (p8944.B) H8942 H8943) rfl (fun e9035 v9036 h9037 hq9038 => ?_)
      cases hq9038
      refine lpure (v := .bool (!e9035)) rfl (p_not rfl) rfl rfl ?_
      refine lpure (v := .bool (!e9035)) rfl (p_pick rfl) rfl rfl ?_
      exact ljmpM J9033 (!e9035) () (sub_cons rfl (sub_cons rfl (sub_cons rfl sub_nil))) X8952
/-! isochron/isochronref16.In -/
theorem f48_ok {n : Nat} {φ : Fz} {lo : Nat} {h : Heap} {own : OwnL} (X : St φ lo h own) (p9144 : (List Int)) (p9146 : Int) {a9145 : Option Addr} {n9145 c9145 : Nat} (H9145 : RSl (eInt .i64) φ (.slice a9145 n9145 c9145) p9144) : Sim ((recN Try.prog LL cutF (n + 1)).call 48 #[(.slice a9145 n9145 c9145), (.int .i64 p9146)] h) (m_isochronref16_In p9144 p9146) (fun (d : Bool) p => p = (.bool d, h)) := by
  refine fcut Try.func48 rfl rfl rfl rfl X ?_
  intro h0 X0
  refine dseq ?_
  refine dreg ?_
  refine lpure (v := .bool false) rfl (p_assign rfl) rfl rfl ?_
  refine lend ?_
  refine nseq ?_
  refine dseq ?_
  refine dseq ?_
  refine dreg ?_
  refine lpure (v := .int .i64 0) rfl (p_assign rfl) rfl rfl ?_
  refine lend ?_
  refine nseq ?_
  refine dblock ?_
  refine dloopM (τ := Int) (σ := Unit) (fun s9163 (_ : Unit) => [(0, .slice a9145 n9145 c9145), (1, .int .i64 p9146), (5, .int .i64 s9163)]) (fun s9163 (_ : Unit) hh => St φ h.n hh ([])) 0 () (sub_cons rfl (sub_cons rfl (sub_cons rfl sub_nil))) X0 ?_
  rintro n9173 ih9172 s9163 _ t0 h9175 X9174
  refine dseq ?_
  refine dseq ?_
  refine dreg ?_
  refine lpure (v := .int .i64 s9163) rfl (p_move rfl) rfl rfl ?_
  refine lpure (v := .slice a9145 n9145 c9145) rfl (p_move rfl) rfl rfl ?_
  refine lpure (v := .int .i64 (p9144.length : Int)) rfl (p_len rfl rfl rfl un_28 rfl) (RSl.lenC H9145) rfl ?_
  refine lpure (v := .bool (decide (s9163 < (p9144.length : Int)))) rfl (p_lt rfl) rfl rfl ?_
  refine lend ?_
  refine nseq ?_
  refine dcond rfl rfl (fun k9176 => ?_) (fun k9176 => ?_)
  · refine dskip ?_
    refine nseq ?_
    refine dseq ?_
    refine dblock ?_
    refine dseq ?_
    refine dreg ?_
    refine lpure (v := .slice a9145 n9145 c9145) rfl (p_move rfl) rfl rfl ?_
    refine lpure (v := .int .i64 s9163) rfl (p_move rfl) rfl rfl ?_
    refine Sim.bindM fun e9177 he9178 => ?_
    obtain ⟨p9179, cs9179, hp9179, hF9179, hR9179⟩ := RSl.ia H9145 he9178 (kd := .i64) (n := 1) rfl
    have hR9179 : _ = [(.int .i64 e9177 : Value)] := hR9179
    subst hR9179
    refine lpure (v := p9179) rfl (p_ia rs_28 rfl) hp9179 rfl ?_
    refine lread (v := .int .i64 e9177) rfl (q_load wd_3 rfl) (FP.ld X9174 hF9179) rfl ?_
    refine lpure (v := .int .i64 p9146) rfl (p_move rfl) rfl rfl ?_
    refine lpure (v := .bool (decide (e9177 = p9146))) rfl (p_eq rfl) rfl rfl ?_
    refine lend ?_
    refine nseq ?_
    refine dcond rfl rfl (fun k9180 => ?_) (fun k9180 => ?_)
    · refine dseq ?_
      refine dreg ?_
      refine lpure (v := .bool true) rfl (p_assign rfl) rfl rfl ?_
      refine lend ?_
      refine nseq ?_
      refine dret ?_
      refine rblock ?_
      refine rseq ?_
      refine rloop ?_
      refine rblock ?_
      refine rseq ?_
      exact kcut_r (res_1 resT) X9174 rfl rfl
    · refine dskip ?_
      refine nblock ?_
      refine nseq ?_
      refine dreg ?_
      refine lpure (v := .int .i64 s9163) rfl (p_move rfl) rfl rfl ?_
      refine lpure (v := .int .i64 (w64 (s9163 + 1))) rfl (p_add rfl) rfl rfl ?_
      refine lpure (v := .int .i64 (w64 (s9163 + 1))) rfl (p_assign rfl) rfl rfl ?_
      refine lend ?_
      exact kbackM ih9172 (w64 (s9163 + 1)) () (sub_cons rfl (sub_cons rfl (sub_cons rfl sub_nil))) X9174
  · refine dexit ?_
    refine eseq ?_
    refine eloop ?_
    refine xblock ?_
    refine nseq ?_
    refine dseq ?_
    refine dreg ?_
    refine lpure (v := .bool false) rfl (p_assign rfl) rfl rfl ?_
    refine lend ?_
    refine nseq ?_
    refine dret ?_
    exact kcut_r (res_1 resT) X9174 rfl rfl
/-! isochron/isochronref16.Reach -/
theorem f19_ok {n : Nat} {φ : Fz} {lo : Nat} {h : Heap} {own : OwnL} (X : St φ lo h own) (p10335 : ApiTopo) (p10338 : Int) (p10339 : (List Int)) {a10336 : Option Addr} {n10336 c10336 : Nat} {a10337 : Option Addr} {n10337 c10337 : Nat} {a10340 : Option Addr} {n10340 c10340 : Nat} (H10336 : RSl eBool φ (.slice a10336 n10336 c10336) p10335.Station) (H10337 : RSl eApiLink φ (.slice a10337 n10337 c10337) p10335.Links) (H10340 : RSl (eInt .i64) φ (.slice a10340 n10340 c10340) p10339) : Sim ((recN Try.prog LL cutF (n + 2)).call 19 #[(.agg #[.int .i64 p10335.Nodes, .slice a10336 n10336 c10336, .slice a10337 n10337 c10337]), (.int .i64 p10338), (.slice a10340 n10340 c10340)] h) (m_isochronref16_Reach p10335 p10338 p10339) (fun (d : (List Bool)) p => ∃ φ2 : Fz, ∃ a11524 : Option Addr, ∃ n11524 : Nat, ∃ c11524 : Nat, ∃ ob11524 : Option Nat, ∃ blk11524 : Blk, Fz.le φ φ2 ∧ St φ2 lo p.2 ((ob11524, blk11524) :: own) ∧ p.1 = .slice a11524 n11524 c11524 ∧ OSl eBool φ2 4 ob11524 blk11524 (.slice a11524 n11524 c11524) d) := by
  refine fopen Try.func19 rfl rfl rfl rfl ?_
  refine dseq ?_
  refine dreg ?_
  refine lbox rfl rfl rfl rfl rfl X (fun b10341 h10343 X10344 => ?_)
  refine lpure (v := .slice none 0 0) rfl (p_assign rfl) rfl rfl ?_
  refine lend ?_
  refine nseq ?_
  refine dseq ?_
  refine dreg ?_
  refine lpure (v := .pointer (some ⟨b10341, 0, none⟩)) rfl (p_fa fo_25_0 rfl) rfl rfl ?_
  refine lread (v := .int .i64 p10335.Nodes) rfl (q_load wd_3 rfl) (St.ld X10344 (j := 0) rfl rfl) rfl ?_
  refine Sim.mustM fun k10345 => ?_
  have k10345 := of_decide_eq_true k10345
  obtain ⟨h10345, b10345, vs10345, hv10345, X10345, O10345⟩ := OSl.mk (E := eBool) (φ := φ) (a0 := false) (k := .i64) (k' := .i64) (l := p10335.Nodes) (c := p10335.Nodes) un_22 tb_4 rfl ts_4 rfl rfl tz_4 rfl rfl rfl (by omega) (by omega) (by omega) X10344
  refine lheap rfl (h_makeSlice rfl) hv10345 rfl ?_
  refine lpure (v := .slice (some ⟨b10345, 0, none⟩) (p10335.Nodes).toNat (p10335.Nodes).toNat) rfl (p_assign rfl) rfl rfl ?_
  refine lend ?_
  refine nseq ?_
  refine dseq ?_
  refine dreg ?_
  refine lpure (v := .slice (some ⟨b10345, 0, none⟩) (p10335.Nodes).toNat (p10335.Nodes).toNat) rfl (p_move rfl) rfl rfl ?_
  refine lpure (v := .int .i64 p10338) rfl (p_move rfl) rfl rfl ?_
  refine Sim.bindM fun e10347 he10348 => ?_
  obtain ⟨off10349, cs10349, hp10349, hc10349, hR10349, hl10349, hm10349, hs10349⟩ := OSl.iaC O10345 he10348 (kd := .i64) (n := 1) rfl
  have hR10349 : _ = [(.bool e10347 : Value)] := hR10349
  subst hR10349
  refine lpure (v := .pointer (some ⟨b10345, off10349, none⟩)) rfl (p_ia rs_22 rfl) hp10349 rfl ?_
  have O10352 := hs10349 [.bool true] (true) rfl
  refine lstore rfl ts_4 rfl rfl (j := 0) rfl hm10349 rfl rfl (ble_iff.2 hl10349) rfl X10345 (fun h10350 X10351 => ?_)
  refine lend ?_
  refine nseq ?_
  refine dseq ?_
  refine dseq ?_
  refine dreg ?_
  refine lpure (v := .int .i64 0) rfl (p_assign rfl) rfl rfl ?_
  refine lend ?_
  refine nseq ?_
  refine dblock ?_
  refine dloopM (τ := (List Bool) × Int) (σ := Option Addr × Nat × Nat × Option Nat × Blk) (fun s10937 (a10938, n10938, c10938, ob10938, blk10938) => [(2, .slice a10340 n10340 c10340), (3, .pointer (some ⟨b10341, 0, none⟩)), (7, .slice a10938 n10938 c10938), (8, .int .i64 s10937.2)]) (fun s10937 (a10938, n10938, c10938, ob10938, blk10938) hh => St φ lo hh ((ob10938, blk10938) :: (some b10341, .cells [.int .i64 p10335.Nodes, .slice a10336 n10336 c10336, .slice a10337 n10337 c10337] 25 .exact) :: own) ∧ OSl eBool φ 4 ob10938 blk10938 (.slice a10938 n10938 c10938) s10937.1) (((List.replicate (p10335.Nodes).toNat false).set (p10338).toNat true), 0) ((some ⟨b10345, 0, none⟩), (p10335.Nodes).toNat, (p10335.Nodes).toNat, some b10345, (.cells (setAt vs10345 off10349 [.bool true]) 4 .exact)) (sub_cons rfl (sub_cons rfl (sub_cons rfl (sub_cons rfl sub_nil)))) ⟨X10351, O10352⟩ ?_
  rintro n11232 ih11231 s10937 ⟨a10938, n10938, c10938, ob10938, blk10938⟩ t0 h11234 ⟨X11233, O10938⟩
  refine dseq ?_
  refine dseq ?_
  refine dreg ?_
  refine lpure (v := .int .i64 s10937.2) rfl (p_move rfl) rfl rfl ?_
  refine lpure (v := .pointer (some ⟨b10341, 0, none⟩)) rfl (p_fa fo_25_0 rfl) rfl rfl ?_
  refine lread (v := .int .i64 p10335.Nodes) rfl (q_load wd_3 rfl) (St.ld X11233 (j := 1) rfl rfl) rfl ?_
  refine lpure (v := .bool (decide (s10937.2 < p10335.Nodes))) rfl (p_lt rfl) rfl rfl ?_
  refine lend ?_
  refine nseq ?_
  refine dcond rfl rfl (fun k11235 => ?_) (fun k11235 => ?_)
  · refine dskip ?_
    refine nseq ?_
    refine dseq ?_
    refine dblock ?_
    refine dseq ?_
    refine dreg ?_
    refine lpure (v := .int .i64 0) rfl (p_assign rfl) rfl rfl ?_
    refine lend ?_
    refine nseq ?_
    refine dblock ?_
    refine dloopM (τ := (List Bool) × Int) (σ := Option Addr × Nat × Nat × Option Nat × Blk) (fun s11379 (a11380, n11380, c11380, ob11380, blk11380) => [(2, .slice a10340 n10340 c10340), (3, .pointer (some ⟨b10341, 0, none⟩)), (7, .slice a11380 n11380 c11380), (8, .int .i64 s10937.2), (9, .int .i64 s11379.2)]) (fun s11379 (a11380, n11380, c11380, ob11380, blk11380) hh => St φ lo hh ((ob11380, blk11380) :: (some b10341, .cells [.int .i64 p10335.Nodes, .slice a10336 n10336 c10336, .slice a10337 n10337 c10337] 25 .exact) :: own) ∧ OSl eBool φ 4 ob11380 blk11380 (.slice a11380 n11380 c11380) s11379.1) (s10937.1, 0) (a10938, n10938, c10938, ob10938, blk10938) (sub_cons rfl (sub_cons rfl (sub_cons rfl (sub_cons rfl (sub_cons rfl sub_nil))))) ⟨X11233, O10938⟩ ?_
    rintro n11453 ih11452 s11379 ⟨a11380, n11380, c11380, ob11380, blk11380⟩ t0 h11455 ⟨X11454, O11380⟩
    refine dseq ?_
    refine dseq ?_
    refine dreg ?_
    refine lpure (v := .int .i64 s11379.2) rfl (p_move rfl) rfl rfl ?_
    refine lpure (v := .pointer (some ⟨b10341, 2, none⟩)) rfl (p_fa fo_25_2 rfl) rfl rfl ?_
    refine lread (v := .slice a10337 n10337 c10337) rfl (q_load wd_23 rfl) (St.ld X11454 (j := 1) rfl rfl) rfl ?_
    refine lpure (v := .int .i64 (p10335.Links.length : Int)) rfl (p_len rfl rfl rfl un_23 rfl) (RSl.lenC H10337) rfl ?_
    refine lpure (v := .bool (decide (s11379.2 < (p10335.Links.length : Int)))) rfl (p_lt rfl) rfl rfl ?_
    refine lend ?_
    refine nseq ?_
    refine dcond rfl rfl (fun k11456 => ?_) (fun k11456 => ?_)
    · refine dskip ?_
      refine nseq ?_
      refine dseq ?_
      refine dblock ?_
      refine dseq ?_
      refine dreg ?_
      refine lpure (v := .pointer (some ⟨b10341, 2, none⟩)) rfl (p_fa fo_25_2 rfl) rfl rfl ?_
      refine lread (v := .slice a10337 n10337 c10337) rfl (q_load wd_23 rfl) (St.ld X11454 (j := 1) rfl rfl) rfl ?_
      refine lpure (v := .int .i64 s11379.2) rfl (p_move rfl) rfl rfl ?_
      refine Sim.bindM fun e11457 he11458 => ?_
      obtain ⟨p11459, cs11459, hp11459, hF11459, hR11459⟩ := RSl.ia H10337 he11458 (kd := .i64) (n := 4) rfl
      obtain rfl := eApiLink_el hR11459
      refine lpure (v := p11459) rfl (p_ia rs_23 rfl) hp11459 rfl ?_
      refine lread (v := .agg #[.int .i64 e11457.A, .int .i64 e11457.B, .int .i64 e11457.Per, .int .i64 e11457.Delay]) rfl (q_load wd_50 rfl) (FP.ldw X11454 hF11459 rfl rfl) rfl ?_
      refine lalloc rfl tz_50 rfl rfl rfl X11454 (fun b11460 h11462 X11463 => ?_)
      refine lstore rfl ts_50 rfl rfl (j := 0) rfl rfl rfl rfl rfl rfl X11463 (fun h11464 X11465 => ?_)
      refine lend ?_
      refine nseq ?_
      refine dseq ?_
      refine dreg ?_
      refine lpure (v := .slice a10340 n10340 c10340) rfl (p_move rfl) rfl rfl ?_
      refine lpure (v := .int .i64 s11379.2) rfl (p_move rfl) rfl rfl ?_
      refine lcall rfl rfl ca_48 rfl rfl (f48_ok X11465 p10339 (s11379.2) H10340) rfl (fun e11466 v11467 h11468 hq11469 => ?_)
      cases hq11469
      refine lpure (v := .bool (!e11466)) rfl (p_not rfl) rfl rfl ?_
      refine lpure (v := .bool (!e11466)) rfl (p_move rfl) rfl rfl ?_
      refine ljoinM (τ := (List Bool) × Bool) (σ := Option Addr × Nat × Nat × Option Nat × Blk) (fun s11479 (a11480, n11480, c11480, ob11480, blk11480) => [(2, .slice a10340 n10340 c10340), (3, .pointer (some ⟨b10341, 0, none⟩)), (7, .slice a11480 n11480 c11480), (8, .int .i64 s10937.2), (9, .int .i64 s11379.2), (10, .pointer (some ⟨b11460, 0, none⟩)), (52, .bool s11479.2)]) (fun s11479 (a11480, n11480, c11480, ob11480, blk11480) hh => St φ lo hh ((some b11460, .cells [.int .i64 e11457.A, .int .i64 e11457.B, .int .i64 e11457.Per, .int .i64 e11457.Delay] 50 .exact) :: (ob11480, blk11480) :: (some b10341, .cells [.int .i64 p10335.Nodes, .slice a10336 n10336 c10336, .slice a10337 n10337 c10337] 25 .exact) :: own) ∧ OSl eBool φ 4 ob11480 blk11480 (.slice a11480 n11480 c11480) s11479.1) 13 ?_ ?_
      · rintro s11479 ⟨a11480, n11480, c11480, ob11480, blk11480⟩ t0 h11482 ⟨X11481, O11480⟩
        refine lend ?_
        refine nseq ?_
        refine djoinM (τ := (List Bool)) (σ := Option Addr × Nat × Nat × Option Nat × Blk) (fun s11496 (a11497, n11497, c11497, ob11497, blk11497) => [(2, .slice a10340 n10340 c10340), (3, .pointer (some ⟨b10341, 0, none⟩)), (7, .slice a11497 n11497 c11497), (8, .int .i64 s10937.2), (9, .int .i64 s11379.2)]) (fun s11496 (a11497, n11497, c11497, ob11497, blk11497) hh => St φ lo hh ((some b11460, .cells [.int .i64 e11457.A, .int .i64 e11457.B, .int .i64 e11457.Per, .int .i64 e11457.Delay] 50 .exact) :: (ob11497, blk11497) :: (some b10341, .cells [.int .i64 p10335.Nodes, .slice a10336 n10336 c10336, .slice a10337 n10337 c10337] 25 .exact) :: own) ∧ OSl eBool φ 4 ob11497 blk11497 (.slice a11497 n11497 c11497) s11496) ?_ ?_
        · rintro s11496 ⟨a11497, n11497, c11497, ob11497, blk11497⟩ t0 h11499 ⟨X11498, O11497⟩
          refine nblock ?_
          refine nseq ?_
          refine dreg ?_
          refine lpure (v := .int .i64 s11379.2) rfl (p_move rfl) rfl rfl ?_
          refine lpure (v := .int .i64 (w64 (s11379.2 + 1))) rfl (p_add rfl) rfl rfl ?_
          refine lpure (v := .int .i64 (w64 (s11379.2 + 1))) rfl (p_assign rfl) rfl rfl ?_
          refine lend ?_
          exact kbackM ih11452 (s11496, (w64 (s11379.2 + 1))) (a11497, n11497, c11497, ob11497, blk11497) (sub_cons rfl (sub_cons rfl (sub_cons rfl (sub_cons rfl (sub_cons rfl sub_nil))))) ⟨(St.pick X11498 (.skip _ (.keep _ (.keep _ (.refl _))))), O11497⟩
        · intro j11500 J11501
          refine dcond rfl rfl (fun k11483 => ?_) (fun k11483 => ?_)
          · refine dseq ?_
            refine dreg ?_
            refine lpure (v := .slice a11480 n11480 c11480) rfl (p_move rfl) rfl rfl ?_
            refine lpure (v := .pointer (some ⟨b11460, 0, none⟩)) rfl (p_fa fo_50_0 rfl) rfl rfl ?_
            refine lread (v := .int .i64 e11457.A) rfl (q_load wd_3 rfl) (St.ld X11481 (j := 0) rfl rfl) rfl ?_
            refine Sim.bindM fun e11502 he11503 => ?_
            obtain ⟨b11504, vs11504, m11504, off11504, cs11504, rfl, rfl, hp11504, hc11504, hR11504, hl11504, hm11504, hs11504⟩ := OSl.ia O11480 he11503 (kd := .i64) (n := 1) rfl
            have hR11504 : _ = [(.bool e11502 : Value)] := hR11504
            subst hR11504
            refine lpure (v := .pointer (some ⟨b11504, off11504, none⟩)) rfl (p_ia rs_22 rfl) hp11504 rfl ?_
            have O11507 := hs11504 [.bool true] (true) rfl
            refine lstore rfl ts_4 rfl rfl (j := 1) rfl hm11504 rfl rfl (ble_iff.2 hl11504) rfl X11481 (fun h11505 X11506 => ?_)
            refine lend ?_
            refine nseq ?_
            refine dreg ?_
            refine lpure (v := .slice a11480 n11480 c11480) rfl (p_move rfl) rfl rfl ?_
            refine lpure (v := .pointer (some ⟨b11460, 1, none⟩)) rfl (p_fa fo_50_1 rfl) rfl rfl ?_
            refine lread (v := .int .i64 e11457.B) rfl (q_load wd_3 rfl) (St.ld X11506 (j := 0) rfl rfl) rfl ?_
            refine Sim.bindM fun e11508 he11509 => ?_
            obtain ⟨off11510, cs11510, hp11510, hc11510, hR11510, hl11510, hm11510, hs11510⟩ := OSl.iaC O11507 he11509 (kd := .i64) (n := 1) rfl
            have hR11510 : _ = [(.bool e11508 : Value)] := hR11510
            subst hR11510
            refine lpure (v := .pointer (some ⟨b11504, off11510, none⟩)) rfl (p_ia rs_22 rfl) hp11510 rfl ?_
            have O11513 := hs11510 [.bool true] (true) rfl
            refine lstore rfl ts_4 rfl rfl (j := 1) rfl hm11510 rfl rfl (ble_iff.2 hl11510) rfl X11506 (fun h11511 X11512 => ?_)
            refine lend ?_
            exact jmpM J11501 ((s11479.1.set (e11457.A).toNat true).set (e11457.B).toNat true) (a11480, n11480, c11480, some b11504, (.cells (setAt (setAt vs11504 off11504 [.bool true]) off11510 [.bool true]) 4 m11504)) (sub_cons rfl (sub_cons rfl (sub_cons rfl (sub_cons rfl (sub_cons rfl sub_nil))))) ⟨X11512, O11513⟩
          · refine dskip ?_
            exact jmpM J11501 s11479.1 (a11480, n11480, c11480, ob11480, blk11480) (sub_cons rfl (sub_cons rfl (sub_cons rfl (sub_cons rfl (sub_cons rfl sub_nil))))) ⟨X11481, O11480⟩
      · intro j11514 J11515
        refine lif (i := 39) (show _ = Value.bool (!e11466) from rfl) (fun k11516 => ?_) (fun k11516 => ?_)
        · refine lpure (v := .slice a11380 n11380 c11380) rfl (p_move rfl) rfl rfl ?_
          refine lpure (v := .pointer (some ⟨b11460, 0, none⟩)) rfl (p_fa fo_50_0 rfl) rfl rfl ?_
          refine lread (v := .int .i64 e11457.A) rfl (q_load wd_3 rfl) (St.ld X11465 (j := 0) rfl rfl) rfl ?_
          refine Sim.bindM fun e11517 he11518 => ?_
          obtain ⟨b11519, vs11519, m11519, off11519, cs11519, rfl, rfl, hp11519, hc11519, hR11519, hl11519, hm11519, hs11519⟩ := OSl.ia O11380 he11518 (kd := .i64) (n := 1) rfl
          have hR11519 : _ = [(.bool e11517 : Value)] := hR11519
          subst hR11519
          refine lpure (v := .pointer (some ⟨b11519, off11519, none⟩)) rfl (p_ia rs_22 rfl) hp11519 rfl ?_
          refine lread (v := .bool e11517) rfl (q_load wd_4 rfl) (St.ld X11465 (j := 1) rfl (rdE1 hc11519 (k := 0) rfl rfl)) rfl ?_
          refine lpure (v := .bool e11517) rfl (p_move rfl) rfl rfl ?_
          refine lif (i := 45) (show _ = Value.bool e11517 from rfl) (fun k11520 => ?_) (fun k11520 => ?_)
          · refine lskip rfl rfl ?_
            refine lskip rfl rfl ?_
            refine lskip rfl rfl ?_
            refine lskip rfl rfl ?_
            refine lskip rfl rfl ?_
            refine lpure (v := .bool true) rfl (p_pick rfl) rfl rfl ?_
            refine lpure (v := .bool true) rfl (p_pick rfl) rfl rfl ?_
            exact ljmpM J11515 (s11379.1, true) (a11380, n11380, c11380, some b11519, .cells vs11519 4 m11519) (sub_cons rfl (sub_cons rfl (sub_cons rfl (sub_cons rfl (sub_cons rfl (sub_cons rfl (sub_cons rfl sub_nil))))))) ⟨X11465, O11380⟩
          · refine lpure (v := .slice a11380 n11380 c11380) rfl (p_move rfl) rfl rfl ?_
            refine lpure (v := .pointer (some ⟨b11460, 1, none⟩)) rfl (p_fa fo_50_1 rfl) rfl rfl ?_
            refine lread (v := .int .i64 e11457.B) rfl (q_load wd_3 rfl) (St.ld X11465 (j := 0) rfl rfl) rfl ?_
            refine Sim.bindM fun e11521 he11522 => ?_
            obtain ⟨off11523, cs11523, hp11523, hc11523, hR11523, hl11523, hm11523, hs11523⟩ := OSl.iaC O11380 he11522 (kd := .i64) (n := 1) rfl
            have hR11523 : _ = [(.bool e11521 : Value)] := hR11523
            subst hR11523
            refine lpure (v := .pointer (some ⟨b11519, off11523, none⟩)) rfl (p_ia rs_22 rfl) hp11523 rfl ?_
            refine lread (v := .bool e11521) rfl (q_load wd_4 rfl) (St.ld X11465 (j := 1) rfl (rdE1 hc11523 (k := 0) rfl rfl)) rfl ?_
            refine lpure (v := .bool e11521) rfl (p_pick rfl) rfl rfl ?_
            refine lpure (v := .bool e11521) rfl (p_pick rfl) rfl rfl ?_
            exact ljmpM J11515 (s11379.1, e11521) (a11380, n11380, c11380, some b11519, .cells vs11519 4 m11519) (sub_cons rfl (sub_cons rfl (sub_cons rfl (sub_cons rfl (sub_cons rfl (sub_cons rfl (sub_cons rfl sub_nil))))))) ⟨X11465, O11380⟩
        · refine lskip rfl rfl ?_
          refine lskip rfl rfl ?_
          refine lskip rfl rfl ?_
          refine lskip rfl rfl ?_
          refine lskip rfl rfl ?_
          refine lskip rfl rfl ?_
          refine lskip rfl rfl ?_
          refine lskip rfl rfl ?_
          refine lskip rfl rfl ?_
          refine lskip rfl rfl ?_
          refine lskip rfl rfl ?_
          refine lskip rfl rfl ?_
          refine lpure (v := .bool false) rfl (p_pick rfl) rfl rfl ?_
          exact ljmpM J11515 (s11379.1, false) (a11380, n11380, c11380, ob11380, blk11380) (sub_cons rfl (sub_cons rfl (sub_cons rfl (sub_cons rfl (sub_cons rfl (sub_cons rfl (sub_cons rfl sub_nil))))))) ⟨X11465, O11380⟩
    · refine dexit ?_
      refine eseq ?_
      refine eloop ?_
      refine xblock ?_
      refine nblock ?_
      refine nseq ?_
      refine dreg ?_
      refine lpure (v := .int .i64 s10937.2) rfl (p_move rfl) rfl rfl ?_
      refine lpure (v := .int .i64 (w64 (s10937.2 + 1))) rfl (p_add rfl) rfl rfl ?_
      refine lpure (v := .int .i64 (w64 (s10937.2 + 1))) rfl (p_assign rfl) rfl rfl ?_
      refine lend ?_
      exact kbackM ih11231 (s11379.1, (w64 (s10937.2 + 1))) (a11380, n11380, c11380, ob11380, blk11380) (sub_cons rfl (sub_cons rfl (sub_cons rfl (sub_cons rfl sub_nil)))) ⟨X11454, O11380⟩
  · refine dexit ?_
    refine eseq ?_
    refine eloop ?_
    refine xblock ?_
    refine nseq ?_
    refine dseq ?_
    refine dreg ?_
    refine lpure (v := .slice a10938 n10938 c10938) rfl (p_move rfl) rfl rfl ?_
    refine lpure (v := .slice a10938 n10938 c10938) rfl (p_assign rfl) rfl rfl ?_
    refine lend ?_
    refine nseq ?_
    refine dret ?_
    exact kopen_r (res_1 resT) ⟨φ, a10938, n10938, c10938, ob10938, blk10938, (Fz.le_refl _), St.pick X11233 (.keep _ (.skip _ (.refl _))), rfl, O10938⟩
/-! isochron/isochronref16.Joins -/
theorem f44_ok {n : Nat} {φ : Fz} {lo : Nat} {h : Heap} {own : OwnL} (X : St φ lo h own) (p11717 : ApiLink) (p11718 : Int) (p11719 : Int) : Sim ((recN Try.prog LL cutF (n + 1)).call 44 #[(.agg #[.int .i64 p11717.A, .int .i64 p11717.B, .int .i64 p11717.Per, .int .i64 p11717.Delay]), (.int .i64 p11718), (.int .i64 p11719)] h) (m_isochronref16_Joins p11717 p11718 p11719) (fun (d : Bool) p => p = (.bool d, h)) := by
  refine fcut Try.func44 rfl rfl rfl rfl X ?_
  intro h0 X0
  refine dseq ?_
  refine dreg ?_
  refine lbox rfl rfl rfl rfl rfl X0 (fun b11720 h11722 X11723 => ?_)
  refine lpure (v := .bool false) rfl (p_assign rfl) rfl rfl ?_
  refine lend ?_
  refine nseq ?_
  refine dseq ?_
  refine dreg ?_
  refine lpure (v := .pointer (some ⟨b11720, 0, none⟩)) rfl (p_fa fo_50_0 rfl) rfl rfl ?_
  refine lread (v := .int .i64 p11717.A) rfl (q_load wd_3 rfl) (St.ld X11723 (j := 0) rfl rfl) rfl ?_
  refine lpure (v := .int .i64 p11718) rfl (p_move rfl) rfl rfl ?_
  refine lpure (v := .bool (decide (p11717.A = p11718))) rfl (p_eq rfl) rfl rfl ?_
  refine lpure (v := .bool (decide (p11717.A = p11718))) rfl (p_move rfl) rfl rfl ?_
  refine lsh (τ := Bool) (σ := Unit) (fun s11725 (_ : Unit) => [(1, .int .i64 p11718), (2, .int .i64 p11719), (3, .pointer (some ⟨b11720, 0, none⟩)), (16, .bool s11725)]) (fun s11725 (_ : Unit) hh => St φ h.n hh ([(some b11720, .cells [.int .i64 p11717.A, .int .i64 p11717.B, .int .i64 p11717.Per, .int .i64 p11717.Delay] 50 .exact)])) 5 ?_ ?_
  · rintro s11725 _ t0 h11727 X11726
    refine lpure (v := .bool s11725) rfl (p_move rfl) rfl rfl ?_
    refine lsh (τ := Bool) (σ := Unit) (fun s11729 (_ : Unit) => [(28, .bool s11729)]) (fun s11729 (_ : Unit) hh => St φ h.n hh ([(some b11720, .cells [.int .i64 p11717.A, .int .i64 p11717.B, .int .i64 p11717.Per, .int .i64 p11717.Delay] 50 .exact)])) 11 ?_ ?_
    · rintro s11729 _ t0 h11731 X11730
      refine lpure (v := .bool s11729) rfl (p_assign rfl) rfl rfl ?_
      refine lend ?_
      refine nseq ?_
      refine dret ?_
      exact kcut_r (res_1 resT) X11730 rfl rfl
    · intro j11732 J11733
      refine lcase (i := 17) (show _ = Value.bool s11725 from rfl) (fun k11734 => ?_) (fun k11734 => ?_)
      · refine lskip rfl rfl ?_
        refine lskip rfl rfl ?_
        refine lskip rfl rfl ?_
        refine lskip rfl rfl ?_
        refine lskip rfl rfl ?_
        refine lskip rfl rfl ?_
        refine lskip rfl rfl ?_
        refine lskip rfl rfl ?_
        refine lskip rfl rfl ?_
        refine lskip rfl rfl ?_
        refine lpure (v := .bool true) rfl (p_pick rfl) rfl rfl ?_
        refine Sim.of_eq (congrArg j11732 (show (s11725 || ((decide (p11717.A = p11719)) && (decide (p11717.B = p11718)))) = true from by rw [k11734] <;> rfl)) ?_
        exact ljmpM J11733 true () (sub_cons rfl sub_nil) X11726
      · refine lpure (v := .pointer (some ⟨b11720, 0, none⟩)) rfl (p_fa fo_50_0 rfl) rfl rfl ?_
        refine lread (v := .int .i64 p11717.A) rfl (q_load wd_3 rfl) (St.ld X11726 (j := 0) rfl rfl) rfl ?_
        refine lpure (v := .int .i64 p11719) rfl (p_move rfl) rfl rfl ?_
        refine lpure (v := .bool (decide (p11717.A = p11719))) rfl (p_eq rfl) rfl rfl ?_
        refine lpure (v := .bool (decide (p11717.A = p11719))) rfl (p_move rfl) rfl rfl ?_
        refine lcase (i := 22) (show _ = Value.bool (decide (p11717.A = p11719)) from rfl) (fun k11735 => ?_) (fun k11735 => ?_)
        · refine lpure (v := .pointer (some ⟨b11720, 1, none⟩)) rfl (p_fa fo_50_1 rfl) rfl rfl ?_
          refine lread (v := .int .i64 p11717.B) rfl (q_load wd_3 rfl) (St.ld X11726 (j := 0) rfl rfl) rfl ?_
          refine lpure (v := .int .i64 p11718) rfl (p_move rfl) rfl rfl ?_
          refine lpure (v := .bool (decide (p11717.B = p11718))) rfl (p_eq rfl) rfl rfl ?_
          refine lpure (v := .bool (decide (p11717.B = p11718))) rfl (p_pick rfl) rfl rfl ?_
          refine lpure (v := .bool (decide (p11717.B = p11718))) rfl (p_pick rfl) rfl rfl ?_
          refine Sim.of_eq (congrArg j11732 (show (s11725 || ((decide (p11717.A = p11719)) && (decide (p11717.B = p11718)))) = (decide (p11717.B = p11718)) from by rw [k11734, k11735] <;> rfl)) ?_
          exact ljmpM J11733 (decide (p11717.B = p11718)) () (sub_cons rfl sub_nil) X11726
        · refine lskip rfl rfl ?_
          refine lskip rfl rfl ?_
          refine lskip rfl rfl ?_
          refine lskip rfl rfl ?_
          refine lpure (v := .bool false) rfl (p_pick rfl) rfl rfl ?_
          refine lpure (v := .bool false) rfl (p_pick rfl) rfl rfl ?_
          refine Sim.of_eq (congrArg j11732 (show (s11725 || ((decide (p11717.A = p11719)) && (decide (p11717.B = p11718)))) = false from by rw [k11734, k11735] <;> rfl)) ?_
          exact ljmpM J11733 false () (sub_cons rfl sub_nil) X11726
  · intro j11736 J11737
    refine lcase (i := 11) (show _ = Value.bool (decide (p11717.A = p11718)) from rfl) (fun k11738 => ?_) (fun k11738 => ?_)
    · refine lpure (v := .pointer (some ⟨b11720, 1, none⟩)) rfl (p_fa fo_50_1 rfl) rfl rfl ?_
      refine lread (v := .int .i64 p11717.B) rfl (q_load wd_3 rfl) (St.ld X11723 (j := 0) rfl rfl) rfl ?_
      refine lpure (v := .int .i64 p11719) rfl (p_move rfl) rfl rfl ?_
      refine lpure (v := .bool (decide (p11717.B = p11719))) rfl (p_eq rfl) rfl rfl ?_
      refine lpure (v := .bool (decide (p11717.B = p11719))) rfl (p_pick rfl) rfl rfl ?_
      refine Sim.of_eq (congrArg j11736 (show ((decide (p11717.A = p11718)) && (decide (p11717.B = p11719))) = (decide (p11717.B = p11719)) from by rw [k11738] <;> rfl)) ?_
      exact ljmpM J11737 (decide (p11717.B = p11719)) () (sub_cons rfl (sub_cons rfl (sub_cons rfl (sub_cons rfl sub_nil)))) X11723
    · refine lskip rfl rfl ?_
      refine lskip rfl rfl ?_
      refine lskip rfl rfl ?_
      refine lskip rfl rfl ?_
      refine lpure (v := .bool false) rfl (p_pick rfl) rfl rfl ?_
      refine Sim.of_eq (congrArg j11736 (show ((decide (p11717.A = p11718)) && (decide (p11717.B = p11719))) = false from by rw [k11738] <;> rfl)) ?_
      exact ljmpM J11737 false () (sub_cons rfl (sub_cons rfl (sub_cons rfl (sub_cons rfl sub_nil)))) X11723
/-! isochron/isochronref16.Right -/
theorem f13_ok {n : Nat} {φ : Fz} {lo : Nat} {h : Heap} {own : OwnL} (X : St φ lo h own) (p8906 : ApiTopo) {a8907 : Option Addr} {n8907 c8907 : Nat} {a8908 : Option Addr} {n8908 c8908 : Nat} (H8907 : RSl eBool φ (.slice a8907 n8907 c8907) p8906.Station) (H8908 : RSl eApiLink φ (.slice a8908 n8908 c8908) p8906.Links) : Sim ((recN Try.prog LL cutF (n + 3)).call 13 #[(.agg #[.int .i64 p8906.Nodes, .slice a8907 n8907 c8907, .slice a8908 n8908 c8908])] h) (m_isochronref16_Right p8906) (fun (d : Bool) p => p = (.bool d, h)) := by
  refine fcut Try.func13 rfl rfl rfl rfl X ?_
  intro h0 X0
  refine dseq ?_
  refine dreg ?_
  refine lbox rfl rfl rfl rfl rfl X0 (fun b8909 h8911 X8912 => ?_)
  refine lpure (v := .bool false) rfl (p_assign rfl) rfl rfl ?_
  refine lend ?_
  refine nseq ?_
  refine dseq ?_
  refine dseq ?_
  refine dreg ?_
  refine lpure (v := .pointer (some ⟨b8909, 0, none⟩)) rfl (p_fa fo_25_0 rfl) rfl rfl ?_
  refine lread (v := .int .i64 p8906.Nodes) rfl (q_load wd_3 rfl) (St.ld X8912 (j := 0) rfl rfl) rfl ?_
  refine lpure (v := .bool (decide (p8906.Nodes < 2))) rfl (p_lt rfl) rfl rfl ?_
  refine lpure (v := .bool (decide (p8906.Nodes < 2))) rfl (p_move rfl) rfl rfl ?_
  refine lsh (τ := Bool) (σ := Unit) (fun s8914 (_ : Unit) => [(1, .pointer (some ⟨b8909, 0, none⟩)), (16, .bool s8914)]) (fun s8914 (_ : Unit) hh => St φ h.n hh ([(some b8909, .cells [.int .i64 p8906.Nodes, .slice a8907 n8907 c8907, .slice a8908 n8908 c8908] 25 .exact)])) 4 ?_ ?_
  · rintro s8914 _ t0 h8916 X8915
    refine lpure (v := .bool s8914) rfl (p_move rfl) rfl rfl ?_
    refine lsh (τ := Bool) (σ := Unit) (fun s8918 (_ : Unit) => [(1, .pointer (some ⟨b8909, 0, none⟩)), (24, .bool s8918)]) (fun s8918 (_ : Unit) hh => St φ h.n hh ([(some b8909, .cells [.int .i64 p8906.Nodes, .slice a8907 n8907 c8907, .slice a8908 n8908 c8908] 25 .exact)])) 7 ?_ ?_
    · rintro s8918 _ t0 h8920 X8919
      refine lpure (v := .bool s8918) rfl (p_move rfl) rfl rfl ?_
      refine lsh (τ := Bool) (σ := Unit) (fun s8922 (_ : Unit) => [(1, .pointer (some ⟨b8909, 0, none⟩)), (30, .bool s8922)]) (fun s8922 (_ : Unit) hh => St φ h.n hh ([(some b8909, .cells [.int .i64 p8906.Nodes, .slice a8907 n8907 c8907, .slice a8908 n8908 c8908] 25 .exact)])) 5 ?_ ?_
      · rintro s8922 _ t0 h8924 X8923
        refine lend ?_
        refine nseq ?_
        refine dcond rfl rfl (fun k8925 => ?_) (fun k8925 => ?_)
        · refine dseq ?_
          refine dreg ?_
          refine lpure (v := .bool false) rfl (p_assign rfl) rfl rfl ?_
          refine lend ?_
          refine nseq ?_
          refine dret ?_
          refine rseq ?_
          exact kcut_r (res_1 resT) X8923 rfl rfl
        · refine dskip ?_
          refine nseq ?_
          refine dseq ?_
          refine dreg ?_
          refine lpure (v := .pointer (some ⟨b8909, 0, none⟩)) rfl (p_fa fo_25_0 rfl) rfl rfl ?_
          refine lread (v := .int .i64 p8906.Nodes) rfl (q_load wd_3 rfl) (St.ld X8923 (j := 0) rfl rfl) rfl ?_
          refine Sim.mustM fun k8926 => ?_
          have k8926 := of_decide_eq_true k8926
          obtain ⟨h8926, b8926, vs8926, hv8926, X8926, O8926⟩ := OSl.mk (E := (eInt .i64)) (φ := φ) (a0 := 0) (k := .i64) (k' := .i64) (l := p8906.Nodes) (c := p8906.Nodes) un_28 tb_3 rfl ts_3 rfl rfl tz_3 rfl rfl rfl (by omega) (by omega) (by omega) X8923
          refine lheap rfl (h_makeSlice rfl) hv8926 rfl ?_
          refine lpure (v := .slice (some ⟨b8926, 0, none⟩) (p8906.Nodes).toNat (p8906.Nodes).toNat) rfl (p_assign rfl) rfl rfl ?_
          refine lend ?_
          refine nseq ?_
          refine dseq ?_
          refine dseq ?_
          refine dreg ?_
          refine lpure (v := .int .i64 0) rfl (p_assign rfl) rfl rfl ?_
          refine lend ?_
          refine nseq ?_
          refine dblock ?_
          refine dloopM (τ := (List Int) × Int) (σ := Option Addr × Nat × Nat × Option Nat × Blk) (fun s12025 (a12026, n12026, c12026, ob12026, blk12026) => [(1, .pointer (some ⟨b8909, 0, none⟩)), (3, .slice a12026 n12026 c12026), (4, .int .i64 s12025.2)]) (fun s12025 (a12026, n12026, c12026, ob12026, blk12026) hh => St φ h.n hh ([(ob12026, blk12026), (some b8909, .cells [.int .i64 p8906.Nodes, .slice a8907 n8907 c8907, .slice a8908 n8908 c8908] 25 .exact)]) ∧ OSl (eInt .i64) φ 3 ob12026 blk12026 (.slice a12026 n12026 c12026) s12025.1) ((List.replicate (p8906.Nodes).toNat 0), 0) ((some ⟨b8926, 0, none⟩), (p8906.Nodes).toNat, (p8906.Nodes).toNat, some b8926, (.cells vs8926 3 .exact)) (sub_cons rfl (sub_cons rfl (sub_cons rfl sub_nil))) ⟨X8926, O8926⟩ ?_
          rintro n12339 ih12338 s12025 ⟨a12026, n12026, c12026, ob12026, blk12026⟩ t0 h12341 ⟨X12340, O12026⟩
          refine dseq ?_
          refine dseq ?_
          refine dreg ?_
          refine lpure (v := .int .i64 s12025.2) rfl (p_move rfl) rfl rfl ?_
          refine lpure (v := .pointer (some ⟨b8909, 2, none⟩)) rfl (p_fa fo_25_2 rfl) rfl rfl ?_
          refine lread (v := .slice a8908 n8908 c8908) rfl (q_load wd_23 rfl) (St.ld X12340 (j := 1) rfl rfl) rfl ?_
          refine lpure (v := .int .i64 (p8906.Links.length : Int)) rfl (p_len rfl rfl rfl un_23 rfl) (RSl.lenC H8908) rfl ?_
          refine lpure (v := .bool (decide (s12025.2 < (p8906.Links.length : Int)))) rfl (p_lt rfl) rfl rfl ?_
          refine lend ?_
          refine nseq ?_
          refine dcond rfl rfl (fun k12342 => ?_) (fun k12342 => ?_)
          · refine dskip ?_
            refine nseq ?_
            refine dseq ?_
            refine dblock ?_
            refine dseq ?_
            refine dreg ?_
            refine lpure (v := .pointer (some ⟨b8909, 2, none⟩)) rfl (p_fa fo_25_2 rfl) rfl rfl ?_
            refine lread (v := .slice a8908 n8908 c8908) rfl (q_load wd_23 rfl) (St.ld X12340 (j := 1) rfl rfl) rfl ?_
            refine lpure (v := .int .i64 s12025.2) rfl (p_move rfl) rfl rfl ?_
            refine Sim.bindM fun e12343 he12344 => ?_
            obtain ⟨p12345, cs12345, hp12345, hF12345, hR12345⟩ := RSl.ia H8908 he12344 (kd := .i64) (n := 4) rfl
            obtain rfl := eApiLink_el hR12345
            refine lpure (v := p12345) rfl (p_ia rs_23 rfl) hp12345 rfl ?_
            refine lread (v := .agg #[.int .i64 e12343.A, .int .i64 e12343.B, .int .i64 e12343.Per, .int .i64 e12343.Delay]) rfl (q_load wd_50 rfl) (FP.ldw X12340 hF12345 rfl rfl) rfl ?_
            refine lalloc rfl tz_50 rfl rfl rfl X12340 (fun b12346 h12348 X12349 => ?_)
            refine lstore rfl ts_50 rfl rfl (j := 0) rfl rfl rfl rfl rfl rfl X12349 (fun h12350 X12351 => ?_)
            refine lend ?_
            refine nseq ?_
            refine dseq ?_
            refine dseq ?_
            refine dreg ?_
            refine lread (v := .agg #[.int .i64 p8906.Nodes, .slice a8907 n8907 c8907, .slice a8908 n8908 c8908]) rfl (q_load wd_25 rfl) (St.ld X12351 (j := 2) rfl rfl) rfl ?_
            refine lread (v := .agg #[.int .i64 e12343.A, .int .i64 e12343.B, .int .i64 e12343.Per, .int .i64 e12343.Delay]) rfl (q_load wd_50 rfl) (St.ld X12351 (j := 0) rfl rfl) rfl ?_
            refine lcall rfl rfl ca_43 rfl rfl (f43_ok X12351 p8906 e12343 H8907 H8908) rfl (fun e12352 v12353 h12354 hq12355 => ?_)
            cases hq12355
            refine lpure (v := .bool (!e12352)) rfl (p_not rfl) rfl rfl ?_
            refine lend ?_
            refine nseq ?_
            refine dcond rfl rfl (fun k12356 => ?_) (fun k12356 => ?_)
            · refine dseq ?_
              refine dreg ?_
              refine lpure (v := .bool false) rfl (p_assign rfl) rfl rfl ?_
              refine lend ?_
              refine nseq ?_
              refine dret ?_
              refine rseq ?_
              refine rblock ?_
              refine rseq ?_
              refine rloop ?_
              refine rblock ?_
              refine rseq ?_
              exact kcut_r (res_1 resT) X12351 rfl rfl
            · refine dskip ?_
              refine nseq ?_
              refine dseq ?_
              refine dseq ?_
              refine dreg ?_
              refine lpure (v := .int .i64 0) rfl (p_assign rfl) rfl rfl ?_
              refine lend ?_
              refine nseq ?_
              refine dblock ?_
              refine dloopM (τ := Int) (σ := Unit) (fun s12417 (_ : Unit) => [(1, .pointer (some ⟨b8909, 0, none⟩)), (3, .slice a12026 n12026 c12026), (4, .int .i64 s12025.2), (5, .pointer (some ⟨b12346, 0, none⟩)), (6, .int .i64 s12417)]) (fun s12417 (_ : Unit) hh => St φ h.n hh ([(some b12346, .cells [.int .i64 e12343.A, .int .i64 e12343.B, .int .i64 e12343.Per, .int .i64 e12343.Delay] 50 .exact), (ob12026, blk12026), (some b8909, .cells [.int .i64 p8906.Nodes, .slice a8907 n8907 c8907, .slice a8908 n8908 c8908] 25 .exact)])) 0 () (sub_cons rfl (sub_cons rfl (sub_cons rfl (sub_cons rfl (sub_cons rfl sub_nil))))) X12351 ?_
              rintro n12449 ih12448 s12417 _ t0 h12451 X12450
              refine dseq ?_
              refine dseq ?_
              refine dreg ?_
              refine lpure (v := .int .i64 s12417) rfl (p_move rfl) rfl rfl ?_
              refine lpure (v := .int .i64 s12025.2) rfl (p_move rfl) rfl rfl ?_
              refine lpure (v := .bool (decide (s12417 < s12025.2))) rfl (p_lt rfl) rfl rfl ?_
              refine lend ?_
              refine nseq ?_
              refine dcond rfl rfl (fun k12452 => ?_) (fun k12452 => ?_)
              · refine dskip ?_
                refine nseq ?_
                refine dseq ?_
                refine dblock ?_
                refine dseq ?_
                refine ddraw 0 0 0 (by kernel_rfl) ?_
                refine spure (v := .pointer (some ⟨b8909, 2, none⟩)) rfl (p_fa fo_25_2 rfl) (lo_t (lo_own X12450 (j := 2) (o := 0) (s := none) (f := 0) rfl) rfl) rfl rfl ?_
                refine sload (v := .slice a8908 n8908 c8908) rfl rfl (q_load wd_23 rfl) (St.ld X12450 (j := 2) rfl rfl) (same_self 20 rfl) rfl ?_
                refine spure (v := .int .i64 s12417) rfl (p_move rfl) (lo_t rfl rfl) rfl rfl ?_
                refine Sim.bindM fun e12453 he12454 => ?_
                obtain ⟨p12455, cs12455, hp12455, hF12455, hR12455⟩ := RSl.ia H8908 he12454 (kd := .i64) (n := 4) rfl
                obtain rfl := eApiLink_el hR12455
                refine spure (v := p12455) rfl (p_ia rs_23 rfl) (lo_t (lo_sl X12450 H8908) (lo_t rfl rfl)) hp12455 rfl ?_
                refine sload (v := .agg #[.int .i64 e12453.A, .int .i64 e12453.B, .int .i64 e12453.Per, .int .i64 e12453.Delay]) rfl rfl (q_load wd_50 rfl) (FP.ldw X12450 hF12455 rfl rfl) (same_self 20 rfl) rfl ?_
                refine spure (v := .pointer (some ⟨b12346, 0, none⟩)) rfl (p_fa fo_50_0 rfl) (lo_t (lo_own X12450 (j := 0) (o := 0) (s := none) (f := 0) rfl) rfl) rfl rfl ?_
                refine sload (v := .int .i64 e12343.A) rfl rfl (q_load wd_3 rfl) (St.ld X12450 (j := 0) rfl rfl) (same_self 20 rfl) rfl ?_
                refine spure (v := .pointer (some ⟨b12346, 1, none⟩)) rfl (p_fa fo_50_1 rfl) (lo_t (lo_own X12450 (j := 0) (o := 0) (s := none) (f := 0) rfl) rfl) rfl rfl ?_
                refine sload (v := .int .i64 e12343.B) rfl rfl (q_load wd_3 rfl) (St.ld X12450 (j := 0) rfl rfl) (same_self 20 rfl) rfl ?_
                refine scall (en := fun d => (.bool d)) rfl rfl ca_44 rfl rfl (f44_ok X12450 e12453 (e12343.A) (e12343.B)) rfl (fun e12456 => ?_)
                refine send ?_
                refine nseq ?_
                refine dcond rfl rfl (fun k12460 => ?_) (fun k12460 => ?_)
                · refine dseq ?_
                  refine dreg ?_
                  refine lpure (v := .bool false) rfl (p_assign rfl) rfl rfl ?_
                  refine lend ?_
                  refine nseq ?_
                  refine dret ?_
                  refine rblock ?_
                  refine rseq ?_
                  refine rloop ?_
                  refine rblock ?_
                  refine rseq ?_
                  refine rblock ?_
                  refine rseq ?_
                  refine rloop ?_
                  refine rblock ?_
                  refine rseq ?_
                  exact kcut_r (res_1 resT) X12450 rfl rfl
                · refine dskip ?_
                  refine nblock ?_
                  refine nseq ?_
                  refine dreg ?_
                  refine lpure (v := .int .i64 s12417) rfl (p_move rfl) rfl rfl ?_
                  refine lpure (v := .int .i64 (w64 (s12417 + 1))) rfl (p_add rfl) rfl rfl ?_
                  refine lpure (v := .int .i64 (w64 (s12417 + 1))) rfl (p_assign rfl) rfl rfl ?_
                  refine lend ?_
                  exact kbackM ih12448 (w64 (s12417 + 1)) () (sub_cons rfl (sub_cons rfl (sub_cons rfl (sub_cons rfl (sub_cons rfl sub_nil))))) X12450
              · refine dexit ?_
                refine eseq ?_
                refine eloop ?_
                refine xblock ?_
                refine nseq ?_
                refine dseq ?_
                refine ddraw 1024 1024 0 (by kernel_rfl) ?_
                refine spure (v := .slice a12026 n12026 c12026) rfl (p_move rfl) (lo_t (lo_osl X12450 (j := 1) rfl O12026) rfl) rfl rfl ?_
                refine spure (v := .pointer (some ⟨b12346, 0, none⟩)) rfl (p_fa fo_50_0 rfl) (lo_t (lo_own X12450 (j := 0) (o := 0) (s := none) (f := 0) rfl) rfl) rfl rfl ?_
                refine sload (v := .int .i64 e12343.A) rfl rfl (q_load wd_3 rfl) (St.ld X12450 (j := 0) rfl rfl) (same_self 20 rfl) rfl ?_
                refine spure (v := .slice a12026 n12026 c12026) rfl (p_move rfl) (lo_t (lo_osl X12450 (j := 1) rfl O12026) rfl) rfl rfl ?_
                refine spure (v := .pointer (some ⟨b12346, 0, none⟩)) rfl (p_fa fo_50_0 rfl) (lo_t (lo_own X12450 (j := 0) (o := 0) (s := none) (f := 0) rfl) rfl) rfl rfl ?_
                refine sload (v := .int .i64 e12343.A) rfl rfl (q_load wd_3 rfl) (St.ld X12450 (j := 0) rfl rfl) (same_self 20 rfl) rfl ?_
                refine Sim.bindM fun e12461 he12462 => ?_
                obtain ⟨b12463, vs12463, m12463, off12463, cs12463, rfl, rfl, hp12463, hc12463, hR12463, hl12463, hm12463, hs12463⟩ := OSl.ia O12026 he12462 (kd := .i64) (n := 1) rfl
                have hR12463 : _ = [(.int .i64 e12461 : Value)] := hR12463
                subst hR12463
                refine spure (v := .pointer (some ⟨b12463, off12463, none⟩)) rfl (p_ia rs_28 rfl) (lo_t (lo_osl X12450 (j := 1) rfl O12026) (lo_t rfl rfl)) hp12463 rfl ?_
                refine sload (v := .int .i64 e12461) rfl rfl (q_load wd_3 rfl) (St.ld X12450 (j := 1) rfl (rdE1 hc12463 (k := 0) rfl rfl)) (same_self 20 rfl) rfl ?_
                refine spure (v := .int .i64 (w64 (e12461 + 1))) rfl (p_add rfl) (lo_t rfl (lo_c rfl)) rfl rfl ?_
                refine Sim.bindM fun e12464 he12465 => ?_
                obtain ⟨off12466, cs12466, hp12466, hc12466, hR12466, hl12466, hm12466, hs12466⟩ := OSl.iaC O12026 he12465 (kd := .i64) (n := 1) rfl
                have hR12466 : _ = [(.int .i64 e12464 : Value)] := hR12466
                subst hR12466
                refine spure (v := .pointer (some ⟨b12463, off12466, none⟩)) rfl (p_ia rs_28 rfl) (lo_t (lo_osl X12450 (j := 1) rfl O12026) (lo_t rfl rfl)) hp12466 rfl ?_
                have O12469 := hs12466 [.int .i64 (w64 (e12461 + 1))] ((w64 (e12461 + 1))) rfl
                refine sstore rfl rfl ts_3 rfl rfl (j := 1) rfl hm12466 rfl rfl (ble_iff.2 hl12466) rfl X12450 (fun h12467 X12468 => ?_)
                refine send ?_
                refine nseq ?_
                refine ddraw 1024 1024 0 (by kernel_rfl) ?_
                refine spure (v := .slice a12026 n12026 c12026) rfl (p_move rfl) (lo_t (lo_osl X12468 (j := 1) rfl O12469) rfl) rfl rfl ?_
                refine spure (v := .pointer (some ⟨b12346, 1, none⟩)) rfl (p_fa fo_50_1 rfl) (lo_t (lo_own X12468 (j := 0) (o := 0) (s := none) (f := 0) rfl) rfl) rfl rfl ?_
                refine sload (v := .int .i64 e12343.B) rfl rfl (q_load wd_3 rfl) (St.ld X12468 (j := 0) rfl rfl) (same_self 20 rfl) rfl ?_
                refine spure (v := .slice a12026 n12026 c12026) rfl (p_move rfl) (lo_t (lo_osl X12468 (j := 1) rfl O12469) rfl) rfl rfl ?_
                refine spure (v := .pointer (some ⟨b12346, 1, none⟩)) rfl (p_fa fo_50_1 rfl) (lo_t (lo_own X12468 (j := 0) (o := 0) (s := none) (f := 0) rfl) rfl) rfl rfl ?_
                refine sload (v := .int .i64 e12343.B) rfl rfl (q_load wd_3 rfl) (St.ld X12468 (j := 0) rfl rfl) (same_self 20 rfl) rfl ?_
                refine Sim.bindM fun e12470 he12471 => ?_
                obtain ⟨off12472, cs12472, hp12472, hc12472, hR12472, hl12472, hm12472, hs12472⟩ := OSl.iaC O12469 he12471 (kd := .i64) (n := 1) rfl
                have hR12472 : _ = [(.int .i64 e12470 : Value)] := hR12472
                subst hR12472
                refine spure (v := .pointer (some ⟨b12463, off12472, none⟩)) rfl (p_ia rs_28 rfl) (lo_t (lo_osl X12468 (j := 1) rfl O12469) (lo_t rfl rfl)) hp12472 rfl ?_
                refine sload (v := .int .i64 e12470) rfl rfl (q_load wd_3 rfl) (St.ld X12468 (j := 1) rfl (rdE1 hc12472 (k := 0) rfl rfl)) (same_self 20 rfl) rfl ?_
                refine spure (v := .int .i64 (w64 (e12470 + 1))) rfl (p_add rfl) (lo_t rfl (lo_c rfl)) rfl rfl ?_
                refine Sim.bindM fun e12473 he12474 => ?_
                obtain ⟨off12475, cs12475, hp12475, hc12475, hR12475, hl12475, hm12475, hs12475⟩ := OSl.iaC O12469 he12474 (kd := .i64) (n := 1) rfl
                have hR12475 : _ = [(.int .i64 e12473 : Value)] := hR12475
                subst hR12475
                refine spure (v := .pointer (some ⟨b12463, off12475, none⟩)) rfl (p_ia rs_28 rfl) (lo_t (lo_osl X12468 (j := 1) rfl O12469) (lo_t rfl rfl)) hp12475 rfl ?_
                have O12478 := hs12475 [.int .i64 (w64 (e12470 + 1))] ((w64 (e12470 + 1))) rfl
                refine sstore rfl rfl ts_3 rfl rfl (j := 1) rfl hm12475 rfl rfl (ble_iff.2 hl12475) rfl X12468 (fun h12476 X12477 => ?_)
                refine send ?_
                refine nblock ?_
                refine nseq ?_
                refine dreg ?_
                refine lpure (v := .int .i64 s12025.2) rfl (p_move rfl) rfl rfl ?_
                refine lpure (v := .int .i64 (w64 (s12025.2 + 1))) rfl (p_add rfl) rfl rfl ?_
                refine lpure (v := .int .i64 (w64 (s12025.2 + 1))) rfl (p_assign rfl) rfl rfl ?_
                refine lend ?_
                exact kbackM ih12338 (((s12025.1.set (e12343.A).toNat (w64 (e12461 + 1))).set (e12343.B).toNat (w64 (e12470 + 1))), (w64 (s12025.2 + 1))) (a12026, n12026, c12026, some b12463, (.cells (setAt (setAt vs12463 off12466 [.int .i64 (w64 (e12461 + 1))]) off12475 [.int .i64 (w64 (e12470 + 1))]) 3 m12463)) (sub_cons rfl (sub_cons rfl (sub_cons rfl sub_nil))) ⟨(St.pick X12477 (.skip _ (.keep _ (.keep _ (.nil _))))), O12478⟩
          · refine dexit ?_
            refine eseq ?_
            refine eloop ?_
            refine xblock ?_
            refine nseq ?_
            refine dseq ?_
            refine dreg ?_
            refine lread (v := .agg #[.int .i64 p8906.Nodes, .slice a8907 n8907 c8907, .slice a8908 n8908 c8908]) rfl (q_load wd_25 rfl) (St.ld X12340 (j := 1) rfl rfl) rfl ?_
            refine lcall rfl rfl ca_19 rfl rfl (f19_ok X12340 p8906 0 ([]) H8907 H8908 (.inl ⟨rfl, rfl⟩)) rfl ?_
            rintro e12479 _ h12481 ⟨φ12483, a12486, n12486, c12486, ob12486, blk12486, g12484, X12485, rfl, O12486⟩
            refine lpure (v := .slice a12486 n12486 c12486) rfl (p_assign rfl) rfl rfl ?_
            refine lend ?_
            refine nseq ?_
            refine dseq ?_
            refine dseq ?_
            refine dreg ?_
            refine lpure (v := .int .i64 0) rfl (p_assign rfl) rfl rfl ?_
            refine lend ?_
            refine nseq ?_
            refine dblock ?_
            refine dloopM (τ := (List Int) × (List Bool) × Int) (σ := Option Addr × Nat × Nat × Option Nat × Blk × Option Addr × Nat × Nat × Option Nat × Blk) (fun s12568 (a12569, n12569, c12569, ob12569, blk12569, a12570, n12570, c12570, ob12570, blk12570) => [(1, .pointer (some ⟨b8909, 0, none⟩)), (3, .slice a12569 n12569 c12569), (7, .slice a12570 n12570 c12570), (8, .int .i64 s12568.2.2)]) (fun s12568 (a12569, n12569, c12569, ob12569, blk12569, a12570, n12570, c12570, ob12570, blk12570) hh => St φ12483 h.n hh ([(ob12570, blk12570), (ob12569, blk12569), (some b8909, .cells [.int .i64 p8906.Nodes, .slice a8907 n8907 c8907, .slice a8908 n8908 c8908] 25 .exact)]) ∧ OSl (eInt .i64) φ12483 3 ob12569 blk12569 (.slice a12569 n12569 c12569) s12568.1 ∧ OSl eBool φ12483 4 ob12570 blk12570 (.slice a12570 n12570 c12570) s12568.2.1) (s12025.1, e12479, 0) (a12026, n12026, c12026, ob12026, blk12026, a12486, n12486, c12486, ob12486, blk12486) (sub_cons rfl (sub_cons rfl (sub_cons rfl (sub_cons rfl sub_nil)))) ⟨X12485, (O12026.mono g12484), O12486⟩ ?_
            rintro n12611 ih12610 s12568 ⟨a12569, n12569, c12569, ob12569, blk12569, a12570, n12570, c12570, ob12570, blk12570⟩ t0 h12613 ⟨X12612, O12569, O12570⟩
            refine dseq ?_
            refine dseq ?_
            refine dreg ?_
            refine lpure (v := .int .i64 s12568.2.2) rfl (p_move rfl) rfl rfl ?_
            refine lpure (v := .pointer (some ⟨b8909, 0, none⟩)) rfl (p_fa fo_25_0 rfl) rfl rfl ?_
            refine lread (v := .int .i64 p8906.Nodes) rfl (q_load wd_3 rfl) (St.ld X12612 (j := 2) rfl rfl) rfl ?_
            refine lpure (v := .bool (decide (s12568.2.2 < p8906.Nodes))) rfl (p_lt rfl) rfl rfl ?_
            refine lend ?_
            refine nseq ?_
            refine dcond rfl rfl (fun k12614 => ?_) (fun k12614 => ?_)
            · refine dskip ?_
              refine nseq ?_
              refine dseq ?_
              refine dblock ?_
              refine dseq ?_
              refine dreg ?_
              refine lpure (v := .slice a12570 n12570 c12570) rfl (p_move rfl) rfl rfl ?_
              refine lpure (v := .int .i64 s12568.2.2) rfl (p_move rfl) rfl rfl ?_
              refine Sim.bindM fun e12615 he12616 => ?_
              obtain ⟨b12617, vs12617, m12617, off12617, cs12617, rfl, rfl, hp12617, hc12617, hR12617, hl12617, hm12617, hs12617⟩ := OSl.ia O12570 he12616 (kd := .i64) (n := 1) rfl
              have hR12617 : _ = [(.bool e12615 : Value)] := hR12617
              subst hR12617
              refine lpure (v := .pointer (some ⟨b12617, off12617, none⟩)) rfl (p_ia rs_22 rfl) hp12617 rfl ?_
              refine lread (v := .bool e12615) rfl (q_load wd_4 rfl) (St.ld X12612 (j := 0) rfl (rdE1 hc12617 (k := 0) rfl rfl)) rfl ?_
              refine lpure (v := .bool (!e12615)) rfl (p_not rfl) rfl rfl ?_
              refine lpure (v := .bool (!e12615)) rfl (p_move rfl) rfl rfl ?_
              refine ljoinM (τ := (List Int) × Bool) (σ := Option Addr × Nat × Nat × Option Nat × Blk) (fun s12631 (a12632, n12632, c12632, ob12632, blk12632) => [(1, .pointer (some ⟨b8909, 0, none⟩)), (3, .slice a12632 n12632 c12632), (7, .slice a12570 n12570 c12570), (8, .int .i64 s12568.2.2), (118, .bool s12631.2)]) (fun s12631 (a12632, n12632, c12632, ob12632, blk12632) hh => St φ12483 h.n hh ([(some b12617, .cells vs12617 4 m12617), (ob12632, blk12632), (some b8909, .cells [.int .i64 p8906.Nodes, .slice a8907 n8907 c8907, .slice a8908 n8908 c8908] 25 .exact)]) ∧ OSl (eInt .i64) φ12483 3 ob12632 blk12632 (.slice a12632 n12632 c12632) s12631.1) 20 ?_ ?_
              · rintro s12631 ⟨a12632, n12632, c12632, ob12632, blk12632⟩ t0 h12634 ⟨X12633, O12632⟩
                refine lend ?_
                refine nseq ?_
                refine dcond rfl rfl (fun k12635 => ?_) (fun k12635 => ?_)
                · refine dseq ?_
                  refine dreg ?_
                  refine lpure (v := .bool false) rfl (p_assign rfl) rfl rfl ?_
                  refine lend ?_
                  refine nseq ?_
                  refine dret ?_
                  refine rblock ?_
                  refine rseq ?_
                  refine rloop ?_
                  refine rblock ?_
                  refine rseq ?_
                  exact kcut_r (res_1 resT) X12633 rfl rfl
                · refine dskip ?_
                  refine nblock ?_
                  refine nseq ?_
                  refine dreg ?_
                  refine lpure (v := .int .i64 s12568.2.2) rfl (p_move rfl) rfl rfl ?_
                  refine lpure (v := .int .i64 (w64 (s12568.2.2 + 1))) rfl (p_add rfl) rfl rfl ?_
                  refine lpure (v := .int .i64 (w64 (s12568.2.2 + 1))) rfl (p_assign rfl) rfl rfl ?_
                  refine lend ?_
                  exact kbackM ih12610 (s12631.1, s12568.2.1, (w64 (s12568.2.2 + 1))) (a12632, n12632, c12632, ob12632, blk12632, a12570, n12570, c12570, some b12617, .cells vs12617 4 m12617) (sub_cons rfl (sub_cons rfl (sub_cons rfl (sub_cons rfl sub_nil)))) ⟨X12633, O12632, O12570⟩
              · intro j12636 J12637
                refine lif (i := 98) (show _ = Value.bool (!e12615) from rfl) (fun k12638 => ?_) (fun k12638 => ?_)
                · refine lskip rfl rfl ?_
                  refine lskip rfl rfl ?_
                  refine lskip rfl rfl ?_
                  refine lskip rfl rfl ?_
                  refine lskip rfl rfl ?_
                  refine lskip rfl rfl ?_
                  refine lskip rfl rfl ?_
                  refine lskip rfl rfl ?_
                  refine lskip rfl rfl ?_
                  refine lskip rfl rfl ?_
                  refine lskip rfl rfl ?_
                  refine lskip rfl rfl ?_
                  refine lskip rfl rfl ?_
                  refine lskip rfl rfl ?_
                  refine lskip rfl rfl ?_
                  refine lskip rfl rfl ?_
                  refine lskip rfl rfl ?_
                  refine lskip rfl rfl ?_
                  refine lskip rfl rfl ?_
                  refine lpure (v := .bool true) rfl (p_pick rfl) rfl rfl ?_
                  exact ljmpM J12637 (s12568.1, true) (a12569, n12569, c12569, ob12569, blk12569) (sub_cons rfl (sub_cons rfl (sub_cons rfl (sub_cons rfl (sub_cons rfl sub_nil))))) ⟨X12612, O12569⟩
                · refine lpure (v := .pointer (some ⟨b8909, 1, none⟩)) rfl (p_fa fo_25_1 rfl) rfl rfl ?_
                  refine lread (v := .slice a8907 n8907 c8907) rfl (q_load wd_22 rfl) (St.ld X12612 (j := 2) rfl rfl) rfl ?_
                  refine lpure (v := .int .i64 s12568.2.2) rfl (p_move rfl) rfl rfl ?_
                  refine Sim.bindM fun e12639 he12640 => ?_
                  obtain ⟨p12641, cs12641, hp12641, hF12641, hR12641⟩ := RSl.ia (H8907.mono g12484) he12640 (kd := .i64) (n := 1) rfl
                  have hR12641 : _ = [(.bool e12639 : Value)] := hR12641
                  subst hR12641
                  refine lpure (v := p12641) rfl (p_ia rs_22 rfl) hp12641 rfl ?_
                  refine lread (v := .bool e12639) rfl (q_load wd_4 rfl) (FP.ld X12612 hF12641) rfl ?_
                  refine lpure (v := .bool e12639) rfl (p_move rfl) rfl rfl ?_
                  refine lif (i := 104) (show _ = Value.bool e12639 from rfl) (fun k12642 => ?_) (fun k12642 => ?_)
                  · refine lpure (v := .slice a12569 n12569 c12569) rfl (p_move rfl) rfl rfl ?_
                    refine lpure (v := .int .i64 s12568.2.2) rfl (p_move rfl) rfl rfl ?_
                    refine Sim.bindM fun e12643 he12644 => ?_
                    obtain ⟨b12645, vs12645, m12645, off12645, cs12645, rfl, rfl, hp12645, hc12645, hR12645, hl12645, hm12645, hs12645⟩ := OSl.ia O12569 he12644 (kd := .i64) (n := 1) rfl
                    have hR12645 : _ = [(.int .i64 e12643 : Value)] := hR12645
                    subst hR12645
                    refine lpure (v := .pointer (some ⟨b12645, off12645, none⟩)) rfl (p_ia rs_28 rfl) hp12645 rfl ?_
                    refine lread (v := .int .i64 e12643) rfl (q_load wd_3 rfl) (St.ld X12612 (j := 1) rfl (rdE1 hc12645 (k := 0) rfl rfl)) rfl ?_
                    refine lpure (v := .bool (decide (e12643 < 1))) rfl (p_lt rfl) rfl rfl ?_
                    refine lpure (v := .bool (decide (e12643 < 1))) rfl (p_move rfl) rfl rfl ?_
                    refine lif (i := 110) (show _ = Value.bool (decide (e12643 < 1)) from rfl) (fun k12646 => ?_) (fun k12646 => ?_)
                    · refine lskip rfl rfl ?_
                      refine lskip rfl rfl ?_
                      refine lskip rfl rfl ?_
                      refine lskip rfl rfl ?_
                      refine lskip rfl rfl ?_
                      refine lpure (v := .bool true) rfl (p_pick rfl) rfl rfl ?_
                      refine lpure (v := .bool true) rfl (p_pick rfl) rfl rfl ?_
                      refine lpure (v := .bool true) rfl (p_pick rfl) rfl rfl ?_
                      exact ljmpM J12637 (s12568.1, true) (a12569, n12569, c12569, some b12645, .cells vs12645 3 m12645) (sub_cons rfl (sub_cons rfl (sub_cons rfl (sub_cons rfl (sub_cons rfl sub_nil))))) ⟨X12612, O12569⟩
                    · refine lpure (v := .slice a12569 n12569 c12569) rfl (p_move rfl) rfl rfl ?_
                      refine lpure (v := .int .i64 s12568.2.2) rfl (p_move rfl) rfl rfl ?_
                      refine Sim.bindM fun e12647 he12648 => ?_
                      obtain ⟨off12649, cs12649, hp12649, hc12649, hR12649, hl12649, hm12649, hs12649⟩ := OSl.iaC O12569 he12648 (kd := .i64) (n := 1) rfl
                      have hR12649 : _ = [(.int .i64 e12647 : Value)] := hR12649
                      subst hR12649
                      refine lpure (v := .pointer (some ⟨b12645, off12649, none⟩)) rfl (p_ia rs_28 rfl) hp12649 rfl ?_
                      refine lread (v := .int .i64 e12647) rfl (q_load wd_3 rfl) (St.ld X12612 (j := 1) rfl (rdE1 hc12649 (k := 0) rfl rfl)) rfl ?_
                      refine lpure (v := .bool (decide (2 < e12647))) rfl (p_gt rfl) rfl rfl ?_
                      refine lpure (v := .bool (decide (2 < e12647))) rfl (p_pick rfl) rfl rfl ?_
                      refine lpure (v := .bool (decide (2 < e12647))) rfl (p_pick rfl) rfl rfl ?_
                      refine lpure (v := .bool (decide (2 < e12647))) rfl (p_pick rfl) rfl rfl ?_
                      exact ljmpM J12637 (s12568.1, (decide (2 < e12647))) (a12569, n12569, c12569, some b12645, .cells vs12645 3 m12645) (sub_cons rfl (sub_cons rfl (sub_cons rfl (sub_cons rfl (sub_cons rfl sub_nil))))) ⟨X12612, O12569⟩
                  · refine lskip rfl rfl ?_
                    refine lskip rfl rfl ?_
                    refine lskip rfl rfl ?_
                    refine lskip rfl rfl ?_
                    refine lskip rfl rfl ?_
                    refine lskip rfl rfl ?_
                    refine lskip rfl rfl ?_
                    refine lskip rfl rfl ?_
                    refine lskip rfl rfl ?_
                    refine lskip rfl rfl ?_
                    refine lskip rfl rfl ?_
                    refine lskip rfl rfl ?_
                    refine lpure (v := .bool false) rfl (p_pick rfl) rfl rfl ?_
                    refine lpure (v := .bool false) rfl (p_pick rfl) rfl rfl ?_
                    exact ljmpM J12637 (s12568.1, false) (a12569, n12569, c12569, ob12569, blk12569) (sub_cons rfl (sub_cons rfl (sub_cons rfl (sub_cons rfl (sub_cons rfl sub_nil))))) ⟨X12612, O12569⟩
            · refine dexit ?_
              refine eseq ?_
              refine eloop ?_
              refine xblock ?_
              refine nseq ?_
              refine dseq ?_
              refine dreg ?_
              refine lpure (v := .bool true) rfl (p_assign rfl) rfl rfl ?_
              refine lend ?_
              refine nseq ?_
              refine dret ?_
              exact kcut_r (res_1 resT) X12612 rfl rfl
      · intro j12650 J12651
        refine lcase (i := 25) (show _ = Value.bool s8918 from rfl) (fun k12652 => ?_) (fun k12652 => ?_)
        · refine lskip rfl rfl ?_
          refine lskip rfl rfl ?_
          refine lskip rfl rfl ?_
          refine lskip rfl rfl ?_
          refine lpure (v := .bool true) rfl (p_pick rfl) rfl rfl ?_
          refine Sim.of_eq (congrArg j12650 (show (s8918 || (decide (24 < (p8906.Links.length : Int)))) = true from by rw [k12652] <;> rfl)) ?_
          exact ljmpM J12651 true () (sub_cons rfl (sub_cons rfl sub_nil)) X8919
        · refine lpure (v := .pointer (some ⟨b8909, 2, none⟩)) rfl (p_fa fo_25_2 rfl) rfl rfl ?_
          refine lread (v := .slice a8908 n8908 c8908) rfl (q_load wd_23 rfl) (St.ld X8919 (j := 0) rfl rfl) rfl ?_
          refine lpure (v := .int .i64 (p8906.Links.length : Int)) rfl (p_len rfl rfl rfl un_23 rfl) (RSl.lenC H8908) rfl ?_
          refine lpure (v := .bool (decide (24 < (p8906.Links.length : Int)))) rfl (p_gt rfl) rfl rfl ?_
          refine lpure (v := .bool (decide (24 < (p8906.Links.length : Int)))) rfl (p_pick rfl) rfl rfl ?_
          refine Sim.of_eq (congrArg j12650 (show (s8918 || (decide (24 < (p8906.Links.length : Int)))) = (decide (24 < (p8906.Links.length : Int))) from by rw [k12652] <;> rfl)) ?_
          exact ljmpM J12651 (decide (24 < (p8906.Links.length : Int))) () (sub_cons rfl (sub_cons rfl sub_nil)) X8919
    · intro j12653 J12654
      refine lcase (i := 17) (show _ = Value.bool s8914 from rfl) (fun k12655 => ?_) (fun k12655 => ?_)
      · refine lskip rfl rfl ?_
        refine lskip rfl rfl ?_
        refine lskip rfl rfl ?_
        refine lskip rfl rfl ?_
        refine lskip rfl rfl ?_
        refine lskip rfl rfl ?_
        refine lpure (v := .bool true) rfl (p_pick rfl) rfl rfl ?_
        refine Sim.of_eq (congrArg j12653 (show (s8914 || (decide ((p8906.Station.length : Int) ≠ p8906.Nodes))) = true from by rw [k12655] <;> rfl)) ?_
        exact ljmpM J12654 true () (sub_cons rfl (sub_cons rfl sub_nil)) X8915
      · refine lpure (v := .pointer (some ⟨b8909, 1, none⟩)) rfl (p_fa fo_25_1 rfl) rfl rfl ?_
        refine lread (v := .slice a8907 n8907 c8907) rfl (q_load wd_22 rfl) (St.ld X8915 (j := 0) rfl rfl) rfl ?_
        refine lpure (v := .int .i64 (p8906.Station.length : Int)) rfl (p_len rfl rfl rfl un_22 rfl) (RSl.lenC H8907) rfl ?_
        refine lpure (v := .pointer (some ⟨b8909, 0, none⟩)) rfl (p_fa fo_25_0 rfl) rfl rfl ?_
        refine lread (v := .int .i64 p8906.Nodes) rfl (q_load wd_3 rfl) (St.ld X8915 (j := 0) rfl rfl) rfl ?_
        refine lpure (v := .bool (decide ((p8906.Station.length : Int) ≠ p8906.Nodes))) rfl (p_ne rfl) rfl rfl ?_
        refine lpure (v := .bool (decide ((p8906.Station.length : Int) ≠ p8906.Nodes))) rfl (p_pick rfl) rfl rfl ?_
        refine Sim.of_eq (congrArg j12653 (show (s8914 || (decide ((p8906.Station.length : Int) ≠ p8906.Nodes))) = (decide ((p8906.Station.length : Int) ≠ p8906.Nodes)) from by rw [k12655] <;> rfl)) ?_
        exact ljmpM J12654 (decide ((p8906.Station.length : Int) ≠ p8906.Nodes)) () (sub_cons rfl (sub_cons rfl sub_nil)) X8915
  · intro j12656 J12657
    refine lcase (i := 12) (show _ = Value.bool (decide (p8906.Nodes < 2)) from rfl) (fun k12658 => ?_) (fun k12658 => ?_)
    · refine lskip rfl rfl ?_
      refine lskip rfl rfl ?_
      refine lskip rfl rfl ?_
      refine lpure (v := .bool true) rfl (p_pick rfl) rfl rfl ?_
      refine Sim.of_eq (congrArg j12656 (show ((decide (p8906.Nodes < 2)) || (decide (12 < p8906.Nodes))) = true from by rw [k12658] <;> rfl)) ?_
      exact ljmpM J12657 true () (sub_cons rfl (sub_cons rfl sub_nil)) X8912
    · refine lpure (v := .pointer (some ⟨b8909, 0, none⟩)) rfl (p_fa fo_25_0 rfl) rfl rfl ?_
      refine lread (v := .int .i64 p8906.Nodes) rfl (q_load wd_3 rfl) (St.ld X8912 (j := 0) rfl rfl) rfl ?_
      refine lpure (v := .bool (decide (12 < p8906.Nodes))) rfl (p_gt rfl) rfl rfl ?_
      refine lpure (v := .bool (decide (12 < p8906.Nodes))) rfl (p_pick rfl) rfl rfl ?_
      refine Sim.of_eq (congrArg j12656 (show ((decide (p8906.Nodes < 2)) || (decide (12 < p8906.Nodes))) = (decide (12 < p8906.Nodes)) from by rw [k12658] <;> rfl)) ?_
      exact ljmpM J12657 (decide (12 < p8906.Nodes)) () (sub_cons rfl (sub_cons rfl sub_nil)) X8912
/-! isochron/isochronref16.Same -/
theorem f35_ok {n : Nat} {φ : Fz} {lo : Nat} {h : Heap} {own : OwnL} (X : St φ lo h own) (p12683 : ApiTopo) (p12686 : ApiTopo) {a12684 : Option Addr} {n12684 c12684 : Nat} {a12685 : Option Addr} {n12685 c12685 : Nat} {a12687 : Option Addr} {n12687 c12687 : Nat} {a12688 : Option Addr} {n12688 c12688 : Nat} (H12684 : RSl eBool φ (.slice a12684 n12684 c12684) p12683.Station) (H12685 : RSl eApiLink φ (.slice a12685 n12685 c12685) p12683.Links) (H12687 : RSl eBool φ (.slice a12687 n12687 c12687) p12686.Station) (H12688 : RSl eApiLink φ (.slice a12688 n12688 c12688) p12686.Links) : Sim ((recN Try.prog LL cutF (n + 1)).call 35 #[(.agg #[.int .i64 p12683.Nodes, .slice a12684 n12684 c12684, .slice a12685 n12685 c12685]), (.agg #[.int .i64 p12686.Nodes, .slice a12687 n12687 c12687, .slice a12688 n12688 c12688])] h) (m_isochronref16_Same p12683 p12686) (fun (d : Bool) p => p = (.bool d, h)) := by
  refine fcut Try.func35 rfl rfl rfl rfl X ?_
  intro h0 X0
  refine dseq ?_
  refine dreg ?_
  refine lbox rfl rfl rfl rfl rfl X0 (fun b12689 h12691 X12692 => ?_)
  refine lbox rfl rfl rfl rfl rfl X12692 (fun b12693 h12695 X12696 => ?_)
  refine lpure (v := .bool false) rfl (p_assign rfl) rfl rfl ?_
  refine lend ?_
  refine nseq ?_
  refine dseq ?_
  refine dseq ?_
  refine dreg ?_
  refine lpure (v := .pointer (some ⟨b12689, 0, none⟩)) rfl (p_fa fo_25_0 rfl) rfl rfl ?_
  refine lread (v := .int .i64 p12683.Nodes) rfl (q_load wd_3 rfl) (St.ld X12696 (j := 1) rfl rfl) rfl ?_
  refine lpure (v := .pointer (some ⟨b12693, 0, none⟩)) rfl (p_fa fo_25_0 rfl) rfl rfl ?_
  refine lread (v := .int .i64 p12686.Nodes) rfl (q_load wd_3 rfl) (St.ld X12696 (j := 0) rfl rfl) rfl ?_
  refine lpure (v := .bool (decide (p12683.Nodes ≠ p12686.Nodes))) rfl (p_ne rfl) rfl rfl ?_
  refine lpure (v := .bool (decide (p12683.Nodes ≠ p12686.Nodes))) rfl (p_move rfl) rfl rfl ?_
  refine lsh (τ := Bool) (σ := Unit) (fun s12698 (_ : Unit) => [(2, .pointer (some ⟨b12689, 0, none⟩)), (3, .pointer (some ⟨b12693, 0, none⟩)), (20, .bool s12698)]) (fun s12698 (_ : Unit) hh => St φ h.n hh ([(some b12693, .cells [.int .i64 p12686.Nodes, .slice a12687 n12687 c12687, .slice a12688 n12688 c12688] 25 .exact), (some b12689, .cells [.int .i64 p12683.Nodes, .slice a12684 n12684 c12684, .slice a12685 n12685 c12685] 25 .exact)])) 8 ?_ ?_
  · rintro s12698 _ t0 h12700 X12699
    refine lpure (v := .bool s12698) rfl (p_move rfl) rfl rfl ?_
    refine lsh (τ := Bool) (σ := Unit) (fun s12702 (_ : Unit) => [(2, .pointer (some ⟨b12689, 0, none⟩)), (3, .pointer (some ⟨b12693, 0, none⟩)), (29, .bool s12702)]) (fun s12702 (_ : Unit) hh => St φ h.n hh ([(some b12693, .cells [.int .i64 p12686.Nodes, .slice a12687 n12687 c12687, .slice a12688 n12688 c12688] 25 .exact), (some b12689, .cells [.int .i64 p12683.Nodes, .slice a12684 n12684 c12684, .slice a12685 n12685 c12685] 25 .exact)])) 8 ?_ ?_
    · rintro s12702 _ t0 h12704 X12703
      refine lend ?_
      refine nseq ?_
      refine dcond rfl rfl (fun k12705 => ?_) (fun k12705 => ?_)
      · refine dseq ?_
        refine dreg ?_
        refine lpure (v := .bool false) rfl (p_assign rfl) rfl rfl ?_
        refine lend ?_
        refine nseq ?_
        refine dret ?_
        refine rseq ?_
        exact kcut_r (res_1 resT) X12703 rfl rfl
      · refine dskip ?_
        refine nseq ?_
        refine dseq ?_
        refine dseq ?_
        refine dreg ?_
        refine lpure (v := .int .i64 0) rfl (p_assign rfl) rfl rfl ?_
        refine lend ?_
        refine nseq ?_
        refine dblock ?_
        refine dloopM (τ := Int) (σ := Unit) (fun s12820 (_ : Unit) => [(2, .pointer (some ⟨b12689, 0, none⟩)), (3, .pointer (some ⟨b12693, 0, none⟩)), (5, .int .i64 s12820)]) (fun s12820 (_ : Unit) hh => St φ h.n hh ([(some b12693, .cells [.int .i64 p12686.Nodes, .slice a12687 n12687 c12687, .slice a12688 n12688 c12688] 25 .exact), (some b12689, .cells [.int .i64 p12683.Nodes, .slice a12684 n12684 c12684, .slice a12685 n12685 c12685] 25 .exact)])) 0 () (sub_cons rfl (sub_cons rfl (sub_cons rfl sub_nil))) X12703 ?_
        rintro n12879 ih12878 s12820 _ t0 h12881 X12880
        refine dseq ?_
        refine dseq ?_
        refine dreg ?_
        refine lpure (v := .int .i64 s12820) rfl (p_move rfl) rfl rfl ?_
        refine lpure (v := .pointer (some ⟨b12689, 1, none⟩)) rfl (p_fa fo_25_1 rfl) rfl rfl ?_
        refine lread (v := .slice a12684 n12684 c12684) rfl (q_load wd_22 rfl) (St.ld X12880 (j := 1) rfl rfl) rfl ?_
        refine lpure (v := .int .i64 (p12683.Station.length : Int)) rfl (p_len rfl rfl rfl un_22 rfl) (RSl.lenC H12684) rfl ?_
        refine lpure (v := .bool (decide (s12820 < (p12683.Station.length : Int)))) rfl (p_lt rfl) rfl rfl ?_
        refine lend ?_
        refine nseq ?_
        refine dcond rfl rfl (fun k12882 => ?_) (fun k12882 => ?_)
        · refine dskip ?_
          refine nseq ?_
          refine dseq ?_
          refine dblock ?_
          refine dseq ?_
          refine ddraw 0 0 0 (by kernel_rfl) ?_
          refine spure (v := .pointer (some ⟨b12689, 1, none⟩)) rfl (p_fa fo_25_1 rfl) (lo_t (lo_own X12880 (j := 1) (o := 0) (s := none) (f := 0) rfl) rfl) rfl rfl ?_
          refine sload (v := .slice a12684 n12684 c12684) rfl rfl (q_load wd_22 rfl) (St.ld X12880 (j := 1) rfl rfl) (same_self 20 rfl) rfl ?_
          refine spure (v := .int .i64 s12820) rfl (p_move rfl) (lo_t rfl rfl) rfl rfl ?_
          refine Sim.bindM fun e12883 he12884 => ?_
          obtain ⟨p12885, cs12885, hp12885, hF12885, hR12885⟩ := RSl.ia H12684 he12884 (kd := .i64) (n := 1) rfl
          have hR12885 : _ = [(.bool e12883 : Value)] := hR12885
          subst hR12885
          refine spure (v := p12885) rfl (p_ia rs_22 rfl) (lo_t (lo_sl X12880 H12684) (lo_t rfl rfl)) hp12885 rfl ?_
          refine sload (v := .bool e12883) rfl rfl (q_load wd_4 rfl) (FP.ld X12880 hF12885) (same_self 20 rfl) rfl ?_
          refine spure (v := .pointer (some ⟨b12693, 1, none⟩)) rfl (p_fa fo_25_1 rfl) (lo_t (lo_own X12880 (j := 0) (o := 0) (s := none) (f := 0) rfl) rfl) rfl rfl ?_
          refine sload (v := .slice a12687 n12687 c12687) rfl rfl (q_load wd_22 rfl) (St.ld X12880 (j := 0) rfl rfl) (same_self 20 rfl) rfl ?_
          refine spure (v := .int .i64 s12820) rfl (p_move rfl) (lo_t rfl rfl) rfl rfl ?_
          refine Sim.bindM fun e12886 he12887 => ?_
          obtain ⟨p12888, cs12888, hp12888, hF12888, hR12888⟩ := RSl.ia H12687 he12887 (kd := .i64) (n := 1) rfl
          have hR12888 : _ = [(.bool e12886 : Value)] := hR12888
          subst hR12888
          refine spure (v := p12888) rfl (p_ia rs_22 rfl) (lo_t (lo_sl X12880 H12687) (lo_t rfl rfl)) hp12888 rfl ?_
          refine sload (v := .bool e12886) rfl rfl (q_load wd_4 rfl) (FP.ld X12880 hF12888) (same_self 20 rfl) rfl ?_
          refine spure (v := .bool (!(e12883 == e12886))) rfl (p_bin rfl) (lo_t rfl (lo_t rfl rfl)) (bin_neB un_4) rfl ?_
          refine send ?_
          refine nseq ?_
          refine dcond rfl rfl (fun k12889 => ?_) (fun k12889 => ?_)
          · refine dseq ?_
            refine dreg ?_
            refine lpure (v := .bool false) rfl (p_assign rfl) rfl rfl ?_
            refine lend ?_
            refine nseq ?_
            refine dret ?_
            refine rblock ?_
            refine rseq ?_
            refine rloop ?_
            refine rblock ?_
            refine rseq ?_
            exact kcut_r (res_1 resT) X12880 rfl rfl
          · refine dskip ?_
            refine nblock ?_
            refine nseq ?_
            refine dreg ?_
            refine lpure (v := .int .i64 s12820) rfl (p_move rfl) rfl rfl ?_
            refine lpure (v := .int .i64 (w64 (s12820 + 1))) rfl (p_add rfl) rfl rfl ?_
            refine lpure (v := .int .i64 (w64 (s12820 + 1))) rfl (p_assign rfl) rfl rfl ?_
            refine lend ?_
            exact kbackM ih12878 (w64 (s12820 + 1)) () (sub_cons rfl (sub_cons rfl (sub_cons rfl sub_nil))) X12880
        · refine dexit ?_
          refine eseq ?_
          refine eloop ?_
          refine xblock ?_
          refine nseq ?_
          refine dseq ?_
          refine dseq ?_
          refine dreg ?_
          refine lpure (v := .int .i64 0) rfl (p_assign rfl) rfl rfl ?_
          refine lend ?_
          refine nseq ?_
          refine dblock ?_
          refine dloopM (τ := Int) (σ := Unit) (fun s12912 (_ : Unit) => [(2, .pointer (some ⟨b12689, 0, none⟩)), (3, .pointer (some ⟨b12693, 0, none⟩)), (6, .int .i64 s12912)]) (fun s12912 (_ : Unit) hh => St φ h.n hh ([(some b12693, .cells [.int .i64 p12686.Nodes, .slice a12687 n12687 c12687, .slice a12688 n12688 c12688] 25 .exact), (some b12689, .cells [.int .i64 p12683.Nodes, .slice a12684 n12684 c12684, .slice a12685 n12685 c12685] 25 .exact)])) 0 () (sub_cons rfl (sub_cons rfl (sub_cons rfl sub_nil))) X12880 ?_
          rintro n12925 ih12924 s12912 _ t0 h12927 X12926
          refine dseq ?_
          refine dseq ?_
          refine dreg ?_
          refine lpure (v := .int .i64 s12912) rfl (p_move rfl) rfl rfl ?_
          refine lpure (v := .pointer (some ⟨b12689, 2, none⟩)) rfl (p_fa fo_25_2 rfl) rfl rfl ?_
          refine lread (v := .slice a12685 n12685 c12685) rfl (q_load wd_23 rfl) (St.ld X12926 (j := 1) rfl rfl) rfl ?_
          refine lpure (v := .int .i64 (p12683.Links.length : Int)) rfl (p_len rfl rfl rfl un_23 rfl) (RSl.lenC H12685) rfl ?_
          refine lpure (v := .bool (decide (s12912 < (p12683.Links.length : Int)))) rfl (p_lt rfl) rfl rfl ?_
          refine lend ?_
          refine nseq ?_
          refine dcond rfl rfl (fun k12928 => ?_) (fun k12928 => ?_)
          · refine dskip ?_
            refine nseq ?_
            refine dseq ?_
            refine dblock ?_
            refine dseq ?_
            refine ddraw 0 0 0 (by kernel_rfl) ?_
            refine spure (v := .pointer (some ⟨b12689, 2, none⟩)) rfl (p_fa fo_25_2 rfl) (lo_t (lo_own X12926 (j := 1) (o := 0) (s := none) (f := 0) rfl) rfl) rfl rfl ?_
            refine sload (v := .slice a12685 n12685 c12685) rfl rfl (q_load wd_23 rfl) (St.ld X12926 (j := 1) rfl rfl) (same_self 20 rfl) rfl ?_
            refine spure (v := .int .i64 s12912) rfl (p_move rfl) (lo_t rfl rfl) rfl rfl ?_
            refine Sim.bindM fun e12929 he12930 => ?_
            obtain ⟨p12931, cs12931, hp12931, hF12931, hR12931⟩ := RSl.ia H12685 he12930 (kd := .i64) (n := 4) rfl
            obtain rfl := eApiLink_el hR12931
            refine spure (v := p12931) rfl (p_ia rs_23 rfl) (lo_t (lo_sl X12926 H12685) (lo_t rfl rfl)) hp12931 rfl ?_
            refine sload (v := .agg #[.int .i64 e12929.A, .int .i64 e12929.B, .int .i64 e12929.Per, .int .i64 e12929.Delay]) rfl rfl (q_load wd_50 rfl) (FP.ldw X12926 hF12931 rfl rfl) (same_self 20 rfl) rfl ?_
            refine spure (v := .pointer (some ⟨b12693, 2, none⟩)) rfl (p_fa fo_25_2 rfl) (lo_t (lo_own X12926 (j := 0) (o := 0) (s := none) (f := 0) rfl) rfl) rfl rfl ?_
            refine sload (v := .slice a12688 n12688 c12688) rfl rfl (q_load wd_23 rfl) (St.ld X12926 (j := 0) rfl rfl) (same_self 20 rfl) rfl ?_
            refine spure (v := .int .i64 s12912) rfl (p_move rfl) (lo_t rfl rfl) rfl rfl ?_
            refine Sim.bindM fun e12932 he12933 => ?_
            obtain ⟨p12934, cs12934, hp12934, hF12934, hR12934⟩ := RSl.ia H12688 he12933 (kd := .i64) (n := 4) rfl
            obtain rfl := eApiLink_el hR12934
            refine spure (v := p12934) rfl (p_ia rs_23 rfl) (lo_t (lo_sl X12926 H12688) (lo_t rfl rfl)) hp12934 rfl ?_
            refine sload (v := .agg #[.int .i64 e12932.A, .int .i64 e12932.B, .int .i64 e12932.Per, .int .i64 e12932.Delay]) rfl rfl (q_load wd_50 rfl) (FP.ldw X12926 hF12934 rfl rfl) (same_self 20 rfl) rfl ?_
            refine spure (v := .bool (!((e12929.A == e12932.A) && ((e12929.B == e12932.B) && ((e12929.Per == e12932.Per) && ((e12929.Delay == e12932.Delay) && true)))))) rfl (p_bin rfl) (lo_t (lo_agg (all_cons rfl (all_cons rfl (all_cons rfl (all_cons rfl all_nil))))) (lo_t (lo_agg (all_cons rfl (all_cons rfl (all_cons rfl (all_cons rfl all_nil))))) rfl)) (bin_flat (op := .neq) (xs := [.int .i64 e12929.A, .int .i64 e12929.B, .int .i64 e12929.Per, .int .i64 e12929.Delay]) (ys := [.int .i64 e12932.A, .int .i64 e12932.B, .int .i64 e12932.Per, .int .i64 e12932.Delay]) fl_50 rfl rfl rfl (.inr rfl)) rfl ?_
            refine send ?_
            refine nseq ?_
            refine dcond rfl rfl (fun k12935 => ?_) (fun k12935 => ?_)
            · refine dseq ?_
              refine dreg ?_
              refine lpure (v := .bool false) rfl (p_assign rfl) rfl rfl ?_
              refine lend ?_
              refine nseq ?_
              refine dret ?_
              refine rblock ?_
              refine rseq ?_
              refine rloop ?_
              refine rblock ?_
              refine rseq ?_
              exact kcut_r (res_1 resT) X12926 rfl rfl
            · refine dskip ?_
              refine nblock ?_
              refine nseq ?_
              refine dreg ?_
              refine lpure (v := .int .i64 s12912) rfl (p_move rfl) rfl rfl ?_
              refine lpure (v := .int .i64 (w64 (s12912 + 1))) rfl (p_add rfl) rfl rfl ?_
              refine lpure (v := .int .i64 (w64 (s12912 + 1))) rfl (p_assign rfl) rfl rfl ?_
              refine lend ?_
              exact kbackM ih12924 (w64 (s12912 + 1)) () (sub_cons rfl (sub_cons rfl (sub_cons rfl sub_nil))) X12926
          · refine dexit ?_
            refine eseq ?_
            refine eloop ?_
            refine xblock ?_
            refine nseq ?_
            refine dseq ?_
            refine dreg ?_
            refine lpure (v := .bool true) rfl (p_assign rfl) rfl rfl ?_
            refine lend ?_
            refine nseq ?_
            refine dret ?_
            exact kcut_r (res_1 resT) X12926 rfl rfl
    · intro j12936 J12937
      refine lcase (i := 21) (show _ = Value.bool s12698 from rfl) (fun k12938 => ?_) (fun k12938 => ?_)
      · refine lskip rfl rfl ?_
        refine lskip rfl rfl ?_
        refine lskip rfl rfl ?_
        refine lskip rfl rfl ?_
        refine lskip rfl rfl ?_
        refine lskip rfl rfl ?_
        refine lskip rfl rfl ?_
        refine lpure (v := .bool true) rfl (p_pick rfl) rfl rfl ?_
        refine Sim.of_eq (congrArg j12936 (show (s12698 || (decide ((p12683.Links.length : Int) ≠ (p12686.Links.length : Int)))) = true from by rw [k12938] <;> rfl)) ?_
        exact ljmpM J12937 true () (sub_cons rfl (sub_cons rfl (sub_cons rfl sub_nil))) X12699
      · refine lpure (v := .pointer (some ⟨b12689, 2, none⟩)) rfl (p_fa fo_25_2 rfl) rfl rfl ?_
        refine lread (v := .slice a12685 n12685 c12685) rfl (q_load wd_23 rfl) (St.ld X12699 (j := 1) rfl rfl) rfl ?_
        refine lpure (v := .int .i64 (p12683.Links.length : Int)) rfl (p_len rfl rfl rfl un_23 rfl) (RSl.lenC H12685) rfl ?_
        refine lpure (v := .pointer (some ⟨b12693, 2, none⟩)) rfl (p_fa fo_25_2 rfl) rfl rfl ?_
        refine lread (v := .slice a12688 n12688 c12688) rfl (q_load wd_23 rfl) (St.ld X12699 (j := 0) rfl rfl) rfl ?_
        refine lpure (v := .int .i64 (p12686.Links.length : Int)) rfl (p_len rfl rfl rfl un_23 rfl) (RSl.lenC H12688) rfl ?_
        refine lpure (v := .bool (decide ((p12683.Links.length : Int) ≠ (p12686.Links.length : Int)))) rfl (p_ne rfl) rfl rfl ?_
        refine lpure (v := .bool (decide ((p12683.Links.length : Int) ≠ (p12686.Links.length : Int)))) rfl (p_pick rfl) rfl rfl ?_
        refine Sim.of_eq (congrArg j12936 (show (s12698 || (decide ((p12683.Links.length : Int) ≠ (p12686.Links.length : Int)))) = (decide ((p12683.Links.length : Int) ≠ (p12686.Links.length : Int))) from by rw [k12938] <;> rfl)) ?_
        exact ljmpM J12937 (decide ((p12683.Links.length : Int) ≠ (p12686.Links.length : Int))) () (sub_cons rfl (sub_cons rfl (sub_cons rfl sub_nil))) X12699
  · intro j12939 J12940
    refine lcase (i := 12) (show _ = Value.bool (decide (p12683.Nodes ≠ p12686.Nodes)) from rfl) (fun k12941 => ?_) (fun k12941 => ?_)
    · refine lskip rfl rfl ?_
      refine lskip rfl rfl ?_
      refine lskip rfl rfl ?_
      refine lskip rfl rfl ?_
      refine lskip rfl rfl ?_
      refine lskip rfl rfl ?_
      refine lskip rfl rfl ?_
      refine lpure (v := .bool true) rfl (p_pick rfl) rfl rfl ?_
      refine Sim.of_eq (congrArg j12939 (show ((decide (p12683.Nodes ≠ p12686.Nodes)) || (decide ((p12683.Station.length : Int) ≠ (p12686.Station.length : Int)))) = true from by rw [k12941] <;> rfl)) ?_
      exact ljmpM J12940 true () (sub_cons rfl (sub_cons rfl (sub_cons rfl sub_nil))) X12696
    · refine lpure (v := .pointer (some ⟨b12689, 1, none⟩)) rfl (p_fa fo_25_1 rfl) rfl rfl ?_
      refine lread (v := .slice a12684 n12684 c12684) rfl (q_load wd_22 rfl) (St.ld X12696 (j := 1) rfl rfl) rfl ?_
      refine lpure (v := .int .i64 (p12683.Station.length : Int)) rfl (p_len rfl rfl rfl un_22 rfl) (RSl.lenC H12684) rfl ?_
      refine lpure (v := .pointer (some ⟨b12693, 1, none⟩)) rfl (p_fa fo_25_1 rfl) rfl rfl ?_
      refine lread (v := .slice a12687 n12687 c12687) rfl (q_load wd_22 rfl) (St.ld X12696 (j := 0) rfl rfl) rfl ?_
      refine lpure (v := .int .i64 (p12686.Station.length : Int)) rfl (p_len rfl rfl rfl un_22 rfl) (RSl.lenC H12687) rfl ?_
      refine lpure (v := .bool (decide ((p12683.Station.length : Int) ≠ (p12686.Station.length : Int)))) rfl (p_ne rfl) rfl rfl ?_
      refine lpure (v := .bool (decide ((p12683.Station.length : Int) ≠ (p12686.Station.length : Int)))) rfl (p_pick rfl) rfl rfl ?_
      refine Sim.of_eq (congrArg j12939 (show ((decide (p12683.Nodes ≠ p12686.Nodes)) || (decide ((p12683.Station.length : Int) ≠ (p12686.Station.length : Int)))) = (decide ((p12683.Station.length : Int) ≠ (p12686.Station.length : Int))) from by rw [k12941] <;> rfl)) ?_
      exact ljmpM J12940 (decide ((p12683.Station.length : Int) ≠ (p12686.Station.length : Int))) () (sub_cons rfl (sub_cons rfl (sub_cons rfl sub_nil))) X12696
/-! slices.Equal[[]isochron/api.Link,isochron/api.Link] -/
theorem f59_ok {n : Nat} {φ : Fz} {lo : Nat} {h : Heap} {own : OwnL} (X : St φ lo h own) (p12991 : (List ApiLink)) (p12993 : (List ApiLink)) {a12992 : Option Addr} {n12992 c12992 : Nat} {a12994 : Option Addr} {n12994 c12994 : Nat} (H12992 : RSl eApiLink φ (.slice a12992 n12992 c12992) p12991) (H12994 : RSl eApiLink φ (.slice a12994 n12994 c12994) p12993) : Sim ((recN Try.prog LL cutF (n + 1)).call 59 #[(.slice a12992 n12992 c12992), (.slice a12994 n12994 c12994)] h) (m_slices_Equal_api_Link_api_Link p12991 p12993) (fun (d : Bool) p => p = (.bool d, h)) := by
  refine fcut Try.func59 rfl rfl rfl rfl X ?_
  intro h0 X0
  refine dseq ?_
  refine dreg ?_
  refine lpure (v := .bool false) rfl (p_assign rfl) rfl rfl ?_
  refine lend ?_
  refine nseq ?_
  refine dseq ?_
  refine dseq ?_
  refine dreg ?_
  refine lpure (v := .slice a12992 n12992 c12992) rfl (p_move rfl) rfl rfl ?_
  refine lpure (v := .int .i64 (p12991.length : Int)) rfl (p_len rfl rfl rfl un_23 rfl) (RSl.lenC H12992) rfl ?_
  refine lpure (v := .slice a12994 n12994 c12994) rfl (p_move rfl) rfl rfl ?_
  refine lpure (v := .int .i64 (p12993.length : Int)) rfl (p_len rfl rfl rfl un_23 rfl) (RSl.lenC H12994) rfl ?_
  refine lpure (v := .bool (decide ((p12991.length : Int) ≠ (p12993.length : Int)))) rfl (p_ne rfl) rfl rfl ?_
  refine lend ?_
  refine nseq ?_
  refine dcond rfl rfl (fun k12995 => ?_) (fun k12995 => ?_)
  · refine dseq ?_
    refine dreg ?_
    refine lpure (v := .bool false) rfl (p_assign rfl) rfl rfl ?_
    refine lend ?_
    refine nseq ?_
    refine dret ?_
    refine rseq ?_
    exact kcut_r (res_1 resT) X0 rfl rfl
  · refine dskip ?_
    refine nseq ?_
    refine dseq ?_
    refine dseq ?_
    refine dreg ?_
    refine lpure (v := .slice a12992 n12992 c12992) rfl (p_move rfl) rfl rfl ?_
    refine lpure (v := .int .i64 (p12991.length : Int)) rfl (p_len rfl rfl rfl un_23 rfl) (RSl.lenC H12992) rfl ?_
    refine lpure (v := .int .i64 0) rfl (p_move rfl) rfl rfl ?_
    refine lend ?_
    refine nseq ?_
    refine dblock ?_
    refine dloopM (τ := Int) (σ := Unit) (fun s13018 (_ : Unit) => [(0, .slice a12992 n12992 c12992), (1, .slice a12994 n12994 c12994), (12, .int .i64 (p12991.length : Int)), (13, .int .i64 s13018)]) (fun s13018 (_ : Unit) hh => St φ h.n hh ([])) 0 () (sub_cons rfl (sub_cons rfl (sub_cons rfl (sub_cons rfl sub_nil)))) X0 ?_
    rintro n13031 ih13030 s13018 _ t0 h13033 X13032
    refine dseq ?_
    refine dreg ?_
    refine lpure (v := .bool (decide (s13018 < (p12991.length : Int)))) rfl (p_lt rfl) rfl rfl ?_
    refine lend ?_
    refine nseq ?_
    refine dseq ?_
    refine dcond rfl rfl (fun k13034 => ?_) (fun k13034 => ?_)
    · refine dskip ?_
      refine nseq ?_
      refine dseq ?_
      refine dblock ?_
      refine dseq ?_
      refine dreg ?_
      refine lpure (v := .int .i64 s13018) rfl (p_move rfl) rfl rfl ?_
      refine lpure (v := .int .i64 s13018) rfl (p_assign rfl) rfl rfl ?_
      refine lend ?_
      refine nseq ?_
      refine dseq ?_
      refine ddraw 0 0 0 (by kernel_rfl) ?_
      refine spure (v := .slice a12992 n12992 c12992) rfl (p_move rfl) (lo_t (lo_sl X13032 H12992) rfl) rfl rfl ?_
      refine spure (v := .int .i64 s13018) rfl (p_move rfl) (lo_t rfl rfl) rfl rfl ?_
      refine Sim.bindM fun e13035 he13036 => ?_
      obtain ⟨p13037, cs13037, hp13037, hF13037, hR13037⟩ := RSl.ia H12992 he13036 (kd := .i64) (n := 4) rfl
      obtain rfl := eApiLink_el hR13037
      refine spure (v := p13037) rfl (p_ia rs_23 rfl) (lo_t (lo_sl X13032 H12992) (lo_t rfl rfl)) hp13037 rfl ?_
      refine sload (v := .agg #[.int .i64 e13035.A, .int .i64 e13035.B, .int .i64 e13035.Per, .int .i64 e13035.Delay]) rfl rfl (q_load wd_50 rfl) (FP.ldw X13032 hF13037 rfl rfl) (same_self 20 rfl) rfl ?_
      refine spure (v := .slice a12994 n12994 c12994) rfl (p_move rfl) (lo_t (lo_sl X13032 H12994) rfl) rfl rfl ?_
      refine spure (v := .int .i64 s13018) rfl (p_move rfl) (lo_t rfl rfl) rfl rfl ?_
      refine Sim.bindM fun e13038 he13039 => ?_
      obtain ⟨p13040, cs13040, hp13040, hF13040, hR13040⟩ := RSl.ia H12994 he13039 (kd := .i64) (n := 4) rfl
      obtain rfl := eApiLink_el hR13040
      refine spure (v := p13040) rfl (p_ia rs_23 rfl) (lo_t (lo_sl X13032 H12994) (lo_t rfl rfl)) hp13040 rfl ?_
      refine sload (v := .agg #[.int .i64 e13038.A, .int .i64 e13038.B, .int .i64 e13038.Per, .int .i64 e13038.Delay]) rfl rfl (q_load wd_50 rfl) (FP.ldw X13032 hF13040 rfl rfl) (same_self 20 rfl) rfl ?_
      refine spure (v := .bool (!((e13035.A == e13038.A) && ((e13035.B == e13038.B) && ((e13035.Per == e13038.Per) && ((e13035.Delay == e13038.Delay) && true)))))) rfl (p_bin rfl) (lo_t (lo_agg (all_cons rfl (all_cons rfl (all_cons rfl (all_cons rfl all_nil))))) (lo_t (lo_agg (all_cons rfl (all_cons rfl (all_cons rfl (all_cons rfl all_nil))))) rfl)) (bin_flat (op := .neq) (xs := [.int .i64 e13035.A, .int .i64 e13035.B, .int .i64 e13035.Per, .int .i64 e13035.Delay]) (ys := [.int .i64 e13038.A, .int .i64 e13038.B, .int .i64 e13038.Per, .int .i64 e13038.Delay]) fl_50 rfl rfl rfl (.inr rfl)) rfl ?_
      refine send ?_
      refine nseq ?_
      refine dcond rfl rfl (fun k13041 => ?_) (fun k13041 => ?_)
      · refine dseq ?_
        refine dreg ?_
        refine lpure (v := .bool false) rfl (p_assign rfl) rfl rfl ?_
        refine lend ?_
        refine nseq ?_
        refine dret ?_
        refine rblock ?_
        refine rseq ?_
        refine rloop ?_
        refine rblock ?_
        refine rseq ?_
        exact kcut_r (res_1 resT) X13032 rfl rfl
      · refine dskip ?_
        refine nblock ?_
        refine nseq ?_
        refine dreg ?_
        refine lpure (v := .int .i64 (w64 (s13018 + 1))) rfl (p_add rfl) rfl rfl ?_
        refine lpure (v := .int .i64 (w64 (s13018 + 1))) rfl (p_move rfl) rfl rfl ?_
        refine lend ?_
        exact kbackM ih13030 (w64 (s13018 + 1)) () (sub_cons rfl (sub_cons rfl (sub_cons rfl (sub_cons rfl sub_nil)))) X13032
    · refine dexit ?_
      refine eseq ?_
      refine eloop ?_
      refine xblock ?_
      refine nseq ?_
      refine dseq ?_
      refine dreg ?_
      refine lpure (v := .bool true) rfl (p_assign rfl) rfl rfl ?_
      refine lend ?_
      refine nseq ?_
      refine dret ?_
      exact kcut_r (res_1 resT) X13032 rfl rfl
/-! isochron/topo.Same -/
theorem f36_ok {n : Nat} {φ : Fz} {lo : Nat} {h : Heap} {own : OwnL} (X : St φ lo h own) (p12949 : ApiTopo) (p12952 : ApiTopo) {a12950 : Option Addr} {n12950 c12950 : Nat} {a12951 : Option Addr} {n12951 c12951 : Nat} {a12953 : Option Addr} {n12953 c12953 : Nat} {a12954 : Option Addr} {n12954 c12954 : Nat} (H12950 : RSl eBool φ (.slice a12950 n12950 c12950) p12949.Station) (H12951 : RSl eApiLink φ (.slice a12951 n12951 c12951) p12949.Links) (H12953 : RSl eBool φ (.slice a12953 n12953 c12953) p12952.Station) (H12954 : RSl eApiLink φ (.slice a12954 n12954 c12954) p12952.Links) : Sim ((recN Try.prog LL cutF (n + 7)).call 36 #[(.agg #[.int .i64 p12949.Nodes, .slice a12950 n12950 c12950, .slice a12951 n12951 c12951]), (.agg #[.int .i64 p12952.Nodes, .slice a12953 n12953 c12953, .slice a12954 n12954 c12954])] h) (m_topo_Same p12949 p12952) (fun (d : Bool) p => p = (.bool d, h)) := by
  refine fcut Try.func36 rfl rfl rfl rfl X ?_
  intro h0 X0
  refine dseq ?_
  refine dreg ?_
  refine lbox rfl rfl rfl rfl rfl X0 (fun b12955 h12957 X12958 => ?_)
  refine lbox rfl rfl rfl rfl rfl X12958 (fun b12959 h12961 X12962 => ?_)
  refine lpure (v := .bool false) rfl (p_assign rfl) rfl rfl ?_
  refine lend ?_
  refine nseq ?_
  refine dseq ?_
  refine dreg ?_
  refine lread (v := .agg #[.int .i64 p12949.Nodes, .slice a12950 n12950 c12950, .slice a12951 n12951 c12951]) rfl (q_load wd_25 rfl) (St.ld X12962 (j := 1) rfl rfl) rfl ?_
  refine lcall rfl rfl ca_34 rfl rfl (f34_ok X12962 p12949 H12950 H12951) rfl (fun e12963 v12964 h12965 hq12966 => ?_)
  cases hq12966
  refine lpure (v := .bool (decide (e12963 = 0))) rfl (p_eq rfl) rfl rfl ?_
  refine lpure (v := .bool (decide (e12963 = 0))) rfl (p_move rfl) rfl rfl ?_
  refine ljoinM (τ := Bool) (σ := Unit) (fun s12973 (_ : Unit) => [(2, .pointer (some ⟨b12955, 0, none⟩)), (3, .pointer (some ⟨b12959, 0, none⟩)), (12, .bool s12973)]) (fun s12973 (_ : Unit) hh => St φ h.n hh ([(some b12959, .cells [.int .i64 p12952.Nodes, .slice a12953 n12953 c12953, .slice a12954 n12954 c12954] 25 .exact), (some b12955, .cells [.int .i64 p12949.Nodes, .slice a12950 n12950 c12950, .slice a12951 n12951 c12951] 25 .exact)])) 4 ?_ ?_
  · rintro s12973 _ t0 h12975 X12974
    refine lpure (v := .bool s12973) rfl (p_move rfl) rfl rfl ?_
    refine lsh (τ := Bool) (σ := Unit) (fun s12977 (_ : Unit) => [(2, .pointer (some ⟨b12955, 0, none⟩)), (3, .pointer (some ⟨b12959, 0, none⟩)), (19, .bool s12977)]) (fun s12977 (_ : Unit) hh => St φ h.n hh ([(some b12959, .cells [.int .i64 p12952.Nodes, .slice a12953 n12953 c12953, .slice a12954 n12954 c12954] 25 .exact), (some b12955, .cells [.int .i64 p12949.Nodes, .slice a12950 n12950 c12950, .slice a12951 n12951 c12951] 25 .exact)])) 6 ?_ ?_
    · rintro s12977 _ t0 h12979 X12978
      refine lpure (v := .bool s12977) rfl (p_move rfl) rfl rfl ?_
      refine ljoinM (τ := Bool) (σ := Unit) (fun s12986 (_ : Unit) => [(2, .pointer (some ⟨b12955, 0, none⟩)), (3, .pointer (some ⟨b12959, 0, none⟩)), (26, .bool s12986)]) (fun s12986 (_ : Unit) hh => St φ h.n hh ([(some b12959, .cells [.int .i64 p12952.Nodes, .slice a12953 n12953 c12953, .slice a12954 n12954 c12954] 25 .exact), (some b12955, .cells [.int .i64 p12949.Nodes, .slice a12950 n12950 c12950, .slice a12951 n12951 c12951] 25 .exact)])) 6 ?_ ?_
      · rintro s12986 _ t0 h12988 X12987
        refine lpure (v := .bool s12986) rfl (p_move rfl) rfl rfl ?_
        refine ljoinM (τ := Bool) (σ := Unit) (fun s13046 (_ : Unit) => [(33, .bool s13046)]) (fun s13046 (_ : Unit) hh => St φ h.n hh ([(some b12959, .cells [.int .i64 p12952.Nodes, .slice a12953 n12953 c12953, .slice a12954 n12954 c12954] 25 .exact), (some b12955, .cells [.int .i64 p12949.Nodes, .slice a12950 n12950 c12950, .slice a12951 n12951 c12951] 25 .exact)])) 6 ?_ ?_
        · rintro s13046 _ t0 h13048 X13047
          refine lpure (v := .bool s13046) rfl (p_assign rfl) rfl rfl ?_
          refine lend ?_
          refine nseq ?_
          refine dret ?_
          exact kcut_r (res_1 resT) X13047 rfl rfl
        · intro j13049 J13050
          refine lif (i := 27) (show _ = Value.bool s12986 from rfl) (fun k13051 => ?_) (fun k13051 => ?_)
          · refine lpure (v := .pointer (some ⟨b12955, 2, none⟩)) rfl (p_fa fo_25_2 rfl) rfl rfl ?_
            refine lread (v := .slice a12951 n12951 c12951) rfl (q_load wd_23 rfl) (St.ld X12987 (j := 1) rfl rfl) rfl ?_
            refine lpure (v := .pointer (some ⟨b12959, 2, none⟩)) rfl (p_fa fo_25_2 rfl) rfl rfl ?_
            refine lread (v := .slice a12954 n12954 c12954) rfl (q_load wd_23 rfl) (St.ld X12987 (j := 0) rfl rfl) rfl ?_
            refine lcall rfl rfl ca_59 rfl rfl (f59_ok X12987 (p12949.Links) (p12952.Links) H12951 H12954) rfl (fun e13052 v13053 h13054 hq13055 => ?_)
            cases hq13055
            refine lpure (v := .bool e13052) rfl (p_pick rfl) rfl rfl ?_
            exact ljmpM J13050 e13052 () (sub_cons rfl sub_nil) X12987
          · refine lskip rfl rfl ?_
            refine lskip rfl rfl ?_
            refine lskip rfl rfl ?_
            refine lskip rfl rfl ?_
            refine lskip rfl rfl ?_
            refine lpure (v := .bool false) rfl (p_pick rfl) rfl rfl ?_
            exact ljmpM J13050 false () (sub_cons rfl sub_nil) X12987
      · intro j13056 J13057
        refine lif (i := 20) (show _ = Value.bool s12977 from rfl) (fun k13058 => ?_) (fun k13058 => ?_)
        · refine lpure (v := .pointer (some ⟨b12955, 1, none⟩)) rfl (p_fa fo_25_1 rfl) rfl rfl ?_
          refine lread (v := .slice a12950 n12950 c12950) rfl (q_load wd_22 rfl) (St.ld X12978 (j := 1) rfl rfl) rfl ?_
          refine lpure (v := .pointer (some ⟨b12959, 1, none⟩)) rfl (p_fa fo_25_1 rfl) rfl rfl ?_
          refine lread (v := .slice a12953 n12953 c12953) rfl (q_load wd_22 rfl) (St.ld X12978 (j := 0) rfl rfl) rfl ?_
          refine lcall rfl rfl ca_18 rfl rfl (f18_ok X12978 (p12949.Station) (p12952.Station) H12950 H12953) rfl (fun e13059 v13060 h13061 hq13062 => ?_)
          cases hq13062
          refine lpure (v := .bool e13059) rfl (p_pick rfl) rfl rfl ?_
          exact ljmpM J13057 e13059 () (sub_cons rfl (sub_cons rfl (sub_cons rfl sub_nil))) X12978
        · refine lskip rfl rfl ?_
          refine lskip rfl rfl ?_
          refine lskip rfl rfl ?_
          refine lskip rfl rfl ?_
          refine lskip rfl rfl ?_
          refine lpure (v := .bool false) rfl (p_pick rfl) rfl rfl ?_
          exact ljmpM J13057 false () (sub_cons rfl (sub_cons rfl (sub_cons rfl sub_nil))) X12978
    · intro j13063 J13064
      refine lcase (i := 13) (show _ = Value.bool s12973 from rfl) (fun k13065 => ?_) (fun k13065 => ?_)
      · refine lpure (v := .pointer (some ⟨b12955, 0, none⟩)) rfl (p_fa fo_25_0 rfl) rfl rfl ?_
        refine lread (v := .int .i64 p12949.Nodes) rfl (q_load wd_3 rfl) (St.ld X12974 (j := 1) rfl rfl) rfl ?_
        refine lpure (v := .pointer (some ⟨b12959, 0, none⟩)) rfl (p_fa fo_25_0 rfl) rfl rfl ?_
        refine lread (v := .int .i64 p12952.Nodes) rfl (q_load wd_3 rfl) (St.ld X12974 (j := 0) rfl rfl) rfl ?_
        refine lpure (v := .bool (decide (p12949.Nodes = p12952.Nodes))) rfl (p_eq rfl) rfl rfl ?_
        refine lpure (v := .bool (decide (p12949.Nodes = p12952.Nodes))) rfl (p_pick rfl) rfl rfl ?_
        refine Sim.of_eq (congrArg j13063 (show (s12973 && (decide (p12949.Nodes = p12952.Nodes))) = (decide (p12949.Nodes = p12952.Nodes)) from by rw [k13065] <;> rfl)) ?_
        exact ljmpM J13064 (decide (p12949.Nodes = p12952.Nodes)) () (sub_cons rfl (sub_cons rfl (sub_cons rfl sub_nil))) X12974
      · refine lskip rfl rfl ?_
        refine lskip rfl rfl ?_
        refine lskip rfl rfl ?_
        refine lskip rfl rfl ?_
        refine lskip rfl rfl ?_
        refine lpure (v := .bool false) rfl (p_pick rfl) rfl rfl ?_
        refine Sim.of_eq (congrArg j13063 (show (s12973 && (decide (p12949.Nodes = p12952.Nodes))) = false from by rw [k13065] <;> rfl)) ?_
        exact ljmpM J13064 false () (sub_cons rfl (sub_cons rfl (sub_cons rfl sub_nil))) X12974
  · intro j13066 J13067
    refine lif (i := 8) (show _ = Value.bool (decide (e12963 = 0)) from rfl) (fun k13068 => ?_) (fun k13068 => ?_)
    · refine lread (v := .agg #[.int .i64 p12952.Nodes, .slice a12953 n12953 c12953, .slice a12954 n12954 c12954]) rfl (q_load wd_25 rfl) (St.ld X12962 (j := 0) rfl rfl) rfl ?_
      refine lcall rfl rfl ca_34 rfl rfl (f34_ok X12962 p12952 H12953 H12954) rfl (fun e13069 v13070 h13071 hq13072 => ?_)
      cases hq13072
      refine lpure (v := .bool (decide (e13069 = 0))) rfl (p_eq rfl) rfl rfl ?_
      refine lpure (v := .bool (decide (e13069 = 0))) rfl (p_pick rfl) rfl rfl ?_
      exact ljmpM J13067 (decide (e13069 = 0)) () (sub_cons rfl (sub_cons rfl (sub_cons rfl sub_nil))) X12962
    · refine lskip rfl rfl ?_
      refine lskip rfl rfl ?_
      refine lskip rfl rfl ?_
      refine lpure (v := .bool false) rfl (p_pick rfl) rfl rfl ?_
      exact ljmpM J13067 false () (sub_cons rfl (sub_cons rfl (sub_cons rfl sub_nil))) X12962
/-! isochron/isochronlaw16.TopoChecks -/
theorem f7_ok {n : Nat} {φ : Fz} {lo : Nat} {h : Heap} {own : OwnL} (X : St φ lo h own) (p1 : ApiTopo) (p4 : ApiTopo) {a2 : Option Addr} {n2 c2 : Nat} {a3 : Option Addr} {n3 c3 : Nat} {a5 : Option Addr} {n5 c5 : Nat} {a6 : Option Addr} {n6 c6 : Nat} (H2 : RSl eBool φ (.slice a2 n2 c2) p1.Station) (H3 : RSl eApiLink φ (.slice a3 n3 c3) p1.Links) (H5 : RSl eBool φ (.slice a5 n5 c5) p4.Station) (H6 : RSl eApiLink φ (.slice a6 n6 c6) p4.Links) (K2 : c2 < unk) (K3 : c3 < unk) (K5 : c5 < unk) (K6 : c6 < unk) : Sim ((recN Try.prog LL cutF (n + 10)).call 7 #[(.agg #[.int .i64 p1.Nodes, .slice a2 n2 c2, .slice a3 n3 c3]), (.agg #[.int .i64 p4.Nodes, .slice a5 n5 c5, .slice a6 n6 c6])] h) (m_isochronlaw16_TopoChecks p1 p4) (fun (d : Bool) p => p = (.bool d, h)) := by
  refine fcut Try.func7 rfl rfl rfl rfl X ?_
  intro h0 X0
  refine dseq ?_
  refine dreg ?_
  refine lbox rfl rfl rfl rfl rfl X0 (fun b7 h9 X10 => ?_)
  refine lbox rfl rfl rfl rfl rfl X10 (fun b11 h13 X14 => ?_)
  refine lpure (v := .bool false) rfl (p_assign rfl) rfl rfl ?_
  refine lend ?_
  refine nseq ?_
  refine dseq ?_
  refine dseq ?_
  refine dreg ?_
  refine lcall rfl rfl ca_9 rfl rfl (f9_ok X14) rfl (fun e8845 v8846 h8847 hq8848 => ?_)
  cases hq8848
  refine lpure (v := .bool (!e8845)) rfl (p_not rfl) rfl rfl ?_
  refine lend ?_
  refine nseq ?_
  refine dcond rfl rfl (fun k8849 => ?_) (fun k8849 => ?_)
  · refine dseq ?_
    refine dreg ?_
    refine lpure (v := .bool false) rfl (p_assign rfl) rfl rfl ?_
    refine lend ?_
    refine nseq ?_
    refine dret ?_
    refine rseq ?_
    exact kcut_r (res_1 resT) X14 rfl rfl
  · refine dskip ?_
    refine nseq ?_
    refine dseq ?_
    refine ddraw 48 48 0 (by kernel_rfl) ?_
    refine sload (v := .agg #[.int .i64 p1.Nodes, .slice a2 n2 c2, .slice a3 n3 c3]) rfl rfl (q_load wd_25 rfl) (St.ld X14 (j := 1) rfl rfl) (same_self 20 rfl) rfl ?_
    refine scallX rfl rfl ca_10 rfl rfl (f10_ok X14 p1 H2 H3 K2 K3) (fun _ _ hq => by obtain ⟨_, _, _, _, _, _, hq, _, _⟩ := hq; rw [hq]) rfl ?_
    rintro e8890 _ ⟨a8894, n8894, c8894, a8895, n8895, c8895, hq, H8894, H8895⟩
    cases hq
    refine sload (v := .agg #[.int .i64 p4.Nodes, .slice a5 n5 c5, .slice a6 n6 c6]) rfl rfl (q_load wd_25 rfl) (St.ld X14 (j := 0) rfl rfl) (same_self 20 rfl) rfl ?_
    refine scallX rfl rfl ca_10 rfl rfl (f10_ok X14 p4 H5 H6 K5 K6) (fun _ _ hq => by obtain ⟨_, _, _, _, _, _, hq, _, _⟩ := hq; rw [hq]) rfl ?_
    rintro e8896 _ ⟨a8900, n8900, c8900, a8901, n8901, c8901, hq, H8900, H8901⟩
    cases hq
    refine sstore rfl rfl ts_25 rfl rfl (j := 1) rfl rfl rfl rfl rfl rfl X14 (fun h8902 X8903 => ?_)
    refine sstore rfl rfl ts_25 rfl rfl (j := 0) rfl rfl rfl rfl rfl rfl X8903 (fun h8904 X8905 => ?_)
    refine send ?_
    refine nseq ?_
    refine dseq ?_
    refine dreg ?_
    refine lread (v := .agg #[.int .i64 e8890.Nodes, .slice a8894 n8894 c8894, .slice a8895 n8895 c8895]) rfl (q_load wd_25 rfl) (St.ld X8905 (j := 1) rfl rfl) rfl ?_
    refine lcall rfl rfl ca_13 rfl rfl (f13_ok X8905 e8890 H8894 H8895) rfl (fun e12659 v12660 h12661 hq12662 => ?_)
    cases hq12662
    refine lpure (v := .bool e12659) rfl (p_assign rfl) rfl rfl ?_
    refine lend ?_
    refine nseq ?_
    refine dseq ?_
    refine dseq ?_
    refine dreg ?_
    refine lread (v := .agg #[.int .i64 e8890.Nodes, .slice a8894 n8894 c8894, .slice a8895 n8895 c8895]) rfl (q_load wd_25 rfl) (St.ld X8905 (j := 1) rfl rfl) rfl ?_
    refine lcall rfl rfl ca_34 rfl rfl (f34_ok X8905 e8890 H8894 H8895) rfl (fun e12663 v12664 h12665 hq12666 => ?_)
    cases hq12666
    refine lpure (v := .int .i64 e12663) rfl (p_assign rfl) rfl rfl ?_
    refine lend ?_
    refine nseq ?_
    refine dseq ?_
    refine dreg ?_
    refine lpure (v := .bool e12659) rfl (p_move rfl) rfl rfl ?_
    refine lpure (v := .int .i64 e12663) rfl (p_move rfl) rfl rfl ?_
    refine lpure (v := .bool (decide (e12663 = 0))) rfl (p_eq rfl) rfl rfl ?_
    refine lpure (v := .bool (!(e12659 == (decide (e12663 = 0))))) rfl (p_bin rfl) (bin_neB un_4) rfl ?_
    refine lpure (v := .bool (!(e12659 == (decide (e12663 = 0))))) rfl (p_move rfl) rfl rfl ?_
    refine lsh (τ := Bool) (σ := Unit) (fun s12668 (_ : Unit) => [(2, .pointer (some ⟨b7, 0, none⟩)), (3, .pointer (some ⟨b11, 0, none⟩)), (5, .bool e12659), (29, .bool s12668)]) (fun s12668 (_ : Unit) hh => St φ h.n hh ([(some b11, .cells [.int .i64 e8896.Nodes, .slice a8900 n8900 c8900, .slice a8901 n8901 c8901] 25 .exact), (some b7, .cells [.int .i64 e8890.Nodes, .slice a8894 n8894 c8894, .slice a8895 n8895 c8895] 25 .exact)])) 7 ?_ ?_
    · rintro s12668 _ t0 h12670 X12669
      refine lend ?_
      refine nseq ?_
      refine dcond rfl rfl (fun k12671 => ?_) (fun k12671 => ?_)
      · refine dseq ?_
        refine dreg ?_
        refine lpure (v := .bool false) rfl (p_assign rfl) rfl rfl ?_
        refine lend ?_
        refine nseq ?_
        refine dret ?_
        refine rseq ?_
        exact kcut_r (res_1 resT) X12669 rfl rfl
      · refine dskip ?_
        refine nseq ?_
        refine dseq ?_
        refine dreg ?_
        refine lpure (v := .bool e12659) rfl (p_move rfl) rfl rfl ?_
        refine lpure (v := .bool e12659) rfl (p_move rfl) rfl rfl ?_
        refine ljoinM (τ := Bool) (σ := Unit) (fun s12678 (_ : Unit) => [(2, .pointer (some ⟨b7, 0, none⟩)), (3, .pointer (some ⟨b11, 0, none⟩)), (5, .bool e12659), (34, .bool s12678)]) (fun s12678 (_ : Unit) hh => St φ h.n hh ([(some b11, .cells [.int .i64 e8896.Nodes, .slice a8900 n8900 c8900, .slice a8901 n8901 c8901] 25 .exact), (some b7, .cells [.int .i64 e8890.Nodes, .slice a8894 n8894 c8894, .slice a8895 n8895 c8895] 25 .exact)])) 3 ?_ ?_
        · rintro s12678 _ t0 h12680 X12679
          refine lpure (v := .bool s12678) rfl (p_move rfl) rfl rfl ?_
          refine ljoinM (τ := Bool) (σ := Unit) (fun s12946 (_ : Unit) => [(2, .pointer (some ⟨b7, 0, none⟩)), (3, .pointer (some ⟨b11, 0, none⟩)), (5, .bool e12659), (39, .bool s12946)]) (fun s12946 (_ : Unit) hh => St φ h.n hh ([(some b11, .cells [.int .i64 e8896.Nodes, .slice a8900 n8900 c8900, .slice a8901 n8901 c8901] 25 .exact), (some b7, .cells [.int .i64 e8890.Nodes, .slice a8894 n8894 c8894, .slice a8895 n8895 c8895] 25 .exact)])) 4 ?_ ?_
          · rintro s12946 _ t0 h12948 X12947
            refine lpure (v := .bool s12946) rfl (p_assign rfl) rfl rfl ?_
            refine lend ?_
            refine nseq ?_
            refine dseq ?_
            refine dreg ?_
            refine lread (v := .agg #[.int .i64 e8890.Nodes, .slice a8894 n8894 c8894, .slice a8895 n8895 c8895]) rfl (q_load wd_25 rfl) (St.ld X12947 (j := 1) rfl rfl) rfl ?_
            refine lread (v := .agg #[.int .i64 e8896.Nodes, .slice a8900 n8900 c8900, .slice a8901 n8901 c8901]) rfl (q_load wd_25 rfl) (St.ld X12947 (j := 0) rfl rfl) rfl ?_
            refine lcall rfl rfl ca_36 rfl rfl (f36_ok X12947 e8890 e8896 H8894 H8895 H8900 H8901) rfl (fun e13073 v13074 h13075 hq13076 => ?_)
            cases hq13076
            refine lpure (v := .bool s12946) rfl (p_move rfl) rfl rfl ?_
            refine lpure (v := .bool (e13073 == s12946)) rfl (p_bin rfl) (bin_eqB un_4) rfl ?_
            refine lpure (v := .bool (e13073 == s12946)) rfl (p_move rfl) rfl rfl ?_
            refine ljoinM (τ := Bool) (σ := Unit) (fun s13083 (_ : Unit) => [(2, .pointer (some ⟨b7, 0, none⟩)), (5, .bool e12659), (51, .bool s13083)]) (fun s13083 (_ : Unit) hh => St φ h.n hh ([(some b11, .cells [.int .i64 e8896.Nodes, .slice a8900 n8900 c8900, .slice a8901 n8901 c8901] 25 .exact), (some b7, .cells [.int .i64 e8890.Nodes, .slice a8894 n8894 c8894, .slice a8895 n8895 c8895] 25 .exact)])) 6 ?_ ?_
            · rintro s13083 _ t0 h13085 X13084
              refine lpure (v := .bool s13083) rfl (p_move rfl) rfl rfl ?_
              refine ljoinM (τ := Bool) (σ := Unit) (fun s13092 (_ : Unit) => [(58, .bool s13092)]) (fun s13092 (_ : Unit) hh => St φ h.n hh ([(some b11, .cells [.int .i64 e8896.Nodes, .slice a8900 n8900 c8900, .slice a8901 n8901 c8901] 25 .exact), (some b7, .cells [.int .i64 e8890.Nodes, .slice a8894 n8894 c8894, .slice a8895 n8895 c8895] 25 .exact)])) 6 ?_ ?_
              · rintro s13092 _ t0 h13094 X13093
                refine lpure (v := .bool s13092) rfl (p_assign rfl) rfl rfl ?_
                refine lend ?_
                refine nseq ?_
                refine dret ?_
                exact kcut_r (res_1 resT) X13093 rfl rfl
              · intro j13095 J13096
                refine lif (i := 52) (show _ = Value.bool s13083 from rfl) (fun k13097 => ?_) (fun k13097 => ?_)
                · refine lread (v := .agg #[.int .i64 e8890.Nodes, .slice a8894 n8894 c8894, .slice a8895 n8895 c8895]) rfl (q_load wd_25 rfl) (St.ld X13084 (j := 1) rfl rfl) rfl ?_
                  refine lread (v := .agg #[.int .i64 e8890.Nodes, .slice a8894 n8894 c8894, .slice a8895 n8895 c8895]) rfl (q_load wd_25 rfl) (St.ld X13084 (j := 1) rfl rfl) rfl ?_
                  refine lcall rfl rfl ca_36 rfl rfl (f36_ok X13084 e8890 e8890 H8894 H8895 H8894 H8895) rfl (fun e13098 v13099 h13100 hq13101 => ?_)
                  cases hq13101
                  refine lpure (v := .bool e12659) rfl (p_move rfl) rfl rfl ?_
                  refine lpure (v := .bool (e13098 == e12659)) rfl (p_bin rfl) (bin_eqB un_4) rfl ?_
                  refine lpure (v := .bool (e13098 == e12659)) rfl (p_pick rfl) rfl rfl ?_
                  exact ljmpM J13096 (e13098 == e12659) () (sub_cons rfl sub_nil) X13084
                · refine lskip rfl rfl ?_
                  refine lskip rfl rfl ?_
                  refine lskip rfl rfl ?_
                  refine lskip rfl rfl ?_
                  refine lskip rfl rfl ?_
                  refine lpure (v := .bool false) rfl (p_pick rfl) rfl rfl ?_
                  exact ljmpM J13096 false () (sub_cons rfl sub_nil) X13084
            · intro j13102 J13103
              refine lif (i := 45) (show _ = Value.bool (e13073 == s12946) from rfl) (fun k13104 => ?_) (fun k13104 => ?_)
              · refine lread (v := .agg #[.int .i64 e8896.Nodes, .slice a8900 n8900 c8900, .slice a8901 n8901 c8901]) rfl (q_load wd_25 rfl) (St.ld X12947 (j := 0) rfl rfl) rfl ?_
                refine lread (v := .agg #[.int .i64 e8890.Nodes, .slice a8894 n8894 c8894, .slice a8895 n8895 c8895]) rfl (q_load wd_25 rfl) (St.ld X12947 (j := 1) rfl rfl) rfl ?_
                refine lcall rfl rfl ca_36 rfl rfl (f36_ok X12947 e8896 e8890 H8900 H8901 H8894 H8895) rfl (fun e13105 v13106 h13107 hq13108 => ?_)
                cases hq13108
                refine lpure (v := .bool s12946) rfl (p_move rfl) rfl rfl ?_
                refine lpure (v := .bool (e13105 == s12946)) rfl (p_bin rfl) (bin_eqB un_4) rfl ?_
                refine lpure (v := .bool (e13105 == s12946)) rfl (p_pick rfl) rfl rfl ?_
                exact ljmpM J13103 (e13105 == s12946) () (sub_cons rfl (sub_cons rfl (sub_cons rfl sub_nil))) X12947
              · refine lskip rfl rfl ?_
                refine lskip rfl rfl ?_
                refine lskip rfl rfl ?_
                refine lskip rfl rfl ?_
                refine lskip rfl rfl ?_
                refine lpure (v := .bool false) rfl (p_pick rfl) rfl rfl ?_
                exact ljmpM J13103 false () (sub_cons rfl (sub_cons rfl (sub_cons rfl sub_nil))) X12947
          · intro j13109 J13110
            refine lif (i := 35) (show _ = Value.bool s12678 from rfl) (fun k13111 => ?_) (fun k13111 => ?_)
            · refine lread (v := .agg #[.int .i64 e8890.Nodes, .slice a8894 n8894 c8894, .slice a8895 n8895 c8895]) rfl (q_load wd_25 rfl) (St.ld X12679 (j := 1) rfl rfl) rfl ?_
              refine lread (v := .agg #[.int .i64 e8896.Nodes, .slice a8900 n8900 c8900, .slice a8901 n8901 c8901]) rfl (q_load wd_25 rfl) (St.ld X12679 (j := 0) rfl rfl) rfl ?_
              refine lcall rfl rfl ca_35 rfl rfl (f35_ok X12679 e8890 e8896 H8894 H8895 H8900 H8901) rfl (fun e13112 v13113 h13114 hq13115 => ?_)
              cases hq13115
              refine lpure (v := .bool e13112) rfl (p_pick rfl) rfl rfl ?_
              exact ljmpM J13110 e13112 () (sub_cons rfl (sub_cons rfl (sub_cons rfl (sub_cons rfl sub_nil)))) X12679
            · refine lskip rfl rfl ?_
              refine lskip rfl rfl ?_
              refine lskip rfl rfl ?_
              refine lpure (v := .bool false) rfl (p_pick rfl) rfl rfl ?_
              exact ljmpM J13110 false () (sub_cons rfl (sub_cons rfl (sub_cons rfl (sub_cons rfl sub_nil)))) X12679
        · intro j13116 J13117
          refine lif (i := 31) (show _ = Value.bool e12659 from rfl) (fun k13118 => ?_) (fun k13118 => ?_)
          · refine lread (v := .agg #[.int .i64 e8896.Nodes, .slice a8900 n8900 c8900, .slice a8901 n8901 c8901]) rfl (q_load wd_25 rfl) (St.ld X12669 (j := 0) rfl rfl) rfl ?_
            refine lcall rfl rfl ca_13 rfl rfl (f13_ok X12669 e8896 H8900 H8901) rfl (fun e13119 v13120 h13121 hq13122 => ?_)
            cases hq13122
            refine lpure (v := .bool e13119) rfl (p_pick rfl) rfl rfl ?_
            exact ljmpM J13117 e13119 () (sub_cons rfl (sub_cons rfl (sub_cons rfl (sub_cons rfl sub_nil)))) X12669
          · refine lskip rfl rfl ?_
            refine lskip rfl rfl ?_
            refine lpure (v := .bool false) rfl (p_pick rfl) rfl rfl ?_
            exact ljmpM J13117 false () (sub_cons rfl (sub_cons rfl (sub_cons rfl (sub_cons rfl sub_nil)))) X12669
    · intro j13123 J13124
      refine lcase (i := 22) (show _ = Value.bool (!(e12659 == (decide (e12663 = 0)))) from rfl) (fun k13125 => ?_) (fun k13125 => ?_)
      · refine lskip rfl rfl ?_
        refine lskip rfl rfl ?_
        refine lskip rfl rfl ?_
        refine lskip rfl rfl ?_
        refine lskip rfl rfl ?_
        refine lskip rfl rfl ?_
        refine lpure (v := .bool true) rfl (p_pick rfl) rfl rfl ?_
        refine Sim.of_eq (congrArg j13123 (show ((!(e12659 == (decide (e12663 = 0)))) || ((!e12659) && (decide (e12663 ≠ 260)))) = true from by rw [k13125] <;> rfl)) ?_
        exact ljmpM J13124 true () (sub_cons rfl (sub_cons rfl (sub_cons rfl (sub_cons rfl sub_nil)))) X8905
      · refine lpure (v := .bool e12659) rfl (p_move rfl) rfl rfl ?_
        refine lpure (v := .bool (!e12659)) rfl (p_not rfl) rfl rfl ?_
        refine lpure (v := .bool (!e12659)) rfl (p_move rfl) rfl rfl ?_
        refine lcase (i := 25) (show _ = Value.bool (!e12659) from rfl) (fun k13126 => ?_) (fun k13126 => ?_)
        · refine lpure (v := .int .i64 e12663) rfl (p_move rfl) rfl rfl ?_
          refine lpure (v := .bool (decide (e12663 ≠ 260))) rfl (p_ne rfl) rfl rfl ?_
          refine lpure (v := .bool (decide (e12663 ≠ 260))) rfl (p_pick rfl) rfl rfl ?_
          refine lpure (v := .bool (decide (e12663 ≠ 260))) rfl (p_pick rfl) rfl rfl ?_
          refine Sim.of_eq (congrArg j13123 (show ((!(e12659 == (decide (e12663 = 0)))) || ((!e12659) && (decide (e12663 ≠ 260)))) = (decide (e12663 ≠ 260)) from by rw [k13125, k13126] <;> rfl)) ?_
          exact ljmpM J13124 (decide (e12663 ≠ 260)) () (sub_cons rfl (sub_cons rfl (sub_cons rfl (sub_cons rfl sub_nil)))) X8905
        · refine lskip rfl rfl ?_
          refine lskip rfl rfl ?_
          refine lpure (v := .bool false) rfl (p_pick rfl) rfl rfl ?_
          refine lpure (v := .bool false) rfl (p_pick rfl) rfl rfl ?_
          refine Sim.of_eq (congrArg j13123 (show ((!(e12659 == (decide (e12663 = 0)))) || ((!e12659) && (decide (e12663 ≠ 260)))) = false from by rw [k13125, k13126] <;> rfl)) ?_
          exact ljmpM J13124 false () (sub_cons rfl (sub_cons rfl (sub_cons rfl (sub_cons rfl sub_nil)))) X8905
end Go.AM
