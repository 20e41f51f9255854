/- Printed: functions of the given program as functions over plain data, and that the machine does what they say; no claim of its own; no condition. -/
import Derived.Test.YtjemelnmlbcmeaaGsOk1
set_option maxRecDepth 100000
set_option maxHeartbeats 4000000
set_option linter.unusedVariables false
set_option linter.unusedSimpArgs false
namespace Go.AM
open Go Go.Proofs

/-! slices.Equal[[]bool,bool] -/
theorem f18_ok {n : Nat} {φ : Fz} {lo : Nat} {h : Heap} {own : OwnL}  {a8689 : Option Addr} {n8689 c8689 : Nat} {a8691 : Option Addr} {n8691 c8691 : Nat} (X : St φ lo h (own)) (p8688 : (List Bool)) (p8690 : (List Bool)) (H8689 : RSl eBool φ (.slice a8689 n8689 c8689) p8688) (H8691 : RSl eBool φ (.slice a8691 n8691 c8691) p8690) : Sim ((recN Try.prog LL cutF (n + 1)).call 18 #[(.slice a8689 n8689 c8689), (.slice a8691 n8691 c8691)] h) (m_slices_Equal_bool_bool p8688 p8690) (fun (d : Bool) p => p = (.bool d, h)) := by
  refine fcut Try.func18 rfl rfl rfl rfl X ?_
  intro h0 X0
  refine dseq ?_
  refine dreg ?_
  refine lpure (v := .bool false) rfl (p_assign rfl) rfl rfl ?_
  refine lend ?_
  refine nseq ?_
  refine dseq ?_
  refine dseq ?_
  refine dreg ?_
  refine lpure (v := .slice a8689 n8689 c8689) rfl (p_move rfl) rfl rfl ?_
  refine lpure (v := .int .i64 (p8688.length : Int)) rfl (p_len rfl rfl rfl un_22 rfl) (RSl.lenC H8689) rfl ?_
  refine lpure (v := .slice a8691 n8691 c8691) rfl (p_move rfl) rfl rfl ?_
  refine lpure (v := .int .i64 (p8690.length : Int)) rfl (p_len rfl rfl rfl un_22 rfl) (RSl.lenC H8691) rfl ?_
  refine lpure (v := .bool (decide ((p8688.length : Int) ≠ (p8690.length : Int)))) rfl (p_ne rfl) rfl rfl ?_
  refine lend ?_
  refine nseq ?_
  refine dcond rfl rfl (fun k8692 => ?_) (fun k8692 => ?_)
  · refine dseq ?_
    refine dreg ?_
    refine lpure (v := .bool false) rfl (p_assign rfl) rfl rfl ?_
    refine lend ?_
    refine nseq ?_
    refine dret ?_
    refine rseq ?_
    exact kcut_r (res_1 resT) X0 rfl rfl
  · refine dskip ?_
    refine nseq ?_
    refine dseq ?_
    refine dseq ?_
    refine dreg ?_
    refine lpure (v := .slice a8689 n8689 c8689) rfl (p_move rfl) rfl rfl ?_
    refine lpure (v := .int .i64 (p8688.length : Int)) rfl (p_len rfl rfl rfl un_22 rfl) (RSl.lenC H8689) rfl ?_
    refine lpure (v := .int .i64 0) rfl (p_move rfl) rfl rfl ?_
    refine lend ?_
    refine nseq ?_
    refine dblock ?_
    refine dloopM (τ := Int) (σ := Unit) (fun s8715 (_ : Unit) => [(0, .slice a8689 n8689 c8689), (1, .slice a8691 n8691 c8691), (12, .int .i64 (p8688.length : Int)), (13, .int .i64 s8715)]) (fun s8715 (_ : Unit) hh => St φ h.n hh ([])) 0 () (sub_cons rfl (sub_cons rfl (sub_cons rfl (sub_cons rfl sub_nil)))) X0 ?_
    rintro n8728 ih8727 s8715 _ t0 h8730 X8729
    refine dseq ?_
    refine dreg ?_
    refine lpure (v := .bool (decide (s8715 < (p8688.length : Int)))) rfl (p_lt rfl) rfl rfl ?_
    refine lend ?_
    refine nseq ?_
    refine dseq ?_
    refine dcond rfl rfl (fun k8731 => ?_) (fun k8731 => ?_)
    · refine dskip ?_
      refine nseq ?_
      refine dseq ?_
      refine dblock ?_
      refine dseq ?_
      refine dreg ?_
      refine lpure (v := .int .i64 s8715) rfl (p_move rfl) rfl rfl ?_
      refine lpure (v := .int .i64 s8715) rfl (p_assign rfl) rfl rfl ?_
      refine lend ?_
      refine nseq ?_
      refine dseq ?_
      refine ddraw 0 0 0 (by kernel_rfl) ?_
      refine spure (v := .slice a8689 n8689 c8689) rfl (p_move rfl) (lo_t (lo_sl X8729 H8689) rfl) rfl rfl ?_
      refine spure (v := .int .i64 s8715) rfl (p_move rfl) (lo_t rfl rfl) rfl rfl ?_
      refine Sim.bindM fun e8732 he8733 => ?_
      obtain ⟨p8734, cs8734, hp8734, hF8734, hR8734⟩ := RSl.ia H8689 he8733 (kd := .i64) (n := 1) rfl
      have hR8734 : _ = [(.bool e8732 : Value)] := hR8734
      subst hR8734
      refine spure (v := p8734) rfl (p_ia rs_22 rfl) (lo_t (lo_sl X8729 H8689) (lo_t rfl rfl)) hp8734 rfl ?_
      refine sload (v := .bool e8732) rfl rfl (q_load wd_4 rfl) (FP.ld X8729 hF8734) (same_self 20 rfl) rfl ?_
      refine spure (v := .slice a8691 n8691 c8691) rfl (p_move rfl) (lo_t (lo_sl X8729 H8691) rfl) rfl rfl ?_
      refine spure (v := .int .i64 s8715) rfl (p_move rfl) (lo_t rfl rfl) rfl rfl ?_
      refine Sim.bindM fun e8735 he8736 => ?_
      obtain ⟨p8737, cs8737, hp8737, hF8737, hR8737⟩ := RSl.ia H8691 he8736 (kd := .i64) (n := 1) rfl
      have hR8737 : _ = [(.bool e8735 : Value)] := hR8737
      subst hR8737
      refine spure (v := p8737) rfl (p_ia rs_22 rfl) (lo_t (lo_sl X8729 H8691) (lo_t rfl rfl)) hp8737 rfl ?_
      refine sload (v := .bool e8735) rfl rfl (q_load wd_4 rfl) (FP.ld X8729 hF8737) (same_self 20 rfl) rfl ?_
      refine spure (v := .bool (!(e8732 == e8735))) rfl (p_bin rfl) (lo_t rfl (lo_t rfl rfl)) (bin_neB un_4) rfl ?_
      refine send ?_
      refine nseq ?_
      refine dcond rfl rfl (fun k8738 => ?_) (fun k8738 => ?_)
      · refine dseq ?_
        refine dreg ?_
        refine lpure (v := .bool false) rfl (p_assign rfl) rfl rfl ?_
        refine lend ?_
        refine nseq ?_
        refine dret ?_
        refine rblock ?_
        refine rseq ?_
        refine rloop ?_
        refine rblock ?_
        refine rseq ?_
        exact kcut_r (res_1 resT) X8729 rfl rfl
      · refine dskip ?_
        refine nblock ?_
        refine nseq ?_
        refine dreg ?_
        refine lpure (v := .int .i64 (w64 (s8715 + 1))) rfl (p_add rfl) rfl rfl ?_
        refine lpure (v := .int .i64 (w64 (s8715 + 1))) rfl (p_move rfl) rfl rfl ?_
        refine lend ?_
        exact kbackM ih8727 (w64 (s8715 + 1)) () (sub_cons rfl (sub_cons rfl (sub_cons rfl (sub_cons rfl sub_nil)))) X8729
    · refine dexit ?_
      refine eseq ?_
      refine eloop ?_
      refine xblock ?_
      refine nseq ?_
      refine dseq ?_
      refine dreg ?_
      refine lpure (v := .bool true) rfl (p_assign rfl) rfl rfl ?_
      refine lend ?_
      refine nseq ?_
      refine dret ?_
      exact kcut_r (res_1 resT) X8729 rfl rfl
/-! isochron/isochronlaw16.wakes -/
theorem f9_ok {n : Nat} {φ : Fz} {lo : Nat} {h : Heap} {own : OwnL}  (X : St φ lo h (own)) : Sim ((recN Try.prog LL cutF (n + 9)).call 9 #[] h) (m_isochronlaw16_wakes) (fun (d : Bool) p => p = (.bool d, h)) := by
  refine fcut Try.func9 rfl rfl rfl rfl X ?_
  intro h0 X0
  refine dseq ?_
  refine dreg ?_
  refine lpure (v := .bool false) rfl (p_assign rfl) rfl rfl ?_
  refine lend ?_
  refine nseq ?_
  refine dseq ?_
  refine dreg ?_
  refine lcall rfl rfl ca_38 rfl rfl (f38_ok X0) rfl ?_
  rintro e38 _ h40 ⟨φ42, a45, n45, c45, ob45, blk45, a47, n47, c47, ob47, blk47, g43, X44, rfl, O45, O47⟩
  refine lalloc rfl tz_25 rfl rfl rfl X44 (fun b49 h51 X52 => ?_)
  refine lstore rfl ts_25 rfl rfl (j := 0) rfl rfl rfl rfl rfl rfl X52 (fun h53 X54 => ?_)
  refine lend ?_
  refine nseq ?_
  refine dseq ?_
  refine dreg ?_
  refine lread (v := .agg #[.int .i64 e38.Nodes, .slice a45 n45 c45, .slice a47 n47 c47]) rfl (q_load wd_25 rfl) (St.ld X54 (j := 0) rfl rfl) rfl ?_
  obtain ⟨φ6851, g6852, X6853, H6854⟩ := OSl.freeze X54 (j := 1) rfl O45
  obtain ⟨φ6855, g6856, X6857, H6858⟩ := OSl.freeze X6853 (j := 2) rfl (O47.mono g6852)
  refine lcall rfl rfl ca_23 rfl rfl (f23_ok X6857 e38 0 (H6854.mono g6856) H6858) rfl (fun e6859 v6860 h6861 hq6862 => ?_)
  cases hq6862
  refine lpure (v := .tuple #[.int .i64 e6859.1, .int .i64 e6859.2]) rfl (p_move rfl) rfl rfl ?_
  refine lpure (v := .int .i64 e6859.1) rfl (p_extract rfl) rfl rfl ?_
  refine lpure (v := .int .i64 e6859.2) rfl (p_extract rfl) rfl rfl ?_
  refine lpure (v := .int .i64 e6859.1) rfl (p_assign rfl) rfl rfl ?_
  refine lpure (v := .int .i64 e6859.2) rfl (p_assign rfl) rfl rfl ?_
  refine lend ?_
  refine nseq ?_
  refine dseq ?_
  refine dreg ?_
  refine lread (v := .agg #[.int .i64 e38.Nodes, .slice a45 n45 c45, .slice a47 n47 c47]) rfl (q_load wd_25 rfl) (St.ld X54 (j := 0) rfl rfl) rfl ?_
  obtain ⟨φ6895, g6896, X6897, H6898⟩ := OSl.freeze X54 (j := 1) rfl O45
  obtain ⟨φ6899, g6900, X6901, H6902⟩ := OSl.freeze X6897 (j := 2) rfl (O47.mono g6896)
  refine lcall rfl rfl ca_24 rfl rfl (f24_ok X6901 e38 3 (H6898.mono g6900) H6902) rfl (fun e6903 v6904 h6905 hq6906 => ?_)
  cases hq6906
  refine lpure (v := .tuple #[.int .i64 e6903.1, .int .i64 e6903.2]) rfl (p_move rfl) rfl rfl ?_
  refine lpure (v := .int .i64 e6903.1) rfl (p_extract rfl) rfl rfl ?_
  refine lpure (v := .int .i64 e6903.2) rfl (p_extract rfl) rfl rfl ?_
  refine lpure (v := .int .i64 e6903.1) rfl (p_assign rfl) rfl rfl ?_
  refine lpure (v := .int .i64 e6903.2) rfl (p_assign rfl) rfl rfl ?_
  refine lend ?_
  refine nseq ?_
  refine dseq ?_
  refine dreg ?_
  refine lread (v := .agg #[.int .i64 e38.Nodes, .slice a45 n45 c45, .slice a47 n47 c47]) rfl (q_load wd_25 rfl) (St.ld X54 (j := 0) rfl rfl) rfl ?_
  obtain ⟨φ6944, g6945, X6946, H6947⟩ := OSl.freeze X54 (j := 1) rfl O45
  obtain ⟨φ6948, g6949, X6950, H6951⟩ := OSl.freeze X6946 (j := 2) rfl (O47.mono g6945)
  refine lcall rfl rfl ca_25 rfl rfl (f25_ok X6950 e38 5 (H6947.mono g6949) H6951) rfl (fun e6952 v6953 h6954 hq6955 => ?_)
  cases hq6955
  refine lpure (v := .tuple #[.int .i64 e6952.1, .int .i64 e6952.2]) rfl (p_move rfl) rfl rfl ?_
  refine lpure (v := .int .i64 e6952.1) rfl (p_extract rfl) rfl rfl ?_
  refine lpure (v := .int .i64 e6952.2) rfl (p_extract rfl) rfl rfl ?_
  refine lpure (v := .int .i64 e6952.1) rfl (p_assign rfl) rfl rfl ?_
  refine lpure (v := .int .i64 e6952.2) rfl (p_assign rfl) rfl rfl ?_
  refine lend ?_
  refine nseq ?_
  refine dseq ?_
  refine dreg ?_
  refine lread (v := .agg #[.int .i64 e38.Nodes, .slice a45 n45 c45, .slice a47 n47 c47]) rfl (q_load wd_25 rfl) (St.ld X54 (j := 0) rfl rfl) rfl ?_
  obtain ⟨φ6993, g6994, X6995, H6996⟩ := OSl.freeze X54 (j := 1) rfl O45
  obtain ⟨φ6997, g6998, X6999, H7000⟩ := OSl.freeze X6995 (j := 2) rfl (O47.mono g6994)
  refine lcall rfl rfl ca_26 rfl rfl (f26_ok X6999 e38 4 (H6996.mono g6998) H7000) rfl (fun e7001 v7002 h7003 hq7004 => ?_)
  cases hq7004
  refine lpure (v := .tuple #[.int .i64 e7001.1, .int .i64 e7001.2]) rfl (p_move rfl) rfl rfl ?_
  refine lpure (v := .int .i64 e7001.1) rfl (p_extract rfl) rfl rfl ?_
  refine lpure (v := .int .i64 e7001.2) rfl (p_extract rfl) rfl rfl ?_
  refine lpure (v := .int .i64 e7001.1) rfl (p_assign rfl) rfl rfl ?_
  refine lpure (v := .int .i64 e7001.2) rfl (p_assign rfl) rfl rfl ?_
  refine lend ?_
  refine nseq ?_
  refine dseq ?_
  refine dreg ?_
  refine lread (v := .agg #[.int .i64 e38.Nodes, .slice a45 n45 c45, .slice a47 n47 c47]) rfl (q_load wd_25 rfl) (St.ld X54 (j := 0) rfl rfl) rfl ?_
  obtain ⟨φ7737, g7738, X7739, H7740⟩ := OSl.freeze X54 (j := 1) rfl O45
  obtain ⟨φ7741, g7742, X7743, H7744⟩ := OSl.freeze X7739 (j := 2) rfl (O47.mono g7738)
  refine lcall rfl rfl ca_11 rfl rfl (f11_ok X7743 e38 1 (H7740.mono g7742) H7744) rfl ?_
  rintro e7745 _ h7747 ⟨φ7749, a7752, n7752, c7752, ob7752, blk7752, g7750, X7751, rfl, O7752⟩
  refine lpure (v := .tuple #[.slice a7752 n7752 c7752, .int .i64 e7745.2]) rfl (p_move rfl) rfl rfl ?_
  refine lpure (v := .slice a7752 n7752 c7752) rfl (p_extract rfl) rfl rfl ?_
  refine lpure (v := .int .i64 e7745.2) rfl (p_extract rfl) rfl rfl ?_
  refine lpure (v := .slice a7752 n7752 c7752) rfl (p_assign rfl) rfl rfl ?_
  refine lpure (v := .int .i64 e7745.2) rfl (p_assign rfl) rfl rfl ?_
  refine lend ?_
  refine nseq ?_
  refine dseq ?_
  refine dreg ?_
  refine lread (v := .agg #[.int .i64 e38.Nodes, .slice a45 n45 c45, .slice a47 n47 c47]) rfl (q_load wd_25 rfl) (St.ld X7751 (j := 1) rfl rfl) rfl ?_
  refine lcall rfl rfl ca_12 rfl rfl (f12_ok X7751 e38 2 1 (H7740.mono (g7742.trans g7750)) (H7744.mono g7750)) rfl (fun e8223 v8224 h8225 hq8226 => ?_)
  cases hq8226
  refine lpure (v := .tuple #[.int .i64 e8223.1, .int .i64 e8223.2]) rfl (p_move rfl) rfl rfl ?_
  refine lpure (v := .int .i64 e8223.1) rfl (p_extract rfl) rfl rfl ?_
  refine lpure (v := .int .i64 e8223.2) rfl (p_extract rfl) rfl rfl ?_
  refine lpure (v := .int .i64 e8223.1) rfl (p_assign rfl) rfl rfl ?_
  refine lpure (v := .int .i64 e8223.2) rfl (p_assign rfl) rfl rfl ?_
  refine lend ?_
  refine nseq ?_
  refine dseq ?_
  refine dreg ?_
  refine lread (v := .agg #[.int .i64 e38.Nodes, .slice a45 n45 c45, .slice a47 n47 c47]) rfl (q_load wd_25 rfl) (St.ld X7751 (j := 1) rfl rfl) rfl ?_
  obtain ⟨h8227, b8227, hv8227, X8227, O8227⟩ := OSl.lay (E := (eInt .i64)) (φ := φ7749) (cs := [.int .i64 1]) (l := [1]) (len := 1) (parts := [(0, .int .i64 1)]) un_28 ts_3 rfl rfl rfl tz_3 rfl rfl (show RowD (eInt .i64) φ7749 [.int .i64 1] [1] from ⟨[.int .i64 1], _, rfl, rfl, rfl⟩) rfl rfl X7751
  refine lheap rfl (h_buildSlice rfl) hv8227 rfl ?_
  obtain ⟨φ8553, g8554, X8555, H8556⟩ := OSl.freeze X8227 (j := 0) rfl O8227
  refine lcall rfl rfl ca_17 rfl rfl (f17_ok X8555 e38 0 ([1]) (H7740.mono ((g7742.trans g7750).trans g8554)) (H7744.mono (g7750.trans g8554)) H8556) rfl ?_
  rintro e8557 _ h8559 ⟨φ8561, a8564, n8564, c8564, ob8564, blk8564, g8562, X8563, rfl, O8564⟩
  refine lpure (v := .tuple #[.slice a8564 n8564 c8564, .int .i64 e8557.2]) rfl (p_move rfl) rfl rfl ?_
  refine lpure (v := .slice a8564 n8564 c8564) rfl (p_extract rfl) rfl rfl ?_
  refine lpure (v := .int .i64 e8557.2) rfl (p_extract rfl) rfl rfl ?_
  refine lpure (v := .slice a8564 n8564 c8564) rfl (p_assign rfl) rfl rfl ?_
  refine lpure (v := .int .i64 e8557.2) rfl (p_assign rfl) rfl rfl ?_
  refine lend ?_
  refine nseq ?_
  refine dseq ?_
  refine dreg ?_
  refine lread (v := .agg #[.int .i64 e38.Nodes, .slice a45 n45 c45, .slice a47 n47 c47]) rfl (q_load wd_25 rfl) (St.ld X8563 (j := 3) rfl rfl) rfl ?_
  refine lcall rfl rfl ca_23 rfl rfl (f23_ok X8563 e38 6 (H7740.mono (((g7742.trans g7750).trans g8554).trans g8562)) (H7744.mono ((g7750.trans g8554).trans g8562))) rfl (fun e8566 v8567 h8568 hq8569 => ?_)
  cases hq8569
  refine lpure (v := .tuple #[.int .i64 e8566.1, .int .i64 e8566.2]) rfl (p_move rfl) rfl rfl ?_
  refine lpure (v := .int .i64 e8566.1) rfl (p_extract rfl) rfl rfl ?_
  refine lpure (v := .int .i64 e8566.2) rfl (p_extract rfl) rfl rfl ?_
  refine lpure (v := .int .i64 e8566.1) rfl (p_assign rfl) rfl rfl ?_
  refine lpure (v := .int .i64 e8566.2) rfl (p_assign rfl) rfl rfl ?_
  refine lend ?_
  refine nseq ?_
  refine dseq ?_
  refine dreg ?_
  refine lpure (v := .int .i64 e6859.2) rfl (p_move rfl) rfl rfl ?_
  refine lpure (v := .bool (decide (e6859.2 = 0))) rfl (p_eq rfl) rfl rfl ?_
  refine lpure (v := .bool (decide (e6859.2 = 0))) rfl (p_move rfl) rfl rfl ?_
  refine lsh (τ := Bool) (σ := Unit) (fun s8571 (_ : Unit) => [(2, .int .i64 e6859.1), (4, .int .i64 e6903.1), (6, .int .i64 e6952.1), (7, .int .i64 e6952.2), (8, .int .i64 e7001.1), (9, .int .i64 e7001.2), (10, .slice a7752 n7752 c7752), (11, .int .i64 e7745.2), (12, .int .i64 e8223.1), (13, .int .i64 e8223.2), (14, .slice a8564 n8564 c8564), (15, .int .i64 e8557.2), (17, .int .i64 e8566.2), (66, .bool s8571)]) (fun s8571 (_ : Unit) hh => St φ8561 h.n hh ([(ob8564, blk8564), (none, .dead), (ob7752, blk7752), (some b49, .cells [.int .i64 e38.Nodes, .slice a45 n45 c45, .slice a47 n47 c47] 25 .exact), (none, .dead), (none, .dead)])) 3 ?_ ?_
  · rintro s8571 _ t0 h8573 X8572
    refine lpure (v := .bool s8571) rfl (p_move rfl) rfl rfl ?_
    refine lsh (τ := Bool) (σ := Unit) (fun s8575 (_ : Unit) => [(2, .int .i64 e6859.1), (4, .int .i64 e6903.1), (6, .int .i64 e6952.1), (8, .int .i64 e7001.1), (9, .int .i64 e7001.2), (10, .slice a7752 n7752 c7752), (11, .int .i64 e7745.2), (12, .int .i64 e8223.1), (13, .int .i64 e8223.2), (14, .slice a8564 n8564 c8564), (15, .int .i64 e8557.2), (17, .int .i64 e8566.2), (70, .bool s8575)]) (fun s8575 (_ : Unit) hh => St φ8561 h.n hh ([(ob8564, blk8564), (none, .dead), (ob7752, blk7752), (some b49, .cells [.int .i64 e38.Nodes, .slice a45 n45 c45, .slice a47 n47 c47] 25 .exact), (none, .dead), (none, .dead)])) 3 ?_ ?_
    · rintro s8575 _ t0 h8577 X8576
      refine lpure (v := .bool s8575) rfl (p_move rfl) rfl rfl ?_
      refine lsh (τ := Bool) (σ := Unit) (fun s8579 (_ : Unit) => [(2, .int .i64 e6859.1), (4, .int .i64 e6903.1), (6, .int .i64 e6952.1), (8, .int .i64 e7001.1), (10, .slice a7752 n7752 c7752), (11, .int .i64 e7745.2), (12, .int .i64 e8223.1), (13, .int .i64 e8223.2), (14, .slice a8564 n8564 c8564), (15, .int .i64 e8557.2), (17, .int .i64 e8566.2), (74, .bool s8579)]) (fun s8579 (_ : Unit) hh => St φ8561 h.n hh ([(ob8564, blk8564), (none, .dead), (ob7752, blk7752), (some b49, .cells [.int .i64 e38.Nodes, .slice a45 n45 c45, .slice a47 n47 c47] 25 .exact), (none, .dead), (none, .dead)])) 3 ?_ ?_
      · rintro s8579 _ t0 h8581 X8580
        refine lpure (v := .bool s8579) rfl (p_move rfl) rfl rfl ?_
        refine lsh (τ := Bool) (σ := Unit) (fun s8583 (_ : Unit) => [(2, .int .i64 e6859.1), (4, .int .i64 e6903.1), (6, .int .i64 e6952.1), (8, .int .i64 e7001.1), (10, .slice a7752 n7752 c7752), (12, .int .i64 e8223.1), (13, .int .i64 e8223.2), (14, .slice a8564 n8564 c8564), (15, .int .i64 e8557.2), (17, .int .i64 e8566.2), (78, .bool s8583)]) (fun s8583 (_ : Unit) hh => St φ8561 h.n hh ([(ob8564, blk8564), (none, .dead), (ob7752, blk7752), (some b49, .cells [.int .i64 e38.Nodes, .slice a45 n45 c45, .slice a47 n47 c47] 25 .exact), (none, .dead), (none, .dead)])) 3 ?_ ?_
        · rintro s8583 _ t0 h8585 X8584
          refine lpure (v := .bool s8583) rfl (p_move rfl) rfl rfl ?_
          refine lsh (τ := Bool) (σ := Unit) (fun s8587 (_ : Unit) => [(2, .int .i64 e6859.1), (4, .int .i64 e6903.1), (6, .int .i64 e6952.1), (8, .int .i64 e7001.1), (10, .slice a7752 n7752 c7752), (12, .int .i64 e8223.1), (14, .slice a8564 n8564 c8564), (15, .int .i64 e8557.2), (17, .int .i64 e8566.2), (82, .bool s8587)]) (fun s8587 (_ : Unit) hh => St φ8561 h.n hh ([(ob8564, blk8564), (none, .dead), (ob7752, blk7752), (some b49, .cells [.int .i64 e38.Nodes, .slice a45 n45 c45, .slice a47 n47 c47] 25 .exact), (none, .dead), (none, .dead)])) 3 ?_ ?_
          · rintro s8587 _ t0 h8589 X8588
            refine lpure (v := .bool s8587) rfl (p_move rfl) rfl rfl ?_
            refine lsh (τ := Bool) (σ := Unit) (fun s8591 (_ : Unit) => [(2, .int .i64 e6859.1), (4, .int .i64 e6903.1), (6, .int .i64 e6952.1), (8, .int .i64 e7001.1), (10, .slice a7752 n7752 c7752), (12, .int .i64 e8223.1), (14, .slice a8564 n8564 c8564), (17, .int .i64 e8566.2), (86, .bool s8591)]) (fun s8591 (_ : Unit) hh => St φ8561 h.n hh ([(ob8564, blk8564), (none, .dead), (ob7752, blk7752), (some b49, .cells [.int .i64 e38.Nodes, .slice a45 n45 c45, .slice a47 n47 c47] 25 .exact), (none, .dead), (none, .dead)])) 3 ?_ ?_
            · rintro s8591 _ t0 h8593 X8592
              refine lpure (v := .bool s8591) rfl (p_assign rfl) rfl rfl ?_
              refine lend ?_
              refine nseq ?_
              refine dseq ?_
              refine dreg ?_
              refine lpure (v := .bool s8591) rfl (p_move rfl) rfl rfl ?_
              refine lpure (v := .bool s8591) rfl (p_move rfl) rfl rfl ?_
              refine lsh (τ := Bool) (σ := Unit) (fun s8595 (_ : Unit) => [(4, .int .i64 e6903.1), (6, .int .i64 e6952.1), (8, .int .i64 e7001.1), (10, .slice a7752 n7752 c7752), (12, .int .i64 e8223.1), (14, .slice a8564 n8564 c8564), (17, .int .i64 e8566.2), (91, .bool s8595)]) (fun s8595 (_ : Unit) hh => St φ8561 h.n hh ([(ob8564, blk8564), (none, .dead), (ob7752, blk7752), (some b49, .cells [.int .i64 e38.Nodes, .slice a45 n45 c45, .slice a47 n47 c47] 25 .exact), (none, .dead), (none, .dead)])) 3 ?_ ?_
              · rintro s8595 _ t0 h8597 X8596
                refine lpure (v := .bool s8595) rfl (p_move rfl) rfl rfl ?_
                refine lsh (τ := Bool) (σ := Unit) (fun s8599 (_ : Unit) => [(6, .int .i64 e6952.1), (8, .int .i64 e7001.1), (10, .slice a7752 n7752 c7752), (12, .int .i64 e8223.1), (14, .slice a8564 n8564 c8564), (17, .int .i64 e8566.2), (95, .bool s8599)]) (fun s8599 (_ : Unit) hh => St φ8561 h.n hh ([(ob8564, blk8564), (none, .dead), (ob7752, blk7752), (some b49, .cells [.int .i64 e38.Nodes, .slice a45 n45 c45, .slice a47 n47 c47] 25 .exact), (none, .dead), (none, .dead)])) 3 ?_ ?_
                · rintro s8599 _ t0 h8601 X8600
                  refine lpure (v := .bool s8599) rfl (p_move rfl) rfl rfl ?_
                  refine lsh (τ := Bool) (σ := Unit) (fun s8603 (_ : Unit) => [(8, .int .i64 e7001.1), (10, .slice a7752 n7752 c7752), (12, .int .i64 e8223.1), (14, .slice a8564 n8564 c8564), (17, .int .i64 e8566.2), (99, .bool s8603)]) (fun s8603 (_ : Unit) hh => St φ8561 h.n hh ([(ob8564, blk8564), (none, .dead), (ob7752, blk7752), (some b49, .cells [.int .i64 e38.Nodes, .slice a45 n45 c45, .slice a47 n47 c47] 25 .exact), (none, .dead), (none, .dead)])) 3 ?_ ?_
                  · rintro s8603 _ t0 h8605 X8604
                    refine lpure (v := .bool s8603) rfl (p_move rfl) rfl rfl ?_
                    refine lsh (τ := Bool) (σ := Unit) (fun s8607 (_ : Unit) => [(10, .slice a7752 n7752 c7752), (12, .int .i64 e8223.1), (14, .slice a8564 n8564 c8564), (17, .int .i64 e8566.2), (103, .bool s8607)]) (fun s8607 (_ : Unit) hh => St φ8561 h.n hh ([(ob8564, blk8564), (none, .dead), (ob7752, blk7752), (some b49, .cells [.int .i64 e38.Nodes, .slice a45 n45 c45, .slice a47 n47 c47] 25 .exact), (none, .dead), (none, .dead)])) 3 ?_ ?_
                    · rintro s8607 _ t0 h8609 X8608
                      refine lpure (v := .bool s8607) rfl (p_move rfl) rfl rfl ?_
                      refine ljoinM (τ := Bool) (σ := Unit) (fun s8677 (_ : Unit) => [(12, .int .i64 e8223.1), (14, .slice a8564 n8564 c8564), (17, .int .i64 e8566.2), (108, .bool s8677)]) (fun s8677 (_ : Unit) hh => St φ8561 h.n hh ([(ob8564, blk8564), (none, .dead), (ob7752, blk7752), (some b49, .cells [.int .i64 e38.Nodes, .slice a45 n45 c45, .slice a47 n47 c47] 25 .exact), (none, .dead), (none, .dead)])) 4 ?_ ?_
                      · rintro s8677 _ t0 h8679 X8678
                        refine lpure (v := .bool s8677) rfl (p_move rfl) rfl rfl ?_
                        refine lsh (τ := Bool) (σ := Unit) (fun s8681 (_ : Unit) => [(14, .slice a8564 n8564 c8564), (17, .int .i64 e8566.2), (112, .bool s8681)]) (fun s8681 (_ : Unit) hh => St φ8561 h.n hh ([(ob8564, blk8564), (none, .dead), (ob7752, blk7752), (some b49, .cells [.int .i64 e38.Nodes, .slice a45 n45 c45, .slice a47 n47 c47] 25 .exact), (none, .dead), (none, .dead)])) 3 ?_ ?_
                        · rintro s8681 _ t0 h8683 X8682
                          refine lpure (v := .bool s8681) rfl (p_move rfl) rfl rfl ?_
                          refine ljoinM (τ := Bool) (σ := Unit) (fun s8751 (_ : Unit) => [(17, .int .i64 e8566.2), (117, .bool s8751)]) (fun s8751 (_ : Unit) hh => St φ8561 h.n hh ([(ob8564, blk8564), (none, .dead), (ob7752, blk7752), (some b49, .cells [.int .i64 e38.Nodes, .slice a45 n45 c45, .slice a47 n47 c47] 25 .exact), (none, .dead), (none, .dead)])) 4 ?_ ?_
                          · rintro s8751 _ t0 h8753 X8752
                            refine lpure (v := .bool s8751) rfl (p_move rfl) rfl rfl ?_
                            refine lsh (τ := Bool) (σ := Unit) (fun s8755 (_ : Unit) => [(121, .bool s8755)]) (fun s8755 (_ : Unit) hh => St φ8561 h.n hh ([(ob8564, blk8564), (none, .dead), (ob7752, blk7752), (some b49, .cells [.int .i64 e38.Nodes, .slice a45 n45 c45, .slice a47 n47 c47] 25 .exact), (none, .dead), (none, .dead)])) 3 ?_ ?_
                            · rintro s8755 _ t0 h8757 X8756
                              refine lpure (v := .bool s8755) rfl (p_move rfl) rfl rfl ?_
                              refine ljoinM (τ := Bool) (σ := Unit) (fun s8764 (_ : Unit) => [(126, .bool s8764)]) (fun s8764 (_ : Unit) hh => St φ8561 h.n hh ([(ob8564, blk8564), (none, .dead), (ob7752, blk7752), (some b49, .cells [.int .i64 e38.Nodes, .slice a45 n45 c45, .slice a47 n47 c47] 25 .exact), (none, .dead), (none, .dead)])) 4 ?_ ?_
                              · rintro s8764 _ t0 h8766 X8765
                                refine lpure (v := .bool s8764) rfl (p_assign rfl) rfl rfl ?_
                                refine lend ?_
                                refine nseq ?_
                                refine dret ?_
                                exact kcut_r (res_1 resT) X8765 rfl rfl
                              · intro j8767 J8768
                                refine lif (i := 122) (show _ = Value.bool s8755 from rfl) (fun k8769 => ?_) (fun k8769 => ?_)
                                · refine lpure (v := .agg #[.int .i64 0, .slice none 0 0, .slice none 0 0]) rfl (p_build rfl) (build_st' tz_25 pl_25 rfl) rfl ?_
                                  refine lcall rfl rfl ca_34 rfl rfl (f34_ok X8756 ((ApiTopo.mk 0 [] [])) (.inl ⟨rfl, rfl⟩) (.inl ⟨rfl, rfl⟩)) rfl (fun e8770 v8771 h8772 hq8773 => ?_)
                                  cases hq8773
                                  refine lpure (v := .bool (decide (e8770 = 260))) rfl (p_eq rfl) rfl rfl ?_
                                  refine lpure (v := .bool (decide (e8770 = 260))) rfl (p_pick rfl) rfl rfl ?_
                                  exact ljmpM J8768 (decide (e8770 = 260)) () (sub_cons rfl sub_nil) (St.pick X8756 (.keep _ (.none _ (.skip _ (.keep _ (.keep _ (.none _ (.none _ (.nil _)))))))))
                                · refine lskip rfl rfl ?_
                                  refine lskip rfl rfl ?_
                                  refine lskip rfl rfl ?_
                                  refine lpure (v := .bool false) rfl (p_pick rfl) rfl rfl ?_
                                  exact ljmpM J8768 false () (sub_cons rfl sub_nil) (St.pick X8756 (.keep _ (.none _ (.skip _ (.keep _ (.keep _ (.none _ (.none _ (.nil _)))))))))
                            · intro j8774 J8775
                              refine lcase (i := 118) (show _ = Value.bool s8751 from rfl) (fun k8776 => ?_) (fun k8776 => ?_)
                              · refine lpure (v := .int .i64 e8566.2) rfl (p_move rfl) rfl rfl ?_
                                refine lpure (v := .bool (decide (e8566.2 = 2))) rfl (p_eq rfl) rfl rfl ?_
                                refine lpure (v := .bool (decide (e8566.2 = 2))) rfl (p_pick rfl) rfl rfl ?_
                                refine Sim.of_eq (congrArg j8774 (show (s8751 && (decide (e8566.2 = 2))) = (decide (e8566.2 = 2)) from by rw [k8776] <;> rfl)) ?_
                                exact ljmpM J8775 (decide (e8566.2 = 2)) () (sub_cons rfl sub_nil) (St.pick X8752 (.keep _ (.none _ (.skip _ (.keep _ (.keep _ (.none _ (.none _ (.nil _)))))))))
                              · refine lskip rfl rfl ?_
                                refine lskip rfl rfl ?_
                                refine lpure (v := .bool false) rfl (p_pick rfl) rfl rfl ?_
                                refine Sim.of_eq (congrArg j8774 (show (s8751 && (decide (e8566.2 = 2))) = false from by rw [k8776] <;> rfl)) ?_
                                exact ljmpM J8775 false () (sub_cons rfl sub_nil) (St.pick X8752 (.keep _ (.none _ (.skip _ (.keep _ (.keep _ (.none _ (.none _ (.nil _)))))))))
                          · intro j8777 J8778
                            refine lif (i := 113) (show _ = Value.bool s8681 from rfl) (fun k8779 => ?_) (fun k8779 => ?_)
                            · refine lpure (v := .slice a8564 n8564 c8564) rfl (p_move rfl) rfl rfl ?_
                              obtain ⟨h8780, b8780, hv8780, X8780, O8780⟩ := OSl.lay (E := eBool) (φ := φ8561) (cs := [.bool true, .bool true, .bool false, .bool false]) (l := [true, true, false, false]) (len := 4) (parts := [(0, .bool true), (1, .bool true), (2, .bool false), (3, .bool false)]) un_22 ts_4 rfl rfl rfl tz_4 rfl rfl (show RowD eBool φ8561 [.bool true, .bool true, .bool false, .bool false] [true, true, false, false] from ⟨[.bool true], _, rfl, rfl, ⟨[.bool true], _, rfl, rfl, ⟨[.bool false], _, rfl, rfl, ⟨[.bool false], _, rfl, rfl, rfl⟩⟩⟩⟩) rfl rfl X8682
                              refine lheap rfl (h_buildSlice rfl) hv8780 rfl ?_
                              obtain ⟨φ8782, g8783, X8784, H8785⟩ := OSl.freeze X8780 (j := 1) rfl O8564
                              obtain ⟨φ8786, g8787, X8788, H8789⟩ := OSl.freeze X8784 (j := 0) rfl (O8780.mono g8783)
                              refine lcall rfl rfl ca_18 rfl rfl (f18_ok X8788 (e8557.1) ([true, true, false, false]) (H8785.mono g8787) H8789) rfl (fun e8790 v8791 h8792 hq8793 => ?_)
                              cases hq8793
                              refine lpure (v := .bool e8790) rfl (p_pick rfl) rfl rfl ?_
                              exact ljmpM J8778 e8790 () (sub_cons rfl (sub_cons rfl sub_nil)) (St.pick X8780 (.skip _ (.keep _ (.none _ (.skip _ (.keep _ (.keep _ (.none _ (.none _ (.nil _))))))))))
                            · refine lskip rfl rfl ?_
                              refine lskip rfl rfl ?_
                              refine lskip rfl rfl ?_
                              refine lpure (v := .bool false) rfl (p_pick rfl) rfl rfl ?_
                              exact ljmpM J8778 false () (sub_cons rfl (sub_cons rfl sub_nil)) (St.pick X8682 (.keep _ (.none _ (.skip _ (.keep _ (.keep _ (.none _ (.none _ (.nil _)))))))))
                        · intro j8794 J8795
                          refine lcase (i := 109) (show _ = Value.bool s8677 from rfl) (fun k8796 => ?_) (fun k8796 => ?_)
                          · refine lpure (v := .int .i64 e8223.1) rfl (p_move rfl) rfl rfl ?_
                            refine lpure (v := .bool (decide (e8223.1 = 3))) rfl (p_eq rfl) rfl rfl ?_
                            refine lpure (v := .bool (decide (e8223.1 = 3))) rfl (p_pick rfl) rfl rfl ?_
                            refine Sim.of_eq (congrArg j8794 (show (s8677 && (decide (e8223.1 = 3))) = (decide (e8223.1 = 3)) from by rw [k8796] <;> rfl)) ?_
                            exact ljmpM J8795 (decide (e8223.1 = 3)) () (sub_cons rfl (sub_cons rfl (sub_cons rfl sub_nil))) (St.pick X8678 (.keep _ (.none _ (.skip _ (.keep _ (.keep _ (.none _ (.none _ (.nil _)))))))))
                          · refine lskip rfl rfl ?_
                            refine lskip rfl rfl ?_
                            refine lpure (v := .bool false) rfl (p_pick rfl) rfl rfl ?_
                            refine Sim.of_eq (congrArg j8794 (show (s8677 && (decide (e8223.1 = 3))) = false from by rw [k8796] <;> rfl)) ?_
                            exact ljmpM J8795 false () (sub_cons rfl (sub_cons rfl (sub_cons rfl sub_nil))) (St.pick X8678 (.keep _ (.none _ (.skip _ (.keep _ (.keep _ (.none _ (.none _ (.nil _)))))))))
                      · intro j8797 J8798
                        refine lif (i := 104) (show _ = Value.bool s8607 from rfl) (fun k8799 => ?_) (fun k8799 => ?_)
                        · refine lpure (v := .slice a7752 n7752 c7752) rfl (p_move rfl) rfl rfl ?_
                          obtain ⟨h8800, b8800, hv8800, X8800, O8800⟩ := OSl.lay (E := (eInt .i64)) (φ := φ8561) (cs := [.int .i64 1, .int .i64 2]) (l := [1, 2]) (len := 2) (parts := [(0, .int .i64 1), (1, .int .i64 2)]) un_28 ts_3 rfl rfl rfl tz_3 rfl rfl (show RowD (eInt .i64) φ8561 [.int .i64 1, .int .i64 2] [1, 2] from ⟨[.int .i64 1], _, rfl, rfl, ⟨[.int .i64 2], _, rfl, rfl, rfl⟩⟩) rfl rfl X8608
                          refine lheap rfl (h_buildSlice rfl) hv8800 rfl ?_
                          obtain ⟨φ8802, g8803, X8804, H8805⟩ := OSl.freeze X8800 (j := 3) rfl (O7752.mono (g8554.trans g8562))
                          obtain ⟨φ8806, g8807, X8808, H8809⟩ := OSl.freeze X8804 (j := 0) rfl (O8800.mono g8803)
                          refine lcall rfl rfl ca_14 rfl rfl (f14_ok X8808 (e7745.1) ([1, 2]) (H8805.mono g8807) H8809) rfl (fun e8810 v8811 h8812 hq8813 => ?_)
                          cases hq8813
                          refine lpure (v := .bool e8810) rfl (p_pick rfl) rfl rfl ?_
                          exact ljmpM J8798 e8810 () (sub_cons rfl (sub_cons rfl (sub_cons rfl (sub_cons rfl sub_nil)))) (St.pick X8800 (.skip _ (.keep _ (.none _ (.skip _ (.keep _ (.keep _ (.none _ (.none _ (.nil _))))))))))
                        · refine lskip rfl rfl ?_
                          refine lskip rfl rfl ?_
                          refine lskip rfl rfl ?_
                          refine lpure (v := .bool false) rfl (p_pick rfl) rfl rfl ?_
                          exact ljmpM J8798 false () (sub_cons rfl (sub_cons rfl (sub_cons rfl (sub_cons rfl sub_nil)))) (St.pick X8608 (.keep _ (.none _ (.skip _ (.keep _ (.keep _ (.none _ (.none _ (.nil _)))))))))
                    · intro j8814 J8815
                      refine lcase (i := 100) (show _ = Value.bool s8603 from rfl) (fun k8816 => ?_) (fun k8816 => ?_)
                      · refine lpure (v := .int .i64 e7001.1) rfl (p_move rfl) rfl rfl ?_
                        refine lpure (v := .bool (decide (e7001.1 = 7))) rfl (p_eq rfl) rfl rfl ?_
                        refine lpure (v := .bool (decide (e7001.1 = 7))) rfl (p_pick rfl) rfl rfl ?_
                        refine Sim.of_eq (congrArg j8814 (show (s8603 && (decide (e7001.1 = 7))) = (decide (e7001.1 = 7)) from by rw [k8816] <;> rfl)) ?_
                        exact ljmpM J8815 (decide (e7001.1 = 7)) () (sub_cons rfl (sub_cons rfl (sub_cons rfl (sub_cons rfl (sub_cons rfl sub_nil))))) (St.pick X8604 (.keep _ (.none _ (.skip _ (.keep _ (.keep _ (.none _ (.none _ (.nil _)))))))))
                      · refine lskip rfl rfl ?_
                        refine lskip rfl rfl ?_
                        refine lpure (v := .bool false) rfl (p_pick rfl) rfl rfl ?_
                        refine Sim.of_eq (congrArg j8814 (show (s8603 && (decide (e7001.1 = 7))) = false from by rw [k8816] <;> rfl)) ?_
                        exact ljmpM J8815 false () (sub_cons rfl (sub_cons rfl (sub_cons rfl (sub_cons rfl (sub_cons rfl sub_nil))))) (St.pick X8604 (.keep _ (.none _ (.skip _ (.keep _ (.keep _ (.none _ (.none _ (.nil _)))))))))
                  · intro j8817 J8818
                    refine lcase (i := 96) (show _ = Value.bool s8599 from rfl) (fun k8819 => ?_) (fun k8819 => ?_)
                    · refine lpure (v := .int .i64 e6952.1) rfl (p_move rfl) rfl rfl ?_
                      refine lpure (v := .bool (decide (e6952.1 = 80))) rfl (p_eq rfl) rfl rfl ?_
                      refine lpure (v := .bool (decide (e6952.1 = 80))) rfl (p_pick rfl) rfl rfl ?_
                      refine Sim.of_eq (congrArg j8817 (show (s8599 && (decide (e6952.1 = 80))) = (decide (e6952.1 = 80)) from by rw [k8819] <;> rfl)) ?_
                      exact ljmpM J8818 (decide (e6952.1 = 80)) () (sub_cons rfl (sub_cons rfl (sub_cons rfl (sub_cons rfl (sub_cons rfl (sub_cons rfl sub_nil)))))) (St.pick X8600 (.keep _ (.none _ (.skip _ (.keep _ (.keep _ (.none _ (.none _ (.nil _)))))))))
                    · refine lskip rfl rfl ?_
                      refine lskip rfl rfl ?_
                      refine lpure (v := .bool false) rfl (p_pick rfl) rfl rfl ?_
                      refine Sim.of_eq (congrArg j8817 (show (s8599 && (decide (e6952.1 = 80))) = false from by rw [k8819] <;> rfl)) ?_
                      exact ljmpM J8818 false () (sub_cons rfl (sub_cons rfl (sub_cons rfl (sub_cons rfl (sub_cons rfl (sub_cons rfl sub_nil)))))) (St.pick X8600 (.keep _ (.none _ (.skip _ (.keep _ (.keep _ (.none _ (.none _ (.nil _)))))))))
                · intro j8820 J8821
                  refine lcase (i := 92) (show _ = Value.bool s8595 from rfl) (fun k8822 => ?_) (fun k8822 => ?_)
                  · refine lpure (v := .int .i64 e6903.1) rfl (p_move rfl) rfl rfl ?_
                    refine lpure (v := .bool (decide (e6903.1 = 1))) rfl (p_eq rfl) rfl rfl ?_
                    refine lpure (v := .bool (decide (e6903.1 = 1))) rfl (p_pick rfl) rfl rfl ?_
                    refine Sim.of_eq (congrArg j8820 (show (s8595 && (decide (e6903.1 = 1))) = (decide (e6903.1 = 1)) from by rw [k8822] <;> rfl)) ?_
                    exact ljmpM J8821 (decide (e6903.1 = 1)) () (sub_cons rfl (sub_cons rfl (sub_cons rfl (sub_cons rfl (sub_cons rfl (sub_cons rfl (sub_cons rfl sub_nil))))))) (St.pick X8596 (.keep _ (.none _ (.skip _ (.keep _ (.keep _ (.none _ (.none _ (.nil _)))))))))
                  · refine lskip rfl rfl ?_
                    refine lskip rfl rfl ?_
                    refine lpure (v := .bool false) rfl (p_pick rfl) rfl rfl ?_
                    refine Sim.of_eq (congrArg j8820 (show (s8595 && (decide (e6903.1 = 1))) = false from by rw [k8822] <;> rfl)) ?_
                    exact ljmpM J8821 false () (sub_cons rfl (sub_cons rfl (sub_cons rfl (sub_cons rfl (sub_cons rfl (sub_cons rfl (sub_cons rfl sub_nil))))))) (St.pick X8596 (.keep _ (.none _ (.skip _ (.keep _ (.keep _ (.none _ (.none _ (.nil _)))))))))
              · intro j8823 J8824
                refine lcase (i := 88) (show _ = Value.bool s8591 from rfl) (fun k8825 => ?_) (fun k8825 => ?_)
                · refine lpure (v := .int .i64 e6859.1) rfl (p_move rfl) rfl rfl ?_
                  refine lpure (v := .bool (decide (e6859.1 = 0))) rfl (p_eq rfl) rfl rfl ?_
                  refine lpure (v := .bool (decide (e6859.1 = 0))) rfl (p_pick rfl) rfl rfl ?_
                  refine Sim.of_eq (congrArg j8823 (show (s8591 && (decide (e6859.1 = 0))) = (decide (e6859.1 = 0)) from by rw [k8825] <;> rfl)) ?_
                  exact ljmpM J8824 (decide (e6859.1 = 0)) () (sub_cons rfl (sub_cons rfl (sub_cons rfl (sub_cons rfl (sub_cons rfl (sub_cons rfl (sub_cons rfl (sub_cons rfl sub_nil)))))))) (St.pick X8592 (.keep _ (.none _ (.skip _ (.keep _ (.keep _ (.none _ (.none _ (.nil _)))))))))
                · refine lskip rfl rfl ?_
                  refine lskip rfl rfl ?_
                  refine lpure (v := .bool false) rfl (p_pick rfl) rfl rfl ?_
                  refine Sim.of_eq (congrArg j8823 (show (s8591 && (decide (e6859.1 = 0))) = false from by rw [k8825] <;> rfl)) ?_
                  exact ljmpM J8824 false () (sub_cons rfl (sub_cons rfl (sub_cons rfl (sub_cons rfl (sub_cons rfl (sub_cons rfl (sub_cons rfl (sub_cons rfl sub_nil)))))))) (St.pick X8592 (.keep _ (.none _ (.skip _ (.keep _ (.keep _ (.none _ (.none _ (.nil _)))))))))
            · intro j8826 J8827
              refine lcase (i := 83) (show _ = Value.bool s8587 from rfl) (fun k8828 => ?_) (fun k8828 => ?_)
              · refine lpure (v := .int .i64 e8557.2) rfl (p_move rfl) rfl rfl ?_
                refine lpure (v := .bool (decide (e8557.2 = 0))) rfl (p_eq rfl) rfl rfl ?_
                refine lpure (v := .bool (decide (e8557.2 = 0))) rfl (p_pick rfl) rfl rfl ?_
                refine Sim.of_eq (congrArg j8826 (show (s8587 && (decide (e8557.2 = 0))) = (decide (e8557.2 = 0)) from by rw [k8828] <;> rfl)) ?_
                exact ljmpM J8827 (decide (e8557.2 = 0)) () (sub_cons rfl (sub_cons rfl (sub_cons rfl (sub_cons rfl (sub_cons rfl (sub_cons rfl (sub_cons rfl (sub_cons rfl (sub_cons rfl sub_nil))))))))) (St.pick X8588 (.keep _ (.none _ (.skip _ (.keep _ (.keep _ (.none _ (.none _ (.nil _)))))))))
              · refine lskip rfl rfl ?_
                refine lskip rfl rfl ?_
                refine lpure (v := .bool false) rfl (p_pick rfl) rfl rfl ?_
                refine Sim.of_eq (congrArg j8826 (show (s8587 && (decide (e8557.2 = 0))) = false from by rw [k8828] <;> rfl)) ?_
                exact ljmpM J8827 false () (sub_cons rfl (sub_cons rfl (sub_cons rfl (sub_cons rfl (sub_cons rfl (sub_cons rfl (sub_cons rfl (sub_cons rfl (sub_cons rfl sub_nil))))))))) (St.pick X8588 (.keep _ (.none _ (.skip _ (.keep _ (.keep _ (.none _ (.none _ (.nil _)))))))))
          · intro j8829 J8830
            refine lcase (i := 79) (show _ = Value.bool s8583 from rfl) (fun k8831 => ?_) (fun k8831 => ?_)
            · refine lpure (v := .int .i64 e8223.2) rfl (p_move rfl) rfl rfl ?_
              refine lpure (v := .bool (decide (e8223.2 = 0))) rfl (p_eq rfl) rfl rfl ?_
              refine lpure (v := .bool (decide (e8223.2 = 0))) rfl (p_pick rfl) rfl rfl ?_
              refine Sim.of_eq (congrArg j8829 (show (s8583 && (decide (e8223.2 = 0))) = (decide (e8223.2 = 0)) from by rw [k8831] <;> rfl)) ?_
              exact ljmpM J8830 (decide (e8223.2 = 0)) () (sub_cons rfl (sub_cons rfl (sub_cons rfl (sub_cons rfl (sub_cons rfl (sub_cons rfl (sub_cons rfl (sub_cons rfl (sub_cons rfl (sub_cons rfl sub_nil)))))))))) (St.pick X8584 (.keep _ (.none _ (.skip _ (.keep _ (.keep _ (.none _ (.none _ (.nil _)))))))))
            · refine lskip rfl rfl ?_
              refine lskip rfl rfl ?_
              refine lpure (v := .bool false) rfl (p_pick rfl) rfl rfl ?_
              refine Sim.of_eq (congrArg j8829 (show (s8583 && (decide (e8223.2 = 0))) = false from by rw [k8831] <;> rfl)) ?_
              exact ljmpM J8830 false () (sub_cons rfl (sub_cons rfl (sub_cons rfl (sub_cons rfl (sub_cons rfl (sub_cons rfl (sub_cons rfl (sub_cons rfl (sub_cons rfl (sub_cons rfl sub_nil)))))))))) (St.pick X8584 (.keep _ (.none _ (.skip _ (.keep _ (.keep _ (.none _ (.none _ (.nil _)))))))))
        · intro j8832 J8833
          refine lcase (i := 75) (show _ = Value.bool s8579 from rfl) (fun k8834 => ?_) (fun k8834 => ?_)
          · refine lpure (v := .int .i64 e7745.2) rfl (p_move rfl) rfl rfl ?_
            refine lpure (v := .bool (decide (e7745.2 = 0))) rfl (p_eq rfl) rfl rfl ?_
            refine lpure (v := .bool (decide (e7745.2 = 0))) rfl (p_pick rfl) rfl rfl ?_
            refine Sim.of_eq (congrArg j8832 (show (s8579 && (decide (e7745.2 = 0))) = (decide (e7745.2 = 0)) from by rw [k8834] <;> rfl)) ?_
            exact ljmpM J8833 (decide (e7745.2 = 0)) () (sub_cons rfl (sub_cons rfl (sub_cons rfl (sub_cons rfl (sub_cons rfl (sub_cons rfl (sub_cons rfl (sub_cons rfl (sub_cons rfl (sub_cons rfl (sub_cons rfl sub_nil))))))))))) (St.pick X8580 (.keep _ (.none _ (.skip _ (.keep _ (.keep _ (.none _ (.none _ (.nil _)))))))))
          · refine lskip rfl rfl ?_
            refine lskip rfl rfl ?_
            refine lpure (v := .bool false) rfl (p_pick rfl) rfl rfl ?_
            refine Sim.of_eq (congrArg j8832 (show (s8579 && (decide (e7745.2 = 0))) = false from by rw [k8834] <;> rfl)) ?_
            exact ljmpM J8833 false () (sub_cons rfl (sub_cons rfl (sub_cons rfl (sub_cons rfl (sub_cons rfl (sub_cons rfl (sub_cons rfl (sub_cons rfl (sub_cons rfl (sub_cons rfl (sub_cons rfl sub_nil))))))))))) (St.pick X8580 (.keep _ (.none _ (.skip _ (.keep _ (.keep _ (.none _ (.none _ (.nil _)))))))))
      · intro j8835 J8836
        refine lcase (i := 71) (show _ = Value.bool s8575 from rfl) (fun k8837 => ?_) (fun k8837 => ?_)
        · refine lpure (v := .int .i64 e7001.2) rfl (p_move rfl) rfl rfl ?_
          refine lpure (v := .bool (decide (e7001.2 = 0))) rfl (p_eq rfl) rfl rfl ?_
          refine lpure (v := .bool (decide (e7001.2 = 0))) rfl (p_pick rfl) rfl rfl ?_
          refine Sim.of_eq (congrArg j8835 (show (s8575 && (decide (e7001.2 = 0))) = (decide (e7001.2 = 0)) from by rw [k8837] <;> rfl)) ?_
          exact ljmpM J8836 (decide (e7001.2 = 0)) () (sub_cons rfl (sub_cons rfl (sub_cons rfl (sub_cons rfl (sub_cons rfl (sub_cons rfl (sub_cons rfl (sub_cons rfl (sub_cons rfl (sub_cons rfl (sub_cons rfl (sub_cons rfl sub_nil)))))))))))) (St.pick X8576 (.keep _ (.none _ (.skip _ (.keep _ (.keep _ (.none _ (.none _ (.nil _)))))))))
        · refine lskip rfl rfl ?_
          refine lskip rfl rfl ?_
          refine lpure (v := .bool false) rfl (p_pick rfl) rfl rfl ?_
          refine Sim.of_eq (congrArg j8835 (show (s8575 && (decide (e7001.2 = 0))) = false from by rw [k8837] <;> rfl)) ?_
          exact ljmpM J8836 false () (sub_cons rfl (sub_cons rfl (sub_cons rfl (sub_cons rfl (sub_cons rfl (sub_cons rfl (sub_cons rfl (sub_cons rfl (sub_cons rfl (sub_cons rfl (sub_cons rfl (sub_cons rfl sub_nil)))))))))))) (St.pick X8576 (.keep _ (.none _ (.skip _ (.keep _ (.keep _ (.none _ (.none _ (.nil _)))))))))
    · intro j8838 J8839
      refine lcase (i := 67) (show _ = Value.bool s8571 from rfl) (fun k8840 => ?_) (fun k8840 => ?_)
      · refine lpure (v := .int .i64 e6952.2) rfl (p_move rfl) rfl rfl ?_
        refine lpure (v := .bool (decide (e6952.2 = 0))) rfl (p_eq rfl) rfl rfl ?_
        refine lpure (v := .bool (decide (e6952.2 = 0))) rfl (p_pick rfl) rfl rfl ?_
        refine Sim.of_eq (congrArg j8838 (show (s8571 && (decide (e6952.2 = 0))) = (decide (e6952.2 = 0)) from by rw [k8840] <;> rfl)) ?_
        exact ljmpM J8839 (decide (e6952.2 = 0)) () (sub_cons rfl (sub_cons rfl (sub_cons rfl (sub_cons rfl (sub_cons rfl (sub_cons rfl (sub_cons rfl (sub_cons rfl (sub_cons rfl (sub_cons rfl (sub_cons rfl (sub_cons rfl (sub_cons rfl sub_nil))))))))))))) (St.pick X8572 (.keep _ (.none _ (.skip _ (.keep _ (.keep _ (.none _ (.none _ (.nil _)))))))))
      · refine lskip rfl rfl ?_
        refine lskip rfl rfl ?_
        refine lpure (v := .bool false) rfl (p_pick rfl) rfl rfl ?_
        refine Sim.of_eq (congrArg j8838 (show (s8571 && (decide (e6952.2 = 0))) = false from by rw [k8840] <;> rfl)) ?_
        exact ljmpM J8839 false () (sub_cons rfl (sub_cons rfl (sub_cons rfl (sub_cons rfl (sub_cons rfl (sub_cons rfl (sub_cons rfl (sub_cons rfl (sub_cons rfl (sub_cons rfl (sub_cons rfl (sub_cons rfl (sub_cons rfl sub_nil))))))))))))) (St.pick X8572 (.keep _ (.none _ (.skip _ (.keep _ (.keep _ (.none _ (.none _ (.nil _)))))))))
  · intro j8841 J8842
    refine lcase (i := 63) (show _ = Value.bool (decide (e6859.2 = 0)) from rfl) (fun k8843 => ?_) (fun k8843 => ?_)
    · refine lpure (v := .int .i64 e6903.2) rfl (p_move rfl) rfl rfl ?_
      refine lpure (v := .bool (decide (e6903.2 = 0))) rfl (p_eq rfl) rfl rfl ?_
      refine lpure (v := .bool (decide (e6903.2 = 0))) rfl (p_pick rfl) rfl rfl ?_
      refine Sim.of_eq (congrArg j8841 (show ((decide (e6859.2 = 0)) && (decide (e6903.2 = 0))) = (decide (e6903.2 = 0)) from by rw [k8843] <;> rfl)) ?_
      exact ljmpM J8842 (decide (e6903.2 = 0)) () (sub_cons rfl (sub_cons rfl (sub_cons rfl (sub_cons rfl (sub_cons rfl (sub_cons rfl (sub_cons rfl (sub_cons rfl (sub_cons rfl (sub_cons rfl (sub_cons rfl (sub_cons rfl (sub_cons rfl (sub_cons rfl sub_nil)))))))))))))) (St.pick X8563 (.keep _ (.none _ (.skip _ (.keep _ (.keep _ (.none _ (.none _ (.nil _)))))))))
    · refine lskip rfl rfl ?_
      refine lskip rfl rfl ?_
      refine lpure (v := .bool false) rfl (p_pick rfl) rfl rfl ?_
      refine Sim.of_eq (congrArg j8841 (show ((decide (e6859.2 = 0)) && (decide (e6903.2 = 0))) = false from by rw [k8843] <;> rfl)) ?_
      exact ljmpM J8842 false () (sub_cons rfl (sub_cons rfl (sub_cons rfl (sub_cons rfl (sub_cons rfl (sub_cons rfl (sub_cons rfl (sub_cons rfl (sub_cons rfl (sub_cons rfl (sub_cons rfl (sub_cons rfl (sub_cons rfl (sub_cons rfl sub_nil)))))))))))))) (St.pick X8563 (.keep _ (.none _ (.skip _ (.keep _ (.keep _ (.none _ (.none _ (.nil _)))))))))
/-! isochron/isochronref16.pick -/
theorem f50_ok {n : Nat} {φ : Fz} {lo : Nat} {h : Heap} {own : OwnL}  {a8906 : Option Addr} {n8906 c8906 : Nat} (X : St φ lo h (own)) (p8905 : (List Int)) (p8907 : Int) (H8906 : RSl (eInt .u8) φ (.slice a8906 n8906 c8906) p8905) : Sim ((recN Try.prog LL cutF (n + 1)).call 50 #[(.slice a8906 n8906 c8906), (.int .i64 p8907)] h) (m_isochronref16_pick p8905 p8907) (fun (d : Int) p => p = (.int .i64 d, h)) := by
  refine fcut Try.func50 rfl rfl rfl rfl X ?_
  intro h0 X0
  refine dseq ?_
  refine dreg ?_
  refine lpure (v := .int .i64 0) rfl (p_assign rfl) rfl rfl ?_
  refine lend ?_
  refine nseq ?_
  refine dseq ?_
  refine dseq ?_
  refine dreg ?_
  refine lpure (v := .int .i64 p8907) rfl (p_move rfl) rfl rfl ?_
  refine lpure (v := .slice a8906 n8906 c8906) rfl (p_move rfl) rfl rfl ?_
  refine lpure (v := .int .i64 (p8905.length : Int)) rfl (p_len rfl rfl rfl un_44 rfl) (RSl.lenC H8906) rfl ?_
  refine lpure (v := .bool (decide (p8907 < (p8905.length : Int)))) rfl (p_lt rfl) rfl rfl ?_
  refine lend ?_
  refine nseq ?_
  refine dcond rfl rfl (fun k8908 => ?_) (fun k8908 => ?_)
  · refine dseq ?_
    refine dreg ?_
    refine lpure (v := .slice a8906 n8906 c8906) rfl (p_move rfl) rfl rfl ?_
    refine lpure (v := .int .i64 p8907) rfl (p_move rfl) rfl rfl ?_
    refine Sim.bindM fun e8909 he8910 => ?_
    obtain ⟨p8911, cs8911, hp8911, hF8911, hR8911⟩ := RSl.ia H8906 he8910 (kd := .i64) (n := 1) rfl
    have hR8911 : _ = [(.int .u8 e8909 : Value)] := hR8911
    subst hR8911
    refine lpure (v := p8911) rfl (p_ia rs_44 rfl) hp8911 rfl ?_
    refine lread (v := .int .u8 e8909) rfl (q_load wd_5 rfl) (FP.ld X0 hF8911) rfl ?_
    refine lpure (v := .int .i64 (w64 e8909)) rfl (p_conv un_5 un_3 rfl) rfl rfl ?_
    refine lpure (v := .int .i64 (w64 e8909)) rfl (p_assign rfl) rfl rfl ?_
    refine lend ?_
    refine nseq ?_
    refine dret ?_
    refine rseq ?_
    exact kcut_r (res_1 resT) X0 rfl rfl
  · refine dskip ?_
    refine nseq ?_
    refine dseq ?_
    refine dreg ?_
    refine lpure (v := .int .i64 0) rfl (p_assign rfl) rfl rfl ?_
    refine lend ?_
    refine nseq ?_
    refine dret ?_
    exact kcut_r (res_1 resT) X0 rfl rfl
/-! isochron/isochronref16.node -/
theorem f63_ok {n : Nat} {φ : Fz} {lo : Nat} {h : Heap} {own : OwnL}  {a8942 : Option Addr} {n8942 c8942 : Nat} {a8943 : Option Addr} {n8943 c8943 : Nat} (X : St φ lo h (own)) (p8941 : ApiTopo) (p8944 : Int) (H8942 : RSl eBool φ (.slice a8942 n8942 c8942) p8941.Station) (H8943 : RSl eApiLink φ (.slice a8943 n8943 c8943) p8941.Links) : Sim ((recN Try.prog LL cutF (n + 1)).call 63 #[(.agg #[.int .i64 p8941.Nodes, .slice a8942 n8942 c8942, .slice a8943 n8943 c8943]), (.int .i64 p8944)] h) (m_isochronref16_node p8941 p8944) (fun (d : Bool) p => p = (.bool d, h)) := by
  refine fcut Try.func63 rfl rfl rfl rfl X ?_
  intro h0 X0
  refine dseq ?_
  refine dreg ?_
  refine lbox rfl rfl rfl rfl rfl X0 (fun b8945 h8947 X8948 => ?_)
  refine lpure (v := .bool false) rfl (p_assign rfl) rfl rfl ?_
  refine lend ?_
  refine nseq ?_
  refine dseq ?_
  refine dreg ?_
  refine lpure (v := .int .i64 p8944) rfl (p_move rfl) rfl rfl ?_
  refine lpure (v := .bool (decide (0 ≤ p8944))) rfl (p_ge rfl) rfl rfl ?_
  refine lpure (v := .bool (decide (0 ≤ p8944))) rfl (p_move rfl) rfl rfl ?_
  refine lsh (τ := Bool) (σ := Unit) (fun s8950 (_ : Unit) => [(12, .bool s8950)]) (fun s8950 (_ : Unit) hh => St φ h.n hh ([(some b8945, .cells [.int .i64 p8941.Nodes, .slice a8942 n8942 c8942, .slice a8943 n8943 c8943] 25 .exact)])) 5 ?_ ?_
  · rintro s8950 _ t0 h8952 X8951
    refine lpure (v := .bool s8950) rfl (p_assign rfl) rfl rfl ?_
    refine lend ?_
    refine nseq ?_
    refine dret ?_
    exact kcut_r (res_1 resT) X8951 rfl rfl
  · intro j8953 J8954
    refine lcase (i := 7) (show _ = Value.bool (decide (0 ≤ p8944)) from rfl) (fun k8955 => ?_) (fun k8955 => ?_)
    · refine lpure (v := .int .i64 p8944) rfl (p_move rfl) rfl rfl ?_
      refine lpure (v := .pointer (some ⟨b8945, 0, none⟩)) rfl (p_fa fo_25_0 rfl) rfl rfl ?_
      refine lread (v := .int .i64 p8941.Nodes) rfl (q_load wd_3 rfl) (St.ld X8948 (j := 0) rfl rfl) rfl ?_
      refine lpure (v := .bool (decide (p8944 < p8941.Nodes))) rfl (p_lt rfl) rfl rfl ?_
      refine lpure (v := .bool (decide (p8944 < p8941.Nodes))) rfl (p_pick rfl) rfl rfl ?_
      refine Sim.of_eq (congrArg j8953 (show ((decide (0 ≤ p8944)) && (decide (p8944 < p8941.Nodes))) = (decide (p8944 < p8941.Nodes)) from by rw [k8955] <;> rfl)) ?_
      exact ljmpM J8954 (decide (p8944 < p8941.Nodes)) () (sub_cons rfl sub_nil) X8948
    · refine lskip rfl rfl ?_
      refine lskip rfl rfl ?_
      refine lskip rfl rfl ?_
      refine lskip rfl rfl ?_
      refine lpure (v := .bool false) rfl (p_pick rfl) rfl rfl ?_
      refine Sim.of_eq (congrArg j8953 (show ((decide (0 ≤ p8944)) && (decide (p8944 < p8941.Nodes))) = false from by rw [k8955] <;> rfl)) ?_
      exact ljmpM J8954 false () (sub_cons rfl sub_nil) X8948
/-! isochron/isochronref16.link -/
theorem f43_ok {n : Nat} {φ : Fz} {lo : Nat} {h : Heap} {own : OwnL}  {a8930 : Option Addr} {n8930 c8930 : Nat} {a8931 : Option Addr} {n8931 c8931 : Nat} (X : St φ lo h (own)) (p8929 : ApiTopo) (p8932 : ApiLink) (H8930 : RSl eBool φ (.slice a8930 n8930 c8930) p8929.Station) (H8931 : RSl eApiLink φ (.slice a8931 n8931 c8931) p8929.Links) : Sim ((recN Try.prog LL cutF (n + 2)).call 43 #[(.agg #[.int .i64 p8929.Nodes, .slice a8930 n8930 c8930, .slice a8931 n8931 c8931]), (.agg #[.int .i64 p8932.A, .int .i64 p8932.B, .int .i64 p8932.Per, .int .i64 p8932.Delay])] h) (m_isochronref16_link p8929 p8932) (fun (d : Bool) p => p = (.bool d, h)) := by
  refine fcut Try.func43 rfl rfl rfl rfl X ?_
  intro h0 X0
  refine dseq ?_
  refine dreg ?_
  refine lbox rfl rfl rfl rfl rfl X0 (fun b8933 h8935 X8936 => ?_)
  refine lbox rfl rfl rfl rfl rfl X8936 (fun b8937 h8939 X8940 => ?_)
  refine lpure (v := .bool false) rfl (p_assign rfl) rfl rfl ?_
  refine lend ?_
  refine nseq ?_
  refine dseq ?_
  refine dseq ?_
  refine dreg ?_
  refine lread (v := .agg #[.int .i64 p8929.Nodes, .slice a8930 n8930 c8930, .slice a8931 n8931 c8931]) rfl (q_load wd_25 rfl) (St.ld X8940 (j := 1) rfl rfl) rfl ?_
  refine lpure (v := .pointer (some ⟨b8937, 0, none⟩)) rfl (p_fa fo_50_0 rfl) rfl rfl ?_
  refine lread (v := .int .i64 p8932.A) rfl (q_load wd_3 rfl) (St.ld X8940 (j := 0) rfl rfl) rfl ?_
  refine lcall rfl rfl ca_63 rfl rfl (f63_ok X8940 p8929 (p8932.A) H8930 H8931) rfl (fun e8956 v8957 h8958 hq8959 => ?_)
  cases hq8959
  refine lpure (v := .bool (!e8956)) rfl (p_not rfl) rfl rfl ?_
  refine lpure (v := .bool (!e8956)) rfl (p_move rfl) rfl rfl ?_
  refine ljoinM (τ := Bool) (σ := Unit) (fun s8966 (_ : Unit) => [(2, .pointer (some ⟨b8933, 0, none⟩)), (3, .pointer (some ⟨b8937, 0, none⟩)), (16, .bool s8966)]) (fun s8966 (_ : Unit) hh => St φ h.n hh ([(some b8937, .cells [.int .i64 p8932.A, .int .i64 p8932.B, .int .i64 p8932.Per, .int .i64 p8932.Delay] 50 .exact), (some b8933, .cells [.int .i64 p8929.Nodes, .slice a8930 n8930 c8930, .slice a8931 n8931 c8931] 25 .exact)])) 6 ?_ ?_
  · rintro s8966 _ t0 h8968 X8967
    refine lpure (v := .bool s8966) rfl (p_move rfl) rfl rfl ?_
    refine lsh (τ := Bool) (σ := Unit) (fun s8970 (_ : Unit) => [(2, .pointer (some ⟨b8933, 0, none⟩)), (3, .pointer (some ⟨b8937, 0, none⟩)), (23, .bool s8970)]) (fun s8970 (_ : Unit) hh => St φ h.n hh ([(some b8937, .cells [.int .i64 p8932.A, .int .i64 p8932.B, .int .i64 p8932.Per, .int .i64 p8932.Delay] 50 .exact), (some b8933, .cells [.int .i64 p8929.Nodes, .slice a8930 n8930 c8930, .slice a8931 n8931 c8931] 25 .exact)])) 6 ?_ ?_
    · rintro s8970 _ t0 h8972 X8971
      refine lpure (v := .bool s8970) rfl (p_move rfl) rfl rfl ?_
      refine ljoinM (τ := Bool) (σ := Unit) (fun s8982 (_ : Unit) => [(3, .pointer (some ⟨b8937, 0, none⟩)), (39, .bool s8982)]) (fun s8982 (_ : Unit) hh => St φ h.n hh ([(some b8937, .cells [.int .i64 p8932.A, .int .i64 p8932.B, .int .i64 p8932.Per, .int .i64 p8932.Delay] 50 .exact), (some b8933, .cells [.int .i64 p8929.Nodes, .slice a8930 n8930 c8930, .slice a8931 n8931 c8931] 25 .exact)])) 15 ?_ ?_
      · rintro s8982 _ t0 h8984 X8983
        refine lend ?_
        refine nseq ?_
        refine dcond rfl rfl (fun k8985 => ?_) (fun k8985 => ?_)
        · refine dseq ?_
          refine dreg ?_
          refine lpure (v := .bool false) rfl (p_assign rfl) rfl rfl ?_
          refine lend ?_
          refine nseq ?_
          refine dret ?_
          refine rseq ?_
          exact kcut_r (res_1 resT) X8983 rfl rfl
        · refine dskip ?_
          refine nseq ?_
          refine dseq ?_
          refine dreg ?_
          refine lpure (v := .pointer (some ⟨b8937, 2, none⟩)) rfl (p_fa fo_50_2 rfl) rfl rfl ?_
          refine lread (v := .int .i64 p8932.Per) rfl (q_load wd_3 rfl) (St.ld X8983 (j := 0) rfl rfl) rfl ?_
          refine lpure (v := .bool (decide (1 ≤ p8932.Per))) rfl (p_ge rfl) rfl rfl ?_
          refine lpure (v := .bool (decide (1 ≤ p8932.Per))) rfl (p_move rfl) rfl rfl ?_
          refine lsh (τ := Bool) (σ := Unit) (fun s8987 (_ : Unit) => [(3, .pointer (some ⟨b8937, 0, none⟩)), (47, .bool s8987)]) (fun s8987 (_ : Unit) hh => St φ h.n hh ([(some b8937, .cells [.int .i64 p8932.A, .int .i64 p8932.B, .int .i64 p8932.Per, .int .i64 p8932.Delay] 50 .exact), (some b8933, .cells [.int .i64 p8929.Nodes, .slice a8930 n8930 c8930, .slice a8931 n8931 c8931] 25 .exact)])) 4 ?_ ?_
          · rintro s8987 _ t0 h8989 X8988
            refine lpure (v := .bool s8987) rfl (p_move rfl) rfl rfl ?_
            refine lsh (τ := Bool) (σ := Unit) (fun s8991 (_ : Unit) => [(3, .pointer (some ⟨b8937, 0, none⟩)), (52, .bool s8991)]) (fun s8991 (_ : Unit) hh => St φ h.n hh ([(some b8937, .cells [.int .i64 p8932.A, .int .i64 p8932.B, .int .i64 p8932.Per, .int .i64 p8932.Delay] 50 .exact), (some b8933, .cells [.int .i64 p8929.Nodes, .slice a8930 n8930 c8930, .slice a8931 n8931 c8931] 25 .exact)])) 4 ?_ ?_
            · rintro s8991 _ t0 h8993 X8992
              refine lpure (v := .bool s8991) rfl (p_move rfl) rfl rfl ?_
              refine lsh (τ := Bool) (σ := Unit) (fun s8995 (_ : Unit) => [(57, .bool s8995)]) (fun s8995 (_ : Unit) hh => St φ h.n hh ([(some b8937, .cells [.int .i64 p8932.A, .int .i64 p8932.B, .int .i64 p8932.Per, .int .i64 p8932.Delay] 50 .exact), (some b8933, .cells [.int .i64 p8929.Nodes, .slice a8930 n8930 c8930, .slice a8931 n8931 c8931] 25 .exact)])) 4 ?_ ?_
              · rintro s8995 _ t0 h8997 X8996
                refine lpure (v := .bool s8995) rfl (p_assign rfl) rfl rfl ?_
                refine lend ?_
                refine nseq ?_
                refine dret ?_
                exact kcut_r (res_1 resT) X8996 rfl rfl
              · intro j8998 J8999
                refine lcase (i := 53) (show _ = Value.bool s8991 from rfl) (fun k9000 => ?_) (fun k9000 => ?_)
                · refine lpure (v := .pointer (some ⟨b8937, 3, none⟩)) rfl (p_fa fo_50_3 rfl) rfl rfl ?_
                  refine lread (v := .int .i64 p8932.Delay) rfl (q_load wd_3 rfl) (St.ld X8992 (j := 0) rfl rfl) rfl ?_
                  refine lpure (v := .bool (decide (p8932.Delay ≤ 10000))) rfl (p_le rfl) rfl rfl ?_
                  refine lpure (v := .bool (decide (p8932.Delay ≤ 10000))) rfl (p_pick rfl) rfl rfl ?_
                  refine Sim.of_eq (congrArg j8998 (show (s8991 && (decide (p8932.Delay ≤ 10000))) = (decide (p8932.Delay ≤ 10000)) from by rw [k9000] <;> rfl)) ?_
                  exact ljmpM J8999 (decide (p8932.Delay ≤ 10000)) () (sub_cons rfl sub_nil) X8992
                · refine lskip rfl rfl ?_
                  refine lskip rfl rfl ?_
                  refine lskip rfl rfl ?_
                  refine lpure (v := .bool false) rfl (p_pick rfl) rfl rfl ?_
                  refine Sim.of_eq (congrArg j8998 (show (s8991 && (decide (p8932.Delay ≤ 10000))) = false from by rw [k9000] <;> rfl)) ?_
                  exact ljmpM J8999 false () (sub_cons rfl sub_nil) X8992
            · intro j9001 J9002
              refine lcase (i := 48) (show _ = Value.bool s8987 from rfl) (fun k9003 => ?_) (fun k9003 => ?_)
              · refine lpure (v := .pointer (some ⟨b8937, 3, none⟩)) rfl (p_fa fo_50_3 rfl) rfl rfl ?_
                refine lread (v := .int .i64 p8932.Delay) rfl (q_load wd_3 rfl) (St.ld X8988 (j := 0) rfl rfl) rfl ?_
                refine lpure (v := .bool (decide (0 ≤ p8932.Delay))) rfl (p_ge rfl) rfl rfl ?_
                refine lpure (v := .bool (decide (0 ≤ p8932.Delay))) rfl (p_pick rfl) rfl rfl ?_
                refine Sim.of_eq (congrArg j9001 (show (s8987 && (decide (0 ≤ p8932.Delay))) = (decide (0 ≤ p8932.Delay)) from by rw [k9003] <;> rfl)) ?_
                exact ljmpM J9002 (decide (0 ≤ p8932.Delay)) () (sub_cons rfl (sub_cons rfl sub_nil)) X8988
              · refine lskip rfl rfl ?_
                refine lskip rfl rfl ?_
                refine lskip rfl rfl ?_
                refine lpure (v := .bool false) rfl (p_pick rfl) rfl rfl ?_
                refine Sim.of_eq (congrArg j9001 (show (s8987 && (decide (0 ≤ p8932.Delay))) = false from by rw [k9003] <;> rfl)) ?_
                exact ljmpM J9002 false () (sub_cons rfl (sub_cons rfl sub_nil)) X8988
          · intro j9004 J9005
            refine lcase (i := 43) (show _ = Value.bool (decide (1 ≤ p8932.Per)) from rfl) (fun k9006 => ?_) (fun k9006 => ?_)
            · refine lpure (v := .pointer (some ⟨b8937, 2, none⟩)) rfl (p_fa fo_50_2 rfl) rfl rfl ?_
              refine lread (v := .int .i64 p8932.Per) rfl (q_load wd_3 rfl) (St.ld X8983 (j := 0) rfl rfl) rfl ?_
              refine lpure (v := .bool (decide (p8932.Per ≤ 1000))) rfl (p_le rfl) rfl rfl ?_
              refine lpure (v := .bool (decide (p8932.Per ≤ 1000))) rfl (p_pick rfl) rfl rfl ?_
              refine Sim.of_eq (congrArg j9004 (show ((decide (1 ≤ p8932.Per)) && (decide (p8932.Per ≤ 1000))) = (decide (p8932.Per ≤ 1000)) from by rw [k9006] <;> rfl)) ?_
              exact ljmpM J9005 (decide (p8932.Per ≤ 1000)) () (sub_cons rfl (sub_cons rfl sub_nil)) X8983
            · refine lskip rfl rfl ?_
              refine lskip rfl rfl ?_
              refine lskip rfl rfl ?_
              refine lpure (v := .bool false) rfl (p_pick rfl) rfl rfl ?_
              refine Sim.of_eq (congrArg j9004 (show ((decide (1 ≤ p8932.Per)) && (decide (p8932.Per ≤ 1000))) = false from by rw [k9006] <;> rfl)) ?_
              exact ljmpM J9005 false () (sub_cons rfl (sub_cons rfl sub_nil)) X8983
      · intro j9007 J9008
        refine lif (i := 24) (show _ = Value.bool s8970 from rfl) (fun k9009 => ?_) (fun k9009 => ?_)
        · refine lskip rfl rfl ?_
          refine lskip rfl rfl ?_
          refine lskip rfl rfl ?_
          refine lskip rfl rfl ?_
          refine lskip rfl rfl ?_
          refine lskip rfl rfl ?_
          refine lskip rfl rfl ?_
          refine lskip rfl rfl ?_
          refine lskip rfl rfl ?_
          refine lskip rfl rfl ?_
          refine lskip rfl rfl ?_
          refine lskip rfl rfl ?_
          refine lskip rfl rfl ?_
          refine lskip rfl rfl ?_
          refine lpure (v := .bool true) rfl (p_pick rfl) rfl rfl ?_
          exact ljmpM J9008 true () (sub_cons rfl (sub_cons rfl sub_nil)) X8971
        · refine lpure (v := .pointer (some ⟨b8933, 1, none⟩)) rfl (p_fa fo_25_1 rfl) rfl rfl ?_
          refine lread (v := .slice a8930 n8930 c8930) rfl (q_load wd_22 rfl) (St.ld X8971 (j := 1) rfl rfl) rfl ?_
          refine lpure (v := .pointer (some ⟨b8937, 0, none⟩)) rfl (p_fa fo_50_0 rfl) rfl rfl ?_
          refine lread (v := .int .i64 p8932.A) rfl (q_load wd_3 rfl) (St.ld X8971 (j := 0) rfl rfl) rfl ?_
          refine Sim.bindM fun e9010 he9011 => ?_
          obtain ⟨p9012, cs9012, hp9012, hF9012, hR9012⟩ := RSl.ia H8930 he9011 (kd := .i64) (n := 1) rfl
          have hR9012 : _ = [(.bool e9010 : Value)] := hR9012
          subst hR9012
          refine lpure (v := p9012) rfl (p_ia rs_22 rfl) hp9012 rfl ?_
          refine lread (v := .bool e9010) rfl (q_load wd_4 rfl) (FP.ld X8971 hF9012) rfl ?_
          refine lpure (v := .bool e9010) rfl (p_move rfl) rfl rfl ?_
          refine lif (i := 31) (show _ = Value.bool e9010 from rfl) (fun k9013 => ?_) (fun k9013 => ?_)
          · refine lpure (v := .pointer (some ⟨b8933, 1, none⟩)) rfl (p_fa fo_25_1 rfl) rfl rfl ?_
            refine lread (v := .slice a8930 n8930 c8930) rfl (q_load wd_22 rfl) (St.ld X8971 (j := 1) rfl rfl) rfl ?_
            refine lpure (v := .pointer (some ⟨b8937, 1, none⟩)) rfl (p_fa fo_50_1 rfl) rfl rfl ?_
            refine lread (v := .int .i64 p8932.B) rfl (q_load wd_3 rfl) (St.ld X8971 (j := 0) rfl rfl) rfl ?_
            refine Sim.bindM fun e9014 he9015 => ?_
            obtain ⟨p9016, cs9016, hp9016, hF9016, hR9016⟩ := RSl.ia H8930 he9015 (kd := .i64) (n := 1) rfl
            have hR9016 : _ = [(.bool e9014 : Value)] := hR9016
            subst hR9016
            refine lpure (v := p9016) rfl (p_ia rs_22 rfl) hp9016 rfl ?_
            refine lread (v := .bool e9014) rfl (q_load wd_4 rfl) (FP.ld X8971 hF9016) rfl ?_
            refine lpure (v := .bool e9014) rfl (p_pick rfl) rfl rfl ?_
            refine lpure (v := .bool e9014) rfl (p_pick rfl) rfl rfl ?_
            exact ljmpM J9008 e9014 () (sub_cons rfl (sub_cons rfl sub_nil)) X8971
          · refine lskip rfl rfl ?_
            refine lskip rfl rfl ?_
            refine lskip rfl rfl ?_
            refine lskip rfl rfl ?_
            refine lskip rfl rfl ?_
            refine lskip rfl rfl ?_
            refine lpure (v := .bool false) rfl (p_pick rfl) rfl rfl ?_
            refine lpure (v := .bool false) rfl (p_pick rfl) rfl rfl ?_
            exact ljmpM J9008 false () (sub_cons rfl (sub_cons rfl sub_nil)) X8971
    · intro j9017 J9018
      refine lcase (i := 17) (show _ = Value.bool s8966 from rfl) (fun k9019 => ?_) (fun k9019 => ?_)
      · refine lskip rfl rfl ?_
        refine lskip rfl rfl ?_
        refine lskip rfl rfl ?_
        refine lskip rfl rfl ?_
        refine lskip rfl rfl ?_
        refine lpure (v := .bool true) rfl (p_pick rfl) rfl rfl ?_
        refine Sim.of_eq (congrArg j9017 (show (s8966 || (decide (p8932.A = p8932.B))) = true from by rw [k9019] <;> rfl)) ?_
        exact ljmpM J9018 true () (sub_cons rfl (sub_cons rfl (sub_cons rfl sub_nil))) X8967
      · refine lpure (v := .pointer (some ⟨b8937, 0, none⟩)) rfl (p_fa fo_50_0 rfl) rfl rfl ?_
        refine lread (v := .int .i64 p8932.A) rfl (q_load wd_3 rfl) (St.ld X8967 (j := 0) rfl rfl) rfl ?_
        refine lpure (v := .pointer (some ⟨b8937, 1, none⟩)) rfl (p_fa fo_50_1 rfl) rfl rfl ?_
        refine lread (v := .int .i64 p8932.B) rfl (q_load wd_3 rfl) (St.ld X8967 (j := 0) rfl rfl) rfl ?_
        refine lpure (v := .bool (decide (p8932.A = p8932.B))) rfl (p_eq rfl) rfl rfl ?_
        refine lpure (v := .bool (decide (p8932.A = p8932.B))) rfl (p_pick rfl) rfl rfl ?_
        refine Sim.of_eq (congrArg j9017 (show (s8966 || (decide (p8932.A = p8932.B))) = (decide (p8932.A = p8932.B)) from by rw [k9019] <;> rfl)) ?_
        exact ljmpM J9018 (decide (p8932.A = p8932.B)) () (sub_cons rfl (sub_cons rfl (sub_cons rfl sub_nil))) X8967
  · intro j9020 J9021
    refine lif (i := 10) (show _ = Value.bool (!e8956) from rfl) (fun k9022 => ?_) (fun k9022 => ?_)
    · refine lskip rfl rfl ?_
      refine lskip rfl rfl ?_
      refine lskip rfl rfl ?_
      refine lskip rfl rfl ?_
      refine lskip rfl rfl ?_
      refine lpure (v := .bool true) rfl (p_pick rfl) rfl rfl ?_
      exact ljmpM J9021 true () (sub_cons rfl (sub_cons rfl (sub_cons rfl sub_nil))) X8940
    · refine lread (v := .agg #[.int .i64 p8929.Nodes, .slice a8930 n8930 c8930, .slice a8931 n8931 c8931]) rfl (q_load wd_25 rfl) (St.ld X8940 (j := 1) rfl rfl) rfl ?_
      refine lpure (v := .pointer (some ⟨b8937, 1, none⟩)) rfl (p_fa fo_50_1 rfl) rfl rfl ?_
      refine lread (v := .int .i64 p8932.B) rfl (q_load wd_3 rfl) (St.ld X8940 (j := 0) rfl rfl) rfl ?_
      refine lcall rfl rfl ca_63 rfl rfl (f63_ok X8940 p8929 (p8932.B) H8930 H8931) rfl (fun e9023 v9024 h9025 hq9026 => ?_)
      cases hq9026
      refine lpure (v := .bool (!e9023)) rfl (p_not rfl) rfl rfl ?_
      refine lpure (v := .bool (!e9023)) rfl (p_pick rfl) rfl rfl ?_
      exact ljmpM J9021 (!e9023) () (sub_cons rfl (sub_cons rfl (sub_cons rfl sub_nil))) X8940
/-! isochron/isochronref16.Joins -/
theorem f44_ok {n : Nat} {φ : Fz} {lo : Nat} {h : Heap} {own : OwnL}  (X : St φ lo h (own)) (p9044 : ApiLink) (p9045 : Int) (p9046 : Int) : Sim ((recN Try.prog LL cutF (n + 1)).call 44 #[(.agg #[.int .i64 p9044.A, .int .i64 p9044.B, .int .i64 p9044.Per, .int .i64 p9044.Delay]), (.int .i64 p9045), (.int .i64 p9046)] h) (m_isochronref16_Joins p9044 p9045 p9046) (fun (d : Bool) p => p = (.bool d, h)) := by
  refine fcut Try.func44 rfl rfl rfl rfl X ?_
  intro h0 X0
  refine dseq ?_
  refine dreg ?_
  refine lbox rfl rfl rfl rfl rfl X0 (fun b9047 h9049 X9050 => ?_)
  refine lpure (v := .bool false) rfl (p_assign rfl) rfl rfl ?_
  refine lend ?_
  refine nseq ?_
  refine dseq ?_
  refine dreg ?_
  refine lpure (v := .pointer (some ⟨b9047, 0, none⟩)) rfl (p_fa fo_50_0 rfl) rfl rfl ?_
  refine lread (v := .int .i64 p9044.A) rfl (q_load wd_3 rfl) (St.ld X9050 (j := 0) rfl rfl) rfl ?_
  refine lpure (v := .int .i64 p9045) rfl (p_move rfl) rfl rfl ?_
  refine lpure (v := .bool (decide (p9044.A = p9045))) rfl (p_eq rfl) rfl rfl ?_
  refine lpure (v := .bool (decide (p9044.A = p9045))) rfl (p_move rfl) rfl rfl ?_
  refine lsh (τ := Bool) (σ := Unit) (fun s9052 (_ : Unit) => [(1, .int .i64 p9045), (2, .int .i64 p9046), (3, .pointer (some ⟨b9047, 0, none⟩)), (16, .bool s9052)]) (fun s9052 (_ : Unit) hh => St φ h.n hh ([(some b9047, .cells [.int .i64 p9044.A, .int .i64 p9044.B, .int .i64 p9044.Per, .int .i64 p9044.Delay] 50 .exact)])) 5 ?_ ?_
  · rintro s9052 _ t0 h9054 X9053
    refine lpure (v := .bool s9052) rfl (p_move rfl) rfl rfl ?_
    refine lsh (τ := Bool) (σ := Unit) (fun s9056 (_ : Unit) => [(28, .bool s9056)]) (fun s9056 (_ : Unit) hh => St φ h.n hh ([(some b9047, .cells [.int .i64 p9044.A, .int .i64 p9044.B, .int .i64 p9044.Per, .int .i64 p9044.Delay] 50 .exact)])) 11 ?_ ?_
    · rintro s9056 _ t0 h9058 X9057
      refine lpure (v := .bool s9056) rfl (p_assign rfl) rfl rfl ?_
      refine lend ?_
      refine nseq ?_
      refine dret ?_
      exact kcut_r (res_1 resT) X9057 rfl rfl
    · intro j9059 J9060
      refine lcase (i := 17) (show _ = Value.bool s9052 from rfl) (fun k9061 => ?_) (fun k9061 => ?_)
      · refine lskip rfl rfl ?_
        refine lskip rfl rfl ?_
        refine lskip rfl rfl ?_
        refine lskip rfl rfl ?_
        refine lskip rfl rfl ?_
        refine lskip rfl rfl ?_
        refine lskip rfl rfl ?_
        refine lskip rfl rfl ?_
        refine lskip rfl rfl ?_
        refine lskip rfl rfl ?_
        refine lpure (v := .bool true) rfl (p_pick rfl) rfl rfl ?_
        refine Sim.of_eq (congrArg j9059 (show (s9052 || ((decide (p9044.A = p9046)) && (decide (p9044.B = p9045)))) = true from by rw [k9061] <;> rfl)) ?_
        exact ljmpM J9060 true () (sub_cons rfl sub_nil) X9053
      · refine lpure (v := .pointer (some ⟨b9047, 0, none⟩)) rfl (p_fa fo_50_0 rfl) rfl rfl ?_
        refine lread (v := .int .i64 p9044.A) rfl (q_load wd_3 rfl) (St.ld X9053 (j := 0) rfl rfl) rfl ?_
        refine lpure (v := .int .i64 p9046) rfl (p_move rfl) rfl rfl ?_
        refine lpure (v := .bool (decide (p9044.A = p9046))) rfl (p_eq rfl) rfl rfl ?_
        refine lpure (v := .bool (decide (p9044.A = p9046))) rfl (p_move rfl) rfl rfl ?_
        refine lcase (i := 22) (show _ = Value.bool (decide (p9044.A = p9046)) from rfl) (fun k9062 => ?_) (fun k9062 => ?_)
        · refine lpure (v := .pointer (some ⟨b9047, 1, none⟩)) rfl (p_fa fo_50_1 rfl) rfl rfl ?_
          refine lread (v := .int .i64 p9044.B) rfl (q_load wd_3 rfl) (St.ld X9053 (j := 0) rfl rfl) rfl ?_
          refine lpure (v := .int .i64 p9045) rfl (p_move rfl) rfl rfl ?_
          refine lpure (v := .bool (decide (p9044.B = p9045))) rfl (p_eq rfl) rfl rfl ?_
          refine lpure (v := .bool (decide (p9044.B = p9045))) rfl (p_pick rfl) rfl rfl ?_
          refine lpure (v := .bool (decide (p9044.B = p9045))) rfl (p_pick rfl) rfl rfl ?_
          refine Sim.of_eq (congrArg j9059 (show (s9052 || ((decide (p9044.A = p9046)) && (decide (p9044.B = p9045)))) = (decide (p9044.B = p9045)) from by rw [k9061, k9062] <;> rfl)) ?_
          exact ljmpM J9060 (decide (p9044.B = p9045)) () (sub_cons rfl sub_nil) X9053
        · refine lskip rfl rfl ?_
          refine lskip rfl rfl ?_
          refine lskip rfl rfl ?_
          refine lskip rfl rfl ?_
          refine lpure (v := .bool false) rfl (p_pick rfl) rfl rfl ?_
          refine lpure (v := .bool false) rfl (p_pick rfl) rfl rfl ?_
          refine Sim.of_eq (congrArg j9059 (show (s9052 || ((decide (p9044.A = p9046)) && (decide (p9044.B = p9045)))) = false from by rw [k9061, k9062] <;> rfl)) ?_
          exact ljmpM J9060 false () (sub_cons rfl sub_nil) X9053
  · intro j9063 J9064
    refine lcase (i := 11) (show _ = Value.bool (decide (p9044.A = p9045)) from rfl) (fun k9065 => ?_) (fun k9065 => ?_)
    · refine lpure (v := .pointer (some ⟨b9047, 1, none⟩)) rfl (p_fa fo_50_1 rfl) rfl rfl ?_
      refine lread (v := .int .i64 p9044.B) rfl (q_load wd_3 rfl) (St.ld X9050 (j := 0) rfl rfl) rfl ?_
      refine lpure (v := .int .i64 p9046) rfl (p_move rfl) rfl rfl ?_
      refine lpure (v := .bool (decide (p9044.B = p9046))) rfl (p_eq rfl) rfl rfl ?_
      refine lpure (v := .bool (decide (p9044.B = p9046))) rfl (p_pick rfl) rfl rfl ?_
      refine Sim.of_eq (congrArg j9063 (show ((decide (p9044.A = p9045)) && (decide (p9044.B = p9046))) = (decide (p9044.B = p9046)) from by rw [k9065] <;> rfl)) ?_
      exact ljmpM J9064 (decide (p9044.B = p9046)) () (sub_cons rfl (sub_cons rfl (sub_cons rfl (sub_cons rfl sub_nil)))) X9050
    · refine lskip rfl rfl ?_
      refine lskip rfl rfl ?_
      refine lskip rfl rfl ?_
      refine lskip rfl rfl ?_
      refine lpure (v := .bool false) rfl (p_pick rfl) rfl rfl ?_
      refine Sim.of_eq (congrArg j9063 (show ((decide (p9044.A = p9045)) && (decide (p9044.B = p9046))) = false from by rw [k9065] <;> rfl)) ?_
      exact ljmpM J9064 false () (sub_cons rfl (sub_cons rfl (sub_cons rfl (sub_cons rfl sub_nil)))) X9050
/-! (isochron/isochronref16.Draft).with -/
theorem f49_ok {n : Nat} {φ : Fz} {lo : Nat} {h : Heap} {own : OwnL}  {a9232 : Option Addr} {n9232 c9232 : Nat} {a9233 : Option Addr} {n9233 c9233 : Nat} {a9234 : Option Addr} {n9234 c9234 : Nat} {a9235 : Option Addr} {n9235 c9235 : Nat} {a9237 : Option Addr} {n9237 c9237 : Nat} {a9238 : Option Addr} {n9238 c9238 : Nat} {ob9240 : Option Nat} {blk9241 : Blk} (X : St φ lo h ((ob9240, blk9241) :: own)) (p9231 : Isochronref16Draft) (p9236 : ApiTopo) (p9243 : Int) (p9244 : Int) (H9232 : RSl (eInt .u8) φ (.slice a9232 n9232 c9232) p9231.Chords) (H9233 : RSl (eInt .u8) φ (.slice a9233 n9233 c9233) p9231.Homes) (H9234 : RSl (eInt .u8) φ (.slice a9234 n9234 c9234) p9231.Pers) (H9235 : RSl (eInt .u8) φ (.slice a9235 n9235 c9235) p9231.Delays) (H9237 : RSl eBool φ (.slice a9237 n9237 c9237) p9236.Station) (O9242 : OSl eApiLink φ 50 ob9240 blk9241 (.slice a9238 n9238 c9238) p9236.Links) : Sim ((recN Try.prog LL cutF (n + 3)).call 49 #[(.agg #[.int .u8 p9231.Bridges, .int .u8 p9231.Stations, .slice a9232 n9232 c9232, .slice a9233 n9233 c9233, .slice a9234 n9234 c9234, .slice a9235 n9235 c9235]), (.agg #[.int .i64 p9236.Nodes, .slice a9237 n9237 c9237, .slice a9238 n9238 c9238]), (.int .i64 p9243), (.int .i64 p9244)] h) (m_isochronref16_Draft_with p9231 p9236 p9243 p9244) (fun (d : ApiTopo) p => ∃ φ2 : Fz, ∃ a9387 : Option Addr, ∃ n9387 : Nat, ∃ c9387 : Nat, ∃ a9388 : Option Addr, ∃ n9388 : Nat, ∃ c9388 : Nat, ∃ ob9388 : Option Nat, ∃ blk9388 : Blk, Fz.le φ φ2 ∧ St φ2 lo p.2 ((ob9388, blk9388) :: own) ∧ p.1 = .agg #[.int .i64 d.Nodes, .slice a9387 n9387 c9387, .slice a9388 n9388 c9388] ∧ RSl eBool φ2 (.slice a9387 n9387 c9387) d.Station ∧ OSl eApiLink φ2 50 ob9388 blk9388 (.slice a9388 n9388 c9388) d.Links) := by
  refine fopen Try.func49 rfl rfl rfl rfl ?_
  refine dseq ?_
  refine dreg ?_
  refine lbox rfl rfl rfl rfl rfl X (fun b9245 h9247 X9248 => ?_)
  refine lbox rfl rfl rfl rfl rfl X9248 (fun b9249 h9251 X9252 => ?_)
  refine lalloc rfl tz_25 rfl rfl rfl X9252 (fun b9253 h9255 X9256 => ?_)
  refine lend ?_
  refine nseq ?_
  refine dseq ?_
  refine dreg ?_
  refine lpure (v := .pointer (some ⟨b9249, 2, none⟩)) rfl (p_fa fo_25_2 rfl) rfl rfl ?_
  refine lread (v := .slice a9238 n9238 c9238) rfl (q_load wd_23 rfl) (St.ld X9256 (j := 1) rfl rfl) rfl ?_
  refine lpure (v := .int .i64 (p9236.Links.length : Int)) rfl (p_len rfl rfl rfl un_23 rfl) (OSl.len O9242) rfl ?_
  refine lpure (v := .int .i64 (p9236.Links.length : Int)) rfl (p_assign rfl) rfl rfl ?_
  refine lend ?_
  refine nseq ?_
  refine dseq ?_
  refine dgo_start (n := 16) rfl (by kernel_rfl) ?_
  refine gpure (v := .int .i64 p9243) rfl (p_move rfl) (lo_t rfl rfl) rfl rfl ?_
  refine gpure (v := .int .i64 p9244) rfl (p_move rfl) (lo_t rfl rfl) rfl rfl ?_
  refine gpure (v := .pointer (some ⟨b9245, 4, none⟩)) rfl (p_fa fo_46_4 rfl) (lo_t (lo_own X9256 (j := 2) (o := 0) (s := none) (f := 0) rfl) rfl) rfl rfl ?_
  refine gload (v := .slice a9234 n9234 c9234) rfl (q_load wd_44 rfl) (St.ld X9256 (j := 2) rfl rfl) rfl ?_
  refine gpure (v := .int .i64 (p9236.Links.length : Int)) rfl (p_move rfl) (lo_t rfl rfl) rfl rfl ?_
  refine gwait rfl (still_call rfl rfl ca_50 rfl) rfl ?_
  refine dgo_skip ?_
  refine dgo_skip ?_
  refine gpure (v := .pointer (some ⟨b9245, 5, none⟩)) rfl (p_fa fo_46_5 rfl) (lo_t (lo_own X9256 (j := 2) (o := 0) (s := none) (f := 0) rfl) rfl) rfl rfl ?_
  refine gload (v := .slice a9235 n9235 c9235) rfl (q_load wd_44 rfl) (St.ld X9256 (j := 2) rfl rfl) rfl ?_
  refine gpure (v := .int .i64 (p9236.Links.length : Int)) rfl (p_move rfl) (lo_t rfl rfl) rfl rfl ?_
  refine dgo_skip ?_
  refine dgo_skip ?_
  refine dgo_skip ?_
  refine galloc rfl tz_50 rfl rfl rfl X9256 (fun b9257 h9259 X9260 => ?_)
  refine dgo_skip ?_
  refine gcall (m := 15) [true, false] (rk_cons (q_load wd_44 rfl) (St.ld X9260 (j := 3) rfl rfl) (same_self 20 rfl) (rk_cons (q_load wd_44 rfl) (St.ld X9260 (j := 3) rfl rfl) (same_self 20 rfl) rk_nil)) rfl rfl rfl rfl rfl ca_50 rfl rfl (f50_ok X9260 (p9231.Pers) ((p9236.Links.length : Int)) H9234) rfl (fun e9261 v9262 h9263 hq9264 => ?_)
  cases hq9264
  refine dgo_skip ?_
  refine dgo_skip ?_
  refine dgo_skip ?_
  refine dgo_skip ?_
  refine dgo_skip ?_
  refine dgo_skip ?_
  refine gpure (v := .int .i64 (Int.tmod e9261 20)) rfl (p_rem rfl) (lo_t rfl (lo_c rfl)) rfl rfl ?_
  refine gpure (v := .int .i64 (w64 (1 + (Int.tmod e9261 20)))) rfl (p_add rfl) (lo_c (lo_t rfl rfl)) rfl rfl ?_
  refine dgo_skip ?_
  refine dgo_skip ?_
  refine dgo_skip ?_
  refine gwait rfl (still_call rfl rfl ca_50 rfl) rfl ?_
  refine dgo_skip ?_
  refine dgo_skip ?_
  refine dgo_skip ?_
  refine dgo_skip ?_
  refine gcall (m := 14) [false] (rk_cons (q_load wd_44 rfl) (St.ld X9260 (j := 3) rfl rfl) (same_self 20 rfl) rk_nil) rfl rfl rfl rfl rfl ca_50 rfl rfl (f50_ok X9260 (p9231.Delays) ((p9236.Links.length : Int)) H9235) rfl (fun e9265 v9266 h9267 hq9268 => ?_)
  cases hq9268
  refine dgo_skip ?_
  refine dgo_skip ?_
  refine dgo_skip ?_
  refine dgo_skip ?_
  refine dgo_skip ?_
  refine dgo_skip ?_
  refine dgo_skip ?_
  refine dgo_skip ?_
  refine dgo_skip ?_
  refine dgo_skip ?_
  refine dgo_skip ?_
  refine dgo_skip ?_
  refine gpure (v := .int .i64 (Int.tmod e9265 50)) rfl (p_rem rfl) (lo_t rfl (lo_c rfl)) rfl rfl ?_
  refine gpure (v := .agg #[.int .i64 p9243, .int .i64 p9244, .int .i64 (w64 (1 + (Int.tmod e9261 20))), .int .i64 (Int.tmod e9265 50)]) rfl (p_build rfl) (lo_t rfl (lo_t rfl (lo_t rfl (lo_t rfl rfl)))) (build_st' tz_50 pl_50 rfl) rfl ?_
  refine dgo_skip ?_
  refine gwait rfl (still_store rfl rfl rfl) rfl ?_
  obtain ⟨h9269, hst9271, X9270⟩ := St.st X9260 (j := 0) (o := 0) (n := 4) (x := .agg #[.int .i64 p9243, .int .i64 p9244, .int .i64 (w64 (1 + (Int.tmod e9261 20))), .int .i64 (Int.tmod e9265 50)]) rfl rfl rfl rfl rfl rfl
  refine gact0 (m := 13) [] rk_nil rfl rfl rfl rfl (h_store ts_50 rfl) hst9271 ?_
  refine dgo_skip ?_
  refine dgo_skip ?_
  refine dgo_skip ?_
  refine dgo_skip ?_
  refine dgo_skip ?_
  refine dgo_skip ?_
  refine dgo_skip ?_
  refine dgo_skip ?_
  refine dgo_skip ?_
  refine dgo_skip ?_
  refine dgo_skip ?_
  refine dgo_skip ?_
  refine dgo_skip ?_
  refine dgo_skip ?_
  refine dgo_skip ?_
  refine dgo_skip ?_
  refine gend rk_nil ?_
  refine nseq ?_
  refine dseq ?_
  refine dseq ?_
  refine dreg ?_
  refine lpure (v := .int .i64 (p9236.Links.length : Int)) rfl (p_move rfl) rfl rfl ?_
  refine lpure (v := .bool (decide ((p9236.Links.length : Int) = 24))) rfl (p_eq rfl) rfl rfl ?_
  refine lpure (v := .bool (decide ((p9236.Links.length : Int) = 24))) rfl (p_move rfl) rfl rfl ?_
  refine ljoinM (τ := Bool) (σ := Unit) (fun s9282 (_ : Unit) => [(2, .int .i64 p9243), (3, .int .i64 p9244), (5, .pointer (some ⟨b9249, 0, none⟩)), (8, .pointer (some ⟨b9253, 0, none⟩)), (9, .int .i64 (p9236.Links.length : Int)), (10, .pointer (some ⟨b9257, 0, none⟩)), (36, .bool s9282)]) (fun s9282 (_ : Unit) hh => St φ lo hh ((some b9257, .cells [.int .i64 p9243, .int .i64 p9244, .int .i64 (w64 (1 + (Int.tmod e9261 20))), .int .i64 (Int.tmod e9265 50)] 50 .exact) :: (some b9253, .cells [.int .i64 0, .slice none 0 0, .slice none 0 0] 25 .exact) :: (some b9249, .cells [.int .i64 p9236.Nodes, .slice a9237 n9237 c9237, .slice a9238 n9238 c9238] 25 .exact) :: (some b9245, .cells [.int .u8 p9231.Bridges, .int .u8 p9231.Stations, .slice a9232 n9232 c9232, .slice a9233 n9233 c9233, .slice a9234 n9234 c9234, .slice a9235 n9235 c9235] 46 .exact) :: (ob9240, blk9241) :: own)) 5 ?_ ?_
  · rintro s9282 _ t0 h9284 X9283
    refine lend ?_
    refine nseq ?_
    refine dcond rfl rfl (fun k9285 => ?_) (fun k9285 => ?_)
    · refine dseq ?_
      refine dreg ?_
      refine lread (v := .agg #[.int .i64 p9236.Nodes, .slice a9237 n9237 c9237, .slice a9238 n9238 c9238]) rfl (q_load wd_25 rfl) (St.ld X9283 (j := 2) rfl rfl) rfl ?_
      refine lstore rfl ts_25 rfl rfl (j := 1) rfl rfl rfl rfl rfl rfl X9283 (fun h9286 X9287 => ?_)
      refine lend ?_
      refine nseq ?_
      refine dret ?_
      refine rseq ?_
      exact kopen_r (res_1 (resC wd_25 (St.ld X9287 (j := 1) rfl rfl))) ⟨φ, a9237, n9237, c9237, a9238, n9238, c9238, ob9240, blk9241, (Fz.le_refl _), St.pick (St.front X9287 (j := 4) rfl) (.keep _ (.skip _ (.skip _ (.skip _ (.skip _ (.refl _)))))), rfl, H9237, O9242⟩
    · refine dskip ?_
      refine nseq ?_
      refine dseq ?_
      refine dseq ?_
      refine dreg ?_
      refine lpure (v := .int .i64 0) rfl (p_assign rfl) rfl rfl ?_
      refine lend ?_
      refine nseq ?_
      refine dblock ?_
      refine dloopM (τ := Int × (List ApiLink)) (σ := Option Addr × Nat × Nat × Option Nat × Blk) (fun s9331 (a9332, n9332, c9332, ob9332, blk9332) => [(2, .int .i64 p9243), (3, .int .i64 p9244), (5, .pointer (some ⟨b9249, 0, none⟩)), (8, .pointer (some ⟨b9253, 0, none⟩)), (9, .int .i64 (p9236.Links.length : Int)), (10, .pointer (some ⟨b9257, 0, none⟩)), (11, .int .i64 s9331.1)]) (fun s9331 (a9332, n9332, c9332, ob9332, blk9332) hh => St φ lo hh ((some b9257, .cells [.int .i64 p9243, .int .i64 p9244, .int .i64 (w64 (1 + (Int.tmod e9261 20))), .int .i64 (Int.tmod e9265 50)] 50 .exact) :: (some b9253, .cells [.int .i64 0, .slice none 0 0, .slice none 0 0] 25 .exact) :: (some b9249, .cells [.int .i64 p9236.Nodes, .slice a9237 n9237 c9237, .slice a9332 n9332 c9332] 25 .exact) :: (some b9245, .cells [.int .u8 p9231.Bridges, .int .u8 p9231.Stations, .slice a9232 n9232 c9232, .slice a9233 n9233 c9233, .slice a9234 n9234 c9234, .slice a9235 n9235 c9235] 46 .exact) :: (ob9332, blk9332) :: own) ∧ OSl eApiLink φ 50 ob9332 blk9332 (.slice a9332 n9332 c9332) s9331.2) (0, p9236.Links) (a9238, n9238, c9238, ob9240, blk9241) (sub_cons rfl (sub_cons rfl (sub_cons rfl (sub_cons rfl (sub_cons rfl (sub_cons rfl (sub_cons rfl sub_nil))))))) ⟨X9283, O9242⟩ ?_
      rintro n9355 ih9354 s9331 ⟨a9332, n9332, c9332, ob9332, blk9332⟩ t0 h9357 ⟨X9356, O9332⟩
      refine dseq ?_
      refine dseq ?_
      refine dreg ?_
      refine lpure (v := .int .i64 s9331.1) rfl (p_move rfl) rfl rfl ?_
      refine lpure (v := .int .i64 (p9236.Links.length : Int)) rfl (p_move rfl) rfl rfl ?_
      refine lpure (v := .bool (decide (s9331.1 < (p9236.Links.length : Int)))) rfl (p_lt rfl) rfl rfl ?_
      refine lend ?_
      refine nseq ?_
      refine dcond rfl rfl (fun k9358 => ?_) (fun k9358 => ?_)
      · refine dskip ?_
        refine nseq ?_
        refine dseq ?_
        refine dblock ?_
        refine dseq ?_
        refine dreg ?_
        refine lpure (v := .pointer (some ⟨b9249, 2, none⟩)) rfl (p_fa fo_25_2 rfl) rfl rfl ?_
        refine lread (v := .slice a9332 n9332 c9332) rfl (q_load wd_23 rfl) (St.ld X9356 (j := 2) rfl rfl) rfl ?_
        refine lpure (v := .int .i64 s9331.1) rfl (p_move rfl) rfl rfl ?_
        refine Sim.bindM fun e9359 he9360 => ?_
        obtain ⟨b9361, vs9361, m9361, off9361, cs9361, rfl, rfl, hp9361, hc9361, hR9361, hl9361, hm9361, hs9361⟩ := OSl.ia O9332 he9360 (kd := .i64) (n := 4) rfl
        obtain rfl := eApiLink_el hR9361
        refine lpure (v := .pointer (some ⟨b9361, off9361, none⟩)) rfl (p_ia rs_23 rfl) hp9361 rfl ?_
        refine lread (v := .agg #[.int .i64 e9359.A, .int .i64 e9359.B, .int .i64 e9359.Per, .int .i64 e9359.Delay]) rfl (q_load wd_50 rfl) (St.ld X9356 (j := 4) rfl (rdEw hc9361 (k := 0) rfl rfl)) rfl ?_
        refine lpure (v := .int .i64 p9243) rfl (p_move rfl) rfl rfl ?_
        refine lpure (v := .int .i64 p9244) rfl (p_move rfl) rfl rfl ?_
        refine lcall rfl rfl ca_44 rfl rfl (f44_ok X9356 e9359 p9243 p9244) rfl (fun e9362 v9363 h9364 hq9365 => ?_)
        cases hq9365
        refine lend ?_
        refine nseq ?_
        refine dcond rfl rfl (fun k9366 => ?_) (fun k9366 => ?_)
        · refine dseq ?_
          refine dreg ?_
          refine lread (v := .agg #[.int .i64 p9236.Nodes, .slice a9237 n9237 c9237, .slice a9332 n9332 c9332]) rfl (q_load wd_25 rfl) (St.ld X9356 (j := 2) rfl rfl) rfl ?_
          refine lstore rfl ts_25 rfl rfl (j := 1) rfl rfl rfl rfl rfl rfl X9356 (fun h9367 X9368 => ?_)
          refine lend ?_
          refine nseq ?_
          refine dret ?_
          refine rblock ?_
          refine rseq ?_
          refine rloop ?_
          refine rblock ?_
          refine rseq ?_
          exact kopen_r (res_1 (resC wd_25 (St.ld X9368 (j := 1) rfl rfl))) ⟨φ, a9237, n9237, c9237, a9332, n9332, c9332, (some b9361), (.cells vs9361 50 m9361), (Fz.le_refl _), St.pick (St.front X9368 (j := 4) rfl) (.keep _ (.skip _ (.skip _ (.skip _ (.skip _ (.refl _)))))), rfl, H9237, O9332⟩
        · refine dskip ?_
          refine nblock ?_
          refine nseq ?_
          refine dreg ?_
          refine lpure (v := .int .i64 s9331.1) rfl (p_move rfl) rfl rfl ?_
          refine lpure (v := .int .i64 (w64 (s9331.1 + 1))) rfl (p_add rfl) rfl rfl ?_
          refine lpure (v := .int .i64 (w64 (s9331.1 + 1))) rfl (p_assign rfl) rfl rfl ?_
          refine lend ?_
          exact kbackM ih9354 ((w64 (s9331.1 + 1)), s9331.2) (a9332, n9332, c9332, some b9361, .cells vs9361 50 m9361) (sub_cons rfl (sub_cons rfl (sub_cons rfl (sub_cons rfl (sub_cons rfl (sub_cons rfl (sub_cons rfl sub_nil))))))) ⟨X9356, O9332⟩
      · refine dexit ?_
        refine eseq ?_
        refine eloop ?_
        refine xblock ?_
        refine nseq ?_
        refine dseq ?_
        refine dreg ?_
        refine lpure (v := .pointer (some ⟨b9249, 2, none⟩)) rfl (p_fa fo_25_2 rfl) rfl rfl ?_
        refine lread (v := .slice a9332 n9332 c9332) rfl (q_load wd_23 rfl) (St.ld X9356 (j := 2) rfl rfl) rfl ?_
        refine lread (v := .agg #[.int .i64 p9243, .int .i64 p9244, .int .i64 (w64 (1 + (Int.tmod e9261 20))), .int .i64 (Int.tmod e9265 50)]) rfl (q_load wd_50 rfl) (St.ld X9356 (j := 0) rfl rfl) rfl ?_
        obtain ⟨h9369, b9369, hv9369, X9369, O9369⟩ := OSl.lay (E := eApiLink) (φ := φ) (cs := [.int .i64 p9243, .int .i64 p9244, .int .i64 (w64 (1 + (Int.tmod e9261 20))), .int .i64 (Int.tmod e9265 50)]) (l := [(ApiLink.mk p9243 p9244 (w64 (1 + (Int.tmod e9261 20))) (Int.tmod e9265 50))]) (len := 1) (parts := [(0, .agg #[.int .i64 p9243, .int .i64 p9244, .int .i64 (w64 (1 + (Int.tmod e9261 20))), .int .i64 (Int.tmod e9265 50)])]) un_23 ts_50 rfl rfl rfl tz_50 rfl rfl (show RowD eApiLink φ [.int .i64 p9243, .int .i64 p9244, .int .i64 (w64 (1 + (Int.tmod e9261 20))), .int .i64 (Int.tmod e9265 50)] [(ApiLink.mk p9243 p9244 (w64 (1 + (Int.tmod e9261 20))) (Int.tmod e9265 50))] from ⟨[.int .i64 p9243, .int .i64 p9244, .int .i64 (w64 (1 + (Int.tmod e9261 20))), .int .i64 (Int.tmod e9265 50)], _, rfl, ⟨_, _, rfl, rfl, ⟨_, _, rfl, rfl, ⟨_, _, rfl, rfl, ⟨_, _, rfl, rfl, rfl⟩⟩⟩⟩, rfl⟩) rfl rfl X9356
        refine lheap rfl (h_buildSlice rfl) hv9369 rfl ?_
        obtain ⟨ws9371, hw9371⟩ := OSl.read O9369 X9369 (k := 0) rfl (n := 4) rfl
        refine Sim.mustM fun k9371 => ?_
        obtain ⟨h9371, a9371, c9371, ob9371, blk9371, hv9371, X9371, O9371⟩ := OSl.append O9332 X9369 (j := 5) rfl hw9371 k9371 (ts := #[23, 23]) rfl un_23 (argOk_of ax_23_23) ts_50 rfl rfl tb_50 rfl tz_50 rfl
        refine lheap rfl (h_builtin rfl rfl) hv9371 rfl ?_
        refine lpure (v := .pointer (some ⟨b9249, 2, none⟩)) rfl (p_fa fo_25_2 rfl) rfl rfl ?_
        refine lstore rfl ts_23 rfl rfl (j := 3) rfl rfl rfl rfl rfl rfl X9371 (fun h9372 X9373 => ?_)
        refine lend ?_
        refine nseq ?_
        refine dseq ?_
        refine dreg ?_
        refine lread (v := .agg #[.int .i64 p9236.Nodes, .slice a9237 n9237 c9237, .slice a9371 (s9331.2.length + ([(ApiLink.mk p9243 p9244 (w64 (1 + (Int.tmod e9261 20))) (Int.tmod e9265 50))]).length) c9371]) rfl (q_load wd_25 rfl) (St.ld X9373 (j := 3) rfl rfl) rfl ?_
        refine lstore rfl ts_25 rfl rfl (j := 2) rfl rfl rfl rfl rfl rfl X9373 (fun h9374 X9375 => ?_)
        refine lend ?_
        refine nseq ?_
        refine dret ?_
        exact kopen_r (res_1 (resC wd_25 (St.ld X9375 (j := 2) rfl rfl))) ⟨φ, a9237, n9237, c9237, a9371, ((s9331.2.length + ([(ApiLink.mk p9243 p9244 (w64 (1 + (Int.tmod e9261 20))) (Int.tmod e9265 50))]).length)), c9371, ob9371, blk9371, (Fz.le_refl _), St.pick (St.front X9375 (j := 5) rfl) (.keep _ (.skip _ (.skip _ (.skip _ (.skip _ (.skip _ (.refl _))))))), rfl, H9237, O9371⟩
  · intro j9376 J9377
    refine lif (i := 31) (show _ = Value.bool (decide ((p9236.Links.length : Int) = 24)) from rfl) (fun k9378 => ?_) (fun k9378 => ?_)
    · refine lskip rfl rfl ?_
      refine lskip rfl rfl ?_
      refine lskip rfl rfl ?_
      refine lskip rfl rfl ?_
      refine lpure (v := .bool true) rfl (p_pick rfl) rfl rfl ?_
      exact ljmpM J9377 true () (sub_cons rfl (sub_cons rfl (sub_cons rfl (sub_cons rfl (sub_cons rfl (sub_cons rfl (sub_cons rfl sub_nil))))))) X9270
    · refine lread (v := .agg #[.int .i64 p9236.Nodes, .slice a9237 n9237 c9237, .slice a9238 n9238 c9238]) rfl (q_load wd_25 rfl) (St.ld X9270 (j := 2) rfl rfl) rfl ?_
      refine lread (v := .agg #[.int .i64 p9243, .int .i64 p9244, .int .i64 (w64 (1 + (Int.tmod e9261 20))), .int .i64 (Int.tmod e9265 50)]) rfl (q_load wd_50 rfl) (St.ld X9270 (j := 0) rfl rfl) rfl ?_
      obtain ⟨φ9379, g9380, X9381, H9382⟩ := OSl.freeze X9270 (j := 4) rfl O9242
      refine lcall rfl rfl ca_43 rfl rfl (f43_ok X9381 p9236 ((ApiLink.mk p9243 p9244 (w64 (1 + (Int.tmod e9261 20))) (Int.tmod e9265 50))) (H9237.mono g9380) H9382) rfl (fun e9383 v9384 h9385 hq9386 => ?_)
      cases hq9386
      refine lpure (v := .bool (!e9383)) rfl (p_not rfl) rfl rfl ?_
      refine lpure (v := .bool (!e9383)) rfl (p_pick rfl) rfl rfl ?_
      exact ljmpM J9377 (!e9383) () (sub_cons rfl (sub_cons rfl (sub_cons rfl (sub_cons rfl (sub_cons rfl (sub_cons rfl (sub_cons rfl sub_nil))))))) X9270
/-! (isochron/isochronref16.Draft).Topo -/
theorem f20_ok {n : Nat} {φ : Fz} {lo : Nat} {h : Heap} {own : OwnL}  {a80242 : Option Addr} {n80242 c80242 : Nat} {a80243 : Option Addr} {n80243 c80243 : Nat} {a80244 : Option Addr} {n80244 c80244 : Nat} {a80245 : Option Addr} {n80245 c80245 : Nat} (X : St φ lo h (own)) (p80241 : Isochronref16Draft) (H80242 : RSl (eInt .u8) φ (.slice a80242 n80242 c80242) p80241.Chords) (H80243 : RSl (eInt .u8) φ (.slice a80243 n80243 c80243) p80241.Homes) (H80244 : RSl (eInt .u8) φ (.slice a80244 n80244 c80244) p80241.Pers) (H80245 : RSl (eInt .u8) φ (.slice a80245 n80245 c80245) p80241.Delays) : Sim ((recN Try.prog LL cutF (n + 4)).call 20 #[(.agg #[.int .u8 p80241.Bridges, .int .u8 p80241.Stations, .slice a80242 n80242 c80242, .slice a80243 n80243 c80243, .slice a80244 n80244 c80244, .slice a80245 n80245 c80245])] h) (m_isochronref16_Draft_Topo p80241) (fun (d : ApiTopo) p => ∃ φ2 : Fz, ∃ a151126 : Option Addr, ∃ n151126 : Nat, ∃ c151126 : Nat, ∃ a151127 : Option Addr, ∃ n151127 : Nat, ∃ c151127 : Nat, ∃ ob151127 : Option Nat, ∃ blk151127 : Blk, Fz.le φ φ2 ∧ St φ2 lo p.2 ((ob151127, blk151127) :: own) ∧ p.1 = .agg #[.int .i64 d.Nodes, .slice a151126 n151126 c151126, .slice a151127 n151127 c151127] ∧ RSl eBool φ2 (.slice a151126 n151126 c151126) d.Station ∧ OSl eApiLink φ2 50 ob151127 blk151127 (.slice a151127 n151127 c151127) d.Links) := by
  refine fopen Try.func20 rfl rfl rfl rfl ?_
  refine dseq ?_
  refine dreg ?_
  refine lbox rfl rfl rfl rfl rfl X (fun b80246 h80248 X80249 => ?_)
  refine lalloc rfl tz_25 rfl rfl rfl X80249 (fun b80250 h80252 X80253 => ?_)
  refine lend ?_
  refine nseq ?_
  refine dseq ?_
  refine dreg ?_
  refine lpure (v := .pointer (some ⟨b80246, 0, none⟩)) rfl (p_fa fo_46_0 rfl) rfl rfl ?_
  refine lread (v := .int .u8 p80241.Bridges) rfl (q_load wd_5 rfl) (St.ld X80253 (j := 1) rfl rfl) rfl ?_
  refine lpure (v := .int .u8 (Int.tmod p80241.Bridges 6)) rfl (p_rem rfl) rfl rfl ?_
  refine lpure (v := .int .i64 (w64 (Int.tmod p80241.Bridges 6))) rfl (p_conv un_5 un_3 rfl) rfl rfl ?_
  refine lpure (v := .int .i64 (w64 (1 + (w64 (Int.tmod p80241.Bridges 6))))) rfl (p_add rfl) rfl rfl ?_
  refine lpure (v := .int .i64 (w64 (1 + (w64 (Int.tmod p80241.Bridges 6))))) rfl (p_assign rfl) rfl rfl ?_
  refine lend ?_
  refine nseq ?_
  refine dseq ?_
  refine dreg ?_
  refine lpure (v := .pointer (some ⟨b80246, 1, none⟩)) rfl (p_fa fo_46_1 rfl) rfl rfl ?_
  refine lread (v := .int .u8 p80241.Stations) rfl (q_load wd_5 rfl) (St.ld X80253 (j := 1) rfl rfl) rfl ?_
  refine lpure (v := .int .u8 (Int.tmod p80241.Stations 5)) rfl (p_rem rfl) rfl rfl ?_
  refine lpure (v := .int .i64 (w64 (Int.tmod p80241.Stations 5))) rfl (p_conv un_5 un_3 rfl) rfl rfl ?_
  refine lpure (v := .int .i64 (w64 (2 + (w64 (Int.tmod p80241.Stations 5))))) rfl (p_add rfl) rfl rfl ?_
  refine lpure (v := .int .i64 (w64 (2 + (w64 (Int.tmod p80241.Stations 5))))) rfl (p_assign rfl) rfl rfl ?_
  refine lend ?_
  refine nseq ?_
  refine dseq ?_
  refine dreg ?_
  refine lpure (v := .int .i64 (w64 (1 + (w64 (Int.tmod p80241.Bridges 6))))) rfl (p_move rfl) rfl rfl ?_
  refine lpure (v := .int .i64 (w64 (2 + (w64 (Int.tmod p80241.Stations 5))))) rfl (p_move rfl) rfl rfl ?_
  refine lpure (v := .int .i64 (w64 ((w64 (1 + (w64 (Int.tmod p80241.Bridges 6)))) + (w64 (2 + (w64 (Int.tmod p80241.Stations 5))))))) rfl (p_add rfl) rfl rfl ?_
  refine lpure (v := .agg #[.int .i64 (w64 ((w64 (1 + (w64 (Int.tmod p80241.Bridges 6)))) + (w64 (2 + (w64 (Int.tmod p80241.Stations 5)))))), .slice none 0 0, .slice none 0 0]) rfl (p_build rfl) (build_st' tz_25 pl_25 rfl) rfl ?_
  refine lalloc rfl tz_25 rfl rfl rfl X80253 (fun b80254 h80256 X80257 => ?_)
  refine lstore rfl ts_25 rfl rfl (j := 0) rfl rfl rfl rfl rfl rfl X80257 (fun h80258 X80259 => ?_)
  refine lend ?_
  refine nseq ?_
  refine dseq ?_
  refine dseq ?_
  refine dreg ?_
  refine lpure (v := .int .i64 0) rfl (p_assign rfl) rfl rfl ?_
  refine lend ?_
  refine nseq ?_
  refine dblock ?_
  refine dloopM (τ := Int × (List Bool)) (σ := Option Addr × Nat × Nat × Option Nat × Blk) (fun s113444 (a113446, n113446, c113446, ob113446, blk113446) => [(1, .pointer (some ⟨b80246, 0, none⟩)), (2, .pointer (some ⟨b80250, 0, none⟩)), (3, .int .i64 (w64 (1 + (w64 (Int.tmod p80241.Bridges 6))))), (4, .int .i64 (w64 (2 + (w64 (Int.tmod p80241.Stations 5))))), (5, .pointer (some ⟨b80254, 0, none⟩)), (6, .int .i64 s113444.1)]) (fun s113444 (a113446, n113446, c113446, ob113446, blk113446) hh => St φ lo hh ((ob113446, blk113446) :: (some b80254, .cells [.int .i64 (w64 ((w64 (1 + (w64 (Int.tmod p80241.Bridges 6)))) + (w64 (2 + (w64 (Int.tmod p80241.Stations 5)))))), .slice a113446 n113446 c113446, .slice none 0 0] 25 .exact) :: (some b80250, .cells [.int .i64 0, .slice none 0 0, .slice none 0 0] 25 .exact) :: (some b80246, .cells [.int .u8 p80241.Bridges, .int .u8 p80241.Stations, .slice a80242 n80242 c80242, .slice a80243 n80243 c80243, .slice a80244 n80244 c80244, .slice a80245 n80245 c80245] 46 .exact) :: own) ∧ OSl eBool φ 4 ob113446 blk113446 (.slice a113446 n113446 c113446) s113444.2) (0, []) (none, 0, 0, none, .dead) (sub_cons rfl (sub_cons rfl (sub_cons rfl (sub_cons rfl (sub_cons rfl (sub_cons rfl sub_nil)))))) ⟨(St.pick X80259 (.none _ (.keep _ (.keep _ (.keep _ (.refl _)))))), OSl.nil⟩ ?_
  rintro n132287 ih132286 s113444 ⟨a113446, n113446, c113446, ob113446, blk113446⟩ t0 h132289 ⟨X132288, O113446⟩
  refine dseq ?_
  refine dseq ?_
  refine dreg ?_
  refine lpure (v := .int .i64 s113444.1) rfl (p_move rfl) rfl rfl ?_
  refine lpure (v := .pointer (some ⟨b80254, 0, none⟩)) rfl (p_fa fo_25_0 rfl) rfl rfl ?_
  refine lread (v := .int .i64 (w64 ((w64 (1 + (w64 (Int.tmod p80241.Bridges 6)))) + (w64 (2 + (w64 (Int.tmod p80241.Stations 5))))))) rfl (q_load wd_3 rfl) (St.ld X132288 (j := 1) rfl rfl) rfl ?_
  refine lpure (v := .bool (decide (s113444.1 < (w64 ((w64 (1 + (w64 (Int.tmod p80241.Bridges 6)))) + (w64 (2 + (w64 (Int.tmod p80241.Stations 5))))))))) rfl (p_lt rfl) rfl rfl ?_
  refine lend ?_
  refine nseq ?_
  refine dcond rfl rfl (fun k132290 => ?_) (fun k132290 => ?_)
  · refine dskip ?_
    refine nseq ?_
    refine dseq ?_
    refine dblock ?_
    refine dreg ?_
    refine lpure (v := .pointer (some ⟨b80254, 1, none⟩)) rfl (p_fa fo_25_1 rfl) rfl rfl ?_
    refine lread (v := .slice a113446 n113446 c113446) rfl (q_load wd_22 rfl) (St.ld X132288 (j := 1) rfl rfl) rfl ?_
    refine lpure (v := .int .i64 s113444.1) rfl (p_move rfl) rfl rfl ?_
    refine lpure (v := .int .i64 (w64 (1 + (w64 (Int.tmod p80241.Bridges 6))))) rfl (p_move rfl) rfl rfl ?_
    refine lpure (v := .bool (decide ((w64 (1 + (w64 (Int.tmod p80241.Bridges 6)))) ≤ s113444.1))) rfl (p_ge rfl) rfl rfl ?_
    obtain ⟨h132291, b132291, hv132291, X132291, O132291⟩ := OSl.lay (E := eBool) (φ := φ) (cs := [.bool (decide ((w64 (1 + (w64 (Int.tmod p80241.Bridges 6)))) ≤ s113444.1))]) (l := [(decide ((w64 (1 + (w64 (Int.tmod p80241.Bridges 6)))) ≤ s113444.1))]) (len := 1) (parts := [(0, .bool (decide ((w64 (1 + (w64 (Int.tmod p80241.Bridges 6)))) ≤ s113444.1)))]) un_22 ts_4 rfl rfl rfl tz_4 rfl rfl (show RowD eBool φ [.bool (decide ((w64 (1 + (w64 (Int.tmod p80241.Bridges 6)))) ≤ s113444.1))] [(decide ((w64 (1 + (w64 (Int.tmod p80241.Bridges 6)))) ≤ s113444.1))] from ⟨[.bool (decide ((w64 (1 + (w64 (Int.tmod p80241.Bridges 6)))) ≤ s113444.1))], _, rfl, rfl, rfl⟩) rfl rfl X132288
    refine lheap rfl (h_buildSlice rfl) hv132291 rfl ?_
    obtain ⟨ws132293, hw132293⟩ := OSl.read O132291 X132291 (k := 0) rfl (n := 1) rfl
    refine Sim.mustM fun k132293 => ?_
    obtain ⟨h132293, a132293, c132293, ob132293, blk132293, hv132293, X132293, O132293⟩ := OSl.append O113446 X132291 (j := 1) rfl hw132293 k132293 (ts := #[22, 22]) rfl un_22 (argOk_of ax_22_22) ts_4 rfl rfl tb_4 rfl tz_4 rfl
    refine lheap rfl (h_builtin rfl rfl) hv132293 rfl ?_
    refine lpure (v := .pointer (some ⟨b80254, 1, none⟩)) rfl (p_fa fo_25_1 rfl) rfl rfl ?_
    refine lstore rfl ts_22 rfl rfl (j := 2) rfl rfl rfl rfl rfl rfl X132293 (fun h132294 X132295 => ?_)
    refine lend ?_
    refine nblock ?_
    refine nseq ?_
    refine dreg ?_
    refine lpure (v := .int .i64 s113444.1) rfl (p_move rfl) rfl rfl ?_
    refine lpure (v := .int .i64 (w64 (s113444.1 + 1))) rfl (p_add rfl) rfl rfl ?_
    refine lpure (v := .int .i64 (w64 (s113444.1 + 1))) rfl (p_assign rfl) rfl rfl ?_
    refine lend ?_
    exact kbackM ih132286 ((w64 (s113444.1 + 1)), (s113444.2 ++ ([(decide ((w64 (1 + (w64 (Int.tmod p80241.Bridges 6)))) ≤ s113444.1))]))) (a132293, (s113444.2.length + ([(decide ((w64 (1 + (w64 (Int.tmod p80241.Bridges 6)))) ≤ s113444.1))]).length), c132293, ob132293, blk132293) (sub_cons rfl (sub_cons rfl (sub_cons rfl (sub_cons rfl (sub_cons rfl (sub_cons rfl sub_nil)))))) ⟨(St.pick X132295 (.skip _ (.keep _ (.keep _ (.keep _ (.keep _ (.refl _))))))), O132293⟩
  · refine dexit ?_
    refine eseq ?_
    refine eloop ?_
    refine xblock ?_
    refine nseq ?_
    refine dseq ?_
    refine dseq ?_
    refine dreg ?_
    refine lpure (v := .int .i64 1) rfl (p_assign rfl) rfl rfl ?_
    refine lend ?_
    refine nseq ?_
    refine dblock ?_
    obtain ⟨φ136790, g136791, X136792, H136793⟩ := OSl.freeze X132288 (j := 0) rfl O113446
    refine dloopM (τ := Int × Int × (List Bool) × (List ApiLink)) (σ := Fz × Option Addr × Nat × Nat × Option Nat × Blk × Option Addr × Nat × Nat) (fun s143959 (φ143963, a143962, n143962, c143962, ob143962, blk143962, a143960, n143960, c143960) => [(1, .pointer (some ⟨b80246, 0, none⟩)), (2, .pointer (some ⟨b80250, 0, none⟩)), (3, .int .i64 (w64 (1 + (w64 (Int.tmod p80241.Bridges 6))))), (4, .int .i64 (w64 (2 + (w64 (Int.tmod p80241.Stations 5))))), (5, .pointer (some ⟨b80254, 0, none⟩)), (7, .int .i64 s143959.1)]) (fun s143959 (φ143963, a143962, n143962, c143962, ob143962, blk143962, a143960, n143960, c143960) hh => St φ143963 lo hh ((ob143962, blk143962) :: (none, .dead) :: (some b80254, .cells [.int .i64 s143959.2.1, .slice a143960 n143960 c143960, .slice a143962 n143962 c143962] 25 .exact) :: (some b80250, .cells [.int .i64 0, .slice none 0 0, .slice none 0 0] 25 .exact) :: (some b80246, .cells [.int .u8 p80241.Bridges, .int .u8 p80241.Stations, .slice a80242 n80242 c80242, .slice a80243 n80243 c80243, .slice a80244 n80244 c80244, .slice a80245 n80245 c80245] 46 .exact) :: own) ∧ Fz.le φ136790 φ143963 ∧ OSl eApiLink φ143963 50 ob143962 blk143962 (.slice a143962 n143962 c143962) s143959.2.2.2 ∧ RSl eBool φ143963 (.slice a143960 n143960 c143960) s143959.2.2.1) (1, (w64 ((w64 (1 + (w64 (Int.tmod p80241.Bridges 6)))) + (w64 (2 + (w64 (Int.tmod p80241.Stations 5)))))), s113444.2, []) (φ136790, none, 0, 0, none, .dead, a113446, n113446, c113446) (sub_cons rfl (sub_cons rfl (sub_cons rfl (sub_cons rfl (sub_cons rfl (sub_cons rfl sub_nil)))))) ⟨(St.pick X136792 (.none _ (.none _ (.skip _ (.keep _ (.keep _ (.keep _ (.refl _)))))))), (Fz.le_refl _), OSl.nil, H136793⟩ ?_
    rintro n147546 ih147545 s143959 ⟨φ143963, a143962, n143962, c143962, ob143962, blk143962, a143960, n143960, c143960⟩ t0 h147548 ⟨X147547, g143964, O143962, H143960⟩
    refine dseq ?_
    refine dseq ?_
    refine dreg ?_
    refine lpure (v := .int .i64 s143959.1) rfl (p_move rfl) rfl rfl ?_
    refine lpure (v := .int .i64 (w64 (1 + (w64 (Int.tmod p80241.Bridges 6))))) rfl (p_move rfl) rfl rfl ?_
    refine lpure (v := .bool (decide (s143959.1 < (w64 (1 + (w64 (Int.tmod p80241.Bridges 6))))))) rfl (p_lt rfl) rfl rfl ?_
    refine lend ?_
    refine nseq ?_
    refine dcond rfl rfl (fun k147549 => ?_) (fun k147549 => ?_)
    · refine dskip ?_
      refine nseq ?_
      refine dseq ?_
      refine dblock ?_
      refine dreg ?_
      refine lread (v := .agg #[.int .u8 p80241.Bridges, .int .u8 p80241.Stations, .slice a80242 n80242 c80242, .slice a80243 n80243 c80243, .slice a80244 n80244 c80244, .slice a80245 n80245 c80245]) rfl (q_load wd_46 rfl) (St.ld X147547 (j := 4) rfl rfl) rfl ?_
      refine lread (v := .agg #[.int .i64 s143959.2.1, .slice a143960 n143960 c143960, .slice a143962 n143962 c143962]) rfl (q_load wd_25 rfl) (St.ld X147547 (j := 2) rfl rfl) rfl ?_
      refine lpure (v := .int .i64 s143959.1) rfl (p_move rfl) rfl rfl ?_
      refine lpure (v := .int .i64 (w64 (s143959.1 - 1))) rfl (p_sub rfl) rfl rfl ?_
      refine lpure (v := .int .i64 s143959.1) rfl (p_move rfl) rfl rfl ?_
      refine lcall rfl rfl ca_49 rfl rfl (f49_ok X147547 p80241 ((ApiTopo.mk s143959.2.1 s143959.2.2.1 s143959.2.2.2)) ((w64 (s143959.1 - 1))) (s143959.1) (H80242.mono (g136791.trans g143964)) (H80243.mono (g136791.trans g143964)) (H80244.mono (g136791.trans g143964)) (H80245.mono (g136791.trans g143964)) H143960 O143962) rfl ?_
      rintro e147550 _ h147552 ⟨φ147554, a147557, n147557, c147557, a147558, n147558, c147558, ob147558, blk147558, g147555, X147556, rfl, H147557, O147558⟩
      refine lstore rfl ts_25 rfl rfl (j := 2) rfl rfl rfl rfl rfl rfl X147556 (fun h147560 X147561 => ?_)
      refine lend ?_
      refine nblock ?_
      refine nseq ?_
      refine dreg ?_
      refine lpure (v := .int .i64 s143959.1) rfl (p_move rfl) rfl rfl ?_
      refine lpure (v := .int .i64 (w64 (s143959.1 + 1))) rfl (p_add rfl) rfl rfl ?_
      refine lpure (v := .int .i64 (w64 (s143959.1 + 1))) rfl (p_assign rfl) rfl rfl ?_
      refine lend ?_
      exact kbackM ih147545 ((w64 (s143959.1 + 1)), e147550.Nodes, e147550.Station, e147550.Links) (φ147554, a147558, n147558, c147558, ob147558, blk147558, a147557, n147557, c147557) (sub_cons rfl (sub_cons rfl (sub_cons rfl (sub_cons rfl (sub_cons rfl (sub_cons rfl sub_nil)))))) ⟨(St.pick X147561 (.keep _ (.none _ (.skip _ (.keep _ (.keep _ (.keep _ (.refl _)))))))), (g143964.trans g147555), O147558, H147557⟩
    · refine dexit ?_
      refine eseq ?_
      refine eloop ?_
      refine xblock ?_
      refine nseq ?_
      refine dseq ?_
      refine dseq ?_
      refine dreg ?_
      refine lpure (v := .int .i64 0) rfl (p_assign rfl) rfl rfl ?_
      refine lend ?_
      refine nseq ?_
      refine dblock ?_
      refine dloopM (τ := Int × Int × (List Bool) × (List ApiLink)) (σ := Fz × Option Addr × Nat × Nat × Option Nat × Blk × Option Addr × Nat × Nat) (fun s149343 (φ149347, a149346, n149346, c149346, ob149346, blk149346, a149344, n149344, c149344) => [(1, .pointer (some ⟨b80246, 0, none⟩)), (2, .pointer (some ⟨b80250, 0, none⟩)), (3, .int .i64 (w64 (1 + (w64 (Int.tmod p80241.Bridges 6))))), (4, .int .i64 (w64 (2 + (w64 (Int.tmod p80241.Stations 5))))), (5, .pointer (some ⟨b80254, 0, none⟩)), (8, .int .i64 s149343.1)]) (fun s149343 (φ149347, a149346, n149346, c149346, ob149346, blk149346, a149344, n149344, c149344) hh => St φ149347 lo hh ((ob149346, blk149346) :: (none, .dead) :: (none, .dead) :: (some b80254, .cells [.int .i64 s149343.2.1, .slice a149344 n149344 c149344, .slice a149346 n149346 c149346] 25 .exact) :: (some b80250, .cells [.int .i64 0, .slice none 0 0, .slice none 0 0] 25 .exact) :: (some b80246, .cells [.int .u8 p80241.Bridges, .int .u8 p80241.Stations, .slice a80242 n80242 c80242, .slice a80243 n80243 c80243, .slice a80244 n80244 c80244, .slice a80245 n80245 c80245] 46 .exact) :: own) ∧ Fz.le φ143963 φ149347 ∧ OSl eApiLink φ149347 50 ob149346 blk149346 (.slice a149346 n149346 c149346) s149343.2.2.2 ∧ RSl eBool φ149347 (.slice a149344 n149344 c149344) s149343.2.2.1) (0, s143959.2.1, s143959.2.2.1, s143959.2.2.2) (φ143963, a143962, n143962, c143962, ob143962, blk143962, a143960, n143960, c143960) (sub_cons rfl (sub_cons rfl (sub_cons rfl (sub_cons rfl (sub_cons rfl (sub_cons rfl sub_nil)))))) ⟨(St.pick X147547 (.keep _ (.none _ (.none _ (.skip _ (.keep _ (.keep _ (.keep _ (.refl _))))))))), (Fz.le_refl _), O143962, H143960⟩ ?_
      rintro n150238 ih150237 s149343 ⟨φ149347, a149346, n149346, c149346, ob149346, blk149346, a149344, n149344, c149344⟩ t0 h150240 ⟨X150239, g149348, O149346, H149344⟩
      refine dseq ?_
      refine dseq ?_
      refine dreg ?_
      refine lpure (v := .int .i64 s149343.1) rfl (p_move rfl) rfl rfl ?_
      refine lpure (v := .int .i64 (w64 (2 + (w64 (Int.tmod p80241.Stations 5))))) rfl (p_move rfl) rfl rfl ?_
      refine lpure (v := .bool (decide (s149343.1 < (w64 (2 + (w64 (Int.tmod p80241.Stations 5))))))) rfl (p_lt rfl) rfl rfl ?_
      refine lend ?_
      refine nseq ?_
      refine dcond rfl rfl (fun k150241 => ?_) (fun k150241 => ?_)
      · refine dskip ?_
        refine nseq ?_
        refine dseq ?_
        refine dblock ?_
        refine dgo_start (n := 14) rfl (by kernel_rfl) ?_
        refine gload (v := .agg #[.int .u8 p80241.Bridges, .int .u8 p80241.Stations, .slice a80242 n80242 c80242, .slice a80243 n80243 c80243, .slice a80244 n80244 c80244, .slice a80245 n80245 c80245]) rfl (q_load wd_46 rfl) (St.ld X150239 (j := 5) rfl rfl) rfl ?_
        refine gload (v := .agg #[.int .i64 s149343.2.1, .slice a149344 n149344 c149344, .slice a149346 n149346 c149346]) rfl (q_load wd_25 rfl) (St.ld X150239 (j := 3) rfl rfl) rfl ?_
        refine gpure (v := .int .i64 (w64 (1 + (w64 (Int.tmod p80241.Bridges 6))))) rfl (p_move rfl) (lo_t rfl rfl) rfl rfl ?_
        refine gpure (v := .int .i64 s149343.1) rfl (p_move rfl) (lo_t rfl rfl) rfl rfl ?_
        refine gpure (v := .int .i64 (w64 ((w64 (1 + (w64 (Int.tmod p80241.Bridges 6)))) + s149343.1))) rfl (p_add rfl) (lo_t rfl (lo_t rfl rfl)) rfl rfl ?_
        refine gpure (v := .pointer (some ⟨b80246, 3, none⟩)) rfl (p_fa fo_46_3 rfl) (lo_t (lo_own X150239 (j := 5) (o := 0) (s := none) (f := 0) rfl) rfl) rfl rfl ?_
        refine gload (v := .slice a80243 n80243 c80243) rfl (q_load wd_44 rfl) (St.ld X150239 (j := 5) rfl rfl) rfl ?_
        refine gpure (v := .int .i64 s149343.1) rfl (p_move rfl) (lo_t rfl rfl) rfl rfl ?_
        refine gpure (v := .int .i64 (w64 (2 * s149343.1))) rfl (p_mul rfl) (lo_c (lo_t rfl rfl)) rfl rfl ?_
        refine gwait rfl (still_call rfl rfl ca_50 rfl) rfl ?_
        refine gpure (v := .int .i64 (w64 (1 + (w64 (Int.tmod p80241.Bridges 6))))) rfl (p_move rfl) (lo_t rfl rfl) rfl rfl ?_
        refine dgo_skip ?_
        refine dgo_skip ?_
        refine dgo_skip ?_
        refine gcall (m := 13) [false, true, true] (rk_cons (q_load wd_44 rfl) (St.ld X150239 (j := 5) rfl rfl) (same_self 20 rfl) (rk_cons (q_load wd_25 rfl) (St.ld X150239 (j := 3) rfl rfl) (same_self 20 rfl) (rk_cons (q_load wd_46 rfl) (St.ld X150239 (j := 5) rfl rfl) (same_self 20 rfl) rk_nil))) rfl rfl rfl rfl rfl ca_50 rfl rfl (f50_ok X150239 (p80241.Homes) ((w64 (2 * s149343.1))) (H80243.mono ((g136791.trans g143964).trans g149348))) rfl (fun e150242 v150243 h150244 hq150245 => ?_)
        cases hq150245
        refine dgo_skip ?_
        refine dgo_skip ?_
        refine dgo_skip ?_
        refine dgo_skip ?_
        refine dgo_skip ?_
        refine dgo_skip ?_
        refine dgo_skip ?_
        refine dgo_skip ?_
        refine dgo_skip ?_
        refine dgo_skip ?_
        refine dgo_skip ?_
        refine Sim.mustM fun k150246 => ?_
        refine gpure (v := .int .i64 (Int.tmod e150242 (w64 (1 + (w64 (Int.tmod p80241.Bridges 6)))))) rfl (p_rem rfl) (lo_t rfl (lo_t rfl rfl)) (rem_ok (of_decide_eq_true k150246)) rfl ?_
        refine gwait rfl (still_call rfl rfl ca_49 rfl) rfl ?_
        refine dgo_skip ?_
        refine gcall (m := 12) [false, false] (rk_cons (q_load wd_25 rfl) (St.ld X150239 (j := 3) rfl rfl) (same_self 20 rfl) (rk_cons (q_load wd_46 rfl) (St.ld X150239 (j := 5) rfl rfl) (same_self 20 rfl) rk_nil)) rfl rfl rfl rfl rfl ca_49 rfl rfl (f49_ok X150239 p80241 ((ApiTopo.mk s149343.2.1 s149343.2.2.1 s149343.2.2.2)) ((w64 ((w64 (1 + (w64 (Int.tmod p80241.Bridges 6)))) + s149343.1))) ((Int.tmod e150242 (w64 (1 + (w64 (Int.tmod p80241.Bridges 6)))))) (H80242.mono ((g136791.trans g143964).trans g149348)) (H80243.mono ((g136791.trans g143964).trans g149348)) (H80244.mono ((g136791.trans g143964).trans g149348)) (H80245.mono ((g136791.trans g143964).trans g149348)) H149344 O149346) rfl ?_
        rintro e150247 _ h150249 ⟨φ150251, a150254, n150254, c150254, a150255, n150255, c150255, ob150255, blk150255, g150252, X150253, rfl, H150254, O150255⟩
        refine dgo_skip ?_
        refine dgo_skip ?_
        refine dgo_skip ?_
        refine dgo_skip ?_
        refine dgo_skip ?_
        refine dgo_skip ?_
        refine dgo_skip ?_
        refine dgo_skip ?_
        refine dgo_skip ?_
        refine dgo_skip ?_
        refine dgo_skip ?_
        refine dgo_skip ?_
        refine dgo_skip ?_
        refine gwait rfl (still_store rfl rfl rfl) rfl ?_
        obtain ⟨h150257, hst150259, X150258⟩ := St.st X150253 (j := 3) (o := 0) (n := 3) (x := .agg #[.int .i64 e150247.Nodes, .slice a150254 n150254 c150254, .slice a150255 n150255 c150255]) rfl rfl rfl rfl rfl rfl
        refine gact0 (m := 11) [] rk_nil rfl rfl rfl rfl (h_store ts_25 rfl) hst150259 ?_
        refine dgo_skip ?_
        refine dgo_skip ?_
        refine dgo_skip ?_
        refine dgo_skip ?_
        refine dgo_skip ?_
        refine dgo_skip ?_
        refine dgo_skip ?_
        refine dgo_skip ?_
        refine dgo_skip ?_
        refine dgo_skip ?_
        refine dgo_skip ?_
        refine dgo_skip ?_
        refine dgo_skip ?_
        refine dgo_skip ?_
        refine gend rk_nil ?_
        refine nblock ?_
        refine nseq ?_
        refine dreg ?_
        refine lpure (v := .int .i64 s149343.1) rfl (p_move rfl) rfl rfl ?_
        refine lpure (v := .int .i64 (w64 (s149343.1 + 1))) rfl (p_add rfl) rfl rfl ?_
        refine lpure (v := .int .i64 (w64 (s149343.1 + 1))) rfl (p_assign rfl) rfl rfl ?_
        refine lend ?_
        exact kbackM ih150237 ((w64 (s149343.1 + 1)), e150247.Nodes, e150247.Station, e150247.Links) (φ150251, a150255, n150255, c150255, ob150255, blk150255, a150254, n150254, c150254) (sub_cons rfl (sub_cons rfl (sub_cons rfl (sub_cons rfl (sub_cons rfl (sub_cons rfl sub_nil)))))) ⟨(St.pick X150258 (.keep _ (.none _ (.none _ (.skip _ (.skip _ (.keep _ (.keep _ (.keep _ (.refl _)))))))))), (g149348.trans g150252), O150255, H150254⟩
      · refine dexit ?_
        refine eseq ?_
        refine eloop ?_
        refine xblock ?_
        refine nseq ?_
        refine dseq ?_
        refine dseq ?_
        refine dreg ?_
        refine lpure (v := .int .i64 (w64 (1 + (w64 (Int.tmod p80241.Bridges 6))))) rfl (p_move rfl) rfl rfl ?_
        refine lpure (v := .bool (decide (2 < (w64 (1 + (w64 (Int.tmod p80241.Bridges 6))))))) rfl (p_gt rfl) rfl rfl ?_
        refine lpure (v := .bool (decide (2 < (w64 (1 + (w64 (Int.tmod p80241.Bridges 6))))))) rfl (p_move rfl) rfl rfl ?_
        refine lsh (τ := Bool) (σ := Unit) (fun s150261 (_ : Unit) => [(1, .pointer (some ⟨b80246, 0, none⟩)), (2, .pointer (some ⟨b80250, 0, none⟩)), (3, .int .i64 (w64 (1 + (w64 (Int.tmod p80241.Bridges 6))))), (4, .int .i64 (w64 (2 + (w64 (Int.tmod p80241.Stations 5))))), (5, .pointer (some ⟨b80254, 0, none⟩)), (75, .bool s150261)]) (fun s150261 (_ : Unit) hh => St φ149347 lo hh ((ob149346, blk149346) :: (none, .dead) :: (none, .dead) :: (some b80254, .cells [.int .i64 s149343.2.1, .slice a149344 n149344 c149344, .slice a149346 n149346 c149346] 25 .exact) :: (some b80250, .cells [.int .i64 0, .slice none 0 0, .slice none 0 0] 25 .exact) :: (some b80246, .cells [.int .u8 p80241.Bridges, .int .u8 p80241.Stations, .slice a80242 n80242 c80242, .slice a80243 n80243 c80243, .slice a80244 n80244 c80244, .slice a80245 n80245 c80245] 46 .exact) :: own)) 5 ?_ ?_
        · rintro s150261 _ t0 h150263 X150262
          refine lend ?_
          refine nseq ?_
          refine djoinM (τ := Int × (List Bool) × (List ApiLink)) (σ := Fz × Option Addr × Nat × Nat × Option Nat × Blk × Option Addr × Nat × Nat) (fun s150277 (φ150281, a150280, n150280, c150280, ob150280, blk150280, a150278, n150278, c150278) => [(1, .pointer (some ⟨b80246, 0, none⟩)), (2, .pointer (some ⟨b80250, 0, none⟩)), (3, .int .i64 (w64 (1 + (w64 (Int.tmod p80241.Bridges 6))))), (4, .int .i64 (w64 (2 + (w64 (Int.tmod p80241.Stations 5))))), (5, .pointer (some ⟨b80254, 0, none⟩))]) (fun s150277 (φ150281, a150280, n150280, c150280, ob150280, blk150280, a150278, n150278, c150278) hh => St φ150281 lo hh ((ob150280, blk150280) :: (none, .dead) :: (none, .dead) :: (none, .dead) :: (some b80254, .cells [.int .i64 s150277.1, .slice a150278 n150278 c150278, .slice a150280 n150280 c150280] 25 .exact) :: (some b80250, .cells [.int .i64 0, .slice none 0 0, .slice none 0 0] 25 .exact) :: (some b80246, .cells [.int .u8 p80241.Bridges, .int .u8 p80241.Stations, .slice a80242 n80242 c80242, .slice a80243 n80243 c80243, .slice a80244 n80244 c80244, .slice a80245 n80245 c80245] 46 .exact) :: own) ∧ Fz.le φ149347 φ150281 ∧ OSl eApiLink φ150281 50 ob150280 blk150280 (.slice a150280 n150280 c150280) s150277.2.2 ∧ RSl eBool φ150281 (.slice a150278 n150278 c150278) s150277.2.1) ?_ ?_
          · rintro s150277 ⟨φ150281, a150280, n150280, c150280, ob150280, blk150280, a150278, n150278, c150278⟩ t0 h150284 ⟨X150283, g150282, O150280, H150278⟩
            refine nseq ?_
            refine dseq ?_
            refine dseq ?_
            refine dreg ?_
            refine lpure (v := .int .i64 0) rfl (p_assign rfl) rfl rfl ?_
            refine lend ?_
            refine nseq ?_
            refine dblock ?_
            refine dloopM (τ := Int × Int × (List Bool) × (List ApiLink)) (σ := Fz × Option Addr × Nat × Nat × Option Nat × Blk × Option Addr × Nat × Nat) (fun s150698 (φ150702, a150701, n150701, c150701, ob150701, blk150701, a150699, n150699, c150699) => [(1, .pointer (some ⟨b80246, 0, none⟩)), (2, .pointer (some ⟨b80250, 0, none⟩)), (3, .int .i64 (w64 (1 + (w64 (Int.tmod p80241.Bridges 6))))), (4, .int .i64 (w64 (2 + (w64 (Int.tmod p80241.Stations 5))))), (5, .pointer (some ⟨b80254, 0, none⟩)), (9, .int .i64 s150698.1)]) (fun s150698 (φ150702, a150701, n150701, c150701, ob150701, blk150701, a150699, n150699, c150699) hh => St φ150702 lo hh ((ob150701, blk150701) :: (none, .dead) :: (none, .dead) :: (none, .dead) :: (none, .dead) :: (some b80254, .cells [.int .i64 s150698.2.1, .slice a150699 n150699 c150699, .slice a150701 n150701 c150701] 25 .exact) :: (some b80250, .cells [.int .i64 0, .slice none 0 0, .slice none 0 0] 25 .exact) :: (some b80246, .cells [.int .u8 p80241.Bridges, .int .u8 p80241.Stations, .slice a80242 n80242 c80242, .slice a80243 n80243 c80243, .slice a80244 n80244 c80244, .slice a80245 n80245 c80245] 46 .exact) :: own) ∧ Fz.le φ150281 φ150702 ∧ OSl eApiLink φ150702 50 ob150701 blk150701 (.slice a150701 n150701 c150701) s150698.2.2.2 ∧ RSl eBool φ150702 (.slice a150699 n150699 c150699) s150698.2.2.1) (0, s150277.1, s150277.2.1, s150277.2.2) (φ150281, a150280, n150280, c150280, ob150280, blk150280, a150278, n150278, c150278) (sub_cons rfl (sub_cons rfl (sub_cons rfl (sub_cons rfl (sub_cons rfl (sub_cons rfl sub_nil)))))) ⟨(St.pick X150283 (.keep _ (.none _ (.none _ (.none _ (.none _ (.skip _ (.skip _ (.skip _ (.keep _ (.keep _ (.keep _ (.refl _))))))))))))), (Fz.le_refl _), O150280, H150278⟩ ?_
            rintro n150908 ih150907 s150698 ⟨φ150702, a150701, n150701, c150701, ob150701, blk150701, a150699, n150699, c150699⟩ t0 h150910 ⟨X150909, g150703, O150701, H150699⟩
            refine dseq ?_
            refine dseq ?_
            refine dreg ?_
            refine lpure (v := .int .i64 s150698.1) rfl (p_move rfl) rfl rfl ?_
            refine lpure (v := .int .i64 (w64 (2 + (w64 (Int.tmod p80241.Stations 5))))) rfl (p_move rfl) rfl rfl ?_
            refine lpure (v := .bool (decide (s150698.1 < (w64 (2 + (w64 (Int.tmod p80241.Stations 5))))))) rfl (p_lt rfl) rfl rfl ?_
            refine lend ?_
            refine nseq ?_
            refine dcond rfl rfl (fun k150911 => ?_) (fun k150911 => ?_)
            · refine dskip ?_
              refine nseq ?_
              refine dseq ?_
              refine dblock ?_
              refine dseq ?_
              refine dreg ?_
              refine lpure (v := .pointer (some ⟨b80246, 3, none⟩)) rfl (p_fa fo_46_3 rfl) rfl rfl ?_
              refine lread (v := .slice a80243 n80243 c80243) rfl (q_load wd_44 rfl) (St.ld X150909 (j := 7) rfl rfl) rfl ?_
              refine lpure (v := .int .i64 s150698.1) rfl (p_move rfl) rfl rfl ?_
              refine lpure (v := .int .i64 (w64 (2 * s150698.1))) rfl (p_mul rfl) rfl rfl ?_
              refine lpure (v := .int .i64 (w64 ((w64 (2 * s150698.1)) + 1))) rfl (p_add rfl) rfl rfl ?_
              refine lcall rfl rfl ca_50 rfl rfl (f50_ok X150909 (p80241.Homes) ((w64 ((w64 (2 * s150698.1)) + 1))) (H80243.mono ((((g136791.trans g143964).trans g149348).trans g150282).trans g150703))) rfl (fun e150912 v150913 h150914 hq150915 => ?_)
              cases hq150915
              refine lpure (v := .int .i64 (Int.tmod e150912 3)) rfl (p_rem rfl) rfl rfl ?_
              refine lpure (v := .bool (decide (0 < (Int.tmod e150912 3)))) rfl (p_gt rfl) rfl rfl ?_
              refine lend ?_
              refine nseq ?_
              refine djoinM (τ := Int × (List Bool) × (List ApiLink)) (σ := Fz × Option Addr × Nat × Nat × Option Nat × Blk × Option Addr × Nat × Nat) (fun s150935 (φ150939, a150938, n150938, c150938, ob150938, blk150938, a150936, n150936, c150936) => [(1, .pointer (some ⟨b80246, 0, none⟩)), (2, .pointer (some ⟨b80250, 0, none⟩)), (3, .int .i64 (w64 (1 + (w64 (Int.tmod p80241.Bridges 6))))), (4, .int .i64 (w64 (2 + (w64 (Int.tmod p80241.Stations 5))))), (5, .pointer (some ⟨b80254, 0, none⟩)), (9, .int .i64 s150698.1)]) (fun s150935 (φ150939, a150938, n150938, c150938, ob150938, blk150938, a150936, n150936, c150936) hh => St φ150939 lo hh ((ob150938, blk150938) :: (none, .dead) :: (none, .dead) :: (none, .dead) :: (none, .dead) :: (none, .dead) :: (some b80254, .cells [.int .i64 s150935.1, .slice a150936 n150936 c150936, .slice a150938 n150938 c150938] 25 .exact) :: (some b80250, .cells [.int .i64 0, .slice none 0 0, .slice none 0 0] 25 .exact) :: (some b80246, .cells [.int .u8 p80241.Bridges, .int .u8 p80241.Stations, .slice a80242 n80242 c80242, .slice a80243 n80243 c80243, .slice a80244 n80244 c80244, .slice a80245 n80245 c80245] 46 .exact) :: own) ∧ Fz.le φ150702 φ150939 ∧ OSl eApiLink φ150939 50 ob150938 blk150938 (.slice a150938 n150938 c150938) s150935.2.2 ∧ RSl eBool φ150939 (.slice a150936 n150936 c150936) s150935.2.1) ?_ ?_
              · rintro s150935 ⟨φ150939, a150938, n150938, c150938, ob150938, blk150938, a150936, n150936, c150936⟩ t0 h150942 ⟨X150941, g150940, O150938, H150936⟩
                refine nblock ?_
                refine nseq ?_
                refine dreg ?_
                refine lpure (v := .int .i64 s150698.1) rfl (p_move rfl) rfl rfl ?_
                refine lpure (v := .int .i64 (w64 (s150698.1 + 1))) rfl (p_add rfl) rfl rfl ?_
                refine lpure (v := .int .i64 (w64 (s150698.1 + 1))) rfl (p_assign rfl) rfl rfl ?_
                refine lend ?_
                exact kbackM ih150907 ((w64 (s150698.1 + 1)), s150935.1, s150935.2.1, s150935.2.2) (φ150939, a150938, n150938, c150938, ob150938, blk150938, a150936, n150936, c150936) (sub_cons rfl (sub_cons rfl (sub_cons rfl (sub_cons rfl (sub_cons rfl (sub_cons rfl sub_nil)))))) ⟨(St.pick X150941 (.keep _ (.none _ (.none _ (.none _ (.none _ (.skip _ (.skip _ (.skip _ (.skip _ (.skip _ (.keep _ (.keep _ (.keep _ (.refl _))))))))))))))), (g150703.trans g150940), O150938, H150936⟩
              · intro j150943 J150944
                refine dcond rfl rfl (fun k150916 => ?_) (fun k150916 => ?_)
                · refine dgo_start (n := 15) rfl (by kernel_rfl) ?_
                  refine gload (v := .agg #[.int .u8 p80241.Bridges, .int .u8 p80241.Stations, .slice a80242 n80242 c80242, .slice a80243 n80243 c80243, .slice a80244 n80244 c80244, .slice a80245 n80245 c80245]) rfl (q_load wd_46 rfl) (St.ld X150909 (j := 7) rfl rfl) rfl ?_
                  refine gload (v := .agg #[.int .i64 s150698.2.1, .slice a150699 n150699 c150699, .slice a150701 n150701 c150701]) rfl (q_load wd_25 rfl) (St.ld X150909 (j := 5) rfl rfl) rfl ?_
                  refine gpure (v := .int .i64 (w64 (1 + (w64 (Int.tmod p80241.Bridges 6))))) rfl (p_move rfl) (lo_t rfl rfl) rfl rfl ?_
                  refine gpure (v := .int .i64 s150698.1) rfl (p_move rfl) (lo_t rfl rfl) rfl rfl ?_
                  refine gpure (v := .int .i64 (w64 ((w64 (1 + (w64 (Int.tmod p80241.Bridges 6)))) + s150698.1))) rfl (p_add rfl) (lo_t rfl (lo_t rfl rfl)) rfl rfl ?_
                  refine gpure (v := .pointer (some ⟨b80246, 3, none⟩)) rfl (p_fa fo_46_3 rfl) (lo_t (lo_own X150909 (j := 7) (o := 0) (s := none) (f := 0) rfl) rfl) rfl rfl ?_
                  refine gload (v := .slice a80243 n80243 c80243) rfl (q_load wd_44 rfl) (St.ld X150909 (j := 7) rfl rfl) rfl ?_
                  refine gpure (v := .int .i64 s150698.1) rfl (p_move rfl) (lo_t rfl rfl) rfl rfl ?_
                  refine gpure (v := .int .i64 (w64 (2 * s150698.1))) rfl (p_mul rfl) (lo_c (lo_t rfl rfl)) rfl rfl ?_
                  refine gpure (v := .int .i64 (w64 ((w64 (2 * s150698.1)) + 1))) rfl (p_add rfl) (lo_t rfl (lo_c rfl)) rfl rfl ?_
                  refine gwait rfl (still_call rfl rfl ca_50 rfl) rfl ?_
                  refine gpure (v := .int .i64 (w64 (1 + (w64 (Int.tmod p80241.Bridges 6))))) rfl (p_move rfl) (lo_t rfl rfl) rfl rfl ?_
                  refine dgo_skip ?_
                  refine dgo_skip ?_
                  refine dgo_skip ?_
                  refine gcall (m := 14) [false, true, true] (rk_cons (q_load wd_44 rfl) (St.ld X150909 (j := 7) rfl rfl) (same_self 20 rfl) (rk_cons (q_load wd_25 rfl) (St.ld X150909 (j := 5) rfl rfl) (same_self 20 rfl) (rk_cons (q_load wd_46 rfl) (St.ld X150909 (j := 7) rfl rfl) (same_self 20 rfl) rk_nil))) rfl rfl rfl rfl rfl ca_50 rfl rfl (f50_ok X150909 (p80241.Homes) ((w64 ((w64 (2 * s150698.1)) + 1))) (H80243.mono ((((g136791.trans g143964).trans g149348).trans g150282).trans g150703))) rfl (fun e150945 v150946 h150947 hq150948 => ?_)
                  cases hq150948
                  refine dgo_skip ?_
                  refine dgo_skip ?_
                  refine dgo_skip ?_
                  refine dgo_skip ?_
                  refine dgo_skip ?_
                  refine dgo_skip ?_
                  refine dgo_skip ?_
                  refine dgo_skip ?_
                  refine dgo_skip ?_
                  refine dgo_skip ?_
                  refine dgo_skip ?_
                  refine dgo_skip ?_
                  refine Sim.mustM fun k150949 => ?_
                  refine gpure (v := .int .i64 (Int.tmod e150945 (w64 (1 + (w64 (Int.tmod p80241.Bridges 6)))))) rfl (p_rem rfl) (lo_t rfl (lo_t rfl rfl)) (rem_ok (of_decide_eq_true k150949)) rfl ?_
                  refine gwait rfl (still_call rfl rfl ca_49 rfl) rfl ?_
                  refine dgo_skip ?_
                  refine gcall (m := 13) [false, false] (rk_cons (q_load wd_25 rfl) (St.ld X150909 (j := 5) rfl rfl) (same_self 20 rfl) (rk_cons (q_load wd_46 rfl) (St.ld X150909 (j := 7) rfl rfl) (same_self 20 rfl) rk_nil)) rfl rfl rfl rfl rfl ca_49 rfl rfl (f49_ok X150909 p80241 ((ApiTopo.mk s150698.2.1 s150698.2.2.1 s150698.2.2.2)) ((w64 ((w64 (1 + (w64 (Int.tmod p80241.Bridges 6)))) + s150698.1))) ((Int.tmod e150945 (w64 (1 + (w64 (Int.tmod p80241.Bridges 6)))))) (H80242.mono ((((g136791.trans g143964).trans g149348).trans g150282).trans g150703)) (H80243.mono ((((g136791.trans g143964).trans g149348).trans g150282).trans g150703)) (H80244.mono ((((g136791.trans g143964).trans g149348).trans g150282).trans g150703)) (H80245.mono ((((g136791.trans g143964).trans g149348).trans g150282).trans g150703)) H150699 O150701) rfl ?_
                  rintro e150950 _ h150952 ⟨φ150954, a150957, n150957, c150957, a150958, n150958, c150958, ob150958, blk150958, g150955, X150956, rfl, H150957, O150958⟩
                  refine dgo_skip ?_
                  refine dgo_skip ?_
                  refine dgo_skip ?_
                  refine dgo_skip ?_
                  refine dgo_skip ?_
                  refine dgo_skip ?_
                  refine dgo_skip ?_
                  refine dgo_skip ?_
                  refine dgo_skip ?_
                  refine dgo_skip ?_
                  refine dgo_skip ?_
                  refine dgo_skip ?_
                  refine dgo_skip ?_
                  refine dgo_skip ?_
                  refine gwait rfl (still_store rfl rfl rfl) rfl ?_
                  obtain ⟨h150960, hst150962, X150961⟩ := St.st X150956 (j := 5) (o := 0) (n := 3) (x := .agg #[.int .i64 e150950.Nodes, .slice a150957 n150957 c150957, .slice a150958 n150958 c150958]) rfl rfl rfl rfl rfl rfl
                  refine gact0 (m := 12) [] rk_nil rfl rfl rfl rfl (h_store ts_25 rfl) hst150962 ?_
                  refine dgo_skip ?_
                  refine dgo_skip ?_
                  refine dgo_skip ?_
                  refine dgo_skip ?_
                  refine dgo_skip ?_
                  refine dgo_skip ?_
                  refine dgo_skip ?_
                  refine dgo_skip ?_
                  refine dgo_skip ?_
                  refine dgo_skip ?_
                  refine dgo_skip ?_
                  refine dgo_skip ?_
                  refine dgo_skip ?_
                  refine dgo_skip ?_
                  refine dgo_skip ?_
                  refine gend rk_nil ?_
                  exact jmpM J150944 (e150950.Nodes, e150950.Station, e150950.Links) (φ150954, a150958, n150958, c150958, ob150958, blk150958, a150957, n150957, c150957) (sub_cons rfl (sub_cons rfl (sub_cons rfl (sub_cons rfl (sub_cons rfl (sub_cons rfl sub_nil)))))) ⟨(St.pick X150961 (.keep _ (.none _ (.none _ (.none _ (.none _ (.none _ (.skip _ (.skip _ (.skip _ (.skip _ (.keep _ (.keep _ (.keep _ (.refl _))))))))))))))), g150955, O150958, H150957⟩
                · refine dskip ?_
                  exact jmpM J150944 (s150698.2.1, s150698.2.2.1, s150698.2.2.2) (φ150702, a150701, n150701, c150701, ob150701, blk150701, a150699, n150699, c150699) (sub_cons rfl (sub_cons rfl (sub_cons rfl (sub_cons rfl (sub_cons rfl (sub_cons rfl sub_nil)))))) ⟨(St.pick X150909 (.keep _ (.none _ (.none _ (.none _ (.none _ (.none _ (.skip _ (.skip _ (.skip _ (.skip _ (.keep _ (.keep _ (.keep _ (.refl _))))))))))))))), (Fz.le_refl _), O150701, H150699⟩
            · refine dexit ?_
              refine eseq ?_
              refine eloop ?_
              refine xblock ?_
              refine nseq ?_
              refine dseq ?_
              refine dseq ?_
              refine dreg ?_
              refine lpure (v := .int .i64 0) rfl (p_assign rfl) rfl rfl ?_
              refine lend ?_
              refine nseq ?_
              refine dblock ?_
              refine dloopM (τ := Int × Int × (List Bool) × (List ApiLink)) (σ := Fz × Option Addr × Nat × Nat × Option Nat × Blk × Option Addr × Nat × Nat) (fun s151036 (φ151040, a151039, n151039, c151039, ob151039, blk151039, a151037, n151037, c151037) => [(1, .pointer (some ⟨b80246, 0, none⟩)), (2, .pointer (some ⟨b80250, 0, none⟩)), (3, .int .i64 (w64 (1 + (w64 (Int.tmod p80241.Bridges 6))))), (5, .pointer (some ⟨b80254, 0, none⟩)), (10, .int .i64 s151036.1)]) (fun s151036 (φ151040, a151039, n151039, c151039, ob151039, blk151039, a151037, n151037, c151037) hh => St φ151040 lo hh ((ob151039, blk151039) :: (none, .dead) :: (none, .dead) :: (none, .dead) :: (none, .dead) :: (none, .dead) :: (some b80254, .cells [.int .i64 s151036.2.1, .slice a151037 n151037 c151037, .slice a151039 n151039 c151039] 25 .exact) :: (some b80250, .cells [.int .i64 0, .slice none 0 0, .slice none 0 0] 25 .exact) :: (some b80246, .cells [.int .u8 p80241.Bridges, .int .u8 p80241.Stations, .slice a80242 n80242 c80242, .slice a80243 n80243 c80243, .slice a80244 n80244 c80244, .slice a80245 n80245 c80245] 46 .exact) :: own) ∧ Fz.le φ150702 φ151040 ∧ OSl eApiLink φ151040 50 ob151039 blk151039 (.slice a151039 n151039 c151039) s151036.2.2.2 ∧ RSl eBool φ151040 (.slice a151037 n151037 c151037) s151036.2.2.1) (0, s150698.2.1, s150698.2.2.1, s150698.2.2.2) (φ150702, a150701, n150701, c150701, ob150701, blk150701, a150699, n150699, c150699) (sub_cons rfl (sub_cons rfl (sub_cons rfl (sub_cons rfl (sub_cons rfl sub_nil))))) ⟨(St.pick X150909 (.keep _ (.none _ (.none _ (.none _ (.none _ (.none _ (.skip _ (.skip _ (.skip _ (.skip _ (.keep _ (.keep _ (.keep _ (.refl _))))))))))))))), (Fz.le_refl _), O150701, H150699⟩ ?_
              rintro n151077 ih151076 s151036 ⟨φ151040, a151039, n151039, c151039, ob151039, blk151039, a151037, n151037, c151037⟩ t0 h151079 ⟨X151078, g151041, O151039, H151037⟩
              refine dseq ?_
              refine dseq ?_
              refine dreg ?_
              refine lpure (v := .int .i64 s151036.1) rfl (p_move rfl) rfl rfl ?_
              refine lpure (v := .int .i64 (w64 (s151036.1 + 1))) rfl (p_add rfl) rfl rfl ?_
              refine lpure (v := .pointer (some ⟨b80246, 2, none⟩)) rfl (p_fa fo_46_2 rfl) rfl rfl ?_
              refine lread (v := .slice a80242 n80242 c80242) rfl (q_load wd_44 rfl) (St.ld X151078 (j := 8) rfl rfl) rfl ?_
              refine lpure (v := .int .i64 (p80241.Chords.length : Int)) rfl (p_len rfl rfl rfl un_44 rfl) (RSl.lenC (H80242.mono (((((g136791.trans g143964).trans g149348).trans g150282).trans g150703).trans g151041))) rfl ?_
              refine lpure (v := .bool (decide ((w64 (s151036.1 + 1)) < (p80241.Chords.length : Int)))) rfl (p_lt rfl) rfl rfl ?_
              refine lpure (v := .bool (decide ((w64 (s151036.1 + 1)) < (p80241.Chords.length : Int)))) rfl (p_move rfl) rfl rfl ?_
              refine lsh (τ := Bool) (σ := Unit) (fun s151081 (_ : Unit) => [(1, .pointer (some ⟨b80246, 0, none⟩)), (2, .pointer (some ⟨b80250, 0, none⟩)), (3, .int .i64 (w64 (1 + (w64 (Int.tmod p80241.Bridges 6))))), (5, .pointer (some ⟨b80254, 0, none⟩)), (10, .int .i64 s151036.1), (117, .bool s151081)]) (fun s151081 (_ : Unit) hh => St φ151040 lo hh ((ob151039, blk151039) :: (none, .dead) :: (none, .dead) :: (none, .dead) :: (none, .dead) :: (none, .dead) :: (some b80254, .cells [.int .i64 s151036.2.1, .slice a151037 n151037 c151037, .slice a151039 n151039 c151039] 25 .exact) :: (some b80250, .cells [.int .i64 0, .slice none 0 0, .slice none 0 0] 25 .exact) :: (some b80246, .cells [.int .u8 p80241.Bridges, .int .u8 p80241.Stations, .slice a80242 n80242 c80242, .slice a80243 n80243 c80243, .slice a80244 n80244 c80244, .slice a80245 n80245 c80245] 46 .exact) :: own)) 3 ?_ ?_
              · rintro s151081 _ t0 h151083 X151082
                refine lend ?_
                refine nseq ?_
                refine dcond rfl rfl (fun k151084 => ?_) (fun k151084 => ?_)
                · refine dskip ?_
                  refine nseq ?_
                  refine dseq ?_
                  refine dblock ?_
                  refine dgo_start (n := 21) rfl (by kernel_rfl) ?_
                  refine gload (v := .agg #[.int .u8 p80241.Bridges, .int .u8 p80241.Stations, .slice a80242 n80242 c80242, .slice a80243 n80243 c80243, .slice a80244 n80244 c80244, .slice a80245 n80245 c80245]) rfl (q_load wd_46 rfl) (St.ld X151082 (j := 8) rfl rfl) rfl ?_
                  refine gload (v := .agg #[.int .i64 s151036.2.1, .slice a151037 n151037 c151037, .slice a151039 n151039 c151039]) rfl (q_load wd_25 rfl) (St.ld X151082 (j := 6) rfl rfl) rfl ?_
                  refine gpure (v := .pointer (some ⟨b80246, 2, none⟩)) rfl (p_fa fo_46_2 rfl) (lo_t (lo_own X151082 (j := 8) (o := 0) (s := none) (f := 0) rfl) rfl) rfl rfl ?_
                  refine gload (v := .slice a80242 n80242 c80242) rfl (q_load wd_44 rfl) (St.ld X151082 (j := 8) rfl rfl) rfl ?_
                  refine gpure (v := .int .i64 s151036.1) rfl (p_move rfl) (lo_t rfl rfl) rfl rfl ?_
                  refine Sim.bindM fun e151085 he151086 => ?_
                  obtain ⟨p151087, cs151087, hp151087, hF151087, hR151087⟩ := RSl.ia (H80242.mono (((((g136791.trans g143964).trans g149348).trans g150282).trans g150703).trans g151041)) he151086 (kd := .i64) (n := 1) rfl
                  have hR151087 : _ = [(.int .u8 e151085 : Value)] := hR151087
                  subst hR151087
                  refine gpure (v := p151087) rfl (p_ia rs_44 rfl) (lo_t (lo_sl X151082 (H80242.mono (((((g136791.trans g143964).trans g149348).trans g150282).trans g150703).trans g151041))) (lo_t rfl rfl)) hp151087 rfl ?_
                  refine gload (v := .int .u8 e151085) rfl (q_load wd_5 rfl) (FP.ld X151082 hF151087) rfl ?_
                  refine gpure (v := .int .i64 (w64 e151085)) rfl (p_conv un_5 un_3 rfl) (lo_t rfl rfl) rfl rfl ?_
                  refine gpure (v := .int .i64 (w64 (1 + (w64 (Int.tmod p80241.Bridges 6))))) rfl (p_move rfl) (lo_t rfl rfl) rfl rfl ?_
                  refine Sim.mustM fun k151088 => ?_
                  refine gpure (v := .int .i64 (Int.tmod (w64 e151085) (w64 (1 + (w64 (Int.tmod p80241.Bridges 6)))))) rfl (p_rem rfl) (lo_t rfl (lo_t rfl rfl)) (rem_ok (of_decide_eq_true k151088)) rfl ?_
                  refine gpure (v := .pointer (some ⟨b80246, 2, none⟩)) rfl (p_fa fo_46_2 rfl) (lo_t (lo_own X151082 (j := 8) (o := 0) (s := none) (f := 0) rfl) rfl) rfl rfl ?_
                  refine gload (v := .slice a80242 n80242 c80242) rfl (q_load wd_44 rfl) (St.ld X151082 (j := 8) rfl rfl) rfl ?_
                  refine gpure (v := .int .i64 s151036.1) rfl (p_move rfl) (lo_t rfl rfl) rfl rfl ?_
                  refine gpure (v := .int .i64 (w64 (s151036.1 + 1))) rfl (p_add rfl) (lo_t rfl (lo_c rfl)) rfl rfl ?_
                  refine Sim.bindM fun e151089 he151090 => ?_
                  obtain ⟨p151091, cs151091, hp151091, hF151091, hR151091⟩ := RSl.ia (H80242.mono (((((g136791.trans g143964).trans g149348).trans g150282).trans g150703).trans g151041)) he151090 (kd := .i64) (n := 1) rfl
                  have hR151091 : _ = [(.int .u8 e151089 : Value)] := hR151091
                  subst hR151091
                  refine gpure (v := p151091) rfl (p_ia rs_44 rfl) (lo_t (lo_sl X151082 (H80242.mono (((((g136791.trans g143964).trans g149348).trans g150282).trans g150703).trans g151041))) (lo_t rfl rfl)) hp151091 rfl ?_
                  refine gload (v := .int .u8 e151089) rfl (q_load wd_5 rfl) (FP.ld X151082 hF151091) rfl ?_
                  refine gpure (v := .int .i64 (w64 e151089)) rfl (p_conv un_5 un_3 rfl) (lo_t rfl rfl) rfl rfl ?_
                  refine gpure (v := .int .i64 (w64 (1 + (w64 (Int.tmod p80241.Bridges 6))))) rfl (p_move rfl) (lo_t rfl rfl) rfl rfl ?_
                  refine Sim.mustM fun k151092 => ?_
                  refine gpure (v := .int .i64 (Int.tmod (w64 e151089) (w64 (1 + (w64 (Int.tmod p80241.Bridges 6)))))) rfl (p_rem rfl) (lo_t rfl (lo_t rfl rfl)) (rem_ok (of_decide_eq_true k151092)) rfl ?_
                  refine gwait rfl (still_call rfl rfl ca_49 rfl) rfl ?_
                  refine dgo_skip ?_
                  refine gcall (m := 20) [false, false, false, false, false, false] (rk_cons (q_load wd_5 rfl) (FP.ld X151082 hF151091) (same_self 20 rfl) (rk_cons (q_load wd_44 rfl) (St.ld X151082 (j := 8) rfl rfl) (same_self 20 rfl) (rk_cons (q_load wd_5 rfl) (FP.ld X151082 hF151087) (same_self 20 rfl) (rk_cons (q_load wd_44 rfl) (St.ld X151082 (j := 8) rfl rfl) (same_self 20 rfl) (rk_cons (q_load wd_25 rfl) (St.ld X151082 (j := 6) rfl rfl) (same_self 20 rfl) (rk_cons (q_load wd_46 rfl) (St.ld X151082 (j := 8) rfl rfl) (same_self 20 rfl) rk_nil)))))) rfl rfl rfl rfl rfl ca_49 rfl rfl (f49_ok X151082 p80241 ((ApiTopo.mk s151036.2.1 s151036.2.2.1 s151036.2.2.2)) ((Int.tmod (w64 e151085) (w64 (1 + (w64 (Int.tmod p80241.Bridges 6)))))) ((Int.tmod (w64 e151089) (w64 (1 + (w64 (Int.tmod p80241.Bridges 6)))))) (H80242.mono (((((g136791.trans g143964).trans g149348).trans g150282).trans g150703).trans g151041)) (H80243.mono (((((g136791.trans g143964).trans g149348).trans g150282).trans g150703).trans g151041)) (H80244.mono (((((g136791.trans g143964).trans g149348).trans g150282).trans g150703).trans g151041)) (H80245.mono (((((g136791.trans g143964).trans g149348).trans g150282).trans g150703).trans g151041)) H151037 O151039) rfl ?_
                  rintro e151093 _ h151095 ⟨φ151097, a151100, n151100, c151100, a151101, n151101, c151101, ob151101, blk151101, g151098, X151099, rfl, H151100, O151101⟩
                  refine dgo_skip ?_
                  refine dgo_skip ?_
                  refine dgo_skip ?_
                  refine dgo_skip ?_
                  refine dgo_skip ?_
                  refine dgo_skip ?_
                  refine dgo_skip ?_
                  refine dgo_skip ?_
                  refine dgo_skip ?_
                  refine dgo_skip ?_
                  refine dgo_skip ?_
                  refine dgo_skip ?_
                  refine dgo_skip ?_
                  refine dgo_skip ?_
                  refine dgo_skip ?_
                  refine dgo_skip ?_
                  refine dgo_skip ?_
                  refine dgo_skip ?_
                  refine dgo_skip ?_
                  refine dgo_skip ?_
                  refine gwait rfl (still_store rfl rfl rfl) rfl ?_
                  obtain ⟨h151103, hst151105, X151104⟩ := St.st X151099 (j := 6) (o := 0) (n := 3) (x := .agg #[.int .i64 e151093.Nodes, .slice a151100 n151100 c151100, .slice a151101 n151101 c151101]) rfl rfl rfl rfl rfl rfl
                  refine gact0 (m := 19) [] rk_nil rfl rfl rfl rfl (h_store ts_25 rfl) hst151105 ?_
                  refine dgo_skip ?_
                  refine dgo_skip ?_
                  refine dgo_skip ?_
                  refine dgo_skip ?_
                  refine dgo_skip ?_
                  refine dgo_skip ?_
                  refine dgo_skip ?_
                  refine dgo_skip ?_
                  refine dgo_skip ?_
                  refine dgo_skip ?_
                  refine dgo_skip ?_
                  refine dgo_skip ?_
                  refine dgo_skip ?_
                  refine dgo_skip ?_
                  refine dgo_skip ?_
                  refine dgo_skip ?_
                  refine dgo_skip ?_
                  refine dgo_skip ?_
                  refine dgo_skip ?_
                  refine dgo_skip ?_
                  refine dgo_skip ?_
                  refine gend rk_nil ?_
                  refine nblock ?_
                  refine nseq ?_
                  refine dreg ?_
                  refine lpure (v := .int .i64 s151036.1) rfl (p_move rfl) rfl rfl ?_
                  refine lpure (v := .int .i64 (w64 (s151036.1 + 2))) rfl (p_add rfl) rfl rfl ?_
                  refine lpure (v := .int .i64 (w64 (s151036.1 + 2))) rfl (p_assign rfl) rfl rfl ?_
                  refine lend ?_
                  exact kbackM ih151076 ((w64 (s151036.1 + 2)), e151093.Nodes, e151093.Station, e151093.Links) (φ151097, a151101, n151101, c151101, ob151101, blk151101, a151100, n151100, c151100) (sub_cons rfl (sub_cons rfl (sub_cons rfl (sub_cons rfl (sub_cons rfl sub_nil))))) ⟨(St.pick X151104 (.keep _ (.none _ (.none _ (.none _ (.none _ (.none _ (.skip _ (.skip _ (.skip _ (.skip _ (.skip _ (.keep _ (.keep _ (.keep _ (.refl _)))))))))))))))), (g151041.trans g151098), O151101, H151100⟩
                · refine dexit ?_
                  refine eseq ?_
                  refine eloop ?_
                  refine xblock ?_
                  refine nseq ?_
                  refine dseq ?_
                  refine dreg ?_
                  refine lread (v := .agg #[.int .i64 s151036.2.1, .slice a151037 n151037 c151037, .slice a151039 n151039 c151039]) rfl (q_load wd_25 rfl) (St.ld X151082 (j := 6) rfl rfl) rfl ?_
                  refine lstore rfl ts_25 rfl rfl (j := 7) rfl rfl rfl rfl rfl rfl X151082 (fun h151106 X151107 => ?_)
                  refine lend ?_
                  refine nseq ?_
                  refine dret ?_
                  exact kopen_r (res_1 (resC wd_25 (St.ld X151107 (j := 7) rfl rfl))) ⟨φ151040, a151037, n151037, c151037, a151039, n151039, c151039, ob151039, blk151039, (((((g136791.trans g143964).trans g149348).trans g150282).trans g150703).trans g151041), St.pick X151107 (.keep _ (.skip _ (.skip _ (.skip _ (.skip _ (.skip _ (.skip _ (.skip _ (.skip _ (.refl _)))))))))), rfl, H151037, O151039⟩
              · intro j151108 J151109
                refine lcase (i := 114) (show _ = Value.bool (decide ((w64 (s151036.1 + 1)) < (p80241.Chords.length : Int))) from rfl) (fun k151110 => ?_) (fun k151110 => ?_)
                · refine lpure (v := .int .i64 s151036.1) rfl (p_move rfl) rfl rfl ?_
                  refine lpure (v := .bool (decide (s151036.1 < 12))) rfl (p_lt rfl) rfl rfl ?_
                  refine lpure (v := .bool (decide (s151036.1 < 12))) rfl (p_pick rfl) rfl rfl ?_
                  refine Sim.of_eq (congrArg j151108 (show ((decide ((w64 (s151036.1 + 1)) < (p80241.Chords.length : Int))) && (decide (s151036.1 < 12))) = (decide (s151036.1 < 12)) from by rw [k151110] <;> rfl)) ?_
                  exact ljmpM J151109 (decide (s151036.1 < 12)) () (sub_cons rfl (sub_cons rfl (sub_cons rfl (sub_cons rfl (sub_cons rfl (sub_cons rfl sub_nil)))))) (St.pick X151078 (.keep _ (.none _ (.none _ (.none _ (.none _ (.none _ (.skip _ (.skip _ (.skip _ (.skip _ (.skip _ (.keep _ (.keep _ (.keep _ (.refl _))))))))))))))))
                · refine lskip rfl rfl ?_
                  refine lskip rfl rfl ?_
                  refine lpure (v := .bool false) rfl (p_pick rfl) rfl rfl ?_
                  refine Sim.of_eq (congrArg j151108 (show ((decide ((w64 (s151036.1 + 1)) < (p80241.Chords.length : Int))) && (decide (s151036.1 < 12))) = false from by rw [k151110] <;> rfl)) ?_
                  exact ljmpM J151109 false () (sub_cons rfl (sub_cons rfl (sub_cons rfl (sub_cons rfl (sub_cons rfl (sub_cons rfl sub_nil)))))) (St.pick X151078 (.keep _ (.none _ (.none _ (.none _ (.none _ (.none _ (.skip _ (.skip _ (.skip _ (.skip _ (.skip _ (.keep _ (.keep _ (.keep _ (.refl _))))))))))))))))
          · intro j150285 J150286
            refine dcond rfl rfl (fun k150264 => ?_) (fun k150264 => ?_)
            · refine dreg ?_
              refine lread (v := .agg #[.int .u8 p80241.Bridges, .int .u8 p80241.Stations, .slice a80242 n80242 c80242, .slice a80243 n80243 c80243, .slice a80244 n80244 c80244, .slice a80245 n80245 c80245]) rfl (q_load wd_46 rfl) (St.ld X150262 (j := 5) rfl rfl) rfl ?_
              refine lread (v := .agg #[.int .i64 s149343.2.1, .slice a149344 n149344 c149344, .slice a149346 n149346 c149346]) rfl (q_load wd_25 rfl) (St.ld X150262 (j := 3) rfl rfl) rfl ?_
              refine lpure (v := .int .i64 (w64 (1 + (w64 (Int.tmod p80241.Bridges 6))))) rfl (p_move rfl) rfl rfl ?_
              refine lpure (v := .int .i64 (w64 ((w64 (1 + (w64 (Int.tmod p80241.Bridges 6)))) - 1))) rfl (p_sub rfl) rfl rfl ?_
              refine lcall rfl rfl ca_49 rfl rfl (f49_ok X150262 p80241 ((ApiTopo.mk s149343.2.1 s149343.2.2.1 s149343.2.2.2)) ((w64 ((w64 (1 + (w64 (Int.tmod p80241.Bridges 6)))) - 1))) 0 (H80242.mono ((g136791.trans g143964).trans g149348)) (H80243.mono ((g136791.trans g143964).trans g149348)) (H80244.mono ((g136791.trans g143964).trans g149348)) (H80245.mono ((g136791.trans g143964).trans g149348)) H149344 O149346) rfl ?_
              rintro e151111 _ h151113 ⟨φ151115, a151118, n151118, c151118, a151119, n151119, c151119, ob151119, blk151119, g151116, X151117, rfl, H151118, O151119⟩
              refine lstore rfl ts_25 rfl rfl (j := 3) rfl rfl rfl rfl rfl rfl X151117 (fun h151121 X151122 => ?_)
              refine lend ?_
              exact jmpM J150286 (e151111.Nodes, e151111.Station, e151111.Links) (φ151115, a151119, n151119, c151119, ob151119, blk151119, a151118, n151118, c151118) (sub_cons rfl (sub_cons rfl (sub_cons rfl (sub_cons rfl (sub_cons rfl sub_nil))))) ⟨(St.pick X151122 (.keep _ (.none _ (.none _ (.none _ (.skip _ (.skip _ (.keep _ (.keep _ (.keep _ (.refl _))))))))))), g151116, O151119, H151118⟩
            · refine dskip ?_
              exact jmpM J150286 (s149343.2.1, s149343.2.2.1, s149343.2.2.2) (φ149347, a149346, n149346, c149346, ob149346, blk149346, a149344, n149344, c149344) (sub_cons rfl (sub_cons rfl (sub_cons rfl (sub_cons rfl (sub_cons rfl sub_nil))))) ⟨(St.pick X150262 (.keep _ (.none _ (.none _ (.none _ (.skip _ (.skip _ (.keep _ (.keep _ (.keep _ (.refl _))))))))))), (Fz.le_refl _), O149346, H149344⟩
        · intro j151123 J151124
          refine lcase (i := 70) (show _ = Value.bool (decide (2 < (w64 (1 + (w64 (Int.tmod p80241.Bridges 6)))))) from rfl) (fun k151125 => ?_) (fun k151125 => ?_)
          · refine lpure (v := .pointer (some ⟨b80246, 0, none⟩)) rfl (p_fa fo_46_0 rfl) rfl rfl ?_
            refine lread (v := .int .u8 p80241.Bridges) rfl (q_load wd_5 rfl) (St.ld X150239 (j := 5) rfl rfl) rfl ?_
            refine lpure (v := .int .u8 (Int.tmod p80241.Bridges 2)) rfl (p_rem rfl) rfl rfl ?_
            refine lpure (v := .bool (decide ((Int.tmod p80241.Bridges 2) = 0))) rfl (p_eq rfl) rfl rfl ?_
            refine lpure (v := .bool (decide ((Int.tmod p80241.Bridges 2) = 0))) rfl (p_pick rfl) rfl rfl ?_
            refine Sim.of_eq (congrArg j151123 (show ((decide (2 < (w64 (1 + (w64 (Int.tmod p80241.Bridges 6)))))) && (decide ((Int.tmod p80241.Bridges 2) = 0))) = (decide ((Int.tmod p80241.Bridges 2) = 0)) from by rw [k151125] <;> rfl)) ?_
            exact ljmpM J151124 (decide ((Int.tmod p80241.Bridges 2) = 0)) () (sub_cons rfl (sub_cons rfl (sub_cons rfl (sub_cons rfl (sub_cons rfl (sub_cons rfl sub_nil)))))) (St.pick X150239 (.keep _ (.none _ (.none _ (.skip _ (.skip _ (.keep _ (.keep _ (.keep _ (.refl _))))))))))
          · refine lskip rfl rfl ?_
            refine lskip rfl rfl ?_
            refine lskip rfl rfl ?_
            refine lskip rfl rfl ?_
            refine lpure (v := .bool false) rfl (p_pick rfl) rfl rfl ?_
            refine Sim.of_eq (congrArg j151123 (show ((decide (2 < (w64 (1 + (w64 (Int.tmod p80241.Bridges 6)))))) && (decide ((Int.tmod p80241.Bridges 2) = 0))) = false from by rw [k151125] <;> rfl)) ?_
            exact ljmpM J151124 false () (sub_cons rfl (sub_cons rfl (sub_cons rfl (sub_cons rfl (sub_cons rfl (sub_cons rfl sub_nil)))))) (St.pick X150239 (.keep _ (.none _ (.none _ (.skip _ (.skip _ (.keep _ (.keep _ (.keep _ (.refl _))))))))))
/-! isochron/isochronlaw16.TopoSpreads -/
theorem f5_ok {n : Nat} {φ : Fz} {lo : Nat} {h : Heap} {own : OwnL}  {a2 : Option Addr} {n2 c2 : Nat} {a3 : Option Addr} {n3 c3 : Nat} {a4 : Option Addr} {n4 c4 : Nat} {a5 : Option Addr} {n5 c5 : Nat} {a7 : Option Addr} {n7 c7 : Nat} (X : St φ lo h (own)) (p1 : Isochronref16Draft) (p6 : (List Int)) (p8 : Int) (p9 : Int) (H2 : RSl (eInt .u8) φ (.slice a2 n2 c2) p1.Chords) (H3 : RSl (eInt .u8) φ (.slice a3 n3 c3) p1.Homes) (H4 : RSl (eInt .u8) φ (.slice a4 n4 c4) p1.Pers) (H5 : RSl (eInt .u8) φ (.slice a5 n5 c5) p1.Delays) (H7 : RSl (eInt .u8) φ (.slice a7 n7 c7) p6) : Sim ((recN Try.prog LL cutF (n + 10)).call 5 #[(.agg #[.int .u8 p1.Bridges, .int .u8 p1.Stations, .slice a2 n2 c2, .slice a3 n3 c3, .slice a4 n4 c4, .slice a5 n5 c5]), (.slice a7 n7 c7), (.int .u8 p8), (.int .u8 p9)] h) (m_isochronlaw16_TopoSpreads p1 p6 p8 p9) (fun (d : Bool) p => p = (.bool d, h)) := by
  refine fcut Try.func5 rfl rfl rfl rfl X ?_
  intro h0 X0
  refine dseq ?_
  refine dreg ?_
  refine lbox rfl rfl rfl rfl rfl X0 (fun b10 h12 X13 => ?_)
  refine lpure (v := .bool false) rfl (p_assign rfl) rfl rfl ?_
  refine lend ?_
  refine nseq ?_
  refine dseq ?_
  refine dseq ?_
  refine dreg ?_
  refine lcall rfl rfl ca_9 rfl rfl (f9_ok X13) rfl (fun e8844 v8845 h8846 hq8847 => ?_)
  cases hq8847
  refine lpure (v := .bool (!e8844)) rfl (p_not rfl) rfl rfl ?_
  refine lend ?_
  refine nseq ?_
  refine dcond rfl rfl (fun k8848 => ?_) (fun k8848 => ?_)
  · refine dseq ?_
    refine dreg ?_
    refine lpure (v := .bool false) rfl (p_assign rfl) rfl rfl ?_
    refine lend ?_
    refine nseq ?_
    refine dret ?_
    refine rseq ?_
    exact kcut_r (res_1 resT) X13 rfl rfl
  · refine dskip ?_
    refine nseq ?_
    refine dseq ?_
    refine dreg ?_
    refine lread (v := .agg #[.int .u8 p1.Bridges, .int .u8 p1.Stations, .slice a2 n2 c2, .slice a3 n3 c3, .slice a4 n4 c4, .slice a5 n5 c5]) rfl (q_load wd_46 rfl) (St.ld X13 (j := 0) rfl rfl) rfl ?_
    refine lcall rfl rfl ca_20 rfl rfl (f20_ok X13 p1 H2 H3 H4 H5) rfl ?_
    rintro e151129 _ h151131 ⟨φ151133, a151136, n151136, c151136, a151137, n151137, c151137, ob151137, blk151137, g151134, X151135, rfl, H151136, O151137⟩
    refine lalloc rfl tz_25 rfl rfl rfl X151135 (fun b151139 h151141 X151142 => ?_)
    refine lstore rfl ts_25 rfl rfl (j := 0) rfl rfl rfl rfl rfl rfl X151142 (fun h151143 X151144 => ?_)
    refine lend ?_
    refine nseq ?_
    refine dseq ?_
    refine dreg ?_
    refine lpure (v := .slice none 0 0) rfl (p_assign rfl) rfl rfl ?_
    refine lend ?_
    refine nseq ?_
    refine dseq ?_
    refine dseq ?_
    refine dreg ?_
    refine lpure (v := .slice a7 n7 c7) rfl (p_move rfl) rfl rfl ?_
    refine lpure (v := .slice a7 n7 c7) rfl (p_move rfl) rfl rfl ?_
    refine lpure (v := .int .i64 (p6.length : Int)) rfl (p_len rfl rfl rfl un_44 rfl) (RSl.lenC (H7.mono g151134)) rfl ?_
    refine lpure (v := .int .i64 (min (p6.length : Int) 30)) rfl (p_min rfl rfl rfl) rfl rfl ?_
    refine Sim.mustM fun k151145 => ?_
    have k151145 := of_decide_eq_true k151145
    obtain ⟨a151145, n151145, c151145, hv151145, H151145⟩ := RSl.slice (H7.mono g151134) X151144 un_44 ts_5 rfl bnd_none (bnd_int (show 0 ≤ (min (p6.length : Int) 30) from by omega)) (by omega) (by omega)
    refine lread rfl (q_slice rfl (evo_ok rfl) (evo_ok rfl) (evo_ok rfl)) hv151145 rfl ?_
    refine lpure (v := .int .i64 ((p6.take ((min (p6.length : Int) 30)).toNat).length : Int)) rfl (p_len rfl rfl rfl un_44 rfl) (RSl.lenC H151145) rfl ?_
    refine lpure (v := .int .i64 0) rfl (p_move rfl) rfl rfl ?_
    refine lend ?_
    refine nseq ?_
    refine dblock ?_
    refine dloopM (τ := (List Int) × Int) (σ := Option Addr × Nat × Nat × Option Nat × Blk) (fun s151786 (a151788, n151788, c151788, ob151788, blk151788) => [(2, .int .u8 p8), (3, .int .u8 p9), (9, .pointer (some ⟨b151139, 0, none⟩)), (10, .slice a151788 n151788 c151788), (31, .slice a151145 n151145 c151145), (32, .int .i64 ((p6.take ((min (p6.length : Int) 30)).toNat).length : Int)), (33, .int .i64 s151786.2)]) (fun s151786 (a151788, n151788, c151788, ob151788, blk151788) hh => St φ151133 h.n hh ([(ob151788, blk151788), (some b151139, .cells [.int .i64 e151129.Nodes, .slice a151136 n151136 c151136, .slice a151137 n151137 c151137] 25 .exact), (ob151137, blk151137), (some b10, .cells [.int .u8 p1.Bridges, .int .u8 p1.Stations, .slice a2 n2 c2, .slice a3 n3 c3, .slice a4 n4 c4, .slice a5 n5 c5] 46 .exact)]) ∧ OSl (eInt .i64) φ151133 3 ob151788 blk151788 (.slice a151788 n151788 c151788) s151786.1) ([], 0) (none, 0, 0, none, .dead) (sub_cons rfl (sub_cons rfl (sub_cons rfl (sub_cons rfl (sub_cons rfl (sub_cons rfl (sub_cons rfl sub_nil))))))) ⟨(St.pick X151144 (.none _ (.keep _ (.keep _ (.keep _ (.nil _)))))), OSl.nil⟩ ?_
    rintro n152110 ih152109 s151786 ⟨a151788, n151788, c151788, ob151788, blk151788⟩ t0 h152112 ⟨X152111, O151788⟩
    refine dseq ?_
    refine dreg ?_
    refine lpure (v := .bool (decide (s151786.2 < ((p6.take ((min (p6.length : Int) 30)).toNat).length : Int)))) rfl (p_lt rfl) rfl rfl ?_
    refine lend ?_
    refine nseq ?_
    refine dseq ?_
    refine dcond rfl rfl (fun k152113 => ?_) (fun k152113 => ?_)
    · refine dskip ?_
      refine nseq ?_
      refine dseq ?_
      refine dblock ?_
      refine dseq ?_
      refine dreg ?_
      refine Sim.bindM fun e152114 he152115 => ?_
      obtain ⟨p152116, cs152116, hp152116, hF152116, hR152116⟩ := RSl.ia H151145 he152115 (kd := .i64) (n := 1) rfl
      have hR152116 : _ = [(.int .u8 e152114 : Value)] := hR152116
      subst hR152116
      refine lpure (v := p152116) rfl (p_ia rs_44 rfl) hp152116 rfl ?_
      refine lread (v := .int .u8 e152114) rfl (q_load wd_5 rfl) (FP.ld X152111 hF152116) rfl ?_
      refine lpure (v := .int .u8 e152114) rfl (p_assign rfl) rfl rfl ?_
      refine lend ?_
      refine nseq ?_
      refine dreg ?_
      refine lpure (v := .slice a151788 n151788 c151788) rfl (p_move rfl) rfl rfl ?_
      refine lpure (v := .int .u8 e152114) rfl (p_move rfl) rfl rfl ?_
      refine lpure (v := .int .i64 (w64 e152114)) rfl (p_conv un_5 un_3 rfl) rfl rfl ?_
      refine lpure (v := .pointer (some ⟨b151139, 2, none⟩)) rfl (p_fa fo_25_2 rfl) rfl rfl ?_
      refine lread (v := .slice a151137 n151137 c151137) rfl (q_load wd_23 rfl) (St.ld X152111 (j := 1) rfl rfl) rfl ?_
      refine lpure (v := .int .i64 (e151129.Links.length : Int)) rfl (p_len rfl rfl rfl un_23 rfl) (OSl.len O151137) rfl ?_
      refine Sim.mustM fun k152117 => ?_
      refine lpure (v := .int .i64 (Int.tmod (w64 e152114) (e151129.Links.length : Int))) rfl (p_rem rfl) (rem_ok (of_decide_eq_true k152117)) rfl ?_
      obtain ⟨h152118, b152118, hv152118, X152118, O152118⟩ := OSl.lay (E := (eInt .i64)) (φ := φ151133) (cs := [.int .i64 (Int.tmod (w64 e152114) (e151129.Links.length : Int))]) (l := [(Int.tmod (w64 e152114) (e151129.Links.length : Int))]) (len := 1) (parts := [(0, .int .i64 (Int.tmod (w64 e152114) (e151129.Links.length : Int)))]) un_28 ts_3 rfl rfl rfl tz_3 rfl rfl (show RowD (eInt .i64) φ151133 [.int .i64 (Int.tmod (w64 e152114) (e151129.Links.length : Int))] [(Int.tmod (w64 e152114) (e151129.Links.length : Int))] from ⟨[.int .i64 (Int.tmod (w64 e152114) (e151129.Links.length : Int))], _, rfl, rfl, rfl⟩) rfl rfl X152111
      refine lheap rfl (h_buildSlice rfl) hv152118 rfl ?_
      obtain ⟨ws152120, hw152120⟩ := OSl.read O152118 X152118 (k := 0) rfl (n := 1) rfl
      refine Sim.mustM fun k152120 => ?_
      obtain ⟨h152120, a152120, c152120, ob152120, blk152120, hv152120, X152120, O152120⟩ := OSl.append O151788 X152118 (j := 1) rfl hw152120 k152120 (ts := #[28, 28]) rfl un_28 (argOk_of ax_28_28) ts_3 rfl rfl tb_3 rfl tz_3 rfl
      refine lheap rfl (h_builtin rfl rfl) hv152120 rfl ?_
      refine lpure (v := .slice a152120 (s151786.1.length + ([(Int.tmod (w64 e152114) (e151129.Links.length : Int))]).length) c152120) rfl (p_assign rfl) rfl rfl ?_
      refine lend ?_
      refine nblock ?_
      refine nseq ?_
      refine dreg ?_
      refine lpure (v := .int .i64 (w64 (s151786.2 + 1))) rfl (p_add rfl) rfl rfl ?_
      refine lpure (v := .int .i64 (w64 (s151786.2 + 1))) rfl (p_move rfl) rfl rfl ?_
      refine lend ?_
      exact kbackM ih152109 ((s151786.1 ++ ([(Int.tmod (w64 e152114) (e151129.Links.length : Int))])), (w64 (s151786.2 + 1))) (a152120, (s151786.1.length + ([(Int.tmod (w64 e152114) (e151129.Links.length : Int))]).length), c152120, ob152120, blk152120) (sub_cons rfl (sub_cons rfl (sub_cons rfl (sub_cons rfl (sub_cons rfl (sub_cons rfl (sub_cons rfl sub_nil))))))) ⟨(St.pick X152120 (.skip _ (.keep _ (.keep _ (.keep _ (.keep _ (.nil _))))))), O152120⟩
    · refine dexit ?_
      refine eseq ?_
      refine eloop ?_
      refine xblock ?_
      refine nseq ?_
      refine dseq ?_
      refine ddraw 0 0 0 (by kernel_rfl) ?_
      refine spure (v := .int .u8 p8) rfl (p_move rfl) (lo_t rfl rfl) rfl rfl ?_
      refine spure (v := .int .i64 (w64 p8)) rfl (p_conv un_5 un_3 rfl) (lo_t rfl rfl) rfl rfl ?_
      refine spure (v := .pointer (some ⟨b151139, 0, none⟩)) rfl (p_fa fo_25_0 rfl) (lo_t (lo_own X152111 (j := 1) (o := 0) (s := none) (f := 0) rfl) rfl) rfl rfl ?_
      refine sload (v := .int .i64 e151129.Nodes) rfl rfl (q_load wd_3 rfl) (St.ld X152111 (j := 1) rfl rfl) (same_self 20 rfl) rfl ?_
      refine Sim.mustM fun k152121 => ?_
      refine spure (v := .int .i64 (Int.tmod (w64 p8) e151129.Nodes)) rfl (p_rem rfl) (lo_t rfl (lo_t rfl rfl)) (rem_ok (of_decide_eq_true k152121)) rfl ?_
      refine spure (v := .int .u8 p9) rfl (p_move rfl) (lo_t rfl rfl) rfl rfl ?_
      refine spure (v := .int .i64 (w64 p9)) rfl (p_conv un_5 un_3 rfl) (lo_t rfl rfl) rfl rfl ?_
      refine spure (v := .pointer (some ⟨b151139, 0, none⟩)) rfl (p_fa fo_25_0 rfl) (lo_t (lo_own X152111 (j := 1) (o := 0) (s := none) (f := 0) rfl) rfl) rfl rfl ?_
      refine sload (v := .int .i64 e151129.Nodes) rfl rfl (q_load wd_3 rfl) (St.ld X152111 (j := 1) rfl rfl) (same_self 20 rfl) rfl ?_
      refine Sim.mustM fun k152122 => ?_
      refine spure (v := .int .i64 (Int.tmod (w64 p9) e151129.Nodes)) rfl (p_rem rfl) (lo_t rfl (lo_t rfl rfl)) (rem_ok (of_decide_eq_true k152122)) rfl ?_
      refine spure (v := .int .i64 (Int.tmod (w64 p8) e151129.Nodes)) rfl (p_assign rfl) (lo_t rfl rfl) rfl rfl ?_
      refine spure (v := .int .i64 (Int.tmod (w64 p9) e151129.Nodes)) rfl (p_assign rfl) (lo_t rfl rfl) rfl rfl ?_
      refine send ?_
      refine nseq ?_
      refine dseq ?_
      refine dreg ?_
      refine lread (v := .agg #[.int .i64 e151129.Nodes, .slice a151136 n151136 c151136, .slice a151137 n151137 c151137]) rfl (q_load wd_25 rfl) (St.ld X152111 (j := 1) rfl rfl) rfl ?_
      refine lpure (v := .int .i64 (Int.tmod (w64 p8) e151129.Nodes)) rfl (p_move rfl) rfl rfl ?_
      refine lpure (v := .slice a151788 n151788 c151788) rfl (p_move rfl) rfl rfl ?_
      obtain ⟨φ152123, g152124, X152125, H152126⟩ := OSl.freeze X152111 (j := 2) rfl O151137
      obtain ⟨φ152127, g152128, X152129, H152130⟩ := OSl.freeze X152125 (j := 0) rfl (O151788.mono g152124)
      refine lcall rfl rfl ca_17 rfl rfl (f17_ok X152129 e151129 ((Int.tmod (w64 p8) e151129.Nodes)) (s151786.1) (H151136.mono (g152124.trans g152128)) (H152126.mono g152128) H152130) rfl ?_
      rintro e152131 _ h152133 ⟨φ152135, a152138, n152138, c152138, ob152138, blk152138, g152136, X152137, rfl, O152138⟩
      refine lpure (v := .tuple #[.slice a152138 n152138 c152138, .int .i64 e152131.2]) rfl (p_move rfl) rfl rfl ?_
      refine lpure (v := .slice a152138 n152138 c152138) rfl (p_extract rfl) rfl rfl ?_
      refine lpure (v := .int .i64 e152131.2) rfl (p_extract rfl) rfl rfl ?_
      refine lpure (v := .slice a152138 n152138 c152138) rfl (p_assign rfl) rfl rfl ?_
      refine lpure (v := .int .i64 e152131.2) rfl (p_assign rfl) rfl rfl ?_
      refine lend ?_
      refine nseq ?_
      refine dseq ?_
      refine dreg ?_
      refine lread (v := .agg #[.int .i64 e151129.Nodes, .slice a151136 n151136 c151136, .slice a151137 n151137 c151137]) rfl (q_load wd_25 rfl) (St.ld X152137 (j := 2) rfl rfl) rfl ?_
      refine lpure (v := .int .i64 (Int.tmod (w64 p9) e151129.Nodes)) rfl (p_move rfl) rfl rfl ?_
      refine lpure (v := .slice a151788 n151788 c151788) rfl (p_move rfl) rfl rfl ?_
      refine lcall rfl rfl ca_17 rfl rfl (f17_ok X152137 e151129 ((Int.tmod (w64 p9) e151129.Nodes)) (s151786.1) (H151136.mono ((g152124.trans g152128).trans g152136)) (H152126.mono (g152128.trans g152136)) (H152130.mono g152136)) rfl ?_
      rintro e152140 _ h152142 ⟨φ152144, a152147, n152147, c152147, ob152147, blk152147, g152145, X152146, rfl, O152147⟩
      refine lpure (v := .tuple #[.slice a152147 n152147 c152147, .int .i64 e152140.2]) rfl (p_move rfl) rfl rfl ?_
      refine lpure (v := .slice a152147 n152147 c152147) rfl (p_extract rfl) rfl rfl ?_
      refine lpure (v := .int .i64 e152140.2) rfl (p_extract rfl) rfl rfl ?_
      refine lpure (v := .slice a152147 n152147 c152147) rfl (p_assign rfl) rfl rfl ?_
      refine lpure (v := .int .i64 e152140.2) rfl (p_assign rfl) rfl rfl ?_
      refine lend ?_
      refine nseq ?_
      refine dseq ?_
      refine dreg ?_
      refine lread (v := .agg #[.int .i64 e151129.Nodes, .slice a151136 n151136 c151136, .slice a151137 n151137 c151137]) rfl (q_load wd_25 rfl) (St.ld X152146 (j := 3) rfl rfl) rfl ?_
      refine lpure (v := .int .i64 (Int.tmod (w64 p8) e151129.Nodes)) rfl (p_move rfl) rfl rfl ?_
      refine lcall rfl rfl ca_17 rfl rfl (f17_ok X152146 e151129 ((Int.tmod (w64 p8) e151129.Nodes)) ([]) (H151136.mono (((g152124.trans g152128).trans g152136).trans g152145)) (H152126.mono ((g152128.trans g152136).trans g152145)) (.inl ⟨rfl, rfl⟩)) rfl ?_
      rintro e152149 _ h152151 ⟨φ152153, a152156, n152156, c152156, ob152156, blk152156, g152154, X152155, rfl, O152156⟩
      refine lpure (v := .tuple #[.slice a152156 n152156 c152156, .int .i64 e152149.2]) rfl (p_move rfl) rfl rfl ?_
      refine lpure (v := .slice a152156 n152156 c152156) rfl (p_extract rfl) rfl rfl ?_
      refine lpure (v := .int .i64 e152149.2) rfl (p_extract rfl) rfl rfl ?_
      refine lpure (v := .slice a152156 n152156 c152156) rfl (p_assign rfl) rfl rfl ?_
      refine lpure (v := .int .i64 e152149.2) rfl (p_assign rfl) rfl rfl ?_
      refine lend ?_
      refine nseq ?_
      refine dseq ?_
      refine dseq ?_
      refine dreg ?_
      refine lpure (v := .int .i64 e152131.2) rfl (p_move rfl) rfl rfl ?_
      refine lpure (v := .bool (decide (e152131.2 ≠ 0))) rfl (p_ne rfl) rfl rfl ?_
      refine lpure (v := .bool (decide (e152131.2 ≠ 0))) rfl (p_move rfl) rfl rfl ?_
      refine lsh (τ := Bool) (σ := Unit) (fun s152159 (_ : Unit) => [(9, .pointer (some ⟨b151139, 0, none⟩)), (10, .slice a151788 n151788 c151788), (13, .int .i64 (Int.tmod (w64 p8) e151129.Nodes)), (14, .int .i64 (Int.tmod (w64 p9) e151129.Nodes)), (15, .slice a152138 n152138 c152138), (17, .slice a152147 n152147 c152147), (19, .slice a152156 n152156 c152156), (20, .int .i64 e152149.2), (82, .bool s152159)]) (fun s152159 (_ : Unit) hh => St φ152153 h.n hh ([(ob152156, blk152156), (ob152147, blk152147), (ob152138, blk152138), (none, .dead), (some b151139, .cells [.int .i64 e151129.Nodes, .slice a151136 n151136 c151136, .slice a151137 n151137 c151137] 25 .exact), (none, .dead), (some b10, .cells [.int .u8 p1.Bridges, .int .u8 p1.Stations, .slice a2 n2 c2, .slice a3 n3 c3, .slice a4 n4 c4, .slice a5 n5 c5] 46 .exact)])) 3 ?_ ?_
      · rintro s152159 _ t0 h152161 X152160
        refine lpure (v := .bool s152159) rfl (p_move rfl) rfl rfl ?_
        refine lsh (τ := Bool) (σ := Unit) (fun s152163 (_ : Unit) => [(9, .pointer (some ⟨b151139, 0, none⟩)), (10, .slice a151788 n151788 c151788), (13, .int .i64 (Int.tmod (w64 p8) e151129.Nodes)), (14, .int .i64 (Int.tmod (w64 p9) e151129.Nodes)), (15, .slice a152138 n152138 c152138), (17, .slice a152147 n152147 c152147), (19, .slice a152156 n152156 c152156), (86, .bool s152163)]) (fun s152163 (_ : Unit) hh => St φ152153 h.n hh ([(ob152156, blk152156), (ob152147, blk152147), (ob152138, blk152138), (none, .dead), (some b151139, .cells [.int .i64 e151129.Nodes, .slice a151136 n151136 c151136, .slice a151137 n151137 c151137] 25 .exact), (none, .dead), (some b10, .cells [.int .u8 p1.Bridges, .int .u8 p1.Stations, .slice a2 n2 c2, .slice a3 n3 c3, .slice a4 n4 c4, .slice a5 n5 c5] 46 .exact)])) 3 ?_ ?_
        · rintro s152163 _ t0 h152165 X152164
          refine lpure (v := .bool s152163) rfl (p_move rfl) rfl rfl ?_
          refine lsh (τ := Bool) (σ := Unit) (fun s152167 (_ : Unit) => [(9, .pointer (some ⟨b151139, 0, none⟩)), (10, .slice a151788 n151788 c151788), (13, .int .i64 (Int.tmod (w64 p8) e151129.Nodes)), (14, .int .i64 (Int.tmod (w64 p9) e151129.Nodes)), (15, .slice a152138 n152138 c152138), (17, .slice a152147 n152147 c152147), (19, .slice a152156 n152156 c152156), (93, .bool s152167)]) (fun s152167 (_ : Unit) hh => St φ152153 h.n hh ([(ob152156, blk152156), (ob152147, blk152147), (ob152138, blk152138), (none, .dead), (some b151139, .cells [.int .i64 e151129.Nodes, .slice a151136 n151136 c151136, .slice a151137 n151137 c151137] 25 .exact), (none, .dead), (some b10, .cells [.int .u8 p1.Bridges, .int .u8 p1.Stations, .slice a2 n2 c2, .slice a3 n3 c3, .slice a4 n4 c4, .slice a5 n5 c5] 46 .exact)])) 6 ?_ ?_
          · rintro s152167 _ t0 h152169 X152168
            refine lpure (v := .bool s152167) rfl (p_move rfl) rfl rfl ?_
            refine lsh (τ := Bool) (σ := Unit) (fun s152171 (_ : Unit) => [(9, .pointer (some ⟨b151139, 0, none⟩)), (10, .slice a151788 n151788 c151788), (13, .int .i64 (Int.tmod (w64 p8) e151129.Nodes)), (14, .int .i64 (Int.tmod (w64 p9) e151129.Nodes)), (15, .slice a152138 n152138 c152138), (17, .slice a152147 n152147 c152147), (19, .slice a152156 n152156 c152156), (100, .bool s152171)]) (fun s152171 (_ : Unit) hh => St φ152153 h.n hh ([(ob152156, blk152156), (ob152147, blk152147), (ob152138, blk152138), (none, .dead), (some b151139, .cells [.int .i64 e151129.Nodes, .slice a151136 n151136 c151136, .slice a151137 n151137 c151137] 25 .exact), (none, .dead), (some b10, .cells [.int .u8 p1.Bridges, .int .u8 p1.Stations, .slice a2 n2 c2, .slice a3 n3 c3, .slice a4 n4 c4, .slice a5 n5 c5] 46 .exact)])) 6 ?_ ?_
            · rintro s152171 _ t0 h152173 X152172
              refine lpure (v := .bool s152171) rfl (p_move rfl) rfl rfl ?_
              refine ljoinM (τ := Bool) (σ := Unit) (fun s152184 (_ : Unit) => [(9, .pointer (some ⟨b151139, 0, none⟩)), (10, .slice a151788 n151788 c151788), (13, .int .i64 (Int.tmod (w64 p8) e151129.Nodes)), (14, .int .i64 (Int.tmod (w64 p9) e151129.Nodes)), (15, .slice a152138 n152138 c152138), (17, .slice a152147 n152147 c152147), (104, .bool s152184)]) (fun s152184 (_ : Unit) hh => St φ152153 h.n hh ([(ob152156, blk152156), (ob152147, blk152147), (ob152138, blk152138), (none, .dead), (some b151139, .cells [.int .i64 e151129.Nodes, .slice a151136 n151136 c151136, .slice a151137 n151137 c151137] 25 .exact), (none, .dead), (some b10, .cells [.int .u8 p1.Bridges, .int .u8 p1.Stations, .slice a2 n2 c2, .slice a3 n3 c3, .slice a4 n4 c4, .slice a5 n5 c5] 46 .exact)])) 3 ?_ ?_
              · rintro s152184 _ t0 h152186 X152185
                refine lend ?_
                refine nseq ?_
                refine dcond rfl rfl (fun k152187 => ?_) (fun k152187 => ?_)
                · refine dseq ?_
                  refine dreg ?_
                  refine lpure (v := .bool false) rfl (p_assign rfl) rfl rfl ?_
                  refine lend ?_
                  refine nseq ?_
                  refine dret ?_
                  refine rseq ?_
                  exact kcut_r (res_1 resT) X152185 rfl rfl
                · refine dskip ?_
                  refine nseq ?_
                  refine dseq ?_
                  refine dseq ?_
                  refine ddraw 0 0 0 (by kernel_rfl) ?_
                  refine spure (v := .slice a152138 n152138 c152138) rfl (p_move rfl) (lo_t (lo_osl X152185 (j := 2) rfl (O152138.mono (g152145.trans g152154))) rfl) rfl rfl ?_
                  refine spure (v := .int .i64 (Int.tmod (w64 p8) e151129.Nodes)) rfl (p_move rfl) (lo_t rfl rfl) rfl rfl ?_
                  refine Sim.bindM fun e152188 he152189 => ?_
                  obtain ⟨b152190, vs152190, m152190, off152190, cs152190, rfl, rfl, hp152190, hc152190, hR152190, hl152190, hm152190, hs152190⟩ := OSl.ia (O152138.mono (g152145.trans g152154)) he152189 (kd := .i64) (n := 1) rfl
                  have hR152190 : _ = [(.bool e152188 : Value)] := hR152190
                  subst hR152190
                  refine spure (v := .pointer (some ⟨b152190, off152190, none⟩)) rfl (p_ia rs_22 rfl) (lo_t (lo_osl X152185 (j := 2) rfl (O152138.mono (g152145.trans g152154))) (lo_t rfl rfl)) hp152190 rfl ?_
                  refine sload (v := .bool e152188) rfl rfl (q_load wd_4 rfl) (St.ld X152185 (j := 2) rfl (rdE1 hc152190 (k := 0) rfl rfl)) (same_self 20 rfl) rfl ?_
                  refine spure (v := .bool (!e152188)) rfl (p_not rfl) (lo_t rfl rfl) rfl rfl ?_
                  refine spure (v := .bool (!e152188)) rfl (p_move rfl) (lo_t rfl rfl) rfl rfl ?_
                  refine sjoinM (τ := (List Bool) × Bool) (σ := Option Addr × Nat × Nat × Option Nat × Blk) (fun s152199 (a152200, n152200, c152200, ob152200, blk152200) => [(9, .pointer (some ⟨b151139, 0, none⟩)), (10, .slice a151788 n151788 c151788), (14, .int .i64 (Int.tmod (w64 p9) e151129.Nodes)), (15, .slice a152138 n152138 c152138), (17, .slice a152200 n152200 c152200), (120, .bool s152199.2)]) (fun s152199 (a152200, n152200, c152200, ob152200, blk152200) hh => St φ152153 h.n hh ([(ob152156, blk152156), (ob152200, blk152200), (some b152190, .cells vs152190 4 m152190), (none, .dead), (some b151139, .cells [.int .i64 e151129.Nodes, .slice a151136 n151136 c151136, .slice a151137 n151137 c151137] 25 .exact), (none, .dead), (some b10, .cells [.int .u8 p1.Bridges, .int .u8 p1.Stations, .slice a2 n2 c2, .slice a3 n3 c3, .slice a4 n4 c4, .slice a5 n5 c5] 46 .exact)]) ∧ OSl eBool φ152153 4 ob152200 blk152200 (.slice a152200 n152200 c152200) s152199.1) 10 16 ?_ ?_
                  · rintro s152199 ⟨a152200, n152200, c152200, ob152200, blk152200⟩ t0 h152202 ⟨X152201, O152200⟩
                    refine spure (v := .bool s152199.2) rfl (p_move rfl) (lo_t rfl rfl) rfl rfl ?_
                    refine sjoinM (τ := Bool) (σ := Unit) (fun s152221 (_ : Unit) => [(9, .pointer (some ⟨b151139, 0, none⟩)), (10, .slice a151788 n151788 c151788), (15, .slice a152138 n152138 c152138), (132, .bool s152221)]) (fun s152221 (_ : Unit) hh => St φ152153 h.n hh ([(ob152156, blk152156), (ob152200, blk152200), (some b152190, .cells vs152190 4 m152190), (none, .dead), (some b151139, .cells [.int .i64 e151129.Nodes, .slice a151136 n151136 c151136, .slice a151137 n151137 c151137] 25 .exact), (none, .dead), (some b10, .cells [.int .u8 p1.Bridges, .int .u8 p1.Stations, .slice a2 n2 c2, .slice a3 n3 c3, .slice a4 n4 c4, .slice a5 n5 c5] 46 .exact)])) 11 28 ?_ ?_
                    · rintro s152221 _ t0 h152223 X152222
                      refine send ?_
                      refine nseq ?_
                      refine dcond rfl rfl (fun k152224 => ?_) (fun k152224 => ?_)
                      · refine dseq ?_
                        refine dreg ?_
                        refine lpure (v := .bool false) rfl (p_assign rfl) rfl rfl ?_
                        refine lend ?_
                        refine nseq ?_
                        refine dret ?_
                        refine rseq ?_
                        exact kcut_r (res_1 resT) X152222 rfl rfl
                      · refine dskip ?_
                        refine nseq ?_
                        refine dseq ?_
                        refine dseq ?_
                        refine dreg ?_
                        refine lpure (v := .pointer (some ⟨b151139, 2, none⟩)) rfl (p_fa fo_25_2 rfl) rfl rfl ?_
                        refine lread (v := .slice a151137 n151137 c151137) rfl (q_load wd_23 rfl) (St.ld X152222 (j := 4) rfl rfl) rfl ?_
                        refine lpure (v := .int .i64 (e151129.Links.length : Int)) rfl (p_len rfl rfl rfl un_23 rfl) (RSl.lenC (H152126.mono (((g152128.trans g152136).trans g152145).trans g152154))) rfl ?_
                        refine lpure (v := .int .i64 0) rfl (p_move rfl) rfl rfl ?_
                        refine lend ?_
                        refine nseq ?_
                        refine dblock ?_
                        refine dloopM (τ := Int) (σ := Unit) (fun s152301 (_ : Unit) => [(10, .slice a151788 n151788 c151788), (15, .slice a152138 n152138 c152138), (134, .slice a151137 n151137 c151137), (135, .int .i64 (e151129.Links.length : Int)), (136, .int .i64 s152301)]) (fun s152301 (_ : Unit) hh => St φ152153 h.n hh ([(ob152156, blk152156), (ob152200, blk152200), (some b152190, .cells vs152190 4 m152190), (none, .dead), (some b151139, .cells [.int .i64 e151129.Nodes, .slice a151136 n151136 c151136, .slice a151137 n151137 c151137] 25 .exact), (none, .dead), (some b10, .cells [.int .u8 p1.Bridges, .int .u8 p1.Stations, .slice a2 n2 c2, .slice a3 n3 c3, .slice a4 n4 c4, .slice a5 n5 c5] 46 .exact)])) 0 () (sub_cons rfl (sub_cons rfl (sub_cons rfl (sub_cons rfl (sub_cons rfl sub_nil))))) (St.pick X152222 (.keep _ (.keep _ (.keep _ (.none _ (.skip _ (.keep _ (.none _ (.skip _ (.keep _ (.nil _))))))))))) ?_
                        rintro n152341 ih152340 s152301 _ t0 h152343 X152342
                        refine dseq ?_
                        refine dreg ?_
                        refine lpure (v := .bool (decide (s152301 < (e151129.Links.length : Int)))) rfl (p_lt rfl) rfl rfl ?_
                        refine lend ?_
                        refine nseq ?_
                        refine dseq ?_
                        refine dcond rfl rfl (fun k152344 => ?_) (fun k152344 => ?_)
                        · refine dskip ?_
                          refine nseq ?_
                          refine dseq ?_
                          refine dblock ?_
                          refine dseq ?_
                          refine dreg ?_
                          refine lpure (v := .int .i64 s152301) rfl (p_move rfl) rfl rfl ?_
                          refine Sim.bindM fun e152345 he152346 => ?_
                          obtain ⟨p152347, cs152347, hp152347, hF152347, hR152347⟩ := RSl.ia (H152126.mono (((g152128.trans g152136).trans g152145).trans g152154)) he152346 (kd := .i64) (n := 4) rfl
                          obtain rfl := eApiLink_el hR152347
                          refine lpure (v := p152347) rfl (p_ia rs_23 rfl) hp152347 rfl ?_
                          refine lread (v := .agg #[.int .i64 e152345.A, .int .i64 e152345.B, .int .i64 e152345.Per, .int .i64 e152345.Delay]) rfl (q_load wd_50 rfl) (FP.ldw X152342 hF152347 rfl rfl) rfl ?_
                          refine lalloc rfl tz_50 rfl rfl rfl X152342 (fun b152348 h152350 X152351 => ?_)
                          refine lpure (v := .int .i64 s152301) rfl (p_assign rfl) rfl rfl ?_
                          refine lstore rfl ts_50 rfl rfl (j := 0) rfl rfl rfl rfl rfl rfl X152351 (fun h152352 X152353 => ?_)
                          refine lend ?_
                          refine nseq ?_
                          refine dseq ?_
                          refine ddraw 0 0 0 (by kernel_rfl) ?_
                          refine spure (v := .slice a151788 n151788 c151788) rfl (p_move rfl) (lo_t (lo_sl X152353 (H152130.mono ((g152136.trans g152145).trans g152154))) rfl) rfl rfl ?_
                          refine spure (v := .int .i64 s152301) rfl (p_move rfl) (lo_t rfl rfl) rfl rfl ?_
                          refine scall (en := fun d => (.bool d)) rfl rfl ca_22 rfl rfl (f22_ok X152353 (s151786.1) s152301 (H152130.mono ((g152136.trans g152145).trans g152154))) rfl (fun e152354 => ?_)
                          refine spure (v := .bool (!e152354)) rfl (p_not rfl) (lo_t rfl rfl) rfl rfl ?_
                          refine spure (v := .bool (!e152354)) rfl (p_move rfl) (lo_t rfl rfl) rfl rfl ?_
                          refine sjoinM (τ := Bool) (σ := Unit) (fun s152366 (_ : Unit) => [(10, .slice a151788 n151788 c151788), (15, .slice a152138 n152138 c152138), (134, .slice a151137 n151137 c151137), (135, .int .i64 (e151129.Links.length : Int)), (136, .int .i64 s152301), (157, .bool s152366)]) (fun s152366 (_ : Unit) hh => St φ152153 h.n hh ([(some b152348, .cells [.int .i64 e152345.A, .int .i64 e152345.B, .int .i64 e152345.Per, .int .i64 e152345.Delay] 50 .exact), (ob152156, blk152156), (ob152200, blk152200), (some b152190, .cells vs152190 4 m152190), (none, .dead), (some b151139, .cells [.int .i64 e151129.Nodes, .slice a151136 n151136 c151136, .slice a151137 n151137 c151137] 25 .exact), (none, .dead), (some b10, .cells [.int .u8 p1.Bridges, .int .u8 p1.Stations, .slice a2 n2 c2, .slice a3 n3 c3, .slice a4 n4 c4, .slice a5 n5 c5] 46 .exact)])) 12 17 ?_ ?_
                          · rintro s152366 _ t0 h152368 X152367
                            refine send ?_
                            refine nseq ?_
                            refine dcond rfl rfl (fun k152369 => ?_) (fun k152369 => ?_)
                            · refine dseq ?_
                              refine dreg ?_
                              refine lpure (v := .bool false) rfl (p_assign rfl) rfl rfl ?_
                              refine lend ?_
                              refine nseq ?_
                              refine dret ?_
                              refine rblock ?_
                              refine rseq ?_
                              refine rloop ?_
                              refine rblock ?_
                              refine rseq ?_
                              exact kcut_r (res_1 resT) X152367 rfl rfl
                            · refine dskip ?_
                              refine nblock ?_
                              refine nseq ?_
                              refine dreg ?_
                              refine lpure (v := .int .i64 (w64 (s152301 + 1))) rfl (p_add rfl) rfl rfl ?_
                              refine lpure (v := .int .i64 (w64 (s152301 + 1))) rfl (p_move rfl) rfl rfl ?_
                              refine lend ?_
                              exact kbackM ih152340 (w64 (s152301 + 1)) () (sub_cons rfl (sub_cons rfl (sub_cons rfl (sub_cons rfl (sub_cons rfl sub_nil))))) (St.pick X152367 (.skip _ (.keep _ (.keep _ (.keep _ (.none _ (.skip _ (.keep _ (.none _ (.skip _ (.keep _ (.nil _))))))))))))
                          · intro j152370 J152371
                            refine sif (j := 145) (show _ = Value.bool (!e152354) from rfl) (fun k152372 => ?_) (fun k152372 => ?_)
                            · refine spure (v := .slice a152138 n152138 c152138) rfl (p_move rfl) (lo_t (lo_osl X152353 (j := 3) rfl (O152138.mono (g152145.trans g152154))) rfl) rfl rfl ?_
                              refine spure (v := .pointer (some ⟨b152348, 0, none⟩)) rfl (p_fa fo_50_0 rfl) (lo_t (lo_own X152353 (j := 0) (o := 0) (s := none) (f := 0) rfl) rfl) rfl rfl ?_
                              refine sload (v := .int .i64 e152345.A) rfl rfl (q_load wd_3 rfl) (St.ld X152353 (j := 0) rfl rfl) (same_self 20 rfl) rfl ?_
                              refine Sim.bindM fun e152373 he152374 => ?_
                              obtain ⟨off152375, cs152375, hp152375, hc152375, hR152375, hl152375, hm152375, hs152375⟩ := OSl.iaC (O152138.mono (g152145.trans g152154)) he152374 (kd := .i64) (n := 1) rfl
                              have hR152375 : _ = [(.bool e152373 : Value)] := hR152375
                              subst hR152375
                              refine spure (v := .pointer (some ⟨b152190, off152375, none⟩)) rfl (p_ia rs_22 rfl) (lo_t (lo_osl X152353 (j := 3) rfl (O152138.mono (g152145.trans g152154))) (lo_t rfl rfl)) hp152375 rfl ?_
                              refine sload (v := .bool e152373) rfl rfl (q_load wd_4 rfl) (St.ld X152353 (j := 3) rfl (rdE1 hc152375 (k := 0) rfl rfl)) (same_self 20 rfl) rfl ?_
                              refine spure (v := .slice a152138 n152138 c152138) rfl (p_move rfl) (lo_t (lo_osl X152353 (j := 3) rfl (O152138.mono (g152145.trans g152154))) rfl) rfl rfl ?_
                              refine spure (v := .pointer (some ⟨b152348, 1, none⟩)) rfl (p_fa fo_50_1 rfl) (lo_t (lo_own X152353 (j := 0) (o := 0) (s := none) (f := 0) rfl) rfl) rfl rfl ?_
                              refine sload (v := .int .i64 e152345.B) rfl rfl (q_load wd_3 rfl) (St.ld X152353 (j := 0) rfl rfl) (same_self 20 rfl) rfl ?_
                              refine Sim.bindM fun e152376 he152377 => ?_
                              obtain ⟨off152378, cs152378, hp152378, hc152378, hR152378, hl152378, hm152378, hs152378⟩ := OSl.iaC (O152138.mono (g152145.trans g152154)) he152377 (kd := .i64) (n := 1) rfl
                              have hR152378 : _ = [(.bool e152376 : Value)] := hR152378
                              subst hR152378
                              refine spure (v := .pointer (some ⟨b152190, off152378, none⟩)) rfl (p_ia rs_22 rfl) (lo_t (lo_osl X152353 (j := 3) rfl (O152138.mono (g152145.trans g152154))) (lo_t rfl rfl)) hp152378 rfl ?_
                              refine sload (v := .bool e152376) rfl rfl (q_load wd_4 rfl) (St.ld X152353 (j := 3) rfl (rdE1 hc152378 (k := 0) rfl rfl)) (same_self 20 rfl) rfl ?_
                              refine spure (v := .bool (!(e152373 == e152376))) rfl (p_bin rfl) (lo_t rfl (lo_t rfl rfl)) (bin_neB un_4) rfl ?_
                              refine spure (v := .bool (!(e152373 == e152376))) rfl (p_pick rfl) (lo_t rfl (lo_t rfl (lo_c rfl))) rfl rfl ?_
                              exact sjmpM J152371 (!(e152373 == e152376)) () (sub_cons rfl (sub_cons rfl (sub_cons rfl (sub_cons rfl (sub_cons rfl (sub_cons rfl sub_nil)))))) (St.pick X152353 (.keep _ (.keep _ (.keep _ (.keep _ (.none _ (.skip _ (.keep _ (.none _ (.skip _ (.keep _ (.nil _))))))))))))
                            · refine sskip rfl rfl ?_
                              refine sskip rfl rfl ?_
                              refine sskip rfl rfl ?_
                              refine sskip rfl rfl ?_
                              refine sskip rfl rfl ?_
                              refine sskip rfl rfl ?_
                              refine sskip rfl rfl ?_
                              refine sskip rfl rfl ?_
                              refine sskip rfl rfl ?_
                              refine sskip rfl rfl ?_
                              refine sskip rfl rfl ?_
                              refine spure (v := .bool false) rfl (p_pick rfl) (lo_t rfl (lo_t rfl (lo_c rfl))) rfl rfl ?_
                              exact sjmpM J152371 false () (sub_cons rfl (sub_cons rfl (sub_cons rfl (sub_cons rfl (sub_cons rfl (sub_cons rfl sub_nil)))))) (St.pick X152353 (.keep _ (.keep _ (.keep _ (.keep _ (.none _ (.skip _ (.keep _ (.none _ (.skip _ (.keep _ (.nil _))))))))))))
                        · refine dexit ?_
                          refine eseq ?_
                          refine eloop ?_
                          refine xblock ?_
                          refine nseq ?_
                          refine dseq ?_
                          refine dreg ?_
                          refine lpure (v := .bool true) rfl (p_assign rfl) rfl rfl ?_
                          refine lend ?_
                          refine nseq ?_
                          refine dret ?_
                          exact kcut_r (res_1 resT) X152342 rfl rfl
                    · intro j152379 J152380
                      refine sif (j := 121) (show _ = Value.bool s152199.2 from rfl) (fun k152381 => ?_) (fun k152381 => ?_)
                      · refine sskip rfl rfl ?_
                        refine sskip rfl rfl ?_
                        refine sskip rfl rfl ?_
                        refine sskip rfl rfl ?_
                        refine sskip rfl rfl ?_
                        refine sskip rfl rfl ?_
                        refine sskip rfl rfl ?_
                        refine sskip rfl rfl ?_
                        refine sskip rfl rfl ?_
                        refine sskip rfl rfl ?_
                        refine spure (v := .bool true) rfl (p_pick rfl) (lo_t rfl (lo_c (lo_t rfl rfl))) rfl rfl ?_
                        exact sjmpM J152380 true () (sub_cons rfl (sub_cons rfl (sub_cons rfl (sub_cons rfl sub_nil)))) (St.pick X152201 (.keep _ (.keep _ (.keep _ (.none _ (.skip _ (.keep _ (.none _ (.skip _ (.keep _ (.nil _)))))))))))
                      · refine spure (v := .slice a152138 n152138 c152138) rfl (p_move rfl) (lo_t (lo_osl X152201 (j := 2) rfl (O152138.mono (g152145.trans g152154))) rfl) rfl rfl ?_
                        refine spure (v := .int .i64 (Int.tmod (w64 p9) e151129.Nodes)) rfl (p_move rfl) (lo_t rfl rfl) rfl rfl ?_
                        refine Sim.bindM fun e152382 he152383 => ?_
                        obtain ⟨off152384, cs152384, hp152384, hc152384, hR152384, hl152384, hm152384, hs152384⟩ := OSl.iaC (O152138.mono (g152145.trans g152154)) he152383 (kd := .i64) (n := 1) rfl
                        have hR152384 : _ = [(.bool e152382 : Value)] := hR152384
                        subst hR152384
                        refine spure (v := .pointer (some ⟨b152190, off152384, none⟩)) rfl (p_ia rs_22 rfl) (lo_t (lo_osl X152201 (j := 2) rfl (O152138.mono (g152145.trans g152154))) (lo_t rfl rfl)) hp152384 rfl ?_
                        refine sload (v := .bool e152382) rfl rfl (q_load wd_4 rfl) (St.ld X152201 (j := 2) rfl (rdE1 hc152384 (k := 0) rfl rfl)) (same_self 20 rfl) rfl ?_
                        refine spure (v := .bool e152382) rfl (p_move rfl) (lo_t rfl rfl) rfl rfl ?_
                        refine sif (j := 126) (show _ = Value.bool e152382 from rfl) (fun k152385 => ?_) (fun k152385 => ?_)
                        · refine spure (v := .slice a152138 n152138 c152138) rfl (p_move rfl) (lo_t (lo_osl X152201 (j := 2) rfl (O152138.mono (g152145.trans g152154))) rfl) rfl rfl ?_
                          refine spure (v := .slice a152200 n152200 c152200) rfl (p_move rfl) (lo_t (lo_osl X152201 (j := 1) rfl O152200) rfl) rfl rfl ?_
                          obtain ⟨φ152386, g152387, X152388, H152389⟩ := OSl.freeze X152201 (j := 2) rfl (O152138.mono (g152145.trans g152154))
                          obtain ⟨φ152390, g152391, X152392, H152393⟩ := OSl.freeze X152388 (j := 1) rfl (O152200.mono g152387)
                          refine scall (en := fun d => (.bool d)) rfl rfl ca_18 rfl rfl (f18_ok X152392 (e152131.1) (s152199.1) (H152389.mono g152391) H152393) rfl (fun e152394 => ?_)
                          refine spure (v := .bool (!e152394)) rfl (p_not rfl) (lo_t rfl rfl) rfl rfl ?_
                          refine spure (v := .bool (!e152394)) rfl (p_pick rfl) (lo_t rfl (lo_t rfl (lo_c rfl))) rfl rfl ?_
                          refine spure (v := .bool (!e152394)) rfl (p_pick rfl) (lo_t rfl (lo_c (lo_t rfl rfl))) rfl rfl ?_
                          exact sjmpM J152380 (!e152394) () (sub_cons rfl (sub_cons rfl (sub_cons rfl (sub_cons rfl sub_nil)))) (St.pick X152201 (.keep _ (.keep _ (.keep _ (.none _ (.skip _ (.keep _ (.none _ (.skip _ (.keep _ (.nil _)))))))))))
                        · refine sskip rfl rfl ?_
                          refine sskip rfl rfl ?_
                          refine sskip rfl rfl ?_
                          refine sskip rfl rfl ?_
                          refine spure (v := .bool false) rfl (p_pick rfl) (lo_t rfl (lo_t rfl (lo_c rfl))) rfl rfl ?_
                          refine spure (v := .bool false) rfl (p_pick rfl) (lo_t rfl (lo_c (lo_t rfl rfl))) rfl rfl ?_
                          exact sjmpM J152380 false () (sub_cons rfl (sub_cons rfl (sub_cons rfl (sub_cons rfl sub_nil)))) (St.pick X152201 (.keep _ (.keep _ (.keep _ (.none _ (.skip _ (.keep _ (.none _ (.skip _ (.keep _ (.nil _)))))))))))
                  · intro j152398 J152399
                    refine sif (j := 110) (show _ = Value.bool (!e152188) from rfl) (fun k152400 => ?_) (fun k152400 => ?_)
                    · refine sskip rfl rfl ?_
                      refine sskip rfl rfl ?_
                      refine sskip rfl rfl ?_
                      refine sskip rfl rfl ?_
                      refine sskip rfl rfl ?_
                      refine sskip rfl rfl ?_
                      refine sskip rfl rfl ?_
                      refine sskip rfl rfl ?_
                      refine sskip rfl rfl ?_
                      refine spure (v := .bool true) rfl (p_pick rfl) (lo_t rfl (lo_c (lo_t rfl rfl))) rfl rfl ?_
                      exact sjmpM J152399 (e152140.1, true) (a152147, n152147, c152147, ob152147, blk152147) (sub_cons rfl (sub_cons rfl (sub_cons rfl (sub_cons rfl (sub_cons rfl (sub_cons rfl sub_nil)))))) ⟨(St.pick X152185 (.keep _ (.keep _ (.keep _ (.none _ (.skip _ (.keep _ (.none _ (.skip _ (.keep _ (.nil _))))))))))), (O152147.mono g152154)⟩
                    · refine spure (v := .slice a152138 n152138 c152138) rfl (p_move rfl) (lo_t (lo_osl X152185 (j := 2) rfl (O152138.mono (g152145.trans g152154))) rfl) rfl rfl ?_
                      refine spure (v := .int .i64 (Int.tmod (w64 p9) e151129.Nodes)) rfl (p_move rfl) (lo_t rfl rfl) rfl rfl ?_
                      refine Sim.bindM fun e152401 he152402 => ?_
                      obtain ⟨off152403, cs152403, hp152403, hc152403, hR152403, hl152403, hm152403, hs152403⟩ := OSl.iaC (O152138.mono (g152145.trans g152154)) he152402 (kd := .i64) (n := 1) rfl
                      have hR152403 : _ = [(.bool e152401 : Value)] := hR152403
                      subst hR152403
                      refine spure (v := .pointer (some ⟨b152190, off152403, none⟩)) rfl (p_ia rs_22 rfl) (lo_t (lo_osl X152185 (j := 2) rfl (O152138.mono (g152145.trans g152154))) (lo_t rfl rfl)) hp152403 rfl ?_
                      refine sload (v := .bool e152401) rfl rfl (q_load wd_4 rfl) (St.ld X152185 (j := 2) rfl (rdE1 hc152403 (k := 0) rfl rfl)) (same_self 20 rfl) rfl ?_
                      refine spure (v := .slice a152147 n152147 c152147) rfl (p_move rfl) (lo_t (lo_osl X152185 (j := 1) rfl (O152147.mono g152154)) rfl) rfl rfl ?_
                      refine spure (v := .int .i64 (Int.tmod (w64 p8) e151129.Nodes)) rfl (p_move rfl) (lo_t rfl rfl) rfl rfl ?_
                      refine Sim.bindM fun e152404 he152405 => ?_
                      obtain ⟨b152406, vs152406, m152406, off152406, cs152406, rfl, rfl, hp152406, hc152406, hR152406, hl152406, hm152406, hs152406⟩ := OSl.ia (O152147.mono g152154) he152405 (kd := .i64) (n := 1) rfl
                      have hR152406 : _ = [(.bool e152404 : Value)] := hR152406
                      subst hR152406
                      refine spure (v := .pointer (some ⟨b152406, off152406, none⟩)) rfl (p_ia rs_22 rfl) (lo_t (lo_osl X152185 (j := 1) rfl (O152147.mono g152154)) (lo_t rfl rfl)) hp152406 rfl ?_
                      refine sload (v := .bool e152404) rfl rfl (q_load wd_4 rfl) (St.ld X152185 (j := 1) rfl (rdE1 hc152406 (k := 0) rfl rfl)) (same_self 20 rfl) rfl ?_
                      refine spure (v := .bool (!(e152401 == e152404))) rfl (p_bin rfl) (lo_t rfl (lo_t rfl rfl)) (bin_neB un_4) rfl ?_
                      refine spure (v := .bool (!(e152401 == e152404))) rfl (p_pick rfl) (lo_t rfl (lo_c (lo_t rfl rfl))) rfl rfl ?_
                      exact sjmpM J152399 (e152140.1, (!(e152401 == e152404))) (a152147, n152147, c152147, some b152406, .cells vs152406 4 m152406) (sub_cons rfl (sub_cons rfl (sub_cons rfl (sub_cons rfl (sub_cons rfl (sub_cons rfl sub_nil)))))) ⟨(St.pick X152185 (.keep _ (.keep _ (.keep _ (.none _ (.skip _ (.keep _ (.none _ (.skip _ (.keep _ (.nil _))))))))))), (O152147.mono g152154)⟩
              · intro j152407 J152408
                refine lif (i := 101) (show _ = Value.bool s152171 from rfl) (fun k152409 => ?_) (fun k152409 => ?_)
                · refine lskip rfl rfl ?_
                  refine lskip rfl rfl ?_
                  refine lpure (v := .bool true) rfl (p_pick rfl) rfl rfl ?_
                  exact ljmpM J152408 true () (sub_cons rfl (sub_cons rfl (sub_cons rfl (sub_cons rfl (sub_cons rfl (sub_cons rfl (sub_cons rfl sub_nil))))))) (St.pick X152172 (.keep _ (.keep _ (.keep _ (.none _ (.skip _ (.keep _ (.none _ (.skip _ (.keep _ (.nil _)))))))))))
                · refine lpure (v := .slice a152156 n152156 c152156) rfl (p_move rfl) rfl rfl ?_
                  obtain ⟨φ152410, g152411, X152412, H152413⟩ := OSl.freeze X152172 (j := 0) rfl O152156
                  refine lcall rfl rfl ca_21 rfl rfl (f21_ok X152412 (e152149.1) false H152413) rfl (fun e152414 v152415 h152416 hq152417 => ?_)
                  cases hq152417
                  refine lpure (v := .bool e152414) rfl (p_pick rfl) rfl rfl ?_
                  exact ljmpM J152408 e152414 () (sub_cons rfl (sub_cons rfl (sub_cons rfl (sub_cons rfl (sub_cons rfl (sub_cons rfl (sub_cons rfl sub_nil))))))) (St.pick X152172 (.keep _ (.keep _ (.keep _ (.none _ (.skip _ (.keep _ (.none _ (.skip _ (.keep _ (.nil _)))))))))))
            · intro j152418 J152419
              refine lcase (i := 94) (show _ = Value.bool s152167 from rfl) (fun k152420 => ?_) (fun k152420 => ?_)
              · refine lskip rfl rfl ?_
                refine lskip rfl rfl ?_
                refine lskip rfl rfl ?_
                refine lskip rfl rfl ?_
                refine lskip rfl rfl ?_
                refine lpure (v := .bool true) rfl (p_pick rfl) rfl rfl ?_
                refine Sim.of_eq (congrArg j152418 (show (s152167 || (decide ((e152140.1.length : Int) ≠ e151129.Nodes))) = true from by rw [k152420] <;> rfl)) ?_
                exact ljmpM J152419 true () (sub_cons rfl (sub_cons rfl (sub_cons rfl (sub_cons rfl (sub_cons rfl (sub_cons rfl (sub_cons rfl (sub_cons rfl sub_nil)))))))) (St.pick X152168 (.keep _ (.keep _ (.keep _ (.none _ (.skip _ (.keep _ (.none _ (.skip _ (.keep _ (.nil _)))))))))))
              · refine lpure (v := .slice a152147 n152147 c152147) rfl (p_move rfl) rfl rfl ?_
                refine lpure (v := .int .i64 (e152140.1.length : Int)) rfl (p_len rfl rfl rfl un_22 rfl) (OSl.len (O152147.mono g152154)) rfl ?_
                refine lpure (v := .pointer (some ⟨b151139, 0, none⟩)) rfl (p_fa fo_25_0 rfl) rfl rfl ?_
                refine lread (v := .int .i64 e151129.Nodes) rfl (q_load wd_3 rfl) (St.ld X152168 (j := 4) rfl rfl) rfl ?_
                refine lpure (v := .bool (decide ((e152140.1.length : Int) ≠ e151129.Nodes))) rfl (p_ne rfl) rfl rfl ?_
                refine lpure (v := .bool (decide ((e152140.1.length : Int) ≠ e151129.Nodes))) rfl (p_pick rfl) rfl rfl ?_
                refine Sim.of_eq (congrArg j152418 (show (s152167 || (decide ((e152140.1.length : Int) ≠ e151129.Nodes))) = (decide ((e152140.1.length : Int) ≠ e151129.Nodes)) from by rw [k152420] <;> rfl)) ?_
                exact ljmpM J152419 (decide ((e152140.1.length : Int) ≠ e151129.Nodes)) () (sub_cons rfl (sub_cons rfl (sub_cons rfl (sub_cons rfl (sub_cons rfl (sub_cons rfl (sub_cons rfl (sub_cons rfl sub_nil)))))))) (St.pick X152168 (.keep _ (.keep _ (.keep _ (.none _ (.skip _ (.keep _ (.none _ (.skip _ (.keep _ (.nil _)))))))))))
          · intro j152421 J152422
            refine lcase (i := 87) (show _ = Value.bool s152163 from rfl) (fun k152423 => ?_) (fun k152423 => ?_)
            · refine lskip rfl rfl ?_
              refine lskip rfl rfl ?_
              refine lskip rfl rfl ?_
              refine lskip rfl rfl ?_
              refine lskip rfl rfl ?_
              refine lpure (v := .bool true) rfl (p_pick rfl) rfl rfl ?_
              refine Sim.of_eq (congrArg j152421 (show (s152163 || (decide ((e152131.1.length : Int) ≠ e151129.Nodes))) = true from by rw [k152423] <;> rfl)) ?_
              exact ljmpM J152422 true () (sub_cons rfl (sub_cons rfl (sub_cons rfl (sub_cons rfl (sub_cons rfl (sub_cons rfl (sub_cons rfl (sub_cons rfl sub_nil)))))))) (St.pick X152164 (.keep _ (.keep _ (.keep _ (.none _ (.skip _ (.keep _ (.none _ (.skip _ (.keep _ (.nil _)))))))))))
            · refine lpure (v := .slice a152138 n152138 c152138) rfl (p_move rfl) rfl rfl ?_
              refine lpure (v := .int .i64 (e152131.1.length : Int)) rfl (p_len rfl rfl rfl un_22 rfl) (OSl.len (O152138.mono (g152145.trans g152154))) rfl ?_
              refine lpure (v := .pointer (some ⟨b151139, 0, none⟩)) rfl (p_fa fo_25_0 rfl) rfl rfl ?_
              refine lread (v := .int .i64 e151129.Nodes) rfl (q_load wd_3 rfl) (St.ld X152164 (j := 4) rfl rfl) rfl ?_
              refine lpure (v := .bool (decide ((e152131.1.length : Int) ≠ e151129.Nodes))) rfl (p_ne rfl) rfl rfl ?_
              refine lpure (v := .bool (decide ((e152131.1.length : Int) ≠ e151129.Nodes))) rfl (p_pick rfl) rfl rfl ?_
              refine Sim.of_eq (congrArg j152421 (show (s152163 || (decide ((e152131.1.length : Int) ≠ e151129.Nodes))) = (decide ((e152131.1.length : Int) ≠ e151129.Nodes)) from by rw [k152423] <;> rfl)) ?_
              exact ljmpM J152422 (decide ((e152131.1.length : Int) ≠ e151129.Nodes)) () (sub_cons rfl (sub_cons rfl (sub_cons rfl (sub_cons rfl (sub_cons rfl (sub_cons rfl (sub_cons rfl (sub_cons rfl sub_nil)))))))) (St.pick X152164 (.keep _ (.keep _ (.keep _ (.none _ (.skip _ (.keep _ (.none _ (.skip _ (.keep _ (.nil _)))))))))))
        · intro j152424 J152425
          refine lcase (i := 83) (show _ = Value.bool s152159 from rfl) (fun k152426 => ?_) (fun k152426 => ?_)
          · refine lskip rfl rfl ?_
            refine lskip rfl rfl ?_
            refine lpure (v := .bool true) rfl (p_pick rfl) rfl rfl ?_
            refine Sim.of_eq (congrArg j152424 (show (s152159 || (decide (e152149.2 ≠ 0))) = true from by rw [k152426] <;> rfl)) ?_
            exact ljmpM J152425 true () (sub_cons rfl (sub_cons rfl (sub_cons rfl (sub_cons rfl (sub_cons rfl (sub_cons rfl (sub_cons rfl (sub_cons rfl sub_nil)))))))) (St.pick X152160 (.keep _ (.keep _ (.keep _ (.none _ (.skip _ (.keep _ (.none _ (.skip _ (.keep _ (.nil _)))))))))))
          · refine lpure (v := .int .i64 e152149.2) rfl (p_move rfl) rfl rfl ?_
            refine lpure (v := .bool (decide (e152149.2 ≠ 0))) rfl (p_ne rfl) rfl rfl ?_
            refine lpure (v := .bool (decide (e152149.2 ≠ 0))) rfl (p_pick rfl) rfl rfl ?_
            refine Sim.of_eq (congrArg j152424 (show (s152159 || (decide (e152149.2 ≠ 0))) = (decide (e152149.2 ≠ 0)) from by rw [k152426] <;> rfl)) ?_
            exact ljmpM J152425 (decide (e152149.2 ≠ 0)) () (sub_cons rfl (sub_cons rfl (sub_cons rfl (sub_cons rfl (sub_cons rfl (sub_cons rfl (sub_cons rfl (sub_cons rfl sub_nil)))))))) (St.pick X152160 (.keep _ (.keep _ (.keep _ (.none _ (.skip _ (.keep _ (.none _ (.skip _ (.keep _ (.nil _)))))))))))
      · intro j152427 J152428
        refine lcase (i := 79) (show _ = Value.bool (decide (e152131.2 ≠ 0)) from rfl) (fun k152429 => ?_) (fun k152429 => ?_)
        · refine lskip rfl rfl ?_
          refine lskip rfl rfl ?_
          refine lpure (v := .bool true) rfl (p_pick rfl) rfl rfl ?_
          refine Sim.of_eq (congrArg j152427 (show ((decide (e152131.2 ≠ 0)) || (decide (e152140.2 ≠ 0))) = true from by rw [k152429] <;> rfl)) ?_
          exact ljmpM J152428 true () (sub_cons rfl (sub_cons rfl (sub_cons rfl (sub_cons rfl (sub_cons rfl (sub_cons rfl (sub_cons rfl (sub_cons rfl (sub_cons rfl sub_nil))))))))) (St.pick X152155 (.keep _ (.keep _ (.keep _ (.none _ (.skip _ (.keep _ (.none _ (.skip _ (.keep _ (.nil _)))))))))))
        · refine lpure (v := .int .i64 e152140.2) rfl (p_move rfl) rfl rfl ?_
          refine lpure (v := .bool (decide (e152140.2 ≠ 0))) rfl (p_ne rfl) rfl rfl ?_
          refine lpure (v := .bool (decide (e152140.2 ≠ 0))) rfl (p_pick rfl) rfl rfl ?_
          refine Sim.of_eq (congrArg j152427 (show ((decide (e152131.2 ≠ 0)) || (decide (e152140.2 ≠ 0))) = (decide (e152140.2 ≠ 0)) from by rw [k152429] <;> rfl)) ?_
          exact ljmpM J152428 (decide (e152140.2 ≠ 0)) () (sub_cons rfl (sub_cons rfl (sub_cons rfl (sub_cons rfl (sub_cons rfl (sub_cons rfl (sub_cons rfl (sub_cons rfl (sub_cons rfl sub_nil))))))))) (St.pick X152155 (.keep _ (.keep _ (.keep _ (.none _ (.skip _ (.keep _ (.none _ (.skip _ (.keep _ (.nil _)))))))))))
/-! isochron/isochronref16.In -/
theorem f48_ok {n : Nat} {φ : Fz} {lo : Nat} {h : Heap} {own : OwnL}  {a152571 : Option Addr} {n152571 c152571 : Nat} (X : St φ lo h (own)) (p152570 : (List Int)) (p152572 : Int) (H152571 : RSl (eInt .i64) φ (.slice a152571 n152571 c152571) p152570) : Sim ((recN Try.prog LL cutF (n + 1)).call 48 #[(.slice a152571 n152571 c152571), (.int .i64 p152572)] h) (m_isochronref16_In p152570 p152572) (fun (d : Bool) p => p = (.bool d, h)) := by
  refine fcut Try.func48 rfl rfl rfl rfl X ?_
  intro h0 X0
  refine dseq ?_
  refine dreg ?_
  refine lpure (v := .bool false) rfl (p_assign rfl) rfl rfl ?_
  refine lend ?_
  refine nseq ?_
  refine dseq ?_
  refine dseq ?_
  refine dreg ?_
  refine lpure (v := .int .i64 0) rfl (p_assign rfl) rfl rfl ?_
  refine lend ?_
  refine nseq ?_
  refine dblock ?_
  refine dloopM (τ := Int) (σ := Unit) (fun s152589 (_ : Unit) => [(0, .slice a152571 n152571 c152571), (1, .int .i64 p152572), (5, .int .i64 s152589)]) (fun s152589 (_ : Unit) hh => St φ h.n hh ([])) 0 () (sub_cons rfl (sub_cons rfl (sub_cons rfl sub_nil))) X0 ?_
  rintro n152599 ih152598 s152589 _ t0 h152601 X152600
  refine dseq ?_
  refine dseq ?_
  refine dreg ?_
  refine lpure (v := .int .i64 s152589) rfl (p_move rfl) rfl rfl ?_
  refine lpure (v := .slice a152571 n152571 c152571) rfl (p_move rfl) rfl rfl ?_
  refine lpure (v := .int .i64 (p152570.length : Int)) rfl (p_len rfl rfl rfl un_28 rfl) (RSl.lenC H152571) rfl ?_
  refine lpure (v := .bool (decide (s152589 < (p152570.length : Int)))) rfl (p_lt rfl) rfl rfl ?_
  refine lend ?_
  refine nseq ?_
  refine dcond rfl rfl (fun k152602 => ?_) (fun k152602 => ?_)
  · refine dskip ?_
    refine nseq ?_
    refine dseq ?_
    refine dblock ?_
    refine dseq ?_
    refine dreg ?_
    refine lpure (v := .slice a152571 n152571 c152571) rfl (p_move rfl) rfl rfl ?_
    refine lpure (v := .int .i64 s152589) rfl (p_move rfl) rfl rfl ?_
    refine Sim.bindM fun e152603 he152604 => ?_
    obtain ⟨p152605, cs152605, hp152605, hF152605, hR152605⟩ := RSl.ia H152571 he152604 (kd := .i64) (n := 1) rfl
    have hR152605 : _ = [(.int .i64 e152603 : Value)] := hR152605
    subst hR152605
    refine lpure (v := p152605) rfl (p_ia rs_28 rfl) hp152605 rfl ?_
    refine lread (v := .int .i64 e152603) rfl (q_load wd_3 rfl) (FP.ld X152600 hF152605) rfl ?_
    refine lpure (v := .int .i64 p152572) rfl (p_move rfl) rfl rfl ?_
    refine lpure (v := .bool (decide (e152603 = p152572))) rfl (p_eq rfl) rfl rfl ?_
    refine lend ?_
    refine nseq ?_
    refine dcond rfl rfl (fun k152606 => ?_) (fun k152606 => ?_)
    · refine dseq ?_
      refine dreg ?_
      refine lpure (v := .bool true) rfl (p_assign rfl) rfl rfl ?_
      refine lend ?_
      refine nseq ?_
      refine dret ?_
      refine rblock ?_
      refine rseq ?_
      refine rloop ?_
      refine rblock ?_
      refine rseq ?_
      exact kcut_r (res_1 resT) X152600 rfl rfl
    · refine dskip ?_
      refine nblock ?_
      refine nseq ?_
      refine dreg ?_
      refine lpure (v := .int .i64 s152589) rfl (p_move rfl) rfl rfl ?_
      refine lpure (v := .int .i64 (w64 (s152589 + 1))) rfl (p_add rfl) rfl rfl ?_
      refine lpure (v := .int .i64 (w64 (s152589 + 1))) rfl (p_assign rfl) rfl rfl ?_
      refine lend ?_
      exact kbackM ih152598 (w64 (s152589 + 1)) () (sub_cons rfl (sub_cons rfl (sub_cons rfl sub_nil))) X152600
  · refine dexit ?_
    refine eseq ?_
    refine eloop ?_
    refine xblock ?_
    refine nseq ?_
    refine dseq ?_
    refine dreg ?_
    refine lpure (v := .bool false) rfl (p_assign rfl) rfl rfl ?_
    refine lend ?_
    refine nseq ?_
    refine dret ?_
    exact kcut_r (res_1 resT) X152600 rfl rfl
/-! isochron/isochronref16.Reach -/
theorem f19_ok {n : Nat} {φ : Fz} {lo : Nat} {h : Heap} {own : OwnL}  {a153762 : Option Addr} {n153762 c153762 : Nat} {a153763 : Option Addr} {n153763 c153763 : Nat} {a153766 : Option Addr} {n153766 c153766 : Nat} (X : St φ lo h (own)) (p153761 : ApiTopo) (p153764 : Int) (p153765 : (List Int)) (H153762 : RSl eBool φ (.slice a153762 n153762 c153762) p153761.Station) (H153763 : RSl eApiLink φ (.slice a153763 n153763 c153763) p153761.Links) (H153766 : RSl (eInt .i64) φ (.slice a153766 n153766 c153766) p153765) : Sim ((recN Try.prog LL cutF (n + 2)).call 19 #[(.agg #[.int .i64 p153761.Nodes, .slice a153762 n153762 c153762, .slice a153763 n153763 c153763]), (.int .i64 p153764), (.slice a153766 n153766 c153766)] h) (m_isochronref16_Reach p153761 p153764 p153765) (fun (d : (List Bool)) p => ∃ φ2 : Fz, ∃ a154950 : Option Addr, ∃ n154950 : Nat, ∃ c154950 : Nat, ∃ ob154950 : Option Nat, ∃ blk154950 : Blk, Fz.le φ φ2 ∧ St φ2 lo p.2 ((ob154950, blk154950) :: own) ∧ p.1 = .slice a154950 n154950 c154950 ∧ OSl eBool φ2 4 ob154950 blk154950 (.slice a154950 n154950 c154950) d) := by
  refine fopen Try.func19 rfl rfl rfl rfl ?_
  refine dseq ?_
  refine dreg ?_
  refine lbox rfl rfl rfl rfl rfl X (fun b153767 h153769 X153770 => ?_)
  refine lpure (v := .slice none 0 0) rfl (p_assign rfl) rfl rfl ?_
  refine lend ?_
  refine nseq ?_
  refine dseq ?_
  refine dreg ?_
  refine lpure (v := .pointer (some ⟨b153767, 0, none⟩)) rfl (p_fa fo_25_0 rfl) rfl rfl ?_
  refine lread (v := .int .i64 p153761.Nodes) rfl (q_load wd_3 rfl) (St.ld X153770 (j := 0) rfl rfl) rfl ?_
  refine Sim.mustM fun k153771 => ?_
  have k153771 := of_decide_eq_true k153771
  obtain ⟨h153771, b153771, vs153771, hv153771, X153771, O153771⟩ := OSl.mk (E := eBool) (φ := φ) (a0 := false) (k := .i64) (k' := .i64) (l := p153761.Nodes) (c := p153761.Nodes) un_22 tb_4 rfl ts_4 rfl rfl tz_4 rfl rfl rfl (by omega) (by omega) (by omega) X153770
  refine lheap rfl (h_makeSlice rfl) hv153771 rfl ?_
  refine lpure (v := .slice (some ⟨b153771, 0, none⟩) (p153761.Nodes).toNat (p153761.Nodes).toNat) rfl (p_assign rfl) rfl rfl ?_
  refine lend ?_
  refine nseq ?_
  refine dseq ?_
  refine dreg ?_
  refine lpure (v := .slice (some ⟨b153771, 0, none⟩) (p153761.Nodes).toNat (p153761.Nodes).toNat) rfl (p_move rfl) rfl rfl ?_
  refine lpure (v := .int .i64 p153764) rfl (p_move rfl) rfl rfl ?_
  refine Sim.bindM fun e153773 he153774 => ?_
  obtain ⟨off153775, cs153775, hp153775, hc153775, hR153775, hl153775, hm153775, hs153775⟩ := OSl.iaC O153771 he153774 (kd := .i64) (n := 1) rfl
  have hR153775 : _ = [(.bool e153773 : Value)] := hR153775
  subst hR153775
  refine lpure (v := .pointer (some ⟨b153771, off153775, none⟩)) rfl (p_ia rs_22 rfl) hp153775 rfl ?_
  have O153778 := hs153775 [.bool true] (true) rfl
  refine lstore rfl ts_4 rfl rfl (j := 0) rfl hm153775 rfl rfl (ble_iff.2 hl153775) rfl X153771 (fun h153776 X153777 => ?_)
  refine lend ?_
  refine nseq ?_
  refine dseq ?_
  refine dseq ?_
  refine dreg ?_
  refine lpure (v := .int .i64 0) rfl (p_assign rfl) rfl rfl ?_
  refine lend ?_
  refine nseq ?_
  refine dblock ?_
  refine dloopM (τ := (List Bool) × Int) (σ := Option Addr × Nat × Nat × Option Nat × Blk) (fun s154363 (a154364, n154364, c154364, ob154364, blk154364) => [(2, .slice a153766 n153766 c153766), (3, .pointer (some ⟨b153767, 0, none⟩)), (7, .slice a154364 n154364 c154364), (8, .int .i64 s154363.2)]) (fun s154363 (a154364, n154364, c154364, ob154364, blk154364) hh => St φ lo hh ((ob154364, blk154364) :: (some b153767, .cells [.int .i64 p153761.Nodes, .slice a153762 n153762 c153762, .slice a153763 n153763 c153763] 25 .exact) :: own) ∧ OSl eBool φ 4 ob154364 blk154364 (.slice a154364 n154364 c154364) s154363.1) (((List.replicate (p153761.Nodes).toNat false).set (p153764).toNat true), 0) ((some ⟨b153771, 0, none⟩), (p153761.Nodes).toNat, (p153761.Nodes).toNat, some b153771, (.cells (setAt vs153771 off153775 [.bool true]) 4 .exact)) (sub_cons rfl (sub_cons rfl (sub_cons rfl (sub_cons rfl sub_nil)))) ⟨X153777, O153778⟩ ?_
  rintro n154658 ih154657 s154363 ⟨a154364, n154364, c154364, ob154364, blk154364⟩ t0 h154660 ⟨X154659, O154364⟩
  refine dseq ?_
  refine dseq ?_
  refine dreg ?_
  refine lpure (v := .int .i64 s154363.2) rfl (p_move rfl) rfl rfl ?_
  refine lpure (v := .pointer (some ⟨b153767, 0, none⟩)) rfl (p_fa fo_25_0 rfl) rfl rfl ?_
  refine lread (v := .int .i64 p153761.Nodes) rfl (q_load wd_3 rfl) (St.ld X154659 (j := 1) rfl rfl) rfl ?_
  refine lpure (v := .bool (decide (s154363.2 < p153761.Nodes))) rfl (p_lt rfl) rfl rfl ?_
  refine lend ?_
  refine nseq ?_
  refine dcond rfl rfl (fun k154661 => ?_) (fun k154661 => ?_)
  · refine dskip ?_
    refine nseq ?_
    refine dseq ?_
    refine dblock ?_
    refine dseq ?_
    refine dreg ?_
    refine lpure (v := .int .i64 0) rfl (p_assign rfl) rfl rfl ?_
    refine lend ?_
    refine nseq ?_
    refine dblock ?_
    refine dloopM (τ := (List Bool) × Int) (σ := Option Addr × Nat × Nat × Option Nat × Blk) (fun s154805 (a154806, n154806, c154806, ob154806, blk154806) => [(2, .slice a153766 n153766 c153766), (3, .pointer (some ⟨b153767, 0, none⟩)), (7, .slice a154806 n154806 c154806), (8, .int .i64 s154363.2), (9, .int .i64 s154805.2)]) (fun s154805 (a154806, n154806, c154806, ob154806, blk154806) hh => St φ lo hh ((ob154806, blk154806) :: (some b153767, .cells [.int .i64 p153761.Nodes, .slice a153762 n153762 c153762, .slice a153763 n153763 c153763] 25 .exact) :: own) ∧ OSl eBool φ 4 ob154806 blk154806 (.slice a154806 n154806 c154806) s154805.1) (s154363.1, 0) (a154364, n154364, c154364, ob154364, blk154364) (sub_cons rfl (sub_cons rfl (sub_cons rfl (sub_cons rfl (sub_cons rfl sub_nil))))) ⟨X154659, O154364⟩ ?_
    rintro n154879 ih154878 s154805 ⟨a154806, n154806, c154806, ob154806, blk154806⟩ t0 h154881 ⟨X154880, O154806⟩
    refine dseq ?_
    refine dseq ?_
    refine dreg ?_
    refine lpure (v := .int .i64 s154805.2) rfl (p_move rfl) rfl rfl ?_
    refine lpure (v := .pointer (some ⟨b153767, 2, none⟩)) rfl (p_fa fo_25_2 rfl) rfl rfl ?_
    refine lread (v := .slice a153763 n153763 c153763) rfl (q_load wd_23 rfl) (St.ld X154880 (j := 1) rfl rfl) rfl ?_
    refine lpure (v := .int .i64 (p153761.Links.length : Int)) rfl (p_len rfl rfl rfl un_23 rfl) (RSl.lenC H153763) rfl ?_
    refine lpure (v := .bool (decide (s154805.2 < (p153761.Links.length : Int)))) rfl (p_lt rfl) rfl rfl ?_
    refine lend ?_
    refine nseq ?_
    refine dcond rfl rfl (fun k154882 => ?_) (fun k154882 => ?_)
    · refine dskip ?_
      refine nseq ?_
      refine dseq ?_
      refine dblock ?_
      refine dseq ?_
      refine dreg ?_
      refine lpure (v := .pointer (some ⟨b153767, 2, none⟩)) rfl (p_fa fo_25_2 rfl) rfl rfl ?_
      refine lread (v := .slice a153763 n153763 c153763) rfl (q_load wd_23 rfl) (St.ld X154880 (j := 1) rfl rfl) rfl ?_
      refine lpure (v := .int .i64 s154805.2) rfl (p_move rfl) rfl rfl ?_
      refine Sim.bindM fun e154883 he154884 => ?_
      obtain ⟨p154885, cs154885, hp154885, hF154885, hR154885⟩ := RSl.ia H153763 he154884 (kd := .i64) (n := 4) rfl
      obtain rfl := eApiLink_el hR154885
      refine lpure (v := p154885) rfl (p_ia rs_23 rfl) hp154885 rfl ?_
      refine lread (v := .agg #[.int .i64 e154883.A, .int .i64 e154883.B, .int .i64 e154883.Per, .int .i64 e154883.Delay]) rfl (q_load wd_50 rfl) (FP.ldw X154880 hF154885 rfl rfl) rfl ?_
      refine lalloc rfl tz_50 rfl rfl rfl X154880 (fun b154886 h154888 X154889 => ?_)
      refine lstore rfl ts_50 rfl rfl (j := 0) rfl rfl rfl rfl rfl rfl X154889 (fun h154890 X154891 => ?_)
      refine lend ?_
      refine nseq ?_
      refine dseq ?_
      refine dreg ?_
      refine lpure (v := .slice a153766 n153766 c153766) rfl (p_move rfl) rfl rfl ?_
      refine lpure (v := .int .i64 s154805.2) rfl (p_move rfl) rfl rfl ?_
      refine lcall rfl rfl ca_48 rfl rfl (f48_ok X154891 p153765 (s154805.2) H153766) rfl (fun e154892 v154893 h154894 hq154895 => ?_)
      cases hq154895
      refine lpure (v := .bool (!e154892)) rfl (p_not rfl) rfl rfl ?_
      refine lpure (v := .bool (!e154892)) rfl (p_move rfl) rfl rfl ?_
      refine ljoinM (τ := (List Bool) × Bool) (σ := Option Addr × Nat × Nat × Option Nat × Blk) (fun s154905 (a154906, n154906, c154906, ob154906, blk154906) => [(2, .slice a153766 n153766 c153766), (3, .pointer (some ⟨b153767, 0, none⟩)), (7, .slice a154906 n154906 c154906), (8, .int .i64 s154363.2), (9, .int .i64 s154805.2), (10, .pointer (some ⟨b154886, 0, none⟩)), (52, .bool s154905.2)]) (fun s154905 (a154906, n154906, c154906, ob154906, blk154906) hh => St φ lo hh ((some b154886, .cells [.int .i64 e154883.A, .int .i64 e154883.B, .int .i64 e154883.Per, .int .i64 e154883.Delay] 50 .exact) :: (ob154906, blk154906) :: (some b153767, .cells [.int .i64 p153761.Nodes, .slice a153762 n153762 c153762, .slice a153763 n153763 c153763] 25 .exact) :: own) ∧ OSl eBool φ 4 ob154906 blk154906 (.slice a154906 n154906 c154906) s154905.1) 13 ?_ ?_
      · rintro s154905 ⟨a154906, n154906, c154906, ob154906, blk154906⟩ t0 h154908 ⟨X154907, O154906⟩
        refine lend ?_
        refine nseq ?_
        refine djoinM (τ := (List Bool)) (σ := Option Addr × Nat × Nat × Option Nat × Blk) (fun s154922 (a154923, n154923, c154923, ob154923, blk154923) => [(2, .slice a153766 n153766 c153766), (3, .pointer (some ⟨b153767, 0, none⟩)), (7, .slice a154923 n154923 c154923), (8, .int .i64 s154363.2), (9, .int .i64 s154805.2)]) (fun s154922 (a154923, n154923, c154923, ob154923, blk154923) hh => St φ lo hh ((some b154886, .cells [.int .i64 e154883.A, .int .i64 e154883.B, .int .i64 e154883.Per, .int .i64 e154883.Delay] 50 .exact) :: (ob154923, blk154923) :: (some b153767, .cells [.int .i64 p153761.Nodes, .slice a153762 n153762 c153762, .slice a153763 n153763 c153763] 25 .exact) :: own) ∧ OSl eBool φ 4 ob154923 blk154923 (.slice a154923 n154923 c154923) s154922) ?_ ?_
        · rintro s154922 ⟨a154923, n154923, c154923, ob154923, blk154923⟩ t0 h154925 ⟨X154924, O154923⟩
          refine nblock ?_
          refine nseq ?_
          refine dreg ?_
          refine lpure (v := .int .i64 s154805.2) rfl (p_move rfl) rfl rfl ?_
          refine lpure (v := .int .i64 (w64 (s154805.2 + 1))) rfl (p_add rfl) rfl rfl ?_
          refine lpure (v := .int .i64 (w64 (s154805.2 + 1))) rfl (p_assign rfl) rfl rfl ?_
          refine lend ?_
          exact kbackM ih154878 (s154922, (w64 (s154805.2 + 1))) (a154923, n154923, c154923, ob154923, blk154923) (sub_cons rfl (sub_cons rfl (sub_cons rfl (sub_cons rfl (sub_cons rfl sub_nil))))) ⟨(St.pick X154924 (.skip _ (.keep _ (.keep _ (.refl _))))), O154923⟩
        · intro j154926 J154927
          refine dcond rfl rfl (fun k154909 => ?_) (fun k154909 => ?_)
          · refine dseq ?_
            refine dreg ?_
            refine lpure (v := .slice a154906 n154906 c154906) rfl (p_move rfl) rfl rfl ?_
            refine lpure (v := .pointer (some ⟨b154886, 0, none⟩)) rfl (p_fa fo_50_0 rfl) rfl rfl ?_
            refine lread (v := .int .i64 e154883.A) rfl (q_load wd_3 rfl) (St.ld X154907 (j := 0) rfl rfl) rfl ?_
            refine Sim.bindM fun e154928 he154929 => ?_
            obtain ⟨b154930, vs154930, m154930, off154930, cs154930, rfl, rfl, hp154930, hc154930, hR154930, hl154930, hm154930, hs154930⟩ := OSl.ia O154906 he154929 (kd := .i64) (n := 1) rfl
            have hR154930 : _ = [(.bool e154928 : Value)] := hR154930
            subst hR154930
            refine lpure (v := .pointer (some ⟨b154930, off154930, none⟩)) rfl (p_ia rs_22 rfl) hp154930 rfl ?_
            have O154933 := hs154930 [.bool true] (true) rfl
            refine lstore rfl ts_4 rfl rfl (j := 1) rfl hm154930 rfl rfl (ble_iff.2 hl154930) rfl X154907 (fun h154931 X154932 => ?_)
            refine lend ?_
            refine nseq ?_
            refine dreg ?_
            refine lpure (v := .slice a154906 n154906 c154906) rfl (p_move rfl) rfl rfl ?_
            refine lpure (v := .pointer (some ⟨b154886, 1, none⟩)) rfl (p_fa fo_50_1 rfl) rfl rfl ?_
            refine lread (v := .int .i64 e154883.B) rfl (q_load wd_3 rfl) (St.ld X154932 (j := 0) rfl rfl) rfl ?_
            refine Sim.bindM fun e154934 he154935 => ?_
            obtain ⟨off154936, cs154936, hp154936, hc154936, hR154936, hl154936, hm154936, hs154936⟩ := OSl.iaC O154933 he154935 (kd := .i64) (n := 1) rfl
            have hR154936 : _ = [(.bool e154934 : Value)] := hR154936
            subst hR154936
            refine lpure (v := .pointer (some ⟨b154930, off154936, none⟩)) rfl (p_ia rs_22 rfl) hp154936 rfl ?_
            have O154939 := hs154936 [.bool true] (true) rfl
            refine lstore rfl ts_4 rfl rfl (j := 1) rfl hm154936 rfl rfl (ble_iff.2 hl154936) rfl X154932 (fun h154937 X154938 => ?_)
            refine lend ?_
            exact jmpM J154927 ((s154905.1.set (e154883.A).toNat true).set (e154883.B).toNat true) (a154906, n154906, c154906, some b154930, (.cells (setAt (setAt vs154930 off154930 [.bool true]) off154936 [.bool true]) 4 m154930)) (sub_cons rfl (sub_cons rfl (sub_cons rfl (sub_cons rfl (sub_cons rfl sub_nil))))) ⟨X154938, O154939⟩
          · refine dskip ?_
            exact jmpM J154927 s154905.1 (a154906, n154906, c154906, ob154906, blk154906) (sub_cons rfl (sub_cons rfl (sub_cons rfl (sub_cons rfl (sub_cons rfl sub_nil))))) ⟨X154907, O154906⟩
      · intro j154940 J154941
        refine lif (i := 39) (show _ = Value.bool (!e154892) from rfl) (fun k154942 => ?_) (fun k154942 => ?_)
        · refine lpure (v := .slice a154806 n154806 c154806) rfl (p_move rfl) rfl rfl ?_
          refine lpure (v := .pointer (some ⟨b154886, 0, none⟩)) rfl (p_fa fo_50_0 rfl) rfl rfl ?_
          refine lread (v := .int .i64 e154883.A) rfl (q_load wd_3 rfl) (St.ld X154891 (j := 0) rfl rfl) rfl ?_
          refine Sim.bindM fun e154943 he154944 => ?_
          obtain ⟨b154945, vs154945, m154945, off154945, cs154945, rfl, rfl, hp154945, hc154945, hR154945, hl154945, hm154945, hs154945⟩ := OSl.ia O154806 he154944 (kd := .i64) (n := 1) rfl
          have hR154945 : _ = [(.bool e154943 : Value)] := hR154945
          subst hR154945
          refine lpure (v := .pointer (some ⟨b154945, off154945, none⟩)) rfl (p_ia rs_22 rfl) hp154945 rfl ?_
          refine lread (v := .bool e154943) rfl (q_load wd_4 rfl) (St.ld X154891 (j := 1) rfl (rdE1 hc154945 (k := 0) rfl rfl)) rfl ?_
          refine lpure (v := .bool e154943) rfl (p_move rfl) rfl rfl ?_
          refine lif (i := 45) (show _ = Value.bool e154943 from rfl) (fun k154946 => ?_) (fun k154946 => ?_)
          · refine lskip rfl rfl ?_
            refine lskip rfl rfl ?_
            refine lskip rfl rfl ?_
            refine lskip rfl rfl ?_
            refine lskip rfl rfl ?_
            refine lpure (v := .bool true) rfl (p_pick rfl) rfl rfl ?_
            refine lpure (v := .bool true) rfl (p_pick rfl) rfl rfl ?_
            exact ljmpM J154941 (s154805.1, true) (a154806, n154806, c154806, some b154945, .cells vs154945 4 m154945) (sub_cons rfl (sub_cons rfl (sub_cons rfl (sub_cons rfl (sub_cons rfl (sub_cons rfl (sub_cons rfl sub_nil))))))) ⟨X154891, O154806⟩
          · refine lpure (v := .slice a154806 n154806 c154806) rfl (p_move rfl) rfl rfl ?_
            refine lpure (v := .pointer (some ⟨b154886, 1, none⟩)) rfl (p_fa fo_50_1 rfl) rfl rfl ?_
            refine lread (v := .int .i64 e154883.B) rfl (q_load wd_3 rfl) (St.ld X154891 (j := 0) rfl rfl) rfl ?_
            refine Sim.bindM fun e154947 he154948 => ?_
            obtain ⟨off154949, cs154949, hp154949, hc154949, hR154949, hl154949, hm154949, hs154949⟩ := OSl.iaC O154806 he154948 (kd := .i64) (n := 1) rfl
            have hR154949 : _ = [(.bool e154947 : Value)] := hR154949
            subst hR154949
            refine lpure (v := .pointer (some ⟨b154945, off154949, none⟩)) rfl (p_ia rs_22 rfl) hp154949 rfl ?_
            refine lread (v := .bool e154947) rfl (q_load wd_4 rfl) (St.ld X154891 (j := 1) rfl (rdE1 hc154949 (k := 0) rfl rfl)) rfl ?_
            refine lpure (v := .bool e154947) rfl (p_pick rfl) rfl rfl ?_
            refine lpure (v := .bool e154947) rfl (p_pick rfl) rfl rfl ?_
            exact ljmpM J154941 (s154805.1, e154947) (a154806, n154806, c154806, some b154945, .cells vs154945 4 m154945) (sub_cons rfl (sub_cons rfl (sub_cons rfl (sub_cons rfl (sub_cons rfl (sub_cons rfl (sub_cons rfl sub_nil))))))) ⟨X154891, O154806⟩
        · refine lskip rfl rfl ?_
          refine lskip rfl rfl ?_
          refine lskip rfl rfl ?_
          refine lskip rfl rfl ?_
          refine lskip rfl rfl ?_
          refine lskip rfl rfl ?_
          refine lskip rfl rfl ?_
          refine lskip rfl rfl ?_
          refine lskip rfl rfl ?_
          refine lskip rfl rfl ?_
          refine lskip rfl rfl ?_
          refine lskip rfl rfl ?_
          refine lpure (v := .bool false) rfl (p_pick rfl) rfl rfl ?_
          exact ljmpM J154941 (s154805.1, false) (a154806, n154806, c154806, ob154806, blk154806) (sub_cons rfl (sub_cons rfl (sub_cons rfl (sub_cons rfl (sub_cons rfl (sub_cons rfl (sub_cons rfl sub_nil))))))) ⟨X154891, O154806⟩
    · refine dexit ?_
      refine eseq ?_
      refine eloop ?_
      refine xblock ?_
      refine nblock ?_
      refine nseq ?_
      refine dreg ?_
      refine lpure (v := .int .i64 s154363.2) rfl (p_move rfl) rfl rfl ?_
      refine lpure (v := .int .i64 (w64 (s154363.2 + 1))) rfl (p_add rfl) rfl rfl ?_
      refine lpure (v := .int .i64 (w64 (s154363.2 + 1))) rfl (p_assign rfl) rfl rfl ?_
      refine lend ?_
      exact kbackM ih154657 (s154805.1, (w64 (s154363.2 + 1))) (a154806, n154806, c154806, ob154806, blk154806) (sub_cons rfl (sub_cons rfl (sub_cons rfl (sub_cons rfl sub_nil)))) ⟨X154880, O154806⟩
  · refine dexit ?_
    refine eseq ?_
    refine eloop ?_
    refine xblock ?_
    refine nseq ?_
    refine dseq ?_
    refine dreg ?_
    refine lpure (v := .slice a154364 n154364 c154364) rfl (p_move rfl) rfl rfl ?_
    refine lpure (v := .slice a154364 n154364 c154364) rfl (p_assign rfl) rfl rfl ?_
    refine lend ?_
    refine nseq ?_
    refine dret ?_
    exact kopen_r (res_1 resT) ⟨φ, a154364, n154364, c154364, ob154364, blk154364, (Fz.le_refl _), St.pick X154659 (.keep _ (.skip _ (.refl _))), rfl, O154364⟩
end Go.AM
