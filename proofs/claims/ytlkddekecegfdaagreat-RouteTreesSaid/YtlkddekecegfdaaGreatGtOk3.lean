/- Printed: functions of the given program as functions over plain data, and that the machine does what they say; no claim of its own; no condition. -/
import Derived.Test.YtlkddekecegfdaaGreatGtOk2
set_option maxRecDepth 100000
set_option maxHeartbeats 4000000
set_option linter.unusedVariables false
set_option linter.unusedSimpArgs false
namespace Go.AM
open Go Go.Proofs

/-! isochron/isochronref16.Right -/
theorem f37_ok {n : Nat} {φ : Fz} {lo : Nat} {h : Heap} {own : OwnL}  {a18989 : Option Addr} {n18989 c18989 : Nat} {a18990 : Option Addr} {n18990 c18990 : Nat} (X : St φ lo h (own)) (p18988 : ApiTopo) (H18989 : RSl eBool φ (.slice a18989 n18989 c18989) p18988.Station) (H18990 : RSl eApiLink φ (.slice a18990 n18990 c18990) p18988.Links) : Sim ((recN Tryz.prog LL cutF (n + 3)).call 37 #[(.agg #[.int .i64 p18988.Nodes, .slice a18989 n18989 c18989, .slice a18990 n18990 c18990])] h) (m_isochronref16_Right p18988) (fun (d : Bool) p => p = (.bool d, h)) := by
  refine fcut Tryz.func37 rfl rfl rfl rfl X ?_
  intro h0 X0
  refine dseq (dreg ?_)
  refine lbox rfl rfl rfl rfl rfl X0 (fun b18991 h18993 X18994 => ?_)
  refine lpure (v := .bool false) rfl (p_assign rfl) rfl rfl ?_
  refine lend (nseq (dseq (dseq (dreg ?_))))
  refine lpure (v := .pointer (some ⟨b18991, 0, none⟩)) rfl (p_fa fo_25_0 rfl) rfl rfl ?_
  refine lread (v := .int .i64 p18988.Nodes) rfl (q_load wd_3 rfl) (St.ld X18994 (j := 0) rfl rfl) rfl ?_
  refine lpure (v := .bool (decide (p18988.Nodes < 2))) rfl (p_lt rfl) rfl rfl ?_
  refine lpure (v := .bool (decide (p18988.Nodes < 2))) rfl (p_move rfl) rfl rfl ?_
  refine lsh (τ := Bool) (σ := Unit) (fun s18996 (_ : Unit) => [(1, .pointer (some ⟨b18991, 0, none⟩)), (16, .bool s18996)]) (fun s18996 (_ : Unit) hh => St φ h.n hh ([(some b18991, .cells [.int .i64 p18988.Nodes, .slice a18989 n18989 c18989, .slice a18990 n18990 c18990] 25 .exact)])) 4 ?_ ?_
  · rintro s18996 _ t0 h18998 X18997
    refine lpure (v := .bool s18996) rfl (p_move rfl) rfl rfl ?_
    refine lsh (τ := Bool) (σ := Unit) (fun s19000 (_ : Unit) => [(1, .pointer (some ⟨b18991, 0, none⟩)), (24, .bool s19000)]) (fun s19000 (_ : Unit) hh => St φ h.n hh ([(some b18991, .cells [.int .i64 p18988.Nodes, .slice a18989 n18989 c18989, .slice a18990 n18990 c18990] 25 .exact)])) 7 ?_ ?_
    · rintro s19000 _ t0 h19002 X19001
      refine lpure (v := .bool s19000) rfl (p_move rfl) rfl rfl ?_
      refine lsh (τ := Bool) (σ := Unit) (fun s19004 (_ : Unit) => [(1, .pointer (some ⟨b18991, 0, none⟩)), (30, .bool s19004)]) (fun s19004 (_ : Unit) hh => St φ h.n hh ([(some b18991, .cells [.int .i64 p18988.Nodes, .slice a18989 n18989 c18989, .slice a18990 n18990 c18990] 25 .exact)])) 5 ?_ ?_
      · rintro s19004 _ t0 h19006 X19005
        refine lend (nseq ?_)
        refine dcond rfl rfl (fun k19007 => ?_) (fun k19007 => ?_)
        · refine dseq (dreg ?_)
          refine lpure (v := .bool false) rfl (p_assign rfl) rfl rfl ?_
          refine lend (nseq (dret (rseq ?_)))
          exact kcut_r (res_1 resT) X19005 rfl rfl
        refine dskip (nseq (dseq (dreg ?_)))
        refine lpure (v := .pointer (some ⟨b18991, 0, none⟩)) rfl (p_fa fo_25_0 rfl) rfl rfl ?_
        refine lread (v := .int .i64 p18988.Nodes) rfl (q_load wd_3 rfl) (St.ld X19005 (j := 0) rfl rfl) rfl ?_
        refine Sim.mustM fun k19008 => ?_
        have k19008 := of_decide_eq_true k19008
        obtain ⟨h19008, b19008, vs19008, hv19008, X19008, O19008⟩ := OSl.mk (E := (eInt .i64)) (φ := φ) (a0 := 0) (k := .i64) (k' := .i64) (l := p18988.Nodes) (c := p18988.Nodes) un_26 tb_3 rfl ts_3 rfl rfl tz_3 rfl rfl rfl (by omega) (by omega) (by omega) X19005
        refine lheap rfl (h_makeSlice rfl) hv19008 rfl ?_
        refine lpure (v := .slice (some ⟨b19008, 0, none⟩) (p18988.Nodes).toNat (p18988.Nodes).toNat) rfl (p_assign rfl) rfl rfl ?_
        refine lend (nseq (dseq (dseq (dreg ?_))))
        refine lpure (v := .int .i64 0) rfl (p_assign rfl) rfl rfl ?_
        refine lend (nseq (dblock ?_))
        refine dloopM (τ := (List Int) × Int) (σ := Blk) (fun s22107 blk22108 => [(1, .pointer (some ⟨b18991, 0, none⟩)), (3, .slice (some ⟨b19008, 0, none⟩) (p18988.Nodes).toNat (p18988.Nodes).toNat), (4, .int .i64 s22107.2)]) (fun s22107 blk22108 hh => St φ h.n hh ([(some b19008, blk22108), (some b18991, .cells [.int .i64 p18988.Nodes, .slice a18989 n18989 c18989, .slice a18990 n18990 c18990] 25 .exact)]) ∧ OSl (eInt .i64) φ 3 (some b19008) blk22108 (.slice (some ⟨b19008, 0, none⟩) (p18988.Nodes).toNat (p18988.Nodes).toNat) s22107.1) ((List.replicate (p18988.Nodes).toNat 0), 0) ((.cells vs19008 3 .exact)) (sub_cons rfl (sub_cons rfl (sub_cons rfl sub_nil))) ⟨X19008, O19008⟩ ?_
        rintro n22421 ih22420 s22107 blk22108 t0 h22423 ⟨X22422, O22108⟩
        refine dseq (dseq (dreg ?_))
        refine lpure (v := .int .i64 s22107.2) rfl (p_move rfl) rfl rfl ?_
        refine lpure (v := .pointer (some ⟨b18991, 2, none⟩)) rfl (p_fa fo_25_2 rfl) rfl rfl ?_
        refine lread (v := .slice a18990 n18990 c18990) rfl (q_load wd_23 rfl) (St.ld X22422 (j := 1) rfl rfl) rfl ?_
        refine lpure (v := .int .i64 (p18988.Links.length : Int)) rfl (p_len rfl rfl rfl un_23 rfl) (RSl.lenC H18990) rfl ?_
        refine lpure (v := .bool (decide (s22107.2 < (p18988.Links.length : Int)))) rfl (p_lt rfl) rfl rfl ?_
        refine lend (nseq ?_)
        refine dcond rfl rfl (fun k22424 => ?_) (fun k22424 => ?_)
        · refine dskip (nseq (dseq (dblock (dseq (dreg ?_)))))
          refine lpure (v := .pointer (some ⟨b18991, 2, none⟩)) rfl (p_fa fo_25_2 rfl) rfl rfl ?_
          refine lread (v := .slice a18990 n18990 c18990) rfl (q_load wd_23 rfl) (St.ld X22422 (j := 1) rfl rfl) rfl ?_
          refine lpure (v := .int .i64 s22107.2) rfl (p_move rfl) rfl rfl ?_
          refine Sim.bindM fun e22425 he22426 => ?_
          obtain ⟨p22427, cs22427, hp22427, hF22427, hR22427⟩ := RSl.ia H18990 he22426 (kd := .i64) (n := 4) rfl
          obtain rfl := eApiLink_el hR22427
          refine lpure (v := p22427) rfl (p_ia rs_23 rfl) hp22427 rfl ?_
          refine lread (v := .agg #[.int .i64 e22425.A, .int .i64 e22425.B, .int .i64 e22425.Per, .int .i64 e22425.Delay]) rfl (q_load wd_65 rfl) (FP.ldw X22422 hF22427 rfl rfl) rfl ?_
          refine lalloc rfl tz_65 rfl rfl rfl X22422 (fun b22428 h22430 X22431 => ?_)
          refine lstore rfl ts_65 rfl rfl (j := 0) rfl rfl rfl rfl rfl rfl X22431 (fun h22432 X22433 => ?_)
          refine lend (nseq (dseq (dseq (dreg ?_))))
          refine lread (v := .agg #[.int .i64 p18988.Nodes, .slice a18989 n18989 c18989, .slice a18990 n18990 c18990]) rfl (q_load wd_25 rfl) (St.ld X22433 (j := 2) rfl rfl) rfl ?_
          refine lread (v := .agg #[.int .i64 e22425.A, .int .i64 e22425.B, .int .i64 e22425.Per, .int .i64 e22425.Delay]) rfl (q_load wd_65 rfl) (St.ld X22433 (j := 0) rfl rfl) rfl ?_
          refine lcall rfl rfl ca_63 rfl rfl (f63_ok X22433 p18988 e22425 H18989 H18990) rfl (fun e22434 v22435 h22436 hq22437 => ?_)
          cases hq22437
          refine lpure (v := .bool (!e22434)) rfl (p_not rfl) rfl rfl ?_
          refine lend (nseq ?_)
          refine dcond rfl rfl (fun k22438 => ?_) (fun k22438 => ?_)
          · refine dseq (dreg ?_)
            refine lpure (v := .bool false) rfl (p_assign rfl) rfl rfl ?_
            refine lend (nseq (dret (rseq (rblock (rseq (rloop (rblock (rseq ?_))))))))
            exact kcut_r (res_1 resT) X22433 rfl rfl
          refine dskip (nseq (dseq (dseq (dreg ?_))))
          refine lpure (v := .int .i64 0) rfl (p_assign rfl) rfl rfl ?_
          refine lend (nseq (dblock ?_))
          refine dloopM (τ := Int) (σ := Unit) (fun s22499 (_ : Unit) => [(1, .pointer (some ⟨b18991, 0, none⟩)), (3, .slice (some ⟨b19008, 0, none⟩) (p18988.Nodes).toNat (p18988.Nodes).toNat), (4, .int .i64 s22107.2), (5, .pointer (some ⟨b22428, 0, none⟩)), (6, .int .i64 s22499)]) (fun s22499 (_ : Unit) hh => St φ h.n hh ([(some b22428, .cells [.int .i64 e22425.A, .int .i64 e22425.B, .int .i64 e22425.Per, .int .i64 e22425.Delay] 65 .exact), (some b19008, blk22108), (some b18991, .cells [.int .i64 p18988.Nodes, .slice a18989 n18989 c18989, .slice a18990 n18990 c18990] 25 .exact)])) 0 () (sub_cons rfl (sub_cons rfl (sub_cons rfl (sub_cons rfl (sub_cons rfl sub_nil))))) X22433 ?_
          rintro n22531 ih22530 s22499 _ t0 h22533 X22532
          refine dseq (dseq (dreg ?_))
          refine lpure (v := .int .i64 s22499) rfl (p_move rfl) rfl rfl ?_
          refine lpure (v := .int .i64 s22107.2) rfl (p_move rfl) rfl rfl ?_
          refine lpure (v := .bool (decide (s22499 < s22107.2))) rfl (p_lt rfl) rfl rfl ?_
          refine lend (nseq ?_)
          refine dcond rfl rfl (fun k22534 => ?_) (fun k22534 => ?_)
          · refine dskip (nseq (dseq (dblock (dseq ?_))))
            refine ddraw 0 0 0 (by kernel_rfl) ?_
            refine spure (v := .pointer (some ⟨b18991, 2, none⟩)) rfl (p_fa fo_25_2 rfl) (lo_t (lo_own X22532 (j := 2) (o := 0) (s := none) (f := 0) rfl) rfl) rfl rfl ?_
            refine sload (v := .slice a18990 n18990 c18990) rfl rfl (q_load wd_23 rfl) (St.ld X22532 (j := 2) rfl rfl) (same_self 20 rfl) rfl ?_
            refine spure (v := .int .i64 s22499) rfl (p_move rfl) (lo_t rfl rfl) rfl rfl ?_
            refine Sim.bindM fun e22535 he22536 => ?_
            obtain ⟨p22537, cs22537, hp22537, hF22537, hR22537⟩ := RSl.ia H18990 he22536 (kd := .i64) (n := 4) rfl
            obtain rfl := eApiLink_el hR22537
            refine spure (v := p22537) rfl (p_ia rs_23 rfl) (lo_t (lo_sl X22532 H18990) (lo_t rfl rfl)) hp22537 rfl ?_
            refine sload (v := .agg #[.int .i64 e22535.A, .int .i64 e22535.B, .int .i64 e22535.Per, .int .i64 e22535.Delay]) rfl rfl (q_load wd_65 rfl) (FP.ldw X22532 hF22537 rfl rfl) (same_self 20 rfl) rfl ?_
            refine spure (v := .pointer (some ⟨b22428, 0, none⟩)) rfl (p_fa fo_65_0 rfl) (lo_t (lo_own X22532 (j := 0) (o := 0) (s := none) (f := 0) rfl) rfl) rfl rfl ?_
            refine sload (v := .int .i64 e22425.A) rfl rfl (q_load wd_3 rfl) (St.ld X22532 (j := 0) rfl rfl) (same_self 20 rfl) rfl ?_
            refine spure (v := .pointer (some ⟨b22428, 1, none⟩)) rfl (p_fa fo_65_1 rfl) (lo_t (lo_own X22532 (j := 0) (o := 0) (s := none) (f := 0) rfl) rfl) rfl rfl ?_
            refine sload (v := .int .i64 e22425.B) rfl rfl (q_load wd_3 rfl) (St.ld X22532 (j := 0) rfl rfl) (same_self 20 rfl) rfl ?_
            refine scall (en := fun d => (.bool d)) rfl rfl ca_64 rfl rfl (f64_ok X22532 e22535 (e22425.A) (e22425.B)) rfl (fun e22538 => ?_)
            refine send ?_
            refine nseq ?_
            refine dcond rfl rfl (fun k22542 => ?_) (fun k22542 => ?_)
            · refine dseq (dreg ?_)
              refine lpure (v := .bool false) rfl (p_assign rfl) rfl rfl ?_
              refine lend (nseq (dret (rblock (rseq (rloop (rblock (rseq (rblock (rseq (rloop (rblock ?_)))))))))))
              refine rseq ?_
              exact kcut_r (res_1 resT) X22532 rfl rfl
            refine dskip (nblock (nseq (dreg ?_)))
            refine lpure (v := .int .i64 s22499) rfl (p_move rfl) rfl rfl ?_
            refine lpure (v := .int .i64 (w64 (s22499 + 1))) rfl (p_add rfl) rfl rfl ?_
            refine lpure (v := .int .i64 (w64 (s22499 + 1))) rfl (p_assign rfl) rfl rfl ?_
            refine lend ?_
            exact kbackM ih22530 (w64 (s22499 + 1)) () (sub_cons rfl (sub_cons rfl (sub_cons rfl (sub_cons rfl (sub_cons rfl sub_nil))))) X22532
          refine dexit (eseq (eloop (xblock (nseq (dseq ?_)))))
          refine ddraw 1024 1024 0 (by kernel_rfl) ?_
          refine spure (v := .slice (some ⟨b19008, 0, none⟩) (p18988.Nodes).toNat (p18988.Nodes).toNat) rfl (p_move rfl) (lo_t (lo_osl X22532 (j := 1) rfl O22108) rfl) rfl rfl ?_
          refine spure (v := .pointer (some ⟨b22428, 0, none⟩)) rfl (p_fa fo_65_0 rfl) (lo_t (lo_own X22532 (j := 0) (o := 0) (s := none) (f := 0) rfl) rfl) rfl rfl ?_
          refine sload (v := .int .i64 e22425.A) rfl rfl (q_load wd_3 rfl) (St.ld X22532 (j := 0) rfl rfl) (same_self 20 rfl) rfl ?_
          refine spure (v := .slice (some ⟨b19008, 0, none⟩) (p18988.Nodes).toNat (p18988.Nodes).toNat) rfl (p_move rfl) (lo_t (lo_osl X22532 (j := 1) rfl O22108) rfl) rfl rfl ?_
          refine spure (v := .pointer (some ⟨b22428, 0, none⟩)) rfl (p_fa fo_65_0 rfl) (lo_t (lo_own X22532 (j := 0) (o := 0) (s := none) (f := 0) rfl) rfl) rfl rfl ?_
          refine sload (v := .int .i64 e22425.A) rfl rfl (q_load wd_3 rfl) (St.ld X22532 (j := 0) rfl rfl) (same_self 20 rfl) rfl ?_
          refine Sim.bindM fun e22543 he22544 => ?_
          obtain ⟨vs22545, m22545, off22545, cs22545, rfl, hp22545, hc22545, hR22545, hl22545, hm22545, hs22545⟩ := OSl.iaB O22108 he22544 (kd := .i64) (n := 1) rfl
          have hR22545 : _ = [(.int .i64 e22543 : Value)] := hR22545
          subst hR22545
          refine spure (v := .pointer (some ⟨b19008, off22545, none⟩)) rfl (p_ia rs_26 rfl) (lo_t (lo_osl X22532 (j := 1) rfl O22108) (lo_t rfl rfl)) hp22545 rfl ?_
          refine sload (v := .int .i64 e22543) rfl rfl (q_load wd_3 rfl) (St.ld X22532 (j := 1) rfl (rdE1 hc22545 (k := 0) rfl rfl)) (same_self 20 rfl) rfl ?_
          refine spure (v := .int .i64 (w64 (e22543 + 1))) rfl (p_add rfl) (lo_t rfl (lo_c rfl)) rfl rfl ?_
          refine Sim.bindM fun e22546 he22547 => ?_
          obtain ⟨off22548, cs22548, hp22548, hc22548, hR22548, hl22548, hm22548, hs22548⟩ := OSl.iaC O22108 he22547 (kd := .i64) (n := 1) rfl
          have hR22548 : _ = [(.int .i64 e22546 : Value)] := hR22548
          subst hR22548
          refine spure (v := .pointer (some ⟨b19008, off22548, none⟩)) rfl (p_ia rs_26 rfl) (lo_t (lo_osl X22532 (j := 1) rfl O22108) (lo_t rfl rfl)) hp22548 rfl ?_
          have O22551 := hs22548 [.int .i64 (w64 (e22543 + 1))] ((w64 (e22543 + 1))) rfl
          refine sstore rfl rfl ts_3 rfl rfl (j := 1) rfl hm22548 rfl rfl (ble_iff.2 hl22548) rfl X22532 (fun h22549 X22550 => ?_)
          refine send ?_
          refine nseq ?_
          refine ddraw 1024 1024 0 (by kernel_rfl) ?_
          refine spure (v := .slice (some ⟨b19008, 0, none⟩) (p18988.Nodes).toNat (p18988.Nodes).toNat) rfl (p_move rfl) (lo_t (lo_osl X22550 (j := 1) rfl O22551) rfl) rfl rfl ?_
          refine spure (v := .pointer (some ⟨b22428, 1, none⟩)) rfl (p_fa fo_65_1 rfl) (lo_t (lo_own X22550 (j := 0) (o := 0) (s := none) (f := 0) rfl) rfl) rfl rfl ?_
          refine sload (v := .int .i64 e22425.B) rfl rfl (q_load wd_3 rfl) (St.ld X22550 (j := 0) rfl rfl) (same_self 20 rfl) rfl ?_
          refine spure (v := .slice (some ⟨b19008, 0, none⟩) (p18988.Nodes).toNat (p18988.Nodes).toNat) rfl (p_move rfl) (lo_t (lo_osl X22550 (j := 1) rfl O22551) rfl) rfl rfl ?_
          refine spure (v := .pointer (some ⟨b22428, 1, none⟩)) rfl (p_fa fo_65_1 rfl) (lo_t (lo_own X22550 (j := 0) (o := 0) (s := none) (f := 0) rfl) rfl) rfl rfl ?_
          refine sload (v := .int .i64 e22425.B) rfl rfl (q_load wd_3 rfl) (St.ld X22550 (j := 0) rfl rfl) (same_self 20 rfl) rfl ?_
          refine Sim.bindM fun e22552 he22553 => ?_
          obtain ⟨off22554, cs22554, hp22554, hc22554, hR22554, hl22554, hm22554, hs22554⟩ := OSl.iaC O22551 he22553 (kd := .i64) (n := 1) rfl
          have hR22554 : _ = [(.int .i64 e22552 : Value)] := hR22554
          subst hR22554
          refine spure (v := .pointer (some ⟨b19008, off22554, none⟩)) rfl (p_ia rs_26 rfl) (lo_t (lo_osl X22550 (j := 1) rfl O22551) (lo_t rfl rfl)) hp22554 rfl ?_
          refine sload (v := .int .i64 e22552) rfl rfl (q_load wd_3 rfl) (St.ld X22550 (j := 1) rfl (rdE1 hc22554 (k := 0) rfl rfl)) (same_self 20 rfl) rfl ?_
          refine spure (v := .int .i64 (w64 (e22552 + 1))) rfl (p_add rfl) (lo_t rfl (lo_c rfl)) rfl rfl ?_
          refine Sim.bindM fun e22555 he22556 => ?_
          obtain ⟨off22557, cs22557, hp22557, hc22557, hR22557, hl22557, hm22557, hs22557⟩ := OSl.iaC O22551 he22556 (kd := .i64) (n := 1) rfl
          have hR22557 : _ = [(.int .i64 e22555 : Value)] := hR22557
          subst hR22557
          refine spure (v := .pointer (some ⟨b19008, off22557, none⟩)) rfl (p_ia rs_26 rfl) (lo_t (lo_osl X22550 (j := 1) rfl O22551) (lo_t rfl rfl)) hp22557 rfl ?_
          have O22560 := hs22557 [.int .i64 (w64 (e22552 + 1))] ((w64 (e22552 + 1))) rfl
          refine sstore rfl rfl ts_3 rfl rfl (j := 1) rfl hm22557 rfl rfl (ble_iff.2 hl22557) rfl X22550 (fun h22558 X22559 => ?_)
          refine send ?_
          refine nblock (nseq (dreg ?_))
          refine lpure (v := .int .i64 s22107.2) rfl (p_move rfl) rfl rfl ?_
          refine lpure (v := .int .i64 (w64 (s22107.2 + 1))) rfl (p_add rfl) rfl rfl ?_
          refine lpure (v := .int .i64 (w64 (s22107.2 + 1))) rfl (p_assign rfl) rfl rfl ?_
          refine lend ?_
          exact kbackM ih22420 (((s22107.1.set (e22425.A).toNat (w64 (e22543 + 1))).set (e22425.B).toNat (w64 (e22552 + 1))), (w64 (s22107.2 + 1))) ((.cells (setAt (setAt vs22545 off22548 [.int .i64 (w64 (e22543 + 1))]) off22557 [.int .i64 (w64 (e22552 + 1))]) 3 m22545)) (sub_cons rfl (sub_cons rfl (sub_cons rfl sub_nil))) ⟨(St.pick X22559 (.skip _ (.keep _ (.keep _ (.nil _))))), O22560⟩
        refine dexit (eseq (eloop (xblock (nseq (dseq (dreg ?_))))))
        refine lread (v := .agg #[.int .i64 p18988.Nodes, .slice a18989 n18989 c18989, .slice a18990 n18990 c18990]) rfl (q_load wd_25 rfl) (St.ld X22422 (j := 1) rfl rfl) rfl ?_
        refine lcall rfl rfl ca_65 rfl rfl (f65_ok X22422 p18988 0 ([]) H18989 H18990 (.inl ⟨rfl, rfl⟩)) rfl ?_
        rintro e22561 _ h22563 ⟨φ22565, a22568, n22568, c22568, ob22568, blk22568, g22566, X22567, rfl, O22568⟩
        refine lpure (v := .slice a22568 n22568 c22568) rfl (p_assign rfl) rfl rfl ?_
        refine lend (nseq (dseq (dseq (dreg ?_))))
        refine lpure (v := .int .i64 0) rfl (p_assign rfl) rfl rfl ?_
        refine lend (nseq (dblock ?_))
        refine dloopM (τ := (List Int) × (List Bool) × Int) (σ := Blk × Blk) (fun s22650 (blk22651, blk22652) => [(1, .pointer (some ⟨b18991, 0, none⟩)), (3, .slice (some ⟨b19008, 0, none⟩) (p18988.Nodes).toNat (p18988.Nodes).toNat), (7, .slice a22568 n22568 c22568), (8, .int .i64 s22650.2.2)]) (fun s22650 (blk22651, blk22652) hh => St φ22565 h.n hh ([(ob22568, blk22652), (some b19008, blk22651), (some b18991, .cells [.int .i64 p18988.Nodes, .slice a18989 n18989 c18989, .slice a18990 n18990 c18990] 25 .exact)]) ∧ OSl (eInt .i64) φ22565 3 (some b19008) blk22651 (.slice (some ⟨b19008, 0, none⟩) (p18988.Nodes).toNat (p18988.Nodes).toNat) s22650.1 ∧ OSl eBool φ22565 4 ob22568 blk22652 (.slice a22568 n22568 c22568) s22650.2.1) (s22107.1, e22561, 0) (blk22108, blk22568) (sub_cons rfl (sub_cons rfl (sub_cons rfl (sub_cons rfl sub_nil)))) ⟨X22567, (O22108.mono g22566), O22568⟩ ?_
        rintro n22693 ih22692 s22650 ⟨blk22651, blk22652⟩ t0 h22695 ⟨X22694, O22651, O22652⟩
        refine dseq (dseq (dreg ?_))
        refine lpure (v := .int .i64 s22650.2.2) rfl (p_move rfl) rfl rfl ?_
        refine lpure (v := .pointer (some ⟨b18991, 0, none⟩)) rfl (p_fa fo_25_0 rfl) rfl rfl ?_
        refine lread (v := .int .i64 p18988.Nodes) rfl (q_load wd_3 rfl) (St.ld X22694 (j := 2) rfl rfl) rfl ?_
        refine lpure (v := .bool (decide (s22650.2.2 < p18988.Nodes))) rfl (p_lt rfl) rfl rfl ?_
        refine lend (nseq ?_)
        refine dcond rfl rfl (fun k22696 => ?_) (fun k22696 => ?_)
        · refine dskip (nseq (dseq (dblock (dseq (dreg ?_)))))
          refine lpure (v := .slice a22568 n22568 c22568) rfl (p_move rfl) rfl rfl ?_
          refine lpure (v := .int .i64 s22650.2.2) rfl (p_move rfl) rfl rfl ?_
          refine Sim.bindM fun e22697 he22698 => ?_
          obtain ⟨b22699, vs22699, m22699, off22699, cs22699, rfl, rfl, hp22699, hc22699, hR22699, hl22699, hm22699, hs22699⟩ := OSl.ia O22652 he22698 (kd := .i64) (n := 1) rfl
          have hR22699 : _ = [(.bool e22697 : Value)] := hR22699
          subst hR22699
          refine lpure (v := .pointer (some ⟨b22699, off22699, none⟩)) rfl (p_ia rs_22 rfl) hp22699 rfl ?_
          refine lread (v := .bool e22697) rfl (q_load wd_4 rfl) (St.ld X22694 (j := 0) rfl (rdE1 hc22699 (k := 0) rfl rfl)) rfl ?_
          refine lpure (v := .bool (!e22697)) rfl (p_not rfl) rfl rfl ?_
          refine lpure (v := .bool (!e22697)) rfl (p_move rfl) rfl rfl ?_
          refine ljoinM (τ := (List Int) × Bool) (σ := Blk) (fun s22713 blk22714 => [(1, .pointer (some ⟨b18991, 0, none⟩)), (3, .slice (some ⟨b19008, 0, none⟩) (p18988.Nodes).toNat (p18988.Nodes).toNat), (7, .slice a22568 n22568 c22568), (8, .int .i64 s22650.2.2), (118, .bool s22713.2)]) (fun s22713 blk22714 hh => St φ22565 h.n hh ([(some b22699, .cells vs22699 4 m22699), (some b19008, blk22714), (some b18991, .cells [.int .i64 p18988.Nodes, .slice a18989 n18989 c18989, .slice a18990 n18990 c18990] 25 .exact)]) ∧ OSl (eInt .i64) φ22565 3 (some b19008) blk22714 (.slice (some ⟨b19008, 0, none⟩) (p18988.Nodes).toNat (p18988.Nodes).toNat) s22713.1) 20 ?_ ?_
          · rintro s22713 blk22714 t0 h22716 ⟨X22715, O22714⟩
            refine lend (nseq ?_)
            refine dcond rfl rfl (fun k22717 => ?_) (fun k22717 => ?_)
            · refine dseq (dreg ?_)
              refine lpure (v := .bool false) rfl (p_assign rfl) rfl rfl ?_
              refine lend (nseq (dret (rblock (rseq (rloop (rblock (rseq ?_)))))))
              exact kcut_r (res_1 resT) X22715 rfl rfl
            refine dskip (nblock (nseq (dreg ?_)))
            refine lpure (v := .int .i64 s22650.2.2) rfl (p_move rfl) rfl rfl ?_
            refine lpure (v := .int .i64 (w64 (s22650.2.2 + 1))) rfl (p_add rfl) rfl rfl ?_
            refine lpure (v := .int .i64 (w64 (s22650.2.2 + 1))) rfl (p_assign rfl) rfl rfl ?_
            refine lend ?_
            exact kbackM ih22692 (s22713.1, s22650.2.1, (w64 (s22650.2.2 + 1))) (blk22714, (.cells vs22699 4 m22699)) (sub_cons rfl (sub_cons rfl (sub_cons rfl (sub_cons rfl sub_nil)))) ⟨X22715, O22714, O22652⟩
          intro j22718 J22719
          refine lif (i := 98) (show _ = Value.bool (!e22697) from rfl) (fun k22720 => ?_) (fun k22720 => ?_)
          · refine lskip rfl rfl ?_
            refine lskip rfl rfl ?_
            refine lskip rfl rfl ?_
            refine lskip rfl rfl ?_
            refine lskip rfl rfl ?_
            refine lskip rfl rfl ?_
            refine lskip rfl rfl ?_
            refine lskip rfl rfl ?_
            refine lskip rfl rfl ?_
            refine lskip rfl rfl ?_
            refine lskip rfl rfl ?_
            refine lskip rfl rfl ?_
            refine lskip rfl rfl ?_
            refine lskip rfl rfl ?_
            refine lskip rfl rfl ?_
            refine lskip rfl rfl ?_
            refine lskip rfl rfl ?_
            refine lskip rfl rfl ?_
            refine lskip rfl rfl ?_
            refine lpure (v := .bool true) rfl (p_pick rfl) rfl rfl ?_
            exact ljmpM J22719 (s22650.1, true) blk22651 (sub_cons rfl (sub_cons rfl (sub_cons rfl (sub_cons rfl (sub_cons rfl sub_nil))))) ⟨X22694, O22651⟩
          refine lpure (v := .pointer (some ⟨b18991, 1, none⟩)) rfl (p_fa fo_25_1 rfl) rfl rfl ?_
          refine lread (v := .slice a18989 n18989 c18989) rfl (q_load wd_22 rfl) (St.ld X22694 (j := 2) rfl rfl) rfl ?_
          refine lpure (v := .int .i64 s22650.2.2) rfl (p_move rfl) rfl rfl ?_
          refine Sim.bindM fun e22721 he22722 => ?_
          obtain ⟨p22723, cs22723, hp22723, hF22723, hR22723⟩ := RSl.ia (H18989.mono g22566) he22722 (kd := .i64) (n := 1) rfl
          have hR22723 : _ = [(.bool e22721 : Value)] := hR22723
          subst hR22723
          refine lpure (v := p22723) rfl (p_ia rs_22 rfl) hp22723 rfl ?_
          refine lread (v := .bool e22721) rfl (q_load wd_4 rfl) (FP.ld X22694 hF22723) rfl ?_
          refine lpure (v := .bool e22721) rfl (p_move rfl) rfl rfl ?_
          refine lif (i := 104) (show _ = Value.bool e22721 from rfl) (fun k22724 => ?_) (fun k22724 => ?_)
          · refine lpure (v := .slice (some ⟨b19008, 0, none⟩) (p18988.Nodes).toNat (p18988.Nodes).toNat) rfl (p_move rfl) rfl rfl ?_
            refine lpure (v := .int .i64 s22650.2.2) rfl (p_move rfl) rfl rfl ?_
            refine Sim.bindM fun e22725 he22726 => ?_
            obtain ⟨vs22727, m22727, off22727, cs22727, rfl, hp22727, hc22727, hR22727, hl22727, hm22727, hs22727⟩ := OSl.iaB O22651 he22726 (kd := .i64) (n := 1) rfl
            have hR22727 : _ = [(.int .i64 e22725 : Value)] := hR22727
            subst hR22727
            refine lpure (v := .pointer (some ⟨b19008, off22727, none⟩)) rfl (p_ia rs_26 rfl) hp22727 rfl ?_
            refine lread (v := .int .i64 e22725) rfl (q_load wd_3 rfl) (St.ld X22694 (j := 1) rfl (rdE1 hc22727 (k := 0) rfl rfl)) rfl ?_
            refine lpure (v := .bool (decide (e22725 < 1))) rfl (p_lt rfl) rfl rfl ?_
            refine lpure (v := .bool (decide (e22725 < 1))) rfl (p_move rfl) rfl rfl ?_
            refine lif (i := 110) (show _ = Value.bool (decide (e22725 < 1)) from rfl) (fun k22728 => ?_) (fun k22728 => ?_)
            · refine lskip rfl rfl ?_
              refine lskip rfl rfl ?_
              refine lskip rfl rfl ?_
              refine lskip rfl rfl ?_
              refine lskip rfl rfl ?_
              refine lpure (v := .bool true) rfl (p_pick rfl) rfl rfl ?_
              refine lpure (v := .bool true) rfl (p_pick rfl) rfl rfl ?_
              refine lpure (v := .bool true) rfl (p_pick rfl) rfl rfl ?_
              exact ljmpM J22719 (s22650.1, true) (.cells vs22727 3 m22727) (sub_cons rfl (sub_cons rfl (sub_cons rfl (sub_cons rfl (sub_cons rfl sub_nil))))) ⟨X22694, O22651⟩
            refine lpure (v := .slice (some ⟨b19008, 0, none⟩) (p18988.Nodes).toNat (p18988.Nodes).toNat) rfl (p_move rfl) rfl rfl ?_
            refine lpure (v := .int .i64 s22650.2.2) rfl (p_move rfl) rfl rfl ?_
            refine Sim.bindM fun e22729 he22730 => ?_
            obtain ⟨off22731, cs22731, hp22731, hc22731, hR22731, hl22731, hm22731, hs22731⟩ := OSl.iaC O22651 he22730 (kd := .i64) (n := 1) rfl
            have hR22731 : _ = [(.int .i64 e22729 : Value)] := hR22731
            subst hR22731
            refine lpure (v := .pointer (some ⟨b19008, off22731, none⟩)) rfl (p_ia rs_26 rfl) hp22731 rfl ?_
            refine lread (v := .int .i64 e22729) rfl (q_load wd_3 rfl) (St.ld X22694 (j := 1) rfl (rdE1 hc22731 (k := 0) rfl rfl)) rfl ?_
            refine lpure (v := .bool (decide (2 < e22729))) rfl (p_gt rfl) rfl rfl ?_
            refine lpure (v := .bool (decide (2 < e22729))) rfl (p_pick rfl) rfl rfl ?_
            refine lpure (v := .bool (decide (2 < e22729))) rfl (p_pick rfl) rfl rfl ?_
            refine lpure (v := .bool (decide (2 < e22729))) rfl (p_pick rfl) rfl rfl ?_
            exact ljmpM J22719 (s22650.1, (decide (2 < e22729))) (.cells vs22727 3 m22727) (sub_cons rfl (sub_cons rfl (sub_cons rfl (sub_cons rfl (sub_cons rfl sub_nil))))) ⟨X22694, O22651⟩
          refine lskip rfl rfl ?_
          refine lskip rfl rfl ?_
          refine lskip rfl rfl ?_
          refine lskip rfl rfl ?_
          refine lskip rfl rfl ?_
          refine lskip rfl rfl ?_
          refine lskip rfl rfl ?_
          refine lskip rfl rfl ?_
          refine lskip rfl rfl ?_
          refine lskip rfl rfl ?_
          refine lskip rfl rfl ?_
          refine lskip rfl rfl ?_
          refine lpure (v := .bool false) rfl (p_pick rfl) rfl rfl ?_
          refine lpure (v := .bool false) rfl (p_pick rfl) rfl rfl ?_
          exact ljmpM J22719 (s22650.1, false) blk22651 (sub_cons rfl (sub_cons rfl (sub_cons rfl (sub_cons rfl (sub_cons rfl sub_nil))))) ⟨X22694, O22651⟩
        refine dexit (eseq (eloop (xblock (nseq (dseq (dreg ?_))))))
        refine lpure (v := .bool true) rfl (p_assign rfl) rfl rfl ?_
        refine lend (nseq (dret ?_))
        exact kcut_r (res_1 resT) X22694 rfl rfl
      intro j22732 J22733
      refine lcase (i := 25) (show _ = Value.bool s19000 from rfl) (fun k22734 => ?_) (fun k22734 => ?_)
      · refine lskip rfl rfl ?_
        refine lskip rfl rfl ?_
        refine lskip rfl rfl ?_
        refine lskip rfl rfl ?_
        refine lpure (v := .bool true) rfl (p_pick rfl) rfl rfl ?_
        refine Sim.of_eq (congrArg j22732 (show (s19000 || (decide (24 < (p18988.Links.length : Int)))) = true from by rw [k22734] <;> rfl)) ?_
        exact ljmpM J22733 true () (sub_cons rfl (sub_cons rfl sub_nil)) X19001
      refine lpure (v := .pointer (some ⟨b18991, 2, none⟩)) rfl (p_fa fo_25_2 rfl) rfl rfl ?_
      refine lread (v := .slice a18990 n18990 c18990) rfl (q_load wd_23 rfl) (St.ld X19001 (j := 0) rfl rfl) rfl ?_
      refine lpure (v := .int .i64 (p18988.Links.length : Int)) rfl (p_len rfl rfl rfl un_23 rfl) (RSl.lenC H18990) rfl ?_
      refine lpure (v := .bool (decide (24 < (p18988.Links.length : Int)))) rfl (p_gt rfl) rfl rfl ?_
      refine lpure (v := .bool (decide (24 < (p18988.Links.length : Int)))) rfl (p_pick rfl) rfl rfl ?_
      refine Sim.of_eq (congrArg j22732 (show (s19000 || (decide (24 < (p18988.Links.length : Int)))) = (decide (24 < (p18988.Links.length : Int))) from by rw [k22734] <;> rfl)) ?_
      exact ljmpM J22733 (decide (24 < (p18988.Links.length : Int))) () (sub_cons rfl (sub_cons rfl sub_nil)) X19001
    intro j22735 J22736
    refine lcase (i := 17) (show _ = Value.bool s18996 from rfl) (fun k22737 => ?_) (fun k22737 => ?_)
    · refine lskip rfl rfl ?_
      refine lskip rfl rfl ?_
      refine lskip rfl rfl ?_
      refine lskip rfl rfl ?_
      refine lskip rfl rfl ?_
      refine lskip rfl rfl ?_
      refine lpure (v := .bool true) rfl (p_pick rfl) rfl rfl ?_
      refine Sim.of_eq (congrArg j22735 (show (s18996 || (decide ((p18988.Station.length : Int) ≠ p18988.Nodes))) = true from by rw [k22737] <;> rfl)) ?_
      exact ljmpM J22736 true () (sub_cons rfl (sub_cons rfl sub_nil)) X18997
    refine lpure (v := .pointer (some ⟨b18991, 1, none⟩)) rfl (p_fa fo_25_1 rfl) rfl rfl ?_
    refine lread (v := .slice a18989 n18989 c18989) rfl (q_load wd_22 rfl) (St.ld X18997 (j := 0) rfl rfl) rfl ?_
    refine lpure (v := .int .i64 (p18988.Station.length : Int)) rfl (p_len rfl rfl rfl un_22 rfl) (RSl.lenC H18989) rfl ?_
    refine lpure (v := .pointer (some ⟨b18991, 0, none⟩)) rfl (p_fa fo_25_0 rfl) rfl rfl ?_
    refine lread (v := .int .i64 p18988.Nodes) rfl (q_load wd_3 rfl) (St.ld X18997 (j := 0) rfl rfl) rfl ?_
    refine lpure (v := .bool (decide ((p18988.Station.length : Int) ≠ p18988.Nodes))) rfl (p_ne rfl) rfl rfl ?_
    refine lpure (v := .bool (decide ((p18988.Station.length : Int) ≠ p18988.Nodes))) rfl (p_pick rfl) rfl rfl ?_
    refine Sim.of_eq (congrArg j22735 (show (s18996 || (decide ((p18988.Station.length : Int) ≠ p18988.Nodes))) = (decide ((p18988.Station.length : Int) ≠ p18988.Nodes)) from by rw [k22737] <;> rfl)) ?_
    exact ljmpM J22736 (decide ((p18988.Station.length : Int) ≠ p18988.Nodes)) () (sub_cons rfl (sub_cons rfl sub_nil)) X18997
  intro j22738 J22739
  refine lcase (i := 12) (show _ = Value.bool (decide (p18988.Nodes < 2)) from rfl) (fun k22740 => ?_) (fun k22740 => ?_)
  · refine lskip rfl rfl ?_
    refine lskip rfl rfl ?_
    refine lskip rfl rfl ?_
    refine lpure (v := .bool true) rfl (p_pick rfl) rfl rfl ?_
    refine Sim.of_eq (congrArg j22738 (show ((decide (p18988.Nodes < 2)) || (decide (12 < p18988.Nodes))) = true from by rw [k22740] <;> rfl)) ?_
    exact ljmpM J22739 true () (sub_cons rfl (sub_cons rfl sub_nil)) X18994
  refine lpure (v := .pointer (some ⟨b18991, 0, none⟩)) rfl (p_fa fo_25_0 rfl) rfl rfl ?_
  refine lread (v := .int .i64 p18988.Nodes) rfl (q_load wd_3 rfl) (St.ld X18994 (j := 0) rfl rfl) rfl ?_
  refine lpure (v := .bool (decide (12 < p18988.Nodes))) rfl (p_gt rfl) rfl rfl ?_
  refine lpure (v := .bool (decide (12 < p18988.Nodes))) rfl (p_pick rfl) rfl rfl ?_
  refine Sim.of_eq (congrArg j22738 (show ((decide (p18988.Nodes < 2)) || (decide (12 < p18988.Nodes))) = (decide (12 < p18988.Nodes)) from by rw [k22740] <;> rfl)) ?_
  exact ljmpM J22739 (decide (12 < p18988.Nodes)) () (sub_cons rfl (sub_cons rfl sub_nil)) X18994
/-! isochron/isochronref16.Port -/
theorem f66_ok {n : Nat} {φ : Fz} {lo : Nat} {h : Heap} {own : OwnL}  {a22773 : Option Addr} {n22773 c22773 : Nat} {a22774 : Option Addr} {n22774 c22774 : Nat} (X : St φ lo h (own)) (p22772 : ApiTopo) (p22775 : Int) (H22773 : RSl eBool φ (.slice a22773 n22773 c22773) p22772.Station) (H22774 : RSl eApiLink φ (.slice a22774 n22774 c22774) p22772.Links) : Sim ((recN Tryz.prog LL cutF (n + 1)).call 66 #[(.agg #[.int .i64 p22772.Nodes, .slice a22773 n22773 c22773, .slice a22774 n22774 c22774]), (.int .i64 p22775)] h) (m_isochronref16_Port p22772 p22775) (fun (d : Bool) p => p = (.bool d, h)) := by
  refine fcut Tryz.func66 rfl rfl rfl rfl X ?_
  intro h0 X0
  refine dseq (dreg ?_)
  refine lbox rfl rfl rfl rfl rfl X0 (fun b22776 h22778 X22779 => ?_)
  refine lpure (v := .bool false) rfl (p_assign rfl) rfl rfl ?_
  refine lend (nseq (dseq (dreg ?_)))
  refine lpure (v := .int .i64 p22775) rfl (p_move rfl) rfl rfl ?_
  refine lpure (v := .bool (decide (0 ≤ p22775))) rfl (p_ge rfl) rfl rfl ?_
  refine lpure (v := .bool (decide (0 ≤ p22775))) rfl (p_move rfl) rfl rfl ?_
  refine lsh (τ := Bool) (σ := Unit) (fun s22781 (_ : Unit) => [(14, .bool s22781)]) (fun s22781 (_ : Unit) hh => St φ h.n hh ([(some b22776, .cells [.int .i64 p22772.Nodes, .slice a22773 n22773 c22773, .slice a22774 n22774 c22774] 25 .exact)])) 7 ?_ ?_
  · rintro s22781 _ t0 h22783 X22782
    refine lpure (v := .bool s22781) rfl (p_assign rfl) rfl rfl ?_
    refine lend (nseq (dret ?_))
    exact kcut_r (res_1 resT) X22782 rfl rfl
  intro j22784 J22785
  refine lcase (i := 7) (show _ = Value.bool (decide (0 ≤ p22775)) from rfl) (fun k22786 => ?_) (fun k22786 => ?_)
  · refine lpure (v := .int .i64 p22775) rfl (p_move rfl) rfl rfl ?_
    refine lpure (v := .pointer (some ⟨b22776, 2, none⟩)) rfl (p_fa fo_25_2 rfl) rfl rfl ?_
    refine lread (v := .slice a22774 n22774 c22774) rfl (q_load wd_23 rfl) (St.ld X22779 (j := 0) rfl rfl) rfl ?_
    refine lpure (v := .int .i64 (p22772.Links.length : Int)) rfl (p_len rfl rfl rfl un_23 rfl) (RSl.lenC H22774) rfl ?_
    refine lpure (v := .int .i64 (w64 (2 * (p22772.Links.length : Int)))) rfl (p_mul rfl) rfl rfl ?_
    refine lpure (v := .bool (decide (p22775 < (w64 (2 * (p22772.Links.length : Int)))))) rfl (p_lt rfl) rfl rfl ?_
    refine lpure (v := .bool (decide (p22775 < (w64 (2 * (p22772.Links.length : Int)))))) rfl (p_pick rfl) rfl rfl ?_
    refine Sim.of_eq (congrArg j22784 (show ((decide (0 ≤ p22775)) && (decide (p22775 < (w64 (2 * (p22772.Links.length : Int)))))) = (decide (p22775 < (w64 (2 * (p22772.Links.length : Int))))) from by rw [k22786] <;> rfl)) ?_
    exact ljmpM J22785 (decide (p22775 < (w64 (2 * (p22772.Links.length : Int))))) () (sub_cons rfl sub_nil) X22779
  refine lskip rfl rfl ?_
  refine lskip rfl rfl ?_
  refine lskip rfl rfl ?_
  refine lskip rfl rfl ?_
  refine lskip rfl rfl ?_
  refine lskip rfl rfl ?_
  refine lpure (v := .bool false) rfl (p_pick rfl) rfl rfl ?_
  refine Sim.of_eq (congrArg j22784 (show ((decide (0 ≤ p22775)) && (decide (p22775 < (w64 (2 * (p22772.Links.length : Int)))))) = false from by rw [k22786] <;> rfl)) ?_
  exact ljmpM J22785 false () (sub_cons rfl sub_nil) X22779
/-! isochron/isochronref16.From -/
theorem f41_ok {n : Nat} {φ : Fz} {lo : Nat} {h : Heap} {own : OwnL}  {a22805 : Option Addr} {n22805 c22805 : Nat} {a22806 : Option Addr} {n22806 c22806 : Nat} (X : St φ lo h (own)) (p22804 : ApiTopo) (p22807 : Int) (H22805 : RSl eBool φ (.slice a22805 n22805 c22805) p22804.Station) (H22806 : RSl eApiLink φ (.slice a22806 n22806 c22806) p22804.Links) : Sim ((recN Tryz.prog LL cutF (n + 1)).call 41 #[(.agg #[.int .i64 p22804.Nodes, .slice a22805 n22805 c22805, .slice a22806 n22806 c22806]), (.int .i64 p22807)] h) (m_isochronref16_From p22804 p22807) (fun (d : Int) p => p = (.int .i64 d, h)) := by
  refine fcut Tryz.func41 rfl rfl rfl rfl X ?_
  intro h0 X0
  refine dseq (dreg ?_)
  refine lbox rfl rfl rfl rfl rfl X0 (fun b22808 h22810 X22811 => ?_)
  refine lpure (v := .int .i64 0) rfl (p_assign rfl) rfl rfl ?_
  refine lend (nseq (dseq (dreg ?_)))
  refine lpure (v := .pointer (some ⟨b22808, 2, none⟩)) rfl (p_fa fo_25_2 rfl) rfl rfl ?_
  refine lread (v := .slice a22806 n22806 c22806) rfl (q_load wd_23 rfl) (St.ld X22811 (j := 0) rfl rfl) rfl ?_
  refine lpure (v := .int .i64 p22807) rfl (p_move rfl) rfl rfl ?_
  refine lpure (v := .int .i64 (w64 (Int.tdiv p22807 2))) rfl (p_quo rfl) rfl rfl ?_
  refine Sim.bindM fun e22812 he22813 => ?_
  obtain ⟨p22814, cs22814, hp22814, hF22814, hR22814⟩ := RSl.ia H22806 he22813 (kd := .i64) (n := 4) rfl
  obtain rfl := eApiLink_el hR22814
  refine lpure (v := p22814) rfl (p_ia rs_23 rfl) hp22814 rfl ?_
  refine lread (v := .agg #[.int .i64 e22812.A, .int .i64 e22812.B, .int .i64 e22812.Per, .int .i64 e22812.Delay]) rfl (q_load wd_65 rfl) (FP.ldw X22811 hF22814 rfl rfl) rfl ?_
  refine lalloc rfl tz_65 rfl rfl rfl X22811 (fun b22815 h22817 X22818 => ?_)
  refine lstore rfl ts_65 rfl rfl (j := 0) rfl rfl rfl rfl rfl rfl X22818 (fun h22819 X22820 => ?_)
  refine lend (nseq (dseq (dseq (dreg ?_))))
  refine lpure (v := .int .i64 p22807) rfl (p_move rfl) rfl rfl ?_
  refine lpure (v := .int .i64 (Int.tmod p22807 2)) rfl (p_rem rfl) rfl rfl ?_
  refine lpure (v := .bool (decide ((Int.tmod p22807 2) = 1))) rfl (p_eq rfl) rfl rfl ?_
  refine lend (nseq ?_)
  refine dcond rfl rfl (fun k22821 => ?_) (fun k22821 => ?_)
  · refine dseq (dreg ?_)
    refine lpure (v := .pointer (some ⟨b22815, 1, none⟩)) rfl (p_fa fo_65_1 rfl) rfl rfl ?_
    refine lread (v := .int .i64 e22812.B) rfl (q_load wd_3 rfl) (St.ld X22820 (j := 0) rfl rfl) rfl ?_
    refine lpure (v := .int .i64 e22812.B) rfl (p_assign rfl) rfl rfl ?_
    refine lend (nseq (dret (rseq ?_)))
    exact kcut_r (res_1 resT) X22820 rfl rfl
  refine dskip (nseq (dseq (dreg ?_)))
  refine lpure (v := .pointer (some ⟨b22815, 0, none⟩)) rfl (p_fa fo_65_0 rfl) rfl rfl ?_
  refine lread (v := .int .i64 e22812.A) rfl (q_load wd_3 rfl) (St.ld X22820 (j := 0) rfl rfl) rfl ?_
  refine lpure (v := .int .i64 e22812.A) rfl (p_assign rfl) rfl rfl ?_
  refine lend (nseq (dret ?_))
  exact kcut_r (res_1 resT) X22820 rfl rfl
/-! isochron/isochronref16.To -/
theorem f42_ok {n : Nat} {φ : Fz} {lo : Nat} {h : Heap} {own : OwnL}  {a22837 : Option Addr} {n22837 c22837 : Nat} {a22838 : Option Addr} {n22838 c22838 : Nat} (X : St φ lo h (own)) (p22836 : ApiTopo) (p22839 : Int) (H22837 : RSl eBool φ (.slice a22837 n22837 c22837) p22836.Station) (H22838 : RSl eApiLink φ (.slice a22838 n22838 c22838) p22836.Links) : Sim ((recN Tryz.prog LL cutF (n + 1)).call 42 #[(.agg #[.int .i64 p22836.Nodes, .slice a22837 n22837 c22837, .slice a22838 n22838 c22838]), (.int .i64 p22839)] h) (m_isochronref16_To p22836 p22839) (fun (d : Int) p => p = (.int .i64 d, h)) := by
  refine fcut Tryz.func42 rfl rfl rfl rfl X ?_
  intro h0 X0
  refine dseq (dreg ?_)
  refine lbox rfl rfl rfl rfl rfl X0 (fun b22840 h22842 X22843 => ?_)
  refine lpure (v := .int .i64 0) rfl (p_assign rfl) rfl rfl ?_
  refine lend (nseq (dseq (dreg ?_)))
  refine lpure (v := .pointer (some ⟨b22840, 2, none⟩)) rfl (p_fa fo_25_2 rfl) rfl rfl ?_
  refine lread (v := .slice a22838 n22838 c22838) rfl (q_load wd_23 rfl) (St.ld X22843 (j := 0) rfl rfl) rfl ?_
  refine lpure (v := .int .i64 p22839) rfl (p_move rfl) rfl rfl ?_
  refine lpure (v := .int .i64 (w64 (Int.tdiv p22839 2))) rfl (p_quo rfl) rfl rfl ?_
  refine Sim.bindM fun e22844 he22845 => ?_
  obtain ⟨p22846, cs22846, hp22846, hF22846, hR22846⟩ := RSl.ia H22838 he22845 (kd := .i64) (n := 4) rfl
  obtain rfl := eApiLink_el hR22846
  refine lpure (v := p22846) rfl (p_ia rs_23 rfl) hp22846 rfl ?_
  refine lread (v := .agg #[.int .i64 e22844.A, .int .i64 e22844.B, .int .i64 e22844.Per, .int .i64 e22844.Delay]) rfl (q_load wd_65 rfl) (FP.ldw X22843 hF22846 rfl rfl) rfl ?_
  refine lalloc rfl tz_65 rfl rfl rfl X22843 (fun b22847 h22849 X22850 => ?_)
  refine lstore rfl ts_65 rfl rfl (j := 0) rfl rfl rfl rfl rfl rfl X22850 (fun h22851 X22852 => ?_)
  refine lend (nseq (dseq (dseq (dreg ?_))))
  refine lpure (v := .int .i64 p22839) rfl (p_move rfl) rfl rfl ?_
  refine lpure (v := .int .i64 (Int.tmod p22839 2)) rfl (p_rem rfl) rfl rfl ?_
  refine lpure (v := .bool (decide ((Int.tmod p22839 2) = 1))) rfl (p_eq rfl) rfl rfl ?_
  refine lend (nseq ?_)
  refine dcond rfl rfl (fun k22853 => ?_) (fun k22853 => ?_)
  · refine dseq (dreg ?_)
    refine lpure (v := .pointer (some ⟨b22847, 0, none⟩)) rfl (p_fa fo_65_0 rfl) rfl rfl ?_
    refine lread (v := .int .i64 e22844.A) rfl (q_load wd_3 rfl) (St.ld X22852 (j := 0) rfl rfl) rfl ?_
    refine lpure (v := .int .i64 e22844.A) rfl (p_assign rfl) rfl rfl ?_
    refine lend (nseq (dret (rseq ?_)))
    exact kcut_r (res_1 resT) X22852 rfl rfl
  refine dskip (nseq (dseq (dreg ?_)))
  refine lpure (v := .pointer (some ⟨b22847, 1, none⟩)) rfl (p_fa fo_65_1 rfl) rfl rfl ?_
  refine lread (v := .int .i64 e22844.B) rfl (q_load wd_3 rfl) (St.ld X22852 (j := 0) rfl rfl) rfl ?_
  refine lpure (v := .int .i64 e22844.B) rfl (p_assign rfl) rfl rfl ?_
  refine lend (nseq (dret ?_))
  exact kcut_r (res_1 resT) X22852 rfl rfl
/-! isochron/isochronref21.Nodes -/
theorem f16_ok {n : Nat} {φ : Fz} {lo : Nat} {h : Heap} {own : OwnL}  {a22915 : Option Addr} {n22915 c22915 : Nat} {a22916 : Option Addr} {n22916 c22916 : Nat} {a22918 : Option Addr} {n22918 c22918 : Nat} (X : St φ lo h (own)) (p22914 : ApiTopo) (p22917 : (List Int)) (H22915 : RSl eBool φ (.slice a22915 n22915 c22915) p22914.Station) (H22916 : RSl eApiLink φ (.slice a22916 n22916 c22916) p22914.Links) (H22918 : RSl (eInt .i64) φ (.slice a22918 n22918 c22918) p22917) : Sim ((recN Tryz.prog LL cutF (n + 2)).call 16 #[(.agg #[.int .i64 p22914.Nodes, .slice a22915 n22915 c22915, .slice a22916 n22916 c22916]), (.slice a22918 n22918 c22918)] h) (m_isochronref21_Nodes p22914 p22917) (fun (d : (List Int)) p => ∃ φ2 : Fz, ∃ a22997 : Option Addr, ∃ n22997 : Nat, ∃ c22997 : Nat, ∃ ob22997 : Option Nat, ∃ blk22997 : Blk, Fz.le φ φ2 ∧ St φ2 lo p.2 ((ob22997, blk22997) :: own) ∧ p.1 = .slice a22997 n22997 c22997 ∧ OSl (eInt .i64) φ2 3 ob22997 blk22997 (.slice a22997 n22997 c22997) d) := by
  refine fopen Tryz.func16 rfl rfl rfl rfl ?_
  refine dseq (dreg ?_)
  refine lbox rfl rfl rfl rfl rfl X (fun b22919 h22921 X22922 => ?_)
  refine lpure (v := .slice none 0 0) rfl (p_assign rfl) rfl rfl ?_
  refine lend (nseq (dseq ?_))
  refine dgo_start (n := 7) rfl (by kernel_rfl) ?_
  refine gload (v := .agg #[.int .i64 p22914.Nodes, .slice a22915 n22915 c22915, .slice a22916 n22916 c22916]) rfl (q_load wd_25 rfl) (St.ld X22922 (j := 0) rfl rfl) rfl ?_
  refine gpure (v := .slice a22918 n22918 c22918) rfl (p_move rfl) (lo_t (lo_sl X22922 H22918) rfl) rfl rfl ?_
  refine Sim.bindM fun e22923 he22924 => ?_
  obtain ⟨p22925, cs22925, hp22925, hF22925, hR22925⟩ := RSl.ia H22918 he22924 (kd := .i64) (n := 1) rfl
  have hR22925 : _ = [(.int .i64 e22923 : Value)] := hR22925
  subst hR22925
  refine gpure (v := p22925) rfl (p_ia rs_27 rfl) (lo_t (lo_sl X22922 H22918) (lo_c rfl)) hp22925 rfl ?_
  refine gload (v := .int .i64 e22923) rfl (q_load wd_3 rfl) (FP.ld X22922 hF22925) rfl ?_
  refine gwait rfl (still_call rfl rfl ca_41 rfl) rfl ?_
  refine dgo_skip ?_
  refine dgo_skip ?_
  refine gcall (m := 6) [false, false] (rk_cons (q_load wd_3 rfl) (FP.ld X22922 hF22925) (same_self 20 rfl) (rk_cons (q_load wd_25 rfl) (St.ld X22922 (j := 0) rfl rfl) (same_self 20 rfl) rk_nil)) rfl rfl rfl rfl rfl ca_41 rfl rfl (f41_ok X22922 p22914 e22923 H22915 H22916) rfl (fun e22926 v22927 h22928 hq22929 => ?_)
  cases hq22929
  refine dgo_skip ?_
  refine dgo_skip ?_
  refine dgo_skip ?_
  refine dgo_skip ?_
  refine dgo_skip ?_
  obtain ⟨hv22930, ho22931⟩ := lay_at (E := (eInt .i64)) (φ := φ) (cs := [.int .i64 e22926]) (l := [e22926]) (len := 1) (parts := [(0, .int .i64 e22926)]) un_26 ts_3 rfl rfl rfl tz_3 rfl rfl (show RowD (eInt .i64) φ [.int .i64 e22926] [e22926] from ⟨[.int .i64 e22926], _, rfl, rfl, rfl⟩) rfl rfl
  refine glay rfl rfl rfl hv22930 rfl rfl X22922 (fun b22930 h22930 X22930 => ?_)
  have O22930 := ho22931 b22930
  refine gpure (v := .slice (some ⟨b22930, 0, none⟩) 1 1) rfl (p_assign rfl) (lo_t (lo_osl X22930 (j := 0) rfl O22930) rfl) rfl rfl ?_
  refine gend rk_nil ?_
  refine nseq (dseq (dseq (dreg ?_)))
  refine lpure (v := .int .i64 0) rfl (p_assign rfl) rfl rfl ?_
  refine lend (nseq (dblock ?_))
  refine dloopM (τ := (List Int) × Int) (σ := Option Addr × Nat × Nat × Option Nat × Blk) (fun s22964 (a22965, n22965, c22965, ob22965, blk22965) => [(1, .slice a22918 n22918 c22918), (2, .pointer (some ⟨b22919, 0, none⟩)), (5, .slice a22965 n22965 c22965), (6, .int .i64 s22964.2)]) (fun s22964 (a22965, n22965, c22965, ob22965, blk22965) hh => St φ lo hh ((ob22965, blk22965) :: (some b22919, .cells [.int .i64 p22914.Nodes, .slice a22915 n22915 c22915, .slice a22916 n22916 c22916] 25 .exact) :: own) ∧ OSl (eInt .i64) φ 3 ob22965 blk22965 (.slice a22965 n22965 c22965) s22964.1) ([e22926], 0) ((some ⟨b22930, 0, none⟩), 1, 1, some b22930, (.cells [.int .i64 e22926] 3 .exact)) (sub_cons rfl (sub_cons rfl (sub_cons rfl (sub_cons rfl sub_nil)))) ⟨X22930, O22930⟩ ?_
  rintro n22982 ih22981 s22964 ⟨a22965, n22965, c22965, ob22965, blk22965⟩ t0 h22984 ⟨X22983, O22965⟩
  refine dseq (dseq (dreg ?_))
  refine lpure (v := .int .i64 s22964.2) rfl (p_move rfl) rfl rfl ?_
  refine lpure (v := .slice a22918 n22918 c22918) rfl (p_move rfl) rfl rfl ?_
  refine lpure (v := .int .i64 (p22917.length : Int)) rfl (p_len rfl rfl rfl un_27 rfl) (RSl.lenC H22918) rfl ?_
  refine lpure (v := .bool (decide (s22964.2 < (p22917.length : Int)))) rfl (p_lt rfl) rfl rfl ?_
  refine lend (nseq ?_)
  refine dcond rfl rfl (fun k22985 => ?_) (fun k22985 => ?_)
  · refine dskip (nseq (dseq (dblock ?_)))
    refine dgo_start (n := 10) rfl (by kernel_rfl) ?_
    refine gpure (v := .slice a22965 n22965 c22965) rfl (p_move rfl) (lo_t (lo_osl X22983 (j := 0) rfl O22965) rfl) rfl rfl ?_
    refine gload (v := .agg #[.int .i64 p22914.Nodes, .slice a22915 n22915 c22915, .slice a22916 n22916 c22916]) rfl (q_load wd_25 rfl) (St.ld X22983 (j := 1) rfl rfl) rfl ?_
    refine gpure (v := .slice a22918 n22918 c22918) rfl (p_move rfl) (lo_t (lo_sl X22983 H22918) rfl) rfl rfl ?_
    refine gpure (v := .int .i64 s22964.2) rfl (p_move rfl) (lo_t rfl rfl) rfl rfl ?_
    refine Sim.bindM fun e22986 he22987 => ?_
    obtain ⟨p22988, cs22988, hp22988, hF22988, hR22988⟩ := RSl.ia H22918 he22987 (kd := .i64) (n := 1) rfl
    have hR22988 : _ = [(.int .i64 e22986 : Value)] := hR22988
    subst hR22988
    refine gpure (v := p22988) rfl (p_ia rs_27 rfl) (lo_t (lo_sl X22983 H22918) (lo_t rfl rfl)) hp22988 rfl ?_
    refine gload (v := .int .i64 e22986) rfl (q_load wd_3 rfl) (FP.ld X22983 hF22988) rfl ?_
    refine gwait rfl (still_call rfl rfl ca_42 rfl) rfl ?_
    refine dgo_skip ?_
    refine dgo_skip ?_
    refine dgo_skip ?_
    refine gcall (m := 9) [false, false] (rk_cons (q_load wd_3 rfl) (FP.ld X22983 hF22988) (same_self 20 rfl) (rk_cons (q_load wd_25 rfl) (St.ld X22983 (j := 1) rfl rfl) (same_self 20 rfl) rk_nil)) rfl rfl rfl rfl rfl ca_42 rfl rfl (f42_ok X22983 p22914 e22986 H22915 H22916) rfl (fun e22989 v22990 h22991 hq22992 => ?_)
    cases hq22992
    refine dgo_skip ?_
    refine dgo_skip ?_
    refine dgo_skip ?_
    refine dgo_skip ?_
    refine dgo_skip ?_
    refine dgo_skip ?_
    refine dgo_skip ?_
    obtain ⟨hv22993, ho22994⟩ := lay_at (E := (eInt .i64)) (φ := φ) (cs := [.int .i64 e22989]) (l := [e22989]) (len := 1) (parts := [(0, .int .i64 e22989)]) un_26 ts_3 rfl rfl rfl tz_3 rfl rfl (show RowD (eInt .i64) φ [.int .i64 e22989] [e22989] from ⟨[.int .i64 e22989], _, rfl, rfl, rfl⟩) rfl rfl
    refine glay rfl rfl rfl hv22993 rfl rfl X22983 (fun b22993 h22993 X22993 => ?_)
    have O22993 := ho22994 b22993
    obtain ⟨ws22996, hw22996⟩ := OSl.read O22993 X22993 (k := 0) rfl (n := 1) rfl
    refine Sim.mustM fun k22996 => ?_
    obtain ⟨h22996, a22996, c22996, ob22996, blk22996, hv22996, X22996, O22996⟩ := OSl.append O22965 X22993 (j := 1) rfl hw22996 k22996 (ts := #[26, 26]) rfl un_26 (argOk_of ax_26_26) ts_3 rfl rfl tb_3 rfl tz_3 rfl
    refine geither (m := 8) rfl (append_still rfl rfl rfl rfl hv22996) rk_nil rfl (h_builtin rfl rfl) hv22996 rfl ?_
    refine gpure (v := .slice a22996 (s22964.1.length + ([e22989]).length) c22996) rfl (p_assign rfl) (lo_t (lo_osl X22996 (j := 1) rfl O22996) rfl) rfl rfl ?_
    refine gend rk_nil ?_
    refine nblock (nseq (dreg ?_))
    refine lpure (v := .int .i64 s22964.2) rfl (p_move rfl) rfl rfl ?_
    refine lpure (v := .int .i64 (w64 (s22964.2 + 1))) rfl (p_add rfl) rfl rfl ?_
    refine lpure (v := .int .i64 (w64 (s22964.2 + 1))) rfl (p_assign rfl) rfl rfl ?_
    refine lend ?_
    exact kbackM ih22981 ((s22964.1 ++ ([e22989])), (w64 (s22964.2 + 1))) (a22996, (s22964.1.length + ([e22989]).length), c22996, ob22996, blk22996) (sub_cons rfl (sub_cons rfl (sub_cons rfl (sub_cons rfl sub_nil)))) ⟨(St.pick X22996 (.skip _ (.keep _ (.keep _ (.refl _))))), O22996⟩
  refine dexit (eseq (eloop (xblock (nseq (dseq (dreg ?_))))))
  refine lpure (v := .slice a22965 n22965 c22965) rfl (p_move rfl) rfl rfl ?_
  refine lpure (v := .slice a22965 n22965 c22965) rfl (p_assign rfl) rfl rfl ?_
  refine lend (nseq (dret ?_))
  exact kopen_r (res_1 resT) ⟨φ, a22965, n22965, c22965, ob22965, blk22965, (Fz.le_refl _), St.pick X22983 (.keep _ (.skip _ (.refl _))), rfl, O22965⟩
/-! isochron/isochronref21.Right -/
theorem f38_ok {n : Nat} {φ : Fz} {lo : Nat} {h : Heap} {own : OwnL}  {a22755 : Option Addr} {n22755 c22755 : Nat} {a22756 : Option Addr} {n22756 c22756 : Nat} {a22758 : Option Addr} {n22758 c22758 : Nat} (X : St φ lo h (own)) (p22754 : ApiTopo) (p22757 : (List Int)) (H22755 : RSl eBool φ (.slice a22755 n22755 c22755) p22754.Station) (H22756 : RSl eApiLink φ (.slice a22756 n22756 c22756) p22754.Links) (H22758 : RSl (eInt .i64) φ (.slice a22758 n22758 c22758) p22757) : Sim ((recN Tryz.prog LL cutF (n + 3)).call 38 #[(.agg #[.int .i64 p22754.Nodes, .slice a22755 n22755 c22755, .slice a22756 n22756 c22756]), (.slice a22758 n22758 c22758)] h) (m_isochronref21_Right p22754 p22757) (fun (d : Bool) p => p = (.bool d, h)) := by
  refine fcut Tryz.func38 rfl rfl rfl rfl X ?_
  intro h0 X0
  refine dseq (dreg ?_)
  refine lbox rfl rfl rfl rfl rfl X0 (fun b22759 h22761 X22762 => ?_)
  refine lpure (v := .bool false) rfl (p_assign rfl) rfl rfl ?_
  refine lend (nseq (dseq (dseq (dreg ?_))))
  refine lpure (v := .slice a22758 n22758 c22758) rfl (p_move rfl) rfl rfl ?_
  refine lpure (v := .int .i64 (p22757.length : Int)) rfl (p_len rfl rfl rfl un_27 rfl) (RSl.lenC H22758) rfl ?_
  refine lpure (v := .bool (decide ((p22757.length : Int) < 1))) rfl (p_lt rfl) rfl rfl ?_
  refine lpure (v := .bool (decide ((p22757.length : Int) < 1))) rfl (p_move rfl) rfl rfl ?_
  refine lsh (τ := Bool) (σ := Unit) (fun s22764 (_ : Unit) => [(1, .slice a22758 n22758 c22758), (2, .pointer (some ⟨b22759, 0, none⟩)), (15, .bool s22764)]) (fun s22764 (_ : Unit) hh => St φ h.n hh ([(some b22759, .cells [.int .i64 p22754.Nodes, .slice a22755 n22755 c22755, .slice a22756 n22756 c22756] 25 .exact)])) 4 ?_ ?_
  · rintro s22764 _ t0 h22766 X22765
    refine lend (nseq ?_)
    refine dcond rfl rfl (fun k22767 => ?_) (fun k22767 => ?_)
    · refine dseq (dreg ?_)
      refine lpure (v := .bool false) rfl (p_assign rfl) rfl rfl ?_
      refine lend (nseq (dret (rseq ?_)))
      exact kcut_r (res_1 resT) X22765 rfl rfl
    refine dskip (nseq (dseq (dseq (dreg ?_))))
    refine lpure (v := .int .i64 0) rfl (p_assign rfl) rfl rfl ?_
    refine lend (nseq (dblock ?_))
    refine dloopM (τ := Int) (σ := Unit) (fun s23481 (_ : Unit) => [(1, .slice a22758 n22758 c22758), (2, .pointer (some ⟨b22759, 0, none⟩)), (5, .int .i64 s23481)]) (fun s23481 (_ : Unit) hh => St φ h.n hh ([(some b22759, .cells [.int .i64 p22754.Nodes, .slice a22755 n22755 c22755, .slice a22756 n22756 c22756] 25 .exact)])) 0 () (sub_cons rfl (sub_cons rfl (sub_cons rfl sub_nil))) X22765 ?_
    rintro n23730 ih23729 s23481 _ t0 h23732 X23731
    refine dseq (dseq (dreg ?_))
    refine lpure (v := .int .i64 s23481) rfl (p_move rfl) rfl rfl ?_
    refine lpure (v := .slice a22758 n22758 c22758) rfl (p_move rfl) rfl rfl ?_
    refine lpure (v := .int .i64 (p22757.length : Int)) rfl (p_len rfl rfl rfl un_27 rfl) (RSl.lenC H22758) rfl ?_
    refine lpure (v := .bool (decide (s23481 < (p22757.length : Int)))) rfl (p_lt rfl) rfl rfl ?_
    refine lend (nseq ?_)
    refine dcond rfl rfl (fun k23733 => ?_) (fun k23733 => ?_)
    · refine dskip (nseq (dseq (dblock (dseq ?_))))
      refine ddraw 0 0 0 (by kernel_rfl) ?_
      refine sload (v := .agg #[.int .i64 p22754.Nodes, .slice a22755 n22755 c22755, .slice a22756 n22756 c22756]) rfl rfl (q_load wd_25 rfl) (St.ld X23731 (j := 0) rfl rfl) (same_self 20 rfl) rfl ?_
      refine spure (v := .slice a22758 n22758 c22758) rfl (p_move rfl) (lo_t (lo_sl X23731 H22758) rfl) rfl rfl ?_
      refine spure (v := .int .i64 s23481) rfl (p_move rfl) (lo_t rfl rfl) rfl rfl ?_
      refine Sim.bindM fun e23734 he23735 => ?_
      obtain ⟨p23736, cs23736, hp23736, hF23736, hR23736⟩ := RSl.ia H22758 he23735 (kd := .i64) (n := 1) rfl
      have hR23736 : _ = [(.int .i64 e23734 : Value)] := hR23736
      subst hR23736
      refine spure (v := p23736) rfl (p_ia rs_27 rfl) (lo_t (lo_sl X23731 H22758) (lo_t rfl rfl)) hp23736 rfl ?_
      refine sload (v := .int .i64 e23734) rfl rfl (q_load wd_3 rfl) (FP.ld X23731 hF23736) (same_self 20 rfl) rfl ?_
      refine scall (en := fun d => (.bool d)) rfl rfl ca_66 rfl rfl (f66_ok X23731 p22754 e23734 H22755 H22756) rfl (fun e23737 => ?_)
      refine spure (v := .bool (!e23737)) rfl (p_not rfl) (lo_t rfl rfl) rfl rfl ?_
      refine send ?_
      refine nseq ?_
      refine dcond rfl rfl (fun k23741 => ?_) (fun k23741 => ?_)
      · refine dseq (dreg ?_)
        refine lpure (v := .bool false) rfl (p_assign rfl) rfl rfl ?_
        refine lend (nseq (dret (rblock (rseq (rloop (rblock (rseq ?_)))))))
        exact kcut_r (res_1 resT) X23731 rfl rfl
      refine dskip (nblock (nseq (dreg ?_)))
      refine lpure (v := .int .i64 s23481) rfl (p_move rfl) rfl rfl ?_
      refine lpure (v := .int .i64 (w64 (s23481 + 1))) rfl (p_add rfl) rfl rfl ?_
      refine lpure (v := .int .i64 (w64 (s23481 + 1))) rfl (p_assign rfl) rfl rfl ?_
      refine lend ?_
      exact kbackM ih23729 (w64 (s23481 + 1)) () (sub_cons rfl (sub_cons rfl (sub_cons rfl sub_nil))) X23731
    refine dexit (eseq (eloop (xblock (nseq (dseq (dreg ?_))))))
    refine lread (v := .agg #[.int .i64 p22754.Nodes, .slice a22755 n22755 c22755, .slice a22756 n22756 c22756]) rfl (q_load wd_25 rfl) (St.ld X23731 (j := 0) rfl rfl) rfl ?_
    refine lpure (v := .slice a22758 n22758 c22758) rfl (p_move rfl) rfl rfl ?_
    refine lcall rfl rfl ca_16 rfl rfl (f16_ok X23731 p22754 p22757 H22755 H22756 H22758) rfl ?_
    rintro e23742 _ h23744 ⟨φ23746, a23749, n23749, c23749, ob23749, blk23749, g23747, X23748, rfl, O23749⟩
    refine lpure (v := .slice a23749 n23749 c23749) rfl (p_assign rfl) rfl rfl ?_
    refine lend (nseq (dseq (dseq (dreg ?_))))
    refine lpure (v := .int .i64 0) rfl (p_assign rfl) rfl rfl ?_
    refine lend (nseq (dblock ?_))
    obtain ⟨φ23769, g23770, X23771, H23772⟩ := OSl.freeze X23748 (j := 0) rfl O23749
    refine dloopM (τ := Int) (σ := Unit) (fun s23849 (_ : Unit) => [(1, .slice a22758 n22758 c22758), (2, .pointer (some ⟨b22759, 0, none⟩)), (6, .slice a23749 n23749 c23749), (7, .int .i64 s23849)]) (fun s23849 (_ : Unit) hh => St φ23769 h.n hh ([(none, .dead), (some b22759, .cells [.int .i64 p22754.Nodes, .slice a22755 n22755 c22755, .slice a22756 n22756 c22756] 25 .exact)])) 0 () (sub_cons rfl (sub_cons rfl (sub_cons rfl (sub_cons rfl sub_nil)))) (St.pick X23771 (.none _ (.skip _ (.keep _ (.nil _))))) ?_
    rintro n23914 ih23913 s23849 _ t0 h23916 X23915
    refine dseq (dseq (dreg ?_))
    refine lpure (v := .int .i64 s23849) rfl (p_move rfl) rfl rfl ?_
    refine lpure (v := .slice a23749 n23749 c23749) rfl (p_move rfl) rfl rfl ?_
    refine lpure (v := .int .i64 (e23742.length : Int)) rfl (p_len rfl rfl rfl un_26 rfl) (RSl.lenC H23772) rfl ?_
    refine lpure (v := .bool (decide (s23849 < (e23742.length : Int)))) rfl (p_lt rfl) rfl rfl ?_
    refine lend (nseq ?_)
    refine dcond rfl rfl (fun k23917 => ?_) (fun k23917 => ?_)
    · refine dskip (nseq (dseq (dblock (dseq (dseq ?_)))))
      refine ddraw 0 0 0 (by kernel_rfl) ?_
      refine spure (v := .slice a23749 n23749 c23749) rfl (p_move rfl) (lo_t (lo_sl X23915 H23772) rfl) rfl rfl ?_
      refine spure (v := .int .i64 s23849) rfl (p_move rfl) (lo_t rfl rfl) rfl rfl ?_
      refine Sim.mustM fun k23918 => ?_
      have k23918 := of_decide_eq_true k23918
      refine sslice H23772 X23915 rfl rfl rfl (evo_ok rfl) (evo_ok rfl) rfl rfl rfl un_26 ts_3 rfl bnd_none (bnd_int (show (0 : Int) ≤ s23849 from by omega)) (by omega) (by omega) (l' := (e23742.take (s23849).toNat)) rfl (lo_t (lo_sl X23915 H23772) (lo_t rfl rfl)) rfl (fun a23918 n23918 c23918 H23918 => ?_)
      refine spure (v := .slice a23749 n23749 c23749) rfl (p_move rfl) (lo_t (lo_sl X23915 H23772) rfl) rfl rfl ?_
      refine spure (v := .int .i64 s23849) rfl (p_move rfl) (lo_t rfl rfl) rfl rfl ?_
      refine Sim.bindM fun e23919 he23920 => ?_
      obtain ⟨p23921, cs23921, hp23921, hF23921, hR23921⟩ := RSl.ia H23772 he23920 (kd := .i64) (n := 1) rfl
      have hR23921 : _ = [(.int .i64 e23919 : Value)] := hR23921
      subst hR23921
      refine spure (v := p23921) rfl (p_ia rs_26 rfl) (lo_t (lo_sl X23915 H23772) (lo_t rfl rfl)) hp23921 rfl ?_
      refine sload (v := .int .i64 e23919) rfl rfl (q_load wd_3 rfl) (FP.ld X23915 hF23921) (same_self 20 rfl) rfl ?_
      refine scall (en := fun d => (.bool d)) rfl rfl ca_67 rfl rfl (f67_ok X23915 ((e23742.take (s23849).toNat)) e23919 H23918) rfl (fun e23922 => ?_)
      refine send ?_
      refine nseq ?_
      refine dcond rfl rfl (fun k23926 => ?_) (fun k23926 => ?_)
      · refine dseq (dreg ?_)
        refine lpure (v := .bool false) rfl (p_assign rfl) rfl rfl ?_
        refine lend (nseq (dret (rseq (rblock (rseq (rloop (rblock (rseq ?_))))))))
        exact kcut_r (res_1 resT) X23915 rfl rfl
      refine dskip (nseq (dseq ?_))
      refine ddraw 0 0 32 (by kernel_rfl) ?_
      refine spure (v := .int .i64 s23849) rfl (p_move rfl) (lo_t rfl rfl) rfl rfl ?_
      refine spure (v := .bool (decide (0 < s23849))) rfl (p_gt rfl) (lo_t rfl (lo_c rfl)) rfl rfl ?_
      refine spure (v := .bool (decide (0 < s23849))) rfl (p_move rfl) (lo_t rfl rfl) rfl rfl ?_
      refine ssh (τ := Bool) (σ := Unit) (fun s23928 (_ : Unit) => [(1, .slice a22758 n22758 c22758), (2, .pointer (some ⟨b22759, 0, none⟩)), (6, .slice a23749 n23749 c23749), (7, .int .i64 s23849), (53, .bool s23928)]) (fun s23928 (_ : Unit) hh => St φ23769 h.n hh ([(none, .dead), (some b22759, .cells [.int .i64 p22754.Nodes, .slice a22755 n22755 c22755, .slice a22756 n22756 c22756] 25 .exact)])) 5 8 ?_ ?_
      · rintro s23928 _ t0 h23930 X23929
        refine spure (v := .bool s23928) rfl (p_move rfl) (lo_t rfl rfl) rfl rfl ?_
        refine sjoinM (τ := Bool) (σ := Unit) (fun s23950 (_ : Unit) => [(1, .slice a22758 n22758 c22758), (2, .pointer (some ⟨b22759, 0, none⟩)), (6, .slice a23749 n23749 c23749), (7, .int .i64 s23849), (76, .bool s23950)]) (fun s23950 (_ : Unit) hh => St φ23769 h.n hh ([(none, .dead), (some b22759, .cells [.int .i64 p22754.Nodes, .slice a22755 n22755 c22755, .slice a22756 n22756 c22756] 25 .exact)])) 22 31 ?_ ?_
        · rintro s23950 _ t0 h23952 X23951
          refine send ?_
          refine nseq ?_
          refine dcond rfl rfl (fun k23953 => ?_) (fun k23953 => ?_)
          · refine dseq (dreg ?_)
            refine lpure (v := .bool false) rfl (p_assign rfl) rfl rfl ?_
            refine lend (nseq (dret (rblock (rseq (rloop (rblock (rseq ?_)))))))
            exact kcut_r (res_1 resT) X23951 rfl rfl
          refine dskip (nblock (nseq (dreg ?_)))
          refine lpure (v := .int .i64 s23849) rfl (p_move rfl) rfl rfl ?_
          refine lpure (v := .int .i64 (w64 (s23849 + 1))) rfl (p_add rfl) rfl rfl ?_
          refine lpure (v := .int .i64 (w64 (s23849 + 1))) rfl (p_assign rfl) rfl rfl ?_
          refine lend ?_
          exact kbackM ih23913 (w64 (s23849 + 1)) () (sub_cons rfl (sub_cons rfl (sub_cons rfl (sub_cons rfl sub_nil)))) (St.pick X23951 (.none _ (.skip _ (.keep _ (.nil _)))))
        intro j23954 J23955
        refine sif (j := 54) (show _ = Value.bool s23928 from rfl) (fun k23956 => ?_) (fun k23956 => ?_)
        · refine spure (v := .pointer (some ⟨b22759, 1, none⟩)) rfl (p_fa fo_25_1 rfl) (lo_t (lo_own X23929 (j := 1) (o := 0) (s := none) (f := 0) rfl) rfl) rfl rfl ?_
          refine sload (v := .slice a22755 n22755 c22755) rfl rfl (q_load wd_22 rfl) (St.ld X23929 (j := 1) rfl rfl) (same_self 20 rfl) rfl ?_
          refine spure (v := .slice a23749 n23749 c23749) rfl (p_move rfl) (lo_t (lo_sl X23929 H23772) rfl) rfl rfl ?_
          refine spure (v := .int .i64 s23849) rfl (p_move rfl) (lo_t rfl rfl) rfl rfl ?_
          refine Sim.bindM fun e23957 he23958 => ?_
          obtain ⟨p23959, cs23959, hp23959, hF23959, hR23959⟩ := RSl.ia H23772 he23958 (kd := .i64) (n := 1) rfl
          have hR23959 : _ = [(.int .i64 e23957 : Value)] := hR23959
          subst hR23959
          refine spure (v := p23959) rfl (p_ia rs_26 rfl) (lo_t (lo_sl X23929 H23772) (lo_t rfl rfl)) hp23959 rfl ?_
          refine sload (v := .int .i64 e23957) rfl rfl (q_load wd_3 rfl) (FP.ld X23929 hF23959) (same_self 20 rfl) rfl ?_
          refine Sim.bindM fun e23960 he23961 => ?_
          obtain ⟨p23962, cs23962, hp23962, hF23962, hR23962⟩ := RSl.ia (H22755.mono (g23747.trans g23770)) he23961 (kd := .i64) (n := 1) rfl
          have hR23962 : _ = [(.bool e23960 : Value)] := hR23962
          subst hR23962
          refine spure (v := p23962) rfl (p_ia rs_22 rfl) (lo_t (lo_sl X23929 (H22755.mono (g23747.trans g23770))) (lo_t rfl rfl)) hp23962 rfl ?_
          refine sload (v := .bool e23960) rfl rfl (q_load wd_4 rfl) (FP.ld X23929 hF23962) (same_self 20 rfl) rfl ?_
          refine spure (v := .bool e23960) rfl (p_move rfl) (lo_t rfl rfl) rfl rfl ?_
          refine sif (j := 63) (show _ = Value.bool e23960 from rfl) (fun k23963 => ?_) (fun k23963 => ?_)
          · refine sskip rfl rfl ?_
            refine sskip rfl rfl ?_
            refine sskip rfl rfl ?_
            refine sskip rfl rfl ?_
            refine sskip rfl rfl ?_
            refine sskip rfl rfl ?_
            refine sskip rfl rfl ?_
            refine sskip rfl rfl ?_
            refine sskip rfl rfl ?_
            refine sskip rfl rfl ?_
            refine sskip rfl rfl ?_
            refine spure (v := .bool true) rfl (p_pick rfl) (lo_t rfl (lo_c (lo_t rfl rfl))) rfl rfl ?_
            refine spure (v := .bool true) rfl (p_pick rfl) (lo_t rfl (lo_t rfl (lo_c rfl))) rfl rfl ?_
            exact sjmpM J23955 true () (sub_cons rfl (sub_cons rfl (sub_cons rfl (sub_cons rfl (sub_cons rfl sub_nil))))) (St.pick X23929 (.none _ (.skip _ (.keep _ (.nil _)))))
          refine sload (v := .agg #[.int .i64 p22754.Nodes, .slice a22755 n22755 c22755, .slice a22756 n22756 c22756]) rfl rfl (q_load wd_25 rfl) (St.ld X23929 (j := 1) rfl rfl) (same_self 20 rfl) rfl ?_
          refine spure (v := .slice a22758 n22758 c22758) rfl (p_move rfl) (lo_t (lo_sl X23929 (H22758.mono (g23747.trans g23770))) rfl) rfl rfl ?_
          refine spure (v := .int .i64 s23849) rfl (p_move rfl) (lo_t rfl rfl) rfl rfl ?_
          refine Sim.bindM fun e23964 he23965 => ?_
          obtain ⟨p23966, cs23966, hp23966, hF23966, hR23966⟩ := RSl.ia (H22758.mono (g23747.trans g23770)) he23965 (kd := .i64) (n := 1) rfl
          have hR23966 : _ = [(.int .i64 e23964 : Value)] := hR23966
          subst hR23966
          refine spure (v := p23966) rfl (p_ia rs_27 rfl) (lo_t (lo_sl X23929 (H22758.mono (g23747.trans g23770))) (lo_t rfl rfl)) hp23966 rfl ?_
          refine sload (v := .int .i64 e23964) rfl rfl (q_load wd_3 rfl) (FP.ld X23929 hF23966) (same_self 20 rfl) rfl ?_
          refine scall (en := fun d => (.int .i64 d)) rfl rfl ca_41 rfl rfl (f41_ok X23929 p22754 e23964 (H22755.mono (g23747.trans g23770)) (H22756.mono (g23747.trans g23770))) rfl (fun e23967 => ?_)
          refine spure (v := .slice a23749 n23749 c23749) rfl (p_move rfl) (lo_t (lo_sl X23929 H23772) rfl) rfl rfl ?_
          refine spure (v := .int .i64 s23849) rfl (p_move rfl) (lo_t rfl rfl) rfl rfl ?_
          refine Sim.bindM fun e23971 he23972 => ?_
          obtain ⟨p23973, cs23973, hp23973, hF23973, hR23973⟩ := RSl.ia H23772 he23972 (kd := .i64) (n := 1) rfl
          have hR23973 : _ = [(.int .i64 e23971 : Value)] := hR23973
          subst hR23973
          refine spure (v := p23973) rfl (p_ia rs_26 rfl) (lo_t (lo_sl X23929 H23772) (lo_t rfl rfl)) hp23973 rfl ?_
          refine sload (v := .int .i64 e23971) rfl rfl (q_load wd_3 rfl) (FP.ld X23929 hF23973) (same_self 20 rfl) rfl ?_
          refine spure (v := .bool (decide (e23967 ≠ e23971))) rfl (p_ne rfl) (lo_t rfl (lo_t rfl rfl)) rfl rfl ?_
          refine spure (v := .bool (decide (e23967 ≠ e23971))) rfl (p_pick rfl) (lo_t rfl (lo_c (lo_t rfl rfl))) rfl rfl ?_
          refine spure (v := .bool (decide (e23967 ≠ e23971))) rfl (p_pick rfl) (lo_t rfl (lo_t rfl (lo_c rfl))) rfl rfl ?_
          exact sjmpM J23955 (decide (e23967 ≠ e23971)) () (sub_cons rfl (sub_cons rfl (sub_cons rfl (sub_cons rfl (sub_cons rfl sub_nil))))) (St.pick X23929 (.none _ (.skip _ (.keep _ (.nil _)))))
        refine sskip rfl rfl ?_
        refine sskip rfl rfl ?_
        refine sskip rfl rfl ?_
        refine sskip rfl rfl ?_
        refine sskip rfl rfl ?_
        refine sskip rfl rfl ?_
        refine sskip rfl rfl ?_
        refine sskip rfl rfl ?_
        refine sskip rfl rfl ?_
        refine sskip rfl rfl ?_
        refine sskip rfl rfl ?_
        refine sskip rfl rfl ?_
        refine sskip rfl rfl ?_
        refine sskip rfl rfl ?_
        refine sskip rfl rfl ?_
        refine sskip rfl rfl ?_
        refine sskip rfl rfl ?_
        refine sskip rfl rfl ?_
        refine sskip rfl rfl ?_
        refine sskip rfl rfl ?_
        refine sskip rfl rfl ?_
        refine spure (v := .bool false) rfl (p_pick rfl) (lo_t rfl (lo_t rfl (lo_c rfl))) rfl rfl ?_
        exact sjmpM J23955 false () (sub_cons rfl (sub_cons rfl (sub_cons rfl (sub_cons rfl (sub_cons rfl sub_nil))))) (St.pick X23929 (.none _ (.skip _ (.keep _ (.nil _)))))
      intro j23974 J23975
      refine scase (j := 48) (show _ = Value.bool (decide (0 < s23849)) from rfl) (fun k23976 => ?_) (fun k23976 => ?_)
      · refine spure (v := .int .i64 s23849) rfl (p_move rfl) (lo_t rfl rfl) rfl rfl ?_
        refine spure (v := .slice a22758 n22758 c22758) rfl (p_move rfl) (lo_t (lo_sl X23915 (H22758.mono (g23747.trans g23770))) rfl) rfl rfl ?_
        refine spure (v := .int .i64 (p22757.length : Int)) rfl (p_len rfl rfl rfl un_27 rfl) (lo_t (lo_sl X23915 (H22758.mono (g23747.trans g23770))) rfl) (RSl.lenC (H22758.mono (g23747.trans g23770))) rfl ?_
        refine spure (v := .bool (decide (s23849 < (p22757.length : Int)))) rfl (p_lt rfl) (lo_t rfl (lo_t rfl rfl)) rfl rfl ?_
        refine spure (v := .bool (decide (s23849 < (p22757.length : Int)))) rfl (p_pick rfl) (lo_t rfl (lo_t rfl (lo_c rfl))) rfl rfl ?_
        refine Sim.of_eq (congrArg j23974 (show ((decide (0 < s23849)) && (decide (s23849 < (p22757.length : Int)))) = (decide (s23849 < (p22757.length : Int))) from by rw [k23976] <;> rfl)) ?_
        exact sjmpM J23975 (decide (s23849 < (p22757.length : Int))) () (sub_cons rfl (sub_cons rfl (sub_cons rfl (sub_cons rfl (sub_cons rfl sub_nil))))) (St.pick X23915 (.none _ (.skip _ (.keep _ (.nil _)))))
      refine sskip rfl rfl ?_
      refine sskip rfl rfl ?_
      refine sskip rfl rfl ?_
      refine sskip rfl rfl ?_
      refine spure (v := .bool false) rfl (p_pick rfl) (lo_t rfl (lo_t rfl (lo_c rfl))) rfl rfl ?_
      refine Sim.of_eq (congrArg j23974 (show ((decide (0 < s23849)) && (decide (s23849 < (p22757.length : Int)))) = false from by rw [k23976] <;> rfl)) ?_
      exact sjmpM J23975 false () (sub_cons rfl (sub_cons rfl (sub_cons rfl (sub_cons rfl (sub_cons rfl sub_nil))))) (St.pick X23915 (.none _ (.skip _ (.keep _ (.nil _)))))
    refine dexit (eseq (eloop (xblock (nseq (dseq (dreg ?_))))))
    refine lpure (v := .bool true) rfl (p_assign rfl) rfl rfl ?_
    refine lend (nseq (dret ?_))
    exact kcut_r (res_1 resT) X23915 rfl rfl
  intro j23977 J23978
  refine lcase (i := 11) (show _ = Value.bool (decide ((p22757.length : Int) < 1)) from rfl) (fun k23979 => ?_) (fun k23979 => ?_)
  · refine lskip rfl rfl ?_
    refine lskip rfl rfl ?_
    refine lskip rfl rfl ?_
    refine lpure (v := .bool true) rfl (p_pick rfl) rfl rfl ?_
    refine Sim.of_eq (congrArg j23977 (show ((decide ((p22757.length : Int) < 1)) || (decide (8 < (p22757.length : Int)))) = true from by rw [k23979] <;> rfl)) ?_
    exact ljmpM J23978 true () (sub_cons rfl (sub_cons rfl (sub_cons rfl sub_nil))) X22762
  refine lpure (v := .slice a22758 n22758 c22758) rfl (p_move rfl) rfl rfl ?_
  refine lpure (v := .int .i64 (p22757.length : Int)) rfl (p_len rfl rfl rfl un_27 rfl) (RSl.lenC H22758) rfl ?_
  refine lpure (v := .bool (decide (8 < (p22757.length : Int)))) rfl (p_gt rfl) rfl rfl ?_
  refine lpure (v := .bool (decide (8 < (p22757.length : Int)))) rfl (p_pick rfl) rfl rfl ?_
  refine Sim.of_eq (congrArg j23977 (show ((decide ((p22757.length : Int) < 1)) || (decide (8 < (p22757.length : Int)))) = (decide (8 < (p22757.length : Int))) from by rw [k23979] <;> rfl)) ?_
  exact ljmpM J23978 (decide (8 < (p22757.length : Int))) () (sub_cons rfl (sub_cons rfl (sub_cons rfl sub_nil))) X22762
/-! isochron/isochronlaw21.want -/
theorem f14_ok {n : Nat} {φ : Fz} {lo : Nat} {h : Heap} {own : OwnL}  {a18980 : Option Addr} {n18980 c18980 : Nat} {a18981 : Option Addr} {n18981 c18981 : Nat} {a18983 : Option Addr} {n18983 c18983 : Nat} (X : St φ lo h (own)) (p18979 : ApiTopo) (p18982 : (List (List Int))) (H18980 : RSl eBool φ (.slice a18980 n18980 c18980) p18979.Station) (H18981 : RSl eApiLink φ (.slice a18981 n18981 c18981) p18979.Links) (H18983 : RSl (eSl (eInt .i64)) φ (.slice a18983 n18983 c18983) p18982) : Sim ((recN Tryz.prog LL cutF (n + 4)).call 14 #[(.agg #[.int .i64 p18979.Nodes, .slice a18980 n18980 c18980, .slice a18981 n18981 c18981]), (.slice a18983 n18983 c18983)] h) (m_isochronlaw21_want p18979 p18982) (fun (d : Int) p => p = (.int .i64 d, h)) := by
  refine fcut Tryz.func14 rfl rfl rfl rfl X ?_
  intro h0 X0
  refine dseq (dreg ?_)
  refine lbox rfl rfl rfl rfl rfl X0 (fun b18984 h18986 X18987 => ?_)
  refine lpure (v := .int .i64 0) rfl (p_assign rfl) rfl rfl ?_
  refine lend (nseq (dseq (dseq (dreg ?_))))
  refine lread (v := .agg #[.int .i64 p18979.Nodes, .slice a18980 n18980 c18980, .slice a18981 n18981 c18981]) rfl (q_load wd_25 rfl) (St.ld X18987 (j := 0) rfl rfl) rfl ?_
  refine lcall rfl rfl ca_37 rfl rfl (f37_ok X18987 p18979 H18980 H18981) rfl (fun e22741 v22742 h22743 hq22744 => ?_)
  cases hq22744
  refine lpure (v := .bool (!e22741)) rfl (p_not rfl) rfl rfl ?_
  refine lend (nseq ?_)
  refine dcond rfl rfl (fun k22745 => ?_) (fun k22745 => ?_)
  · refine dseq (dreg ?_)
    refine lpure (v := .int .i64 260) rfl (p_assign rfl) rfl rfl ?_
    refine lend (nseq (dret (rseq ?_)))
    exact kcut_r (res_1 resT) X18987 rfl rfl
  refine dskip (nseq (dseq (dseq (dreg ?_))))
  refine lpure (v := .slice a18983 n18983 c18983) rfl (p_move rfl) rfl rfl ?_
  refine lpure (v := .int .i64 (p18982.length : Int)) rfl (p_len rfl rfl rfl un_52 rfl) (RSl.lenC H18983) rfl ?_
  refine lpure (v := .int .i64 0) rfl (p_move rfl) rfl rfl ?_
  refine lend (nseq (dblock ?_))
  refine dloopM (τ := Int) (σ := Unit) (fun s23998 (_ : Unit) => [(2, .pointer (some ⟨b18984, 0, none⟩)), (10, .slice a18983 n18983 c18983), (11, .int .i64 (p18982.length : Int)), (12, .int .i64 s23998)]) (fun s23998 (_ : Unit) hh => St φ h.n hh ([(some b18984, .cells [.int .i64 p18979.Nodes, .slice a18980 n18980 c18980, .slice a18981 n18981 c18981] 25 .exact)])) 0 () (sub_cons rfl (sub_cons rfl (sub_cons rfl (sub_cons rfl sub_nil)))) X18987 ?_
  rintro n24013 ih24012 s23998 _ t0 h24015 X24014
  refine dseq (dreg ?_)
  refine lpure (v := .bool (decide (s23998 < (p18982.length : Int)))) rfl (p_lt rfl) rfl rfl ?_
  refine lend (nseq (dseq ?_))
  refine dcond rfl rfl (fun k24016 => ?_) (fun k24016 => ?_)
  · refine dskip (nseq (dseq (dblock (dseq (dreg ?_)))))
    refine Sim.bindM fun e24017 he24018 => ?_
    obtain ⟨p24020, cs24020, hp24020, hF24020, hR24020⟩ := RSl.ia H18983 he24018 (kd := .i64) (n := 1) rfl
    obtain ⟨a24019, n24019, c24019, rfl, H24019⟩ := hR24020
    refine lpure (v := p24020) rfl (p_ia rs_52 rfl) hp24020 rfl ?_
    refine lread (v := .slice a24019 n24019 c24019) rfl (q_load wd_27 rfl) (FP.ld X24014 hF24020) rfl ?_
    refine lpure (v := .slice a24019 n24019 c24019) rfl (p_assign rfl) rfl rfl ?_
    refine lend (nseq (dseq (dreg ?_)))
    refine lread (v := .agg #[.int .i64 p18979.Nodes, .slice a18980 n18980 c18980, .slice a18981 n18981 c18981]) rfl (q_load wd_25 rfl) (St.ld X24014 (j := 0) rfl rfl) rfl ?_
    refine lpure (v := .slice a24019 n24019 c24019) rfl (p_move rfl) rfl rfl ?_
    refine lcall rfl rfl ca_38 rfl rfl (f38_ok X24014 p18979 e24017 H18980 H18981 H24019) rfl (fun e24021 v24022 h24023 hq24024 => ?_)
    cases hq24024
    refine lpure (v := .bool (!e24021)) rfl (p_not rfl) rfl rfl ?_
    refine lend (nseq ?_)
    refine dcond rfl rfl (fun k24025 => ?_) (fun k24025 => ?_)
    · refine dseq (dreg ?_)
      refine lpure (v := .int .i64 310) rfl (p_assign rfl) rfl rfl ?_
      refine lend (nseq (dret (rblock (rseq (rloop (rblock (rseq ?_)))))))
      exact kcut_r (res_1 resT) X24014 rfl rfl
    refine dskip (nblock (nseq (dreg ?_)))
    refine lpure (v := .int .i64 (w64 (s23998 + 1))) rfl (p_add rfl) rfl rfl ?_
    refine lpure (v := .int .i64 (w64 (s23998 + 1))) rfl (p_move rfl) rfl rfl ?_
    refine lend ?_
    exact kbackM ih24012 (w64 (s23998 + 1)) () (sub_cons rfl (sub_cons rfl (sub_cons rfl (sub_cons rfl sub_nil)))) X24014
  refine dexit (eseq (eloop (xblock (nseq (dseq (dreg ?_))))))
  refine lpure (v := .int .i64 0) rfl (p_assign rfl) rfl rfl ?_
  refine lend (nseq (dret ?_))
  exact kcut_r (res_1 resT) X24014 rfl rfl
/-! isochron/isochronref21.uses -/
theorem f57_ok {n : Nat} {φ : Fz} {lo : Nat} {h : Heap} {own : OwnL}  {a24061 : Option Addr} {n24061 c24061 : Nat} (X : St φ lo h (own)) (p24060 : (List (List Int))) (p24062 : Int) (H24061 : RSl (eSl (eInt .i64)) φ (.slice a24061 n24061 c24061) p24060) : Sim ((recN Tryz.prog LL cutF (n + 2)).call 57 #[(.slice a24061 n24061 c24061), (.int .i64 p24062)] h) (m_isochronref21_uses p24060 p24062) (fun (d : Bool) p => p = (.bool d, h)) := by
  refine fcut Tryz.func57 rfl rfl rfl rfl X ?_
  intro h0 X0
  refine dseq (dreg ?_)
  refine lpure (v := .bool false) rfl (p_assign rfl) rfl rfl ?_
  refine lend (nseq (dseq (dseq (dreg ?_))))
  refine lpure (v := .int .i64 0) rfl (p_assign rfl) rfl rfl ?_
  refine lend (nseq (dblock ?_))
  refine dloopM (τ := Int) (σ := Unit) (fun s24089 (_ : Unit) => [(0, .slice a24061 n24061 c24061), (1, .int .i64 p24062), (5, .int .i64 s24089)]) (fun s24089 (_ : Unit) hh => St φ h.n hh ([])) 0 () (sub_cons rfl (sub_cons rfl (sub_cons rfl sub_nil))) X0 ?_
  rintro n24104 ih24103 s24089 _ t0 h24106 X24105
  refine dseq (dseq (dreg ?_))
  refine lpure (v := .int .i64 s24089) rfl (p_move rfl) rfl rfl ?_
  refine lpure (v := .slice a24061 n24061 c24061) rfl (p_move rfl) rfl rfl ?_
  refine lpure (v := .int .i64 (p24060.length : Int)) rfl (p_len rfl rfl rfl un_52 rfl) (RSl.lenC H24061) rfl ?_
  refine lpure (v := .bool (decide (s24089 < (p24060.length : Int)))) rfl (p_lt rfl) rfl rfl ?_
  refine lend (nseq ?_)
  refine dcond rfl rfl (fun k24107 => ?_) (fun k24107 => ?_)
  · refine dskip (nseq (dseq (dblock (dseq (dreg ?_)))))
    refine lpure (v := .slice a24061 n24061 c24061) rfl (p_move rfl) rfl rfl ?_
    refine lpure (v := .int .i64 s24089) rfl (p_move rfl) rfl rfl ?_
    refine Sim.bindM fun e24108 he24109 => ?_
    obtain ⟨p24111, cs24111, hp24111, hF24111, hR24111⟩ := RSl.ia H24061 he24109 (kd := .i64) (n := 1) rfl
    obtain ⟨a24110, n24110, c24110, rfl, H24110⟩ := hR24111
    refine lpure (v := p24111) rfl (p_ia rs_52 rfl) hp24111 rfl ?_
    refine lread (v := .slice a24110 n24110 c24110) rfl (q_load wd_27 rfl) (FP.ld X24105 hF24111) rfl ?_
    refine lpure (v := .int .i64 p24062) rfl (p_move rfl) rfl rfl ?_
    refine lcall rfl rfl ca_67 rfl rfl (f67_ok X24105 e24108 p24062 H24110) rfl (fun e24112 v24113 h24114 hq24115 => ?_)
    cases hq24115
    refine lend (nseq ?_)
    refine dcond rfl rfl (fun k24116 => ?_) (fun k24116 => ?_)
    · refine dseq (dreg ?_)
      refine lpure (v := .bool true) rfl (p_assign rfl) rfl rfl ?_
      refine lend (nseq (dret (rblock (rseq (rloop (rblock (rseq ?_)))))))
      exact kcut_r (res_1 resT) X24105 rfl rfl
    refine dskip (nblock (nseq (dreg ?_)))
    refine lpure (v := .int .i64 s24089) rfl (p_move rfl) rfl rfl ?_
    refine lpure (v := .int .i64 (w64 (s24089 + 1))) rfl (p_add rfl) rfl rfl ?_
    refine lpure (v := .int .i64 (w64 (s24089 + 1))) rfl (p_assign rfl) rfl rfl ?_
    refine lend ?_
    exact kbackM ih24103 (w64 (s24089 + 1)) () (sub_cons rfl (sub_cons rfl (sub_cons rfl sub_nil))) X24105
  refine dexit (eseq (eloop (xblock (nseq (dseq (dreg ?_))))))
  refine lpure (v := .bool false) rfl (p_assign rfl) rfl rfl ?_
  refine lend (nseq (dret ?_))
  exact kcut_r (res_1 resT) X24105 rfl rfl
/-! isochron/isochronref21.Ports -/
theorem f25_ok {n : Nat} {φ : Fz} {lo : Nat} {h : Heap} {own : OwnL}  {a24209 : Option Addr} {n24209 c24209 : Nat} {a24210 : Option Addr} {n24210 c24210 : Nat} {a24212 : Option Addr} {n24212 c24212 : Nat} (X : St φ lo h (own)) (p24208 : ApiTopo) (p24211 : (List (List Int))) (H24209 : RSl eBool φ (.slice a24209 n24209 c24209) p24208.Station) (H24210 : RSl eApiLink φ (.slice a24210 n24210 c24210) p24208.Links) (H24212 : RSl (eSl (eInt .i64)) φ (.slice a24212 n24212 c24212) p24211) : Sim ((recN Tryz.prog LL cutF (n + 3)).call 25 #[(.agg #[.int .i64 p24208.Nodes, .slice a24209 n24209 c24209, .slice a24210 n24210 c24210]), (.slice a24212 n24212 c24212)] h) (m_isochronref21_Ports p24208 p24211) (fun (d : (List Int)) p => ∃ φ2 : Fz, ∃ a24312 : Option Addr, ∃ n24312 : Nat, ∃ c24312 : Nat, ∃ ob24312 : Option Nat, ∃ blk24312 : Blk, Fz.le φ φ2 ∧ St φ2 lo p.2 ((ob24312, blk24312) :: own) ∧ p.1 = .slice a24312 n24312 c24312 ∧ OSl (eInt .i64) φ2 3 ob24312 blk24312 (.slice a24312 n24312 c24312) d) := by
  refine fopen Tryz.func25 rfl rfl rfl rfl ?_
  refine dseq (dreg ?_)
  refine lbox rfl rfl rfl rfl rfl X (fun b24213 h24215 X24216 => ?_)
  refine lpure (v := .slice none 0 0) rfl (p_assign rfl) rfl rfl ?_
  refine lend (nseq (dseq (dreg ?_)))
  refine lpure (v := .slice none 0 0) rfl (p_assign rfl) rfl rfl ?_
  refine lend (nseq (dseq (dseq (dreg ?_))))
  refine lpure (v := .int .i64 0) rfl (p_assign rfl) rfl rfl ?_
  refine lend (nseq (dblock ?_))
  refine dloopM (τ := (List Int) × Int) (σ := Option Addr × Nat × Nat × Option Nat × Blk) (fun s24266 (a24268, n24268, c24268, ob24268, blk24268) => [(1, .slice a24212 n24212 c24212), (2, .pointer (some ⟨b24213, 0, none⟩)), (5, .slice a24268 n24268 c24268), (6, .int .i64 s24266.2)]) (fun s24266 (a24268, n24268, c24268, ob24268, blk24268) hh => St φ lo hh ((ob24268, blk24268) :: (some b24213, .cells [.int .i64 p24208.Nodes, .slice a24209 n24209 c24209, .slice a24210 n24210 c24210] 25 .exact) :: own) ∧ OSl (eInt .i64) φ 3 ob24268 blk24268 (.slice a24268 n24268 c24268) s24266.1) ([], 0) (none, 0, 0, none, .dead) (sub_cons rfl (sub_cons rfl (sub_cons rfl (sub_cons rfl sub_nil)))) ⟨(St.pick X24216 (.none _ (.keep _ (.refl _)))), OSl.nil⟩ ?_
  rintro n24291 ih24290 s24266 ⟨a24268, n24268, c24268, ob24268, blk24268⟩ t0 h24293 ⟨X24292, O24268⟩
  refine dseq (dseq (dreg ?_))
  refine lpure (v := .int .i64 s24266.2) rfl (p_move rfl) rfl rfl ?_
  refine lpure (v := .pointer (some ⟨b24213, 2, none⟩)) rfl (p_fa fo_25_2 rfl) rfl rfl ?_
  refine lread (v := .slice a24210 n24210 c24210) rfl (q_load wd_23 rfl) (St.ld X24292 (j := 1) rfl rfl) rfl ?_
  refine lpure (v := .int .i64 (p24208.Links.length : Int)) rfl (p_len rfl rfl rfl un_23 rfl) (RSl.lenC H24210) rfl ?_
  refine lpure (v := .int .i64 (w64 (2 * (p24208.Links.length : Int)))) rfl (p_mul rfl) rfl rfl ?_
  refine lpure (v := .bool (decide (s24266.2 < (w64 (2 * (p24208.Links.length : Int)))))) rfl (p_lt rfl) rfl rfl ?_
  refine lend (nseq ?_)
  refine dcond rfl rfl (fun k24294 => ?_) (fun k24294 => ?_)
  · refine dskip (nseq (dseq (dblock (dseq (dreg ?_)))))
    refine lpure (v := .slice a24212 n24212 c24212) rfl (p_move rfl) rfl rfl ?_
    refine lpure (v := .int .i64 s24266.2) rfl (p_move rfl) rfl rfl ?_
    refine lcall rfl rfl ca_57 rfl rfl (f57_ok X24292 p24211 (s24266.2) H24212) rfl (fun e24295 v24296 h24297 hq24298 => ?_)
    cases hq24298
    refine lend (nseq ?_)
    refine djoinM (τ := (List Int)) (σ := Option Addr × Nat × Nat × Option Nat × Blk) (fun s24303 (a24304, n24304, c24304, ob24304, blk24304) => [(1, .slice a24212 n24212 c24212), (2, .pointer (some ⟨b24213, 0, none⟩)), (5, .slice a24304 n24304 c24304), (6, .int .i64 s24266.2)]) (fun s24303 (a24304, n24304, c24304, ob24304, blk24304) hh => St φ lo hh ((ob24304, blk24304) :: (some b24213, .cells [.int .i64 p24208.Nodes, .slice a24209 n24209 c24209, .slice a24210 n24210 c24210] 25 .exact) :: own) ∧ OSl (eInt .i64) φ 3 ob24304 blk24304 (.slice a24304 n24304 c24304) s24303) ?_ ?_
    · rintro s24303 ⟨a24304, n24304, c24304, ob24304, blk24304⟩ t0 h24306 ⟨X24305, O24304⟩
      refine nblock (nseq (dreg ?_))
      refine lpure (v := .int .i64 s24266.2) rfl (p_move rfl) rfl rfl ?_
      refine lpure (v := .int .i64 (w64 (s24266.2 + 1))) rfl (p_add rfl) rfl rfl ?_
      refine lpure (v := .int .i64 (w64 (s24266.2 + 1))) rfl (p_assign rfl) rfl rfl ?_
      refine lend ?_
      exact kbackM ih24290 (s24303, (w64 (s24266.2 + 1))) (a24304, n24304, c24304, ob24304, blk24304) (sub_cons rfl (sub_cons rfl (sub_cons rfl (sub_cons rfl sub_nil)))) ⟨X24305, O24304⟩
    intro j24307 J24308
    refine dcond rfl rfl (fun k24299 => ?_) (fun k24299 => ?_)
    · refine dreg ?_
      refine lpure (v := .slice a24268 n24268 c24268) rfl (p_move rfl) rfl rfl ?_
      refine lpure (v := .int .i64 s24266.2) rfl (p_move rfl) rfl rfl ?_
      obtain ⟨h24309, b24309, hv24309, X24309, O24309⟩ := OSl.lay (E := (eInt .i64)) (φ := φ) (cs := [.int .i64 s24266.2]) (l := [s24266.2]) (len := 1) (parts := [(0, .int .i64 s24266.2)]) un_26 ts_3 rfl rfl rfl tz_3 rfl rfl (show RowD (eInt .i64) φ [.int .i64 s24266.2] [s24266.2] from ⟨[.int .i64 s24266.2], _, rfl, rfl, rfl⟩) rfl rfl X24292
      refine lheap rfl (h_buildSlice rfl) hv24309 rfl ?_
      obtain ⟨ws24311, hw24311⟩ := OSl.read O24309 X24309 (k := 0) rfl (n := 1) rfl
      refine Sim.mustM fun k24311 => ?_
      obtain ⟨h24311, a24311, c24311, ob24311, blk24311, hv24311, X24311, O24311⟩ := OSl.append O24268 X24309 (j := 1) rfl hw24311 k24311 (ts := #[26, 26]) rfl un_26 (argOk_of ax_26_26) ts_3 rfl rfl tb_3 rfl tz_3 rfl
      refine lheap rfl (h_builtin rfl rfl) hv24311 rfl ?_
      refine lpure (v := .slice a24311 (s24266.1.length + ([s24266.2]).length) c24311) rfl (p_assign rfl) rfl rfl ?_
      refine lend ?_
      exact jmpM J24308 (s24266.1 ++ ([s24266.2])) (a24311, (s24266.1.length + ([s24266.2]).length), c24311, ob24311, blk24311) (sub_cons rfl (sub_cons rfl (sub_cons rfl (sub_cons rfl sub_nil)))) ⟨(St.pick X24311 (.skip _ (.keep _ (.keep _ (.refl _))))), O24311⟩
    refine dskip ?_
    exact jmpM J24308 s24266.1 (a24268, n24268, c24268, ob24268, blk24268) (sub_cons rfl (sub_cons rfl (sub_cons rfl (sub_cons rfl sub_nil)))) ⟨X24292, O24268⟩
  refine dexit (eseq (eloop (xblock (nseq (dseq (dreg ?_))))))
  refine lpure (v := .slice a24268 n24268 c24268) rfl (p_move rfl) rfl rfl ?_
  refine lpure (v := .slice a24268 n24268 c24268) rfl (p_assign rfl) rfl rfl ?_
  refine lend (nseq (dret ?_))
  exact kopen_r (res_1 resT) ⟨φ, a24268, n24268, c24268, ob24268, blk24268, (Fz.le_refl _), St.pick X24292 (.keep _ (.skip _ (.refl _))), rfl, O24268⟩
/-! isochron/isochronref21.Tree -/
theorem f26_ok {n : Nat} {φ : Fz} {lo : Nat} {h : Heap} {own : OwnL}  {a24343 : Option Addr} {n24343 c24343 : Nat} {a24344 : Option Addr} {n24344 c24344 : Nat} {a24346 : Option Addr} {n24346 c24346 : Nat} (X : St φ lo h (own)) (p24342 : ApiTopo) (p24345 : (List (List Int))) (H24343 : RSl eBool φ (.slice a24343 n24343 c24343) p24342.Station) (H24344 : RSl eApiLink φ (.slice a24344 n24344 c24344) p24342.Links) (H24346 : RSl (eSl (eInt .i64)) φ (.slice a24346 n24346 c24346) p24345) : Sim ((recN Tryz.prog LL cutF (n + 4)).call 26 #[(.agg #[.int .i64 p24342.Nodes, .slice a24343 n24343 c24343, .slice a24344 n24344 c24344]), (.slice a24346 n24346 c24346)] h) (m_isochronref21_Tree p24342 p24345) (fun (d : Bool) p => p = (.bool d, h)) := by
  refine fcut Tryz.func26 rfl rfl rfl rfl X ?_
  intro h0 X0
  refine dseq (dreg ?_)
  refine lbox rfl rfl rfl rfl rfl X0 (fun b24347 h24349 X24350 => ?_)
  refine lpure (v := .bool false) rfl (p_assign rfl) rfl rfl ?_
  refine lend (nseq (dseq (dseq (dreg ?_))))
  refine lpure (v := .int .i64 0) rfl (p_assign rfl) rfl rfl ?_
  refine lend (nseq (dblock ?_))
  refine dloopM (τ := Int) (σ := Unit) (fun s25133 (_ : Unit) => [(1, .slice a24346 n24346 c24346), (2, .pointer (some ⟨b24347, 0, none⟩)), (5, .int .i64 s25133)]) (fun s25133 (_ : Unit) hh => St φ h.n hh ([(some b24347, .cells [.int .i64 p24342.Nodes, .slice a24343 n24343 c24343, .slice a24344 n24344 c24344] 25 .exact)])) 0 () (sub_cons rfl (sub_cons rfl (sub_cons rfl sub_nil))) X24350 ?_
  rintro n25526 ih25525 s25133 _ t0 h25528 X25527
  refine dseq (dseq (dreg ?_))
  refine lpure (v := .int .i64 s25133) rfl (p_move rfl) rfl rfl ?_
  refine lpure (v := .slice a24346 n24346 c24346) rfl (p_move rfl) rfl rfl ?_
  refine lpure (v := .int .i64 (p24345.length : Int)) rfl (p_len rfl rfl rfl un_52 rfl) (RSl.lenC H24346) rfl ?_
  refine lpure (v := .bool (decide (s25133 < (p24345.length : Int)))) rfl (p_lt rfl) rfl rfl ?_
  refine lend (nseq ?_)
  refine dcond rfl rfl (fun k25529 => ?_) (fun k25529 => ?_)
  · refine dskip (nseq (dseq (dblock (dseq ?_))))
    refine ddraw 0 0 0 (by kernel_rfl) ?_
    refine sload (v := .agg #[.int .i64 p24342.Nodes, .slice a24343 n24343 c24343, .slice a24344 n24344 c24344]) rfl rfl (q_load wd_25 rfl) (St.ld X25527 (j := 0) rfl rfl) (same_self 20 rfl) rfl ?_
    refine spure (v := .slice a24346 n24346 c24346) rfl (p_move rfl) (lo_t (lo_sl X25527 H24346) rfl) rfl rfl ?_
    refine spure (v := .int .i64 s25133) rfl (p_move rfl) (lo_t rfl rfl) rfl rfl ?_
    refine Sim.bindM fun e25530 he25531 => ?_
    obtain ⟨p25533, cs25533, hp25533, hF25533, hR25533⟩ := RSl.ia H24346 he25531 (kd := .i64) (n := 1) rfl
    obtain ⟨a25532, n25532, c25532, rfl, H25532⟩ := hR25533
    refine spure (v := p25533) rfl (p_ia rs_52 rfl) (lo_t (lo_sl X25527 H24346) (lo_t rfl rfl)) hp25533 rfl ?_
    refine sload (v := .slice a25532 n25532 c25532) rfl rfl (q_load wd_27 rfl) (FP.ld X25527 hF25533) (same_self 20 rfl) rfl ?_
    refine Sim.bindM fun e25534 he25535 => ?_
    obtain ⟨p25536, cs25536, hp25536, hF25536, hR25536⟩ := RSl.ia H25532 he25535 (kd := .i64) (n := 1) rfl
    have hR25536 : _ = [(.int .i64 e25534 : Value)] := hR25536
    subst hR25536
    refine spure (v := p25536) rfl (p_ia rs_27 rfl) (lo_t (lo_sl X25527 H25532) (lo_c rfl)) hp25536 rfl ?_
    refine sload (v := .int .i64 e25534) rfl rfl (q_load wd_3 rfl) (FP.ld X25527 hF25536) (same_self 20 rfl) rfl ?_
    refine scall (en := fun d => (.int .i64 d)) rfl rfl ca_41 rfl rfl (f41_ok X25527 p24342 e25534 H24343 H24344) rfl (fun e25537 => ?_)
    refine sload (v := .agg #[.int .i64 p24342.Nodes, .slice a24343 n24343 c24343, .slice a24344 n24344 c24344]) rfl rfl (q_load wd_25 rfl) (St.ld X25527 (j := 0) rfl rfl) (same_self 20 rfl) rfl ?_
    refine spure (v := .slice a24346 n24346 c24346) rfl (p_move rfl) (lo_t (lo_sl X25527 H24346) rfl) rfl rfl ?_
    refine Sim.bindM fun e25541 he25542 => ?_
    obtain ⟨p25544, cs25544, hp25544, hF25544, hR25544⟩ := RSl.ia H24346 he25542 (kd := .i64) (n := 1) rfl
    obtain ⟨a25543, n25543, c25543, rfl, H25543⟩ := hR25544
    refine spure (v := p25544) rfl (p_ia rs_52 rfl) (lo_t (lo_sl X25527 H24346) (lo_c rfl)) hp25544 rfl ?_
    refine sload (v := .slice a25543 n25543 c25543) rfl rfl (q_load wd_27 rfl) (FP.ld X25527 hF25544) (same_self 20 rfl) rfl ?_
    refine Sim.bindM fun e25545 he25546 => ?_
    obtain ⟨p25547, cs25547, hp25547, hF25547, hR25547⟩ := RSl.ia H25543 he25546 (kd := .i64) (n := 1) rfl
    have hR25547 : _ = [(.int .i64 e25545 : Value)] := hR25547
    subst hR25547
    refine spure (v := p25547) rfl (p_ia rs_27 rfl) (lo_t (lo_sl X25527 H25543) (lo_c rfl)) hp25547 rfl ?_
    refine sload (v := .int .i64 e25545) rfl rfl (q_load wd_3 rfl) (FP.ld X25527 hF25547) (same_self 20 rfl) rfl ?_
    refine scall (en := fun d => (.int .i64 d)) rfl rfl ca_41 rfl rfl (f41_ok X25527 p24342 e25545 H24343 H24344) rfl (fun e25548 => ?_)
    refine spure (v := .bool (decide (e25537 ≠ e25548))) rfl (p_ne rfl) (lo_t rfl (lo_t rfl rfl)) rfl rfl ?_
    refine send ?_
    refine nseq ?_
    refine dcond rfl rfl (fun k25552 => ?_) (fun k25552 => ?_)
    · refine dseq (dreg ?_)
      refine lpure (v := .bool false) rfl (p_assign rfl) rfl rfl ?_
      refine lend (nseq (dret (rblock (rseq (rloop (rblock (rseq ?_)))))))
      exact kcut_r (res_1 resT) X25527 rfl rfl
    refine dskip (nblock (nseq (dreg ?_)))
    refine lpure (v := .int .i64 s25133) rfl (p_move rfl) rfl rfl ?_
    refine lpure (v := .int .i64 (w64 (s25133 + 1))) rfl (p_add rfl) rfl rfl ?_
    refine lpure (v := .int .i64 (w64 (s25133 + 1))) rfl (p_assign rfl) rfl rfl ?_
    refine lend ?_
    exact kbackM ih25525 (w64 (s25133 + 1)) () (sub_cons rfl (sub_cons rfl (sub_cons rfl sub_nil))) X25527
  refine dexit (eseq (eloop (xblock (nseq (dseq (dreg ?_))))))
  refine lread (v := .agg #[.int .i64 p24342.Nodes, .slice a24343 n24343 c24343, .slice a24344 n24344 c24344]) rfl (q_load wd_25 rfl) (St.ld X25527 (j := 0) rfl rfl) rfl ?_
  refine lpure (v := .slice a24346 n24346 c24346) rfl (p_move rfl) rfl rfl ?_
  refine lcall rfl rfl ca_25 rfl rfl (f25_ok X25527 p24342 p24345 H24343 H24344 H24346) rfl ?_
  rintro e25553 _ h25555 ⟨φ25557, a25560, n25560, c25560, ob25560, blk25560, g25558, X25559, rfl, O25560⟩
  refine lpure (v := .slice a25560 n25560 c25560) rfl (p_assign rfl) rfl rfl ?_
  refine lend (nseq (dseq (dseq (dreg ?_))))
  refine lpure (v := .int .i64 0) rfl (p_assign rfl) rfl rfl ?_
  refine lend (nseq (dblock ?_))
  refine dloopM (τ := (List Int) × Int) (σ := Blk) (fun s25746 blk25747 => [(2, .pointer (some ⟨b24347, 0, none⟩)), (6, .slice a25560 n25560 c25560), (7, .int .i64 s25746.2)]) (fun s25746 blk25747 hh => St φ25557 h.n hh ([(ob25560, blk25747), (some b24347, .cells [.int .i64 p24342.Nodes, .slice a24343 n24343 c24343, .slice a24344 n24344 c24344] 25 .exact)]) ∧ OSl (eInt .i64) φ25557 3 ob25560 blk25747 (.slice a25560 n25560 c25560) s25746.1) (e25553, 0) blk25560 (sub_cons rfl (sub_cons rfl (sub_cons rfl sub_nil))) ⟨X25559, O25560⟩ ?_
  rintro n25833 ih25832 s25746 blk25747 t0 h25835 ⟨X25834, O25747⟩
  refine dseq (dseq (dreg ?_))
  refine lpure (v := .int .i64 s25746.2) rfl (p_move rfl) rfl rfl ?_
  refine lpure (v := .slice a25560 n25560 c25560) rfl (p_move rfl) rfl rfl ?_
  refine lpure (v := .int .i64 (s25746.1.length : Int)) rfl (p_len rfl rfl rfl un_26 rfl) (OSl.len O25747) rfl ?_
  refine lpure (v := .bool (decide (s25746.2 < (s25746.1.length : Int)))) rfl (p_lt rfl) rfl rfl ?_
  refine lend (nseq ?_)
  refine dcond rfl rfl (fun k25836 => ?_) (fun k25836 => ?_)
  · refine dskip (nseq (dseq (dblock (dseq (dreg ?_)))))
    refine lpure (v := .int .i64 0) rfl (p_assign rfl) rfl rfl ?_
    refine lend (nseq (dblock ?_))
    refine dloopM (τ := (List Int) × Int) (σ := Blk) (fun s25876 blk25877 => [(2, .pointer (some ⟨b24347, 0, none⟩)), (6, .slice a25560 n25560 c25560), (7, .int .i64 s25746.2), (8, .int .i64 s25876.2)]) (fun s25876 blk25877 hh => St φ25557 h.n hh ([(ob25560, blk25877), (some b24347, .cells [.int .i64 p24342.Nodes, .slice a24343 n24343 c24343, .slice a24344 n24344 c24344] 25 .exact)]) ∧ OSl (eInt .i64) φ25557 3 ob25560 blk25877 (.slice a25560 n25560 c25560) s25876.1) (s25746.1, 0) blk25747 (sub_cons rfl (sub_cons rfl (sub_cons rfl (sub_cons rfl sub_nil)))) ⟨X25834, O25747⟩ ?_
    rintro n25898 ih25897 s25876 blk25877 t0 h25900 ⟨X25899, O25877⟩
    refine dseq (dseq (dreg ?_))
    refine lpure (v := .int .i64 s25876.2) rfl (p_move rfl) rfl rfl ?_
    refine lpure (v := .int .i64 s25746.2) rfl (p_move rfl) rfl rfl ?_
    refine lpure (v := .bool (decide (s25876.2 < s25746.2))) rfl (p_lt rfl) rfl rfl ?_
    refine lend (nseq ?_)
    refine dcond rfl rfl (fun k25901 => ?_) (fun k25901 => ?_)
    · refine dskip (nseq (dseq (dblock (dseq ?_))))
      refine ddraw 0 0 0 (by kernel_rfl) ?_
      refine sload (v := .agg #[.int .i64 p24342.Nodes, .slice a24343 n24343 c24343, .slice a24344 n24344 c24344]) rfl rfl (q_load wd_25 rfl) (St.ld X25899 (j := 1) rfl rfl) (same_self 20 rfl) rfl ?_
      refine spure (v := .slice a25560 n25560 c25560) rfl (p_move rfl) (lo_t (lo_osl X25899 (j := 0) rfl O25877) rfl) rfl rfl ?_
      refine spure (v := .int .i64 s25746.2) rfl (p_move rfl) (lo_t rfl rfl) rfl rfl ?_
      refine Sim.bindM fun e25902 he25903 => ?_
      obtain ⟨b25904, vs25904, m25904, off25904, cs25904, rfl, rfl, hp25904, hc25904, hR25904, hl25904, hm25904, hs25904⟩ := OSl.ia O25877 he25903 (kd := .i64) (n := 1) rfl
      have hR25904 : _ = [(.int .i64 e25902 : Value)] := hR25904
      subst hR25904
      refine spure (v := .pointer (some ⟨b25904, off25904, none⟩)) rfl (p_ia rs_26 rfl) (lo_t (lo_osl X25899 (j := 0) rfl O25877) (lo_t rfl rfl)) hp25904 rfl ?_
      refine sload (v := .int .i64 e25902) rfl rfl (q_load wd_3 rfl) (St.ld X25899 (j := 0) rfl (rdE1 hc25904 (k := 0) rfl rfl)) (same_self 20 rfl) rfl ?_
      refine scall (en := fun d => (.int .i64 d)) rfl rfl ca_42 rfl rfl (f42_ok X25899 p24342 e25902 (H24343.mono g25558) (H24344.mono g25558)) rfl (fun e25905 => ?_)
      refine sload (v := .agg #[.int .i64 p24342.Nodes, .slice a24343 n24343 c24343, .slice a24344 n24344 c24344]) rfl rfl (q_load wd_25 rfl) (St.ld X25899 (j := 1) rfl rfl) (same_self 20 rfl) rfl ?_
      refine spure (v := .slice a25560 n25560 c25560) rfl (p_move rfl) (lo_t (lo_osl X25899 (j := 0) rfl O25877) rfl) rfl rfl ?_
      refine spure (v := .int .i64 s25876.2) rfl (p_move rfl) (lo_t rfl rfl) rfl rfl ?_
      refine Sim.bindM fun e25909 he25910 => ?_
      obtain ⟨off25911, cs25911, hp25911, hc25911, hR25911, hl25911, hm25911, hs25911⟩ := OSl.iaC O25877 he25910 (kd := .i64) (n := 1) rfl
      have hR25911 : _ = [(.int .i64 e25909 : Value)] := hR25911
      subst hR25911
      refine spure (v := .pointer (some ⟨b25904, off25911, none⟩)) rfl (p_ia rs_26 rfl) (lo_t (lo_osl X25899 (j := 0) rfl O25877) (lo_t rfl rfl)) hp25911 rfl ?_
      refine sload (v := .int .i64 e25909) rfl rfl (q_load wd_3 rfl) (St.ld X25899 (j := 0) rfl (rdE1 hc25911 (k := 0) rfl rfl)) (same_self 20 rfl) rfl ?_
      refine scall (en := fun d => (.int .i64 d)) rfl rfl ca_42 rfl rfl (f42_ok X25899 p24342 e25909 (H24343.mono g25558) (H24344.mono g25558)) rfl (fun e25912 => ?_)
      refine spure (v := .bool (decide (e25905 = e25912))) rfl (p_eq rfl) (lo_t rfl (lo_t rfl rfl)) rfl rfl ?_
      refine send ?_
      refine nseq ?_
      refine dcond rfl rfl (fun k25916 => ?_) (fun k25916 => ?_)
      · refine dseq (dreg ?_)
        refine lpure (v := .bool false) rfl (p_assign rfl) rfl rfl ?_
        refine lend (nseq (dret (rblock (rseq (rloop (rblock (rblock (rseq (rloop (rblock (rseq ?_)))))))))))
        exact kcut_r (res_1 resT) X25899 rfl rfl
      refine dskip (nblock (nseq (dreg ?_)))
      refine lpure (v := .int .i64 s25876.2) rfl (p_move rfl) rfl rfl ?_
      refine lpure (v := .int .i64 (w64 (s25876.2 + 1))) rfl (p_add rfl) rfl rfl ?_
      refine lpure (v := .int .i64 (w64 (s25876.2 + 1))) rfl (p_assign rfl) rfl rfl ?_
      refine lend ?_
      exact kbackM ih25897 (s25876.1, (w64 (s25876.2 + 1))) (.cells vs25904 3 m25904) (sub_cons rfl (sub_cons rfl (sub_cons rfl (sub_cons rfl sub_nil)))) ⟨X25899, O25877⟩
    refine dexit (eseq (eloop (xblock (nblock (nseq (dreg ?_))))))
    refine lpure (v := .int .i64 s25746.2) rfl (p_move rfl) rfl rfl ?_
    refine lpure (v := .int .i64 (w64 (s25746.2 + 1))) rfl (p_add rfl) rfl rfl ?_
    refine lpure (v := .int .i64 (w64 (s25746.2 + 1))) rfl (p_assign rfl) rfl rfl ?_
    refine lend ?_
    exact kbackM ih25832 (s25876.1, (w64 (s25746.2 + 1))) blk25877 (sub_cons rfl (sub_cons rfl (sub_cons rfl sub_nil))) ⟨X25899, O25877⟩
  refine dexit (eseq (eloop (xblock (nseq (dseq (dreg ?_))))))
  refine lpure (v := .bool true) rfl (p_assign rfl) rfl rfl ?_
  refine lend (nseq (dret ?_))
  exact kcut_r (res_1 resT) X25834 rfl rfl
/-! isochron/isochronlaw21.RouteTrees -/
theorem f5_ok {n : Nat} {φ : Fz} {lo : Nat} {h : Heap} {own : OwnL}  {a2 : Option Addr} {n2 c2 : Nat} {a3 : Option Addr} {n3 c3 : Nat} {a5 : Option Addr} {n5 c5 : Nat} (X : St φ lo h (own)) (p1 : ApiTopo) (p4 : (List (List Int))) (H2 : RSl eBool φ (.slice a2 n2 c2) p1.Station) (H3 : RSl eApiLink φ (.slice a3 n3 c3) p1.Links) (H5 : RSl (eSl (eInt .i64)) φ (.slice a5 n5 c5) p4) (K2 : c2 < unk) (K3 : c3 < unk) : Sim ((recN Tryz.prog LL cutF (n + 19)).call 5 #[(.agg #[.int .i64 p1.Nodes, .slice a2 n2 c2, .slice a3 n3 c3]), (.slice a5 n5 c5)] h) (m_isochronlaw21_RouteTrees p1 p4) (fun (d : Bool) p => p = (.bool d, h)) := by
  refine fcut Tryz.func5 rfl rfl rfl rfl X ?_
  intro h0 X0
  refine dseq (dreg ?_)
  refine lbox rfl rfl rfl rfl rfl X0 (fun b6 h8 X9 => ?_)
  refine lpure (v := .bool false) rfl (p_assign rfl) rfl rfl ?_
  refine lend (nseq (dseq (dseq (dreg ?_))))
  refine lcall rfl rfl ca_6 rfl rfl (f6_ok X9) rfl (fun e18876 v18877 h18878 hq18879 => ?_)
  cases hq18879
  refine lpure (v := .bool (!e18876)) rfl (p_not rfl) rfl rfl ?_
  refine lend (nseq ?_)
  refine dcond rfl rfl (fun k18880 => ?_) (fun k18880 => ?_)
  · refine dseq (dreg ?_)
    refine lpure (v := .bool false) rfl (p_assign rfl) rfl rfl ?_
    refine lend (nseq (dret (rseq ?_)))
    exact kcut_r (res_1 resT) X9 rfl rfl
  refine dskip (nseq (dseq (dreg ?_)))
  refine lread (v := .agg #[.int .i64 p1.Nodes, .slice a2 n2 c2, .slice a3 n3 c3]) rfl (q_load wd_25 rfl) (St.ld X9 (j := 0) rfl rfl) rfl ?_
  refine lcall rfl rfl ca_7 rfl rfl (f7_ok X9 p1 H2 H3 K2 K3) rfl ?_
  rintro e18921 _ _ ⟨a18925, n18925, c18925, a18926, n18926, c18926, hq, H18925, H18926⟩
  cases hq
  refine lstore rfl ts_25 rfl rfl (j := 0) rfl rfl rfl rfl rfl rfl X9 (fun h18927 X18928 => ?_)
  refine lend (nseq (dseq (dreg ?_)))
  refine lpure (v := .slice none 0 0) rfl (p_assign rfl) rfl rfl ?_
  refine lend (nseq (dseq (dseq (dreg ?_))))
  refine lpure (v := .slice a5 n5 c5) rfl (p_move rfl) rfl rfl ?_
  refine lpure (v := .slice a5 n5 c5) rfl (p_move rfl) rfl rfl ?_
  refine lpure (v := .int .i64 (p4.length : Int)) rfl (p_len rfl rfl rfl un_52 rfl) (RSl.lenC H5) rfl ?_
  refine lpure (v := .int .i64 (min (p4.length : Int) 8)) rfl (p_min rfl rfl rfl) rfl rfl ?_
  refine Sim.mustM fun k18929 => ?_
  have k18929 := of_decide_eq_true k18929
  obtain ⟨a18929, n18929, c18929, hv18929, H18929⟩ := RSl.slice H5 X18928 un_52 ts_27 rfl bnd_none (bnd_int (show (0 : Int) ≤ (min (p4.length : Int) 8) from by omega)) (by omega) (by omega)
  refine lread rfl (q_slice rfl (evo_ok rfl) (evo_ok rfl) (evo_ok rfl)) hv18929 rfl ?_
  refine lpure (v := .int .i64 ((p4.take ((min (p4.length : Int) 8)).toNat).length : Int)) rfl (p_len rfl rfl rfl un_52 rfl) (RSl.lenC H18929) rfl ?_
  refine lpure (v := .int .i64 0) rfl (p_move rfl) rfl rfl ?_
  refine lend (nseq (dblock ?_))
  refine dloopM (τ := (List (List Int)) × Int) (σ := Fz × Option Addr × Nat × Nat × Option Nat × Blk) (fun s26083 (φ26086, a26085, n26085, c26085, ob26085, blk26085) => [(2, .pointer (some ⟨b6, 0, none⟩)), (5, .slice a26085 n26085 c26085), (20, .slice a18929 n18929 c18929), (21, .int .i64 ((p4.take ((min (p4.length : Int) 8)).toNat).length : Int)), (22, .int .i64 s26083.2)]) (fun s26083 (φ26086, a26085, n26085, c26085, ob26085, blk26085) hh => St φ26086 h.n hh ([(ob26085, blk26085), (some b6, .cells [.int .i64 e18921.Nodes, .slice a18925 n18925 c18925, .slice a18926 n18926 c18926] 25 .exact)]) ∧ Fz.le φ φ26086 ∧ OSl (eSl (eInt .i64)) φ26086 27 ob26085 blk26085 (.slice a26085 n26085 c26085) s26083.1) ([], 0) (φ, none, 0, 0, none, .dead) (sub_cons rfl (sub_cons rfl (sub_cons rfl (sub_cons rfl (sub_cons rfl sub_nil))))) ⟨(St.pick X18928 (.none _ (.keep _ (.nil _)))), (Fz.le_refl _), OSl.nil⟩ ?_
  rintro n26213 ih26212 s26083 ⟨φ26086, a26085, n26085, c26085, ob26085, blk26085⟩ t0 h26215 ⟨X26214, g26087, O26085⟩
  refine dseq (dreg ?_)
  refine lpure (v := .bool (decide (s26083.2 < ((p4.take ((min (p4.length : Int) 8)).toNat).length : Int)))) rfl (p_lt rfl) rfl rfl ?_
  refine lend (nseq (dseq ?_))
  refine dcond rfl rfl (fun k26216 => ?_) (fun k26216 => ?_)
  · refine dskip (nseq (dseq (dblock (dseq (dreg ?_)))))
    refine Sim.bindM fun e26217 he26218 => ?_
    obtain ⟨p26220, cs26220, hp26220, hF26220, hR26220⟩ := RSl.ia (H18929.mono g26087) he26218 (kd := .i64) (n := 1) rfl
    obtain ⟨a26219, n26219, c26219, rfl, H26219⟩ := hR26220
    refine lpure (v := p26220) rfl (p_ia rs_52 rfl) hp26220 rfl ?_
    refine lread (v := .slice a26219 n26219 c26219) rfl (q_load wd_27 rfl) (FP.ld X26214 hF26220) rfl ?_
    refine lpure (v := .slice a26219 n26219 c26219) rfl (p_assign rfl) rfl rfl ?_
    refine lend (nseq (dreg ?_))
    refine lpure (v := .slice a26085 n26085 c26085) rfl (p_move rfl) rfl rfl ?_
    refine lpure (v := .slice a26219 n26219 c26219) rfl (p_move rfl) rfl rfl ?_
    refine lcall rfl rfl ca_8 rfl rfl (f8_ok X26214 e26217 H26219) rfl ?_
    rintro e26221 _ h26223 ⟨φ26225, a26228, n26228, c26228, ob26228, blk26228, g26226, X26227, rfl, O26228⟩
    obtain ⟨φ26230, g26231, X26232, H26233⟩ := OSl.freeze X26227 (j := 0) rfl O26228
    obtain ⟨h26234, b26234, hv26234, X26234, O26234⟩ := OSl.lay (E := (eSl (eInt .i64))) (φ := φ26230) (cs := [.slice a26228 n26228 c26228]) (l := [e26221]) (len := 1) (parts := [(0, .slice a26228 n26228 c26228)]) un_52 ts_27 rfl rfl rfl tz_27 rfl rfl (show RowD (eSl (eInt .i64)) φ26230 [.slice a26228 n26228 c26228] [e26221] from ⟨[.slice a26228 n26228 c26228], _, rfl, ⟨_, _, _, rfl, H26233⟩, rfl⟩) rfl rfl X26232
    refine lheap rfl (h_buildSlice rfl) hv26234 rfl ?_
    obtain ⟨ws26236, hw26236⟩ := OSl.read O26234 X26234 (k := 0) rfl (n := 1) rfl
    refine Sim.mustM fun k26236 => ?_
    obtain ⟨h26236, a26236, c26236, ob26236, blk26236, hv26236, X26236, O26236⟩ := OSl.append (O26085.mono (g26226.trans g26231)) X26234 (j := 2) rfl hw26236 k26236 (ts := #[52, 52]) rfl un_52 (argOk_of ax_52_52) ts_27 rfl rfl tb_27 rfl tz_27 rfl
    refine lheap rfl (h_builtin rfl rfl) hv26236 rfl ?_
    refine lpure (v := .slice a26236 (s26083.1.length + ([e26221]).length) c26236) rfl (p_assign rfl) rfl rfl ?_
    refine lend (nblock (nseq (dreg ?_)))
    refine lpure (v := .int .i64 (w64 (s26083.2 + 1))) rfl (p_add rfl) rfl rfl ?_
    refine lpure (v := .int .i64 (w64 (s26083.2 + 1))) rfl (p_move rfl) rfl rfl ?_
    refine lend ?_
    exact kbackM ih26212 ((s26083.1 ++ ([e26221])), (w64 (s26083.2 + 1))) (φ26230, a26236, (s26083.1.length + ([e26221]).length), c26236, ob26236, blk26236) (sub_cons rfl (sub_cons rfl (sub_cons rfl (sub_cons rfl (sub_cons rfl sub_nil))))) ⟨(St.pick X26236 (.skip _ (.skip _ (.keep _ (.keep _ (.nil _)))))), ((g26087.trans g26226).trans g26231), O26236⟩
  refine dexit (eseq (eloop (xblock (nseq (dseq (dreg ?_))))))
  refine lread (v := .agg #[.int .i64 e18921.Nodes, .slice a18925 n18925 c18925, .slice a18926 n18926 c18926]) rfl (q_load wd_25 rfl) (St.ld X26214 (j := 1) rfl rfl) rfl ?_
  refine lpure (v := .slice a26085 n26085 c26085) rfl (p_move rfl) rfl rfl ?_
  obtain ⟨φ26237, g26238, X26239, H26240⟩ := OSl.freeze X26214 (j := 0) rfl O26085
  refine lcall rfl rfl ca_24 rfl rfl (f24_ok X26239 e18921 (s26083.1) (H18925.mono (g26087.trans g26238)) (H18926.mono (g26087.trans g26238)) H26240) rfl ?_
  rintro e26241 _ h26243 ⟨φ26245, a26248, n26248, c26248, ob26248, blk26248, g26246, X26247, rfl, O26248⟩
  refine lpure (v := .tuple #[.slice a26248 n26248 c26248, .bool e26241.2.1, .int .i64 e26241.2.2]) rfl (p_move rfl) rfl rfl ?_
  refine lpure (v := .slice a26248 n26248 c26248) rfl (p_extract rfl) rfl rfl ?_
  refine lpure (v := .bool e26241.2.1) rfl (p_extract rfl) rfl rfl ?_
  refine lpure (v := .int .i64 e26241.2.2) rfl (p_extract rfl) rfl rfl ?_
  refine lpure (v := .slice a26248 n26248 c26248) rfl (p_assign rfl) rfl rfl ?_
  refine lpure (v := .bool e26241.2.1) rfl (p_assign rfl) rfl rfl ?_
  refine lpure (v := .int .i64 e26241.2.2) rfl (p_assign rfl) rfl rfl ?_
  refine lend (nseq (dseq (dseq (dreg ?_))))
  refine lread (v := .agg #[.int .i64 e18921.Nodes, .slice a18925 n18925 c18925, .slice a18926 n18926 c18926]) rfl (q_load wd_25 rfl) (St.ld X26247 (j := 2) rfl rfl) rfl ?_
  refine lpure (v := .slice a26085 n26085 c26085) rfl (p_move rfl) rfl rfl ?_
  refine lcall rfl rfl ca_14 rfl rfl (f14_ok X26247 e18921 (s26083.1) (H18925.mono ((g26087.trans g26238).trans g26246)) (H18926.mono ((g26087.trans g26238).trans g26246)) (H26240.mono g26246)) rfl (fun e26250 v26251 h26252 hq26253 => ?_)
  cases hq26253
  refine lpure (v := .int .i64 e26250) rfl (p_assign rfl) rfl rfl ?_
  refine lend (nseq (dseq (dreg ?_)))
  refine lpure (v := .int .i64 e26250) rfl (p_move rfl) rfl rfl ?_
  refine lpure (v := .bool (decide (e26250 ≠ 0))) rfl (p_ne rfl) rfl rfl ?_
  refine lend (nseq ?_)
  refine dcond rfl rfl (fun k26254 => ?_) (fun k26254 => ?_)
  · refine dseq (dreg ?_)
    refine lpure (v := .slice a26248 n26248 c26248) rfl (p_move rfl) rfl rfl ?_
    refine lpure (v := .int .i64 (e26241.1.length : Int)) rfl (p_len rfl rfl rfl un_26 rfl) (OSl.len O26248) rfl ?_
    refine lpure (v := .bool (decide ((e26241.1.length : Int) = 0))) rfl (p_eq rfl) rfl rfl ?_
    refine lpure (v := .bool (decide ((e26241.1.length : Int) = 0))) rfl (p_move rfl) rfl rfl ?_
    refine lsh (τ := Bool) (σ := Unit) (fun s26256 (_ : Unit) => [(10, .int .i64 e26241.2.2), (11, .int .i64 e26250), (50, .bool s26256)]) (fun s26256 (_ : Unit) hh => St φ26245 h.n hh ([(ob26248, blk26248), (none, .dead), (some b6, .cells [.int .i64 e18921.Nodes, .slice a18925 n18925 c18925, .slice a18926 n18926 c18926] 25 .exact)])) 3 ?_ ?_
    · rintro s26256 _ t0 h26258 X26257
      refine lpure (v := .bool s26256) rfl (p_move rfl) rfl rfl ?_
      refine lsh (τ := Bool) (σ := Unit) (fun s26260 (_ : Unit) => [(55, .bool s26260)]) (fun s26260 (_ : Unit) hh => St φ26245 h.n hh ([(ob26248, blk26248), (none, .dead), (some b6, .cells [.int .i64 e18921.Nodes, .slice a18925 n18925 c18925, .slice a18926 n18926 c18926] 25 .exact)])) 4 ?_ ?_
      · rintro s26260 _ t0 h26262 X26261
        refine lpure (v := .bool s26260) rfl (p_assign rfl) rfl rfl ?_
        refine lend (nseq (dret (rseq ?_)))
        exact kcut_r (res_1 resT) X26261 rfl rfl
      intro j26263 J26264
      refine lcase (i := 51) (show _ = Value.bool s26256 from rfl) (fun k26265 => ?_) (fun k26265 => ?_)
      · refine lpure (v := .int .i64 e26241.2.2) rfl (p_move rfl) rfl rfl ?_
        refine lpure (v := .int .i64 e26250) rfl (p_move rfl) rfl rfl ?_
        refine lpure (v := .bool (decide (e26241.2.2 = e26250))) rfl (p_eq rfl) rfl rfl ?_
        refine lpure (v := .bool (decide (e26241.2.2 = e26250))) rfl (p_pick rfl) rfl rfl ?_
        refine Sim.of_eq (congrArg j26263 (show (s26256 && (decide (e26241.2.2 = e26250))) = (decide (e26241.2.2 = e26250)) from by rw [k26265] <;> rfl)) ?_
        exact ljmpM J26264 (decide (e26241.2.2 = e26250)) () (sub_cons rfl sub_nil) (St.pick X26257 (.keep _ (.none _ (.skip _ (.keep _ (.nil _))))))
      refine lskip rfl rfl ?_
      refine lskip rfl rfl ?_
      refine lskip rfl rfl ?_
      refine lpure (v := .bool false) rfl (p_pick rfl) rfl rfl ?_
      refine Sim.of_eq (congrArg j26263 (show (s26256 && (decide (e26241.2.2 = e26250))) = false from by rw [k26265] <;> rfl)) ?_
      exact ljmpM J26264 false () (sub_cons rfl sub_nil) (St.pick X26257 (.keep _ (.none _ (.skip _ (.keep _ (.nil _))))))
    intro j26266 J26267
    refine lcase (i := 47) (show _ = Value.bool (decide ((e26241.1.length : Int) = 0)) from rfl) (fun k26268 => ?_) (fun k26268 => ?_)
    · refine lpure (v := .bool e26241.2.1) rfl (p_move rfl) rfl rfl ?_
      refine lpure (v := .bool (!e26241.2.1)) rfl (p_not rfl) rfl rfl ?_
      refine lpure (v := .bool (!e26241.2.1)) rfl (p_pick rfl) rfl rfl ?_
      refine Sim.of_eq (congrArg j26266 (show ((decide ((e26241.1.length : Int) = 0)) && (!e26241.2.1)) = (!e26241.2.1) from by rw [k26268] <;> rfl)) ?_
      exact ljmpM J26267 (!e26241.2.1) () (sub_cons rfl (sub_cons rfl (sub_cons rfl sub_nil))) (St.pick X26247 (.keep _ (.none _ (.skip _ (.keep _ (.nil _))))))
    refine lskip rfl rfl ?_
    refine lskip rfl rfl ?_
    refine lpure (v := .bool false) rfl (p_pick rfl) rfl rfl ?_
    refine Sim.of_eq (congrArg j26266 (show ((decide ((e26241.1.length : Int) = 0)) && (!e26241.2.1)) = false from by rw [k26268] <;> rfl)) ?_
    exact ljmpM J26267 false () (sub_cons rfl (sub_cons rfl (sub_cons rfl sub_nil))) (St.pick X26247 (.keep _ (.none _ (.skip _ (.keep _ (.nil _))))))
  refine dskip (nseq (dseq (dreg ?_)))
  refine lpure (v := .int .i64 e26241.2.2) rfl (p_move rfl) rfl rfl ?_
  refine lpure (v := .bool (decide (e26241.2.2 = 0))) rfl (p_eq rfl) rfl rfl ?_
  refine lpure (v := .bool (decide (e26241.2.2 = 0))) rfl (p_move rfl) rfl rfl ?_
  refine ljoinM (τ := Bool) (σ := Fz) (fun s26292 φ26293 => [(2, .pointer (some ⟨b6, 0, none⟩)), (5, .slice a26085 n26085 c26085), (9, .bool e26241.2.1), (64, .bool s26292)]) (fun s26292 φ26293 hh => St φ26293 h.n hh ([(ob26248, blk26248), (none, .dead), (some b6, .cells [.int .i64 e18921.Nodes, .slice a18925 n18925 c18925, .slice a18926 n18926 c18926] 25 .exact)]) ∧ Fz.le φ26245 φ26293) 6 ?_ ?_
  · rintro s26292 φ26293 t0 h26296 ⟨X26295, g26294⟩
    refine lpure (v := .bool s26292) rfl (p_move rfl) rfl rfl ?_
    refine ljoinM (τ := Bool) (σ := Unit) (fun s26303 (_ : Unit) => [(71, .bool s26303)]) (fun s26303 (_ : Unit) hh => St φ26293 h.n hh ([(ob26248, blk26248), (none, .dead), (some b6, .cells [.int .i64 e18921.Nodes, .slice a18925 n18925 c18925, .slice a18926 n18926 c18926] 25 .exact)])) 6 ?_ ?_
    · rintro s26303 _ t0 h26305 X26304
      refine lpure (v := .bool s26303) rfl (p_assign rfl) rfl rfl ?_
      refine lend (nseq (dret ?_))
      exact kcut_r (res_1 resT) X26304 rfl rfl
    intro j26306 J26307
    refine lif (i := 65) (show _ = Value.bool s26292 from rfl) (fun k26308 => ?_) (fun k26308 => ?_)
    · refine lpure (v := .bool e26241.2.1) rfl (p_move rfl) rfl rfl ?_
      refine lread (v := .agg #[.int .i64 e18921.Nodes, .slice a18925 n18925 c18925, .slice a18926 n18926 c18926]) rfl (q_load wd_25 rfl) (St.ld X26295 (j := 2) rfl rfl) rfl ?_
      refine lpure (v := .slice a26085 n26085 c26085) rfl (p_move rfl) rfl rfl ?_
      refine lcall rfl rfl ca_26 rfl rfl (f26_ok X26295 e18921 (s26083.1) (H18925.mono (((g26087.trans g26238).trans g26246).trans g26294)) (H18926.mono (((g26087.trans g26238).trans g26246).trans g26294)) (H26240.mono (g26246.trans g26294))) rfl (fun e26309 v26310 h26311 hq26312 => ?_)
      cases hq26312
      refine lpure (v := .bool (e26241.2.1 == e26309)) rfl (p_bin rfl) (bin_eqB un_4) rfl ?_
      refine lpure (v := .bool (e26241.2.1 == e26309)) rfl (p_pick rfl) rfl rfl ?_
      exact ljmpM J26307 (e26241.2.1 == e26309) () (sub_cons rfl sub_nil) (St.pick X26295 (.keep _ (.none _ (.skip _ (.keep _ (.nil _))))))
    refine lskip rfl rfl ?_
    refine lskip rfl rfl ?_
    refine lskip rfl rfl ?_
    refine lskip rfl rfl ?_
    refine lskip rfl rfl ?_
    refine lpure (v := .bool false) rfl (p_pick rfl) rfl rfl ?_
    exact ljmpM J26307 false () (sub_cons rfl sub_nil) (St.pick X26295 (.keep _ (.none _ (.skip _ (.keep _ (.nil _))))))
  intro j26313 J26314
  refine lif (i := 58) (show _ = Value.bool (decide (e26241.2.2 = 0)) from rfl) (fun k26315 => ?_) (fun k26315 => ?_)
  · refine lpure (v := .slice a26248 n26248 c26248) rfl (p_move rfl) rfl rfl ?_
    refine lread (v := .agg #[.int .i64 e18921.Nodes, .slice a18925 n18925 c18925, .slice a18926 n18926 c18926]) rfl (q_load wd_25 rfl) (St.ld X26247 (j := 2) rfl rfl) rfl ?_
    refine lpure (v := .slice a26085 n26085 c26085) rfl (p_move rfl) rfl rfl ?_
    refine lcall rfl rfl ca_25 rfl rfl (f25_ok X26247 e18921 (s26083.1) (H18925.mono ((g26087.trans g26238).trans g26246)) (H18926.mono ((g26087.trans g26238).trans g26246)) (H26240.mono g26246)) rfl ?_
    rintro e26316 _ h26318 ⟨φ26320, a26323, n26323, c26323, ob26323, blk26323, g26321, X26322, rfl, O26323⟩
    obtain ⟨φ26325, g26326, X26327, H26328⟩ := OSl.freeze X26322 (j := 1) rfl (O26248.mono g26321)
    obtain ⟨φ26329, g26330, X26331, H26332⟩ := OSl.freeze X26327 (j := 0) rfl (O26323.mono g26326)
    refine lcall rfl rfl ca_17 rfl rfl (f17_ok X26331 (e26241.1) e26316 (H26328.mono g26330) H26332) rfl (fun e26333 v26334 h26335 hq26336 => ?_)
    cases hq26336
    refine lpure (v := .bool e26333) rfl (p_pick rfl) rfl rfl ?_
    exact ljmpM J26314 e26333 φ26320 (sub_cons rfl (sub_cons rfl (sub_cons rfl (sub_cons rfl sub_nil)))) ⟨(St.pick X26322 (.skip _ (.keep _ (.none _ (.skip _ (.keep _ (.nil _))))))), g26321⟩
  refine lskip rfl rfl ?_
  refine lskip rfl rfl ?_
  refine lskip rfl rfl ?_
  refine lskip rfl rfl ?_
  refine lskip rfl rfl ?_
  refine lpure (v := .bool false) rfl (p_pick rfl) rfl rfl ?_
  exact ljmpM J26314 false φ26245 (sub_cons rfl (sub_cons rfl (sub_cons rfl (sub_cons rfl sub_nil)))) ⟨(St.pick X26247 (.keep _ (.none _ (.skip _ (.keep _ (.nil _)))))), (Fz.le_refl _)⟩
end Go.AM
