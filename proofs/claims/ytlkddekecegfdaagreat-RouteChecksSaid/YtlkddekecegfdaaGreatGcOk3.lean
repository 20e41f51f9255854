/- Printed: functions of the given program as functions over plain data, and that the machine does what they say; no claim of its own; no condition. -/
import Derived.Test.YtlkddekecegfdaaGreatGcOk2
set_option maxRecDepth 100000
set_option maxHeartbeats 4000000
set_option linter.unusedVariables false
set_option linter.unusedSimpArgs false
namespace Go.AM
open Go Go.Proofs

/-! isochron/isochronref16.Right -/
theorem f37_ok {n : Nat} {φ : Fz} {lo : Nat} {h : Heap} {own : OwnL}  {a18999 : Option Addr} {n18999 c18999 : Nat} {a19000 : Option Addr} {n19000 c19000 : Nat} (X : St φ lo h (own)) (p18998 : ApiTopo) (H18999 : RSl eBool φ (.slice a18999 n18999 c18999) p18998.Station) (H19000 : RSl eApiLink φ (.slice a19000 n19000 c19000) p18998.Links) : Sim ((recN Tryz.prog LL cutF (n + 3)).call 37 #[(.agg #[.int .i64 p18998.Nodes, .slice a18999 n18999 c18999, .slice a19000 n19000 c19000])] h) (m_isochronref16_Right p18998) (fun (d : Bool) p => p = (.bool d, h)) := by
  refine fcut Tryz.func37 rfl rfl rfl rfl X ?_
  intro h0 X0
  refine dseq (dreg ?_)
  refine lbox rfl rfl rfl rfl rfl X0 (fun b19001 h19003 X19004 => ?_)
  refine lpure (v := .bool false) rfl (p_assign rfl) rfl rfl ?_
  refine lend (nseq (dseq (dseq (dreg ?_))))
  refine lpure (v := .pointer (some ⟨b19001, 0, none⟩)) rfl (p_fa fo_25_0 rfl) rfl rfl ?_
  refine lread (v := .int .i64 p18998.Nodes) rfl (q_load wd_3 rfl) (St.ld X19004 (j := 0) rfl rfl) rfl ?_
  refine lpure (v := .bool (decide (p18998.Nodes < 2))) rfl (p_lt rfl) rfl rfl ?_
  refine lpure (v := .bool (decide (p18998.Nodes < 2))) rfl (p_move rfl) rfl rfl ?_
  refine lsh (τ := Bool) (σ := Unit) (fun s19006 (_ : Unit) => [(1, .pointer (some ⟨b19001, 0, none⟩)), (16, .bool s19006)]) (fun s19006 (_ : Unit) hh => St φ h.n hh ([(some b19001, .cells [.int .i64 p18998.Nodes, .slice a18999 n18999 c18999, .slice a19000 n19000 c19000] 25 .exact)])) 4 ?_ ?_
  · rintro s19006 _ t0 h19008 X19007
    refine lpure (v := .bool s19006) rfl (p_move rfl) rfl rfl ?_
    refine lsh (τ := Bool) (σ := Unit) (fun s19010 (_ : Unit) => [(1, .pointer (some ⟨b19001, 0, none⟩)), (24, .bool s19010)]) (fun s19010 (_ : Unit) hh => St φ h.n hh ([(some b19001, .cells [.int .i64 p18998.Nodes, .slice a18999 n18999 c18999, .slice a19000 n19000 c19000] 25 .exact)])) 7 ?_ ?_
    · rintro s19010 _ t0 h19012 X19011
      refine lpure (v := .bool s19010) rfl (p_move rfl) rfl rfl ?_
      refine lsh (τ := Bool) (σ := Unit) (fun s19014 (_ : Unit) => [(1, .pointer (some ⟨b19001, 0, none⟩)), (30, .bool s19014)]) (fun s19014 (_ : Unit) hh => St φ h.n hh ([(some b19001, .cells [.int .i64 p18998.Nodes, .slice a18999 n18999 c18999, .slice a19000 n19000 c19000] 25 .exact)])) 5 ?_ ?_
      · rintro s19014 _ t0 h19016 X19015
        refine lend (nseq ?_)
        refine dcond rfl rfl (fun k19017 => ?_) (fun k19017 => ?_)
        · refine dseq (dreg ?_)
          refine lpure (v := .bool false) rfl (p_assign rfl) rfl rfl ?_
          refine lend (nseq (dret (rseq ?_)))
          exact kcut_r (res_1 resT) X19015 rfl rfl
        refine dskip (nseq (dseq (dreg ?_)))
        refine lpure (v := .pointer (some ⟨b19001, 0, none⟩)) rfl (p_fa fo_25_0 rfl) rfl rfl ?_
        refine lread (v := .int .i64 p18998.Nodes) rfl (q_load wd_3 rfl) (St.ld X19015 (j := 0) rfl rfl) rfl ?_
        refine Sim.mustM fun k19018 => ?_
        have k19018 := of_decide_eq_true k19018
        obtain ⟨h19018, b19018, vs19018, hv19018, X19018, O19018⟩ := OSl.mk (E := (eInt .i64)) (φ := φ) (a0 := 0) (k := .i64) (k' := .i64) (l := p18998.Nodes) (c := p18998.Nodes) un_26 tb_3 rfl ts_3 rfl rfl tz_3 rfl rfl rfl (by omega) (by omega) (by omega) X19015
        refine lheap rfl (h_makeSlice rfl) hv19018 rfl ?_
        refine lpure (v := .slice (some ⟨b19018, 0, none⟩) (p18998.Nodes).toNat (p18998.Nodes).toNat) rfl (p_assign rfl) rfl rfl ?_
        refine lend (nseq (dseq (dseq (dreg ?_))))
        refine lpure (v := .int .i64 0) rfl (p_assign rfl) rfl rfl ?_
        refine lend (nseq (dblock ?_))
        refine dloopM (τ := (List Int) × Int) (σ := Blk) (fun s22117 blk22118 => [(1, .pointer (some ⟨b19001, 0, none⟩)), (3, .slice (some ⟨b19018, 0, none⟩) (p18998.Nodes).toNat (p18998.Nodes).toNat), (4, .int .i64 s22117.2)]) (fun s22117 blk22118 hh => St φ h.n hh ([(some b19018, blk22118), (some b19001, .cells [.int .i64 p18998.Nodes, .slice a18999 n18999 c18999, .slice a19000 n19000 c19000] 25 .exact)]) ∧ OSl (eInt .i64) φ 3 (some b19018) blk22118 (.slice (some ⟨b19018, 0, none⟩) (p18998.Nodes).toNat (p18998.Nodes).toNat) s22117.1) ((List.replicate (p18998.Nodes).toNat 0), 0) ((.cells vs19018 3 .exact)) (sub_cons rfl (sub_cons rfl (sub_cons rfl sub_nil))) ⟨X19018, O19018⟩ ?_
        rintro n22431 ih22430 s22117 blk22118 t0 h22433 ⟨X22432, O22118⟩
        refine dseq (dseq (dreg ?_))
        refine lpure (v := .int .i64 s22117.2) rfl (p_move rfl) rfl rfl ?_
        refine lpure (v := .pointer (some ⟨b19001, 2, none⟩)) rfl (p_fa fo_25_2 rfl) rfl rfl ?_
        refine lread (v := .slice a19000 n19000 c19000) rfl (q_load wd_23 rfl) (St.ld X22432 (j := 1) rfl rfl) rfl ?_
        refine lpure (v := .int .i64 (p18998.Links.length : Int)) rfl (p_len rfl rfl rfl un_23 rfl) (RSl.lenC H19000) rfl ?_
        refine lpure (v := .bool (decide (s22117.2 < (p18998.Links.length : Int)))) rfl (p_lt rfl) rfl rfl ?_
        refine lend (nseq ?_)
        refine dcond rfl rfl (fun k22434 => ?_) (fun k22434 => ?_)
        · refine dskip (nseq (dseq (dblock (dseq (dreg ?_)))))
          refine lpure (v := .pointer (some ⟨b19001, 2, none⟩)) rfl (p_fa fo_25_2 rfl) rfl rfl ?_
          refine lread (v := .slice a19000 n19000 c19000) rfl (q_load wd_23 rfl) (St.ld X22432 (j := 1) rfl rfl) rfl ?_
          refine lpure (v := .int .i64 s22117.2) rfl (p_move rfl) rfl rfl ?_
          refine Sim.bindM fun e22435 he22436 => ?_
          obtain ⟨p22437, cs22437, hp22437, hF22437, hR22437⟩ := RSl.ia H19000 he22436 (kd := .i64) (n := 4) rfl
          obtain rfl := eApiLink_el hR22437
          refine lpure (v := p22437) rfl (p_ia rs_23 rfl) hp22437 rfl ?_
          refine lread (v := .agg #[.int .i64 e22435.A, .int .i64 e22435.B, .int .i64 e22435.Per, .int .i64 e22435.Delay]) rfl (q_load wd_65 rfl) (FP.ldw X22432 hF22437 rfl rfl) rfl ?_
          refine lalloc rfl tz_65 rfl rfl rfl X22432 (fun b22438 h22440 X22441 => ?_)
          refine lstore rfl ts_65 rfl rfl (j := 0) rfl rfl rfl rfl rfl rfl X22441 (fun h22442 X22443 => ?_)
          refine lend (nseq (dseq (dseq (dreg ?_))))
          refine lread (v := .agg #[.int .i64 p18998.Nodes, .slice a18999 n18999 c18999, .slice a19000 n19000 c19000]) rfl (q_load wd_25 rfl) (St.ld X22443 (j := 2) rfl rfl) rfl ?_
          refine lread (v := .agg #[.int .i64 e22435.A, .int .i64 e22435.B, .int .i64 e22435.Per, .int .i64 e22435.Delay]) rfl (q_load wd_65 rfl) (St.ld X22443 (j := 0) rfl rfl) rfl ?_
          refine lcall rfl rfl ca_63 rfl rfl (f63_ok X22443 p18998 e22435 H18999 H19000) rfl (fun e22444 v22445 h22446 hq22447 => ?_)
          cases hq22447
          refine lpure (v := .bool (!e22444)) rfl (p_not rfl) rfl rfl ?_
          refine lend (nseq ?_)
          refine dcond rfl rfl (fun k22448 => ?_) (fun k22448 => ?_)
          · refine dseq (dreg ?_)
            refine lpure (v := .bool false) rfl (p_assign rfl) rfl rfl ?_
            refine lend (nseq (dret (rseq (rblock (rseq (rloop (rblock (rseq ?_))))))))
            exact kcut_r (res_1 resT) X22443 rfl rfl
          refine dskip (nseq (dseq (dseq (dreg ?_))))
          refine lpure (v := .int .i64 0) rfl (p_assign rfl) rfl rfl ?_
          refine lend (nseq (dblock ?_))
          refine dloopM (τ := Int) (σ := Unit) (fun s22509 (_ : Unit) => [(1, .pointer (some ⟨b19001, 0, none⟩)), (3, .slice (some ⟨b19018, 0, none⟩) (p18998.Nodes).toNat (p18998.Nodes).toNat), (4, .int .i64 s22117.2), (5, .pointer (some ⟨b22438, 0, none⟩)), (6, .int .i64 s22509)]) (fun s22509 (_ : Unit) hh => St φ h.n hh ([(some b22438, .cells [.int .i64 e22435.A, .int .i64 e22435.B, .int .i64 e22435.Per, .int .i64 e22435.Delay] 65 .exact), (some b19018, blk22118), (some b19001, .cells [.int .i64 p18998.Nodes, .slice a18999 n18999 c18999, .slice a19000 n19000 c19000] 25 .exact)])) 0 () (sub_cons rfl (sub_cons rfl (sub_cons rfl (sub_cons rfl (sub_cons rfl sub_nil))))) X22443 ?_
          rintro n22541 ih22540 s22509 _ t0 h22543 X22542
          refine dseq (dseq (dreg ?_))
          refine lpure (v := .int .i64 s22509) rfl (p_move rfl) rfl rfl ?_
          refine lpure (v := .int .i64 s22117.2) rfl (p_move rfl) rfl rfl ?_
          refine lpure (v := .bool (decide (s22509 < s22117.2))) rfl (p_lt rfl) rfl rfl ?_
          refine lend (nseq ?_)
          refine dcond rfl rfl (fun k22544 => ?_) (fun k22544 => ?_)
          · refine dskip (nseq (dseq (dblock (dseq ?_))))
            refine ddraw 0 0 0 (by kernel_rfl) ?_
            refine spure (v := .pointer (some ⟨b19001, 2, none⟩)) rfl (p_fa fo_25_2 rfl) (lo_t (lo_own X22542 (j := 2) (o := 0) (s := none) (f := 0) rfl) rfl) rfl rfl ?_
            refine sload (v := .slice a19000 n19000 c19000) rfl rfl (q_load wd_23 rfl) (St.ld X22542 (j := 2) rfl rfl) (same_self 20 rfl) rfl ?_
            refine spure (v := .int .i64 s22509) rfl (p_move rfl) (lo_t rfl rfl) rfl rfl ?_
            refine Sim.bindM fun e22545 he22546 => ?_
            obtain ⟨p22547, cs22547, hp22547, hF22547, hR22547⟩ := RSl.ia H19000 he22546 (kd := .i64) (n := 4) rfl
            obtain rfl := eApiLink_el hR22547
            refine spure (v := p22547) rfl (p_ia rs_23 rfl) (lo_t (lo_sl X22542 H19000) (lo_t rfl rfl)) hp22547 rfl ?_
            refine sload (v := .agg #[.int .i64 e22545.A, .int .i64 e22545.B, .int .i64 e22545.Per, .int .i64 e22545.Delay]) rfl rfl (q_load wd_65 rfl) (FP.ldw X22542 hF22547 rfl rfl) (same_self 20 rfl) rfl ?_
            refine spure (v := .pointer (some ⟨b22438, 0, none⟩)) rfl (p_fa fo_65_0 rfl) (lo_t (lo_own X22542 (j := 0) (o := 0) (s := none) (f := 0) rfl) rfl) rfl rfl ?_
            refine sload (v := .int .i64 e22435.A) rfl rfl (q_load wd_3 rfl) (St.ld X22542 (j := 0) rfl rfl) (same_self 20 rfl) rfl ?_
            refine spure (v := .pointer (some ⟨b22438, 1, none⟩)) rfl (p_fa fo_65_1 rfl) (lo_t (lo_own X22542 (j := 0) (o := 0) (s := none) (f := 0) rfl) rfl) rfl rfl ?_
            refine sload (v := .int .i64 e22435.B) rfl rfl (q_load wd_3 rfl) (St.ld X22542 (j := 0) rfl rfl) (same_self 20 rfl) rfl ?_
            refine scall (en := fun d => (.bool d)) rfl rfl ca_64 rfl rfl (f64_ok X22542 e22545 (e22435.A) (e22435.B)) rfl (fun e22548 => ?_)
            refine send ?_
            refine nseq ?_
            refine dcond rfl rfl (fun k22552 => ?_) (fun k22552 => ?_)
            · refine dseq (dreg ?_)
              refine lpure (v := .bool false) rfl (p_assign rfl) rfl rfl ?_
              refine lend (nseq (dret (rblock (rseq (rloop (rblock (rseq (rblock (rseq (rloop (rblock ?_)))))))))))
              refine rseq ?_
              exact kcut_r (res_1 resT) X22542 rfl rfl
            refine dskip (nblock (nseq (dreg ?_)))
            refine lpure (v := .int .i64 s22509) rfl (p_move rfl) rfl rfl ?_
            refine lpure (v := .int .i64 (w64 (s22509 + 1))) rfl (p_add rfl) rfl rfl ?_
            refine lpure (v := .int .i64 (w64 (s22509 + 1))) rfl (p_assign rfl) rfl rfl ?_
            refine lend ?_
            exact kbackM ih22540 (w64 (s22509 + 1)) () (sub_cons rfl (sub_cons rfl (sub_cons rfl (sub_cons rfl (sub_cons rfl sub_nil))))) X22542
          refine dexit (eseq (eloop (xblock (nseq (dseq ?_)))))
          refine ddraw 1024 1024 0 (by kernel_rfl) ?_
          refine spure (v := .slice (some ⟨b19018, 0, none⟩) (p18998.Nodes).toNat (p18998.Nodes).toNat) rfl (p_move rfl) (lo_t (lo_osl X22542 (j := 1) rfl O22118) rfl) rfl rfl ?_
          refine spure (v := .pointer (some ⟨b22438, 0, none⟩)) rfl (p_fa fo_65_0 rfl) (lo_t (lo_own X22542 (j := 0) (o := 0) (s := none) (f := 0) rfl) rfl) rfl rfl ?_
          refine sload (v := .int .i64 e22435.A) rfl rfl (q_load wd_3 rfl) (St.ld X22542 (j := 0) rfl rfl) (same_self 20 rfl) rfl ?_
          refine spure (v := .slice (some ⟨b19018, 0, none⟩) (p18998.Nodes).toNat (p18998.Nodes).toNat) rfl (p_move rfl) (lo_t (lo_osl X22542 (j := 1) rfl O22118) rfl) rfl rfl ?_
          refine spure (v := .pointer (some ⟨b22438, 0, none⟩)) rfl (p_fa fo_65_0 rfl) (lo_t (lo_own X22542 (j := 0) (o := 0) (s := none) (f := 0) rfl) rfl) rfl rfl ?_
          refine sload (v := .int .i64 e22435.A) rfl rfl (q_load wd_3 rfl) (St.ld X22542 (j := 0) rfl rfl) (same_self 20 rfl) rfl ?_
          refine Sim.bindM fun e22553 he22554 => ?_
          obtain ⟨vs22555, m22555, off22555, cs22555, rfl, hp22555, hc22555, hR22555, hl22555, hm22555, hs22555⟩ := OSl.iaB O22118 he22554 (kd := .i64) (n := 1) rfl
          have hR22555 : _ = [(.int .i64 e22553 : Value)] := hR22555
          subst hR22555
          refine spure (v := .pointer (some ⟨b19018, off22555, none⟩)) rfl (p_ia rs_26 rfl) (lo_t (lo_osl X22542 (j := 1) rfl O22118) (lo_t rfl rfl)) hp22555 rfl ?_
          refine sload (v := .int .i64 e22553) rfl rfl (q_load wd_3 rfl) (St.ld X22542 (j := 1) rfl (rdE1 hc22555 (k := 0) rfl rfl)) (same_self 20 rfl) rfl ?_
          refine spure (v := .int .i64 (w64 (e22553 + 1))) rfl (p_add rfl) (lo_t rfl (lo_c rfl)) rfl rfl ?_
          refine Sim.bindM fun e22556 he22557 => ?_
          obtain ⟨off22558, cs22558, hp22558, hc22558, hR22558, hl22558, hm22558, hs22558⟩ := OSl.iaC O22118 he22557 (kd := .i64) (n := 1) rfl
          have hR22558 : _ = [(.int .i64 e22556 : Value)] := hR22558
          subst hR22558
          refine spure (v := .pointer (some ⟨b19018, off22558, none⟩)) rfl (p_ia rs_26 rfl) (lo_t (lo_osl X22542 (j := 1) rfl O22118) (lo_t rfl rfl)) hp22558 rfl ?_
          have O22561 := hs22558 [.int .i64 (w64 (e22553 + 1))] ((w64 (e22553 + 1))) rfl
          refine sstore rfl rfl ts_3 rfl rfl (j := 1) rfl hm22558 rfl rfl (ble_iff.2 hl22558) rfl X22542 (fun h22559 X22560 => ?_)
          refine send ?_
          refine nseq ?_
          refine ddraw 1024 1024 0 (by kernel_rfl) ?_
          refine spure (v := .slice (some ⟨b19018, 0, none⟩) (p18998.Nodes).toNat (p18998.Nodes).toNat) rfl (p_move rfl) (lo_t (lo_osl X22560 (j := 1) rfl O22561) rfl) rfl rfl ?_
          refine spure (v := .pointer (some ⟨b22438, 1, none⟩)) rfl (p_fa fo_65_1 rfl) (lo_t (lo_own X22560 (j := 0) (o := 0) (s := none) (f := 0) rfl) rfl) rfl rfl ?_
          refine sload (v := .int .i64 e22435.B) rfl rfl (q_load wd_3 rfl) (St.ld X22560 (j := 0) rfl rfl) (same_self 20 rfl) rfl ?_
          refine spure (v := .slice (some ⟨b19018, 0, none⟩) (p18998.Nodes).toNat (p18998.Nodes).toNat) rfl (p_move rfl) (lo_t (lo_osl X22560 (j := 1) rfl O22561) rfl) rfl rfl ?_
          refine spure (v := .pointer (some ⟨b22438, 1, none⟩)) rfl (p_fa fo_65_1 rfl) (lo_t (lo_own X22560 (j := 0) (o := 0) (s := none) (f := 0) rfl) rfl) rfl rfl ?_
          refine sload (v := .int .i64 e22435.B) rfl rfl (q_load wd_3 rfl) (St.ld X22560 (j := 0) rfl rfl) (same_self 20 rfl) rfl ?_
          refine Sim.bindM fun e22562 he22563 => ?_
          obtain ⟨off22564, cs22564, hp22564, hc22564, hR22564, hl22564, hm22564, hs22564⟩ := OSl.iaC O22561 he22563 (kd := .i64) (n := 1) rfl
          have hR22564 : _ = [(.int .i64 e22562 : Value)] := hR22564
          subst hR22564
          refine spure (v := .pointer (some ⟨b19018, off22564, none⟩)) rfl (p_ia rs_26 rfl) (lo_t (lo_osl X22560 (j := 1) rfl O22561) (lo_t rfl rfl)) hp22564 rfl ?_
          refine sload (v := .int .i64 e22562) rfl rfl (q_load wd_3 rfl) (St.ld X22560 (j := 1) rfl (rdE1 hc22564 (k := 0) rfl rfl)) (same_self 20 rfl) rfl ?_
          refine spure (v := .int .i64 (w64 (e22562 + 1))) rfl (p_add rfl) (lo_t rfl (lo_c rfl)) rfl rfl ?_
          refine Sim.bindM fun e22565 he22566 => ?_
          obtain ⟨off22567, cs22567, hp22567, hc22567, hR22567, hl22567, hm22567, hs22567⟩ := OSl.iaC O22561 he22566 (kd := .i64) (n := 1) rfl
          have hR22567 : _ = [(.int .i64 e22565 : Value)] := hR22567
          subst hR22567
          refine spure (v := .pointer (some ⟨b19018, off22567, none⟩)) rfl (p_ia rs_26 rfl) (lo_t (lo_osl X22560 (j := 1) rfl O22561) (lo_t rfl rfl)) hp22567 rfl ?_
          have O22570 := hs22567 [.int .i64 (w64 (e22562 + 1))] ((w64 (e22562 + 1))) rfl
          refine sstore rfl rfl ts_3 rfl rfl (j := 1) rfl hm22567 rfl rfl (ble_iff.2 hl22567) rfl X22560 (fun h22568 X22569 => ?_)
          refine send ?_
          refine nblock (nseq (dreg ?_))
          refine lpure (v := .int .i64 s22117.2) rfl (p_move rfl) rfl rfl ?_
          refine lpure (v := .int .i64 (w64 (s22117.2 + 1))) rfl (p_add rfl) rfl rfl ?_
          refine lpure (v := .int .i64 (w64 (s22117.2 + 1))) rfl (p_assign rfl) rfl rfl ?_
          refine lend ?_
          exact kbackM ih22430 (((s22117.1.set (e22435.A).toNat (w64 (e22553 + 1))).set (e22435.B).toNat (w64 (e22562 + 1))), (w64 (s22117.2 + 1))) ((.cells (setAt (setAt vs22555 off22558 [.int .i64 (w64 (e22553 + 1))]) off22567 [.int .i64 (w64 (e22562 + 1))]) 3 m22555)) (sub_cons rfl (sub_cons rfl (sub_cons rfl sub_nil))) ⟨(St.pick X22569 (.skip _ (.keep _ (.keep _ (.nil _))))), O22570⟩
        refine dexit (eseq (eloop (xblock (nseq (dseq (dreg ?_))))))
        refine lread (v := .agg #[.int .i64 p18998.Nodes, .slice a18999 n18999 c18999, .slice a19000 n19000 c19000]) rfl (q_load wd_25 rfl) (St.ld X22432 (j := 1) rfl rfl) rfl ?_
        refine lcall rfl rfl ca_65 rfl rfl (f65_ok X22432 p18998 0 ([]) H18999 H19000 (.inl ⟨rfl, rfl⟩)) rfl ?_
        rintro e22571 _ h22573 ⟨φ22575, a22578, n22578, c22578, ob22578, blk22578, g22576, X22577, rfl, O22578⟩
        refine lpure (v := .slice a22578 n22578 c22578) rfl (p_assign rfl) rfl rfl ?_
        refine lend (nseq (dseq (dseq (dreg ?_))))
        refine lpure (v := .int .i64 0) rfl (p_assign rfl) rfl rfl ?_
        refine lend (nseq (dblock ?_))
        refine dloopM (τ := (List Int) × (List Bool) × Int) (σ := Blk × Blk) (fun s22660 (blk22661, blk22662) => [(1, .pointer (some ⟨b19001, 0, none⟩)), (3, .slice (some ⟨b19018, 0, none⟩) (p18998.Nodes).toNat (p18998.Nodes).toNat), (7, .slice a22578 n22578 c22578), (8, .int .i64 s22660.2.2)]) (fun s22660 (blk22661, blk22662) hh => St φ22575 h.n hh ([(ob22578, blk22662), (some b19018, blk22661), (some b19001, .cells [.int .i64 p18998.Nodes, .slice a18999 n18999 c18999, .slice a19000 n19000 c19000] 25 .exact)]) ∧ OSl (eInt .i64) φ22575 3 (some b19018) blk22661 (.slice (some ⟨b19018, 0, none⟩) (p18998.Nodes).toNat (p18998.Nodes).toNat) s22660.1 ∧ OSl eBool φ22575 4 ob22578 blk22662 (.slice a22578 n22578 c22578) s22660.2.1) (s22117.1, e22571, 0) (blk22118, blk22578) (sub_cons rfl (sub_cons rfl (sub_cons rfl (sub_cons rfl sub_nil)))) ⟨X22577, (O22118.mono g22576), O22578⟩ ?_
        rintro n22703 ih22702 s22660 ⟨blk22661, blk22662⟩ t0 h22705 ⟨X22704, O22661, O22662⟩
        refine dseq (dseq (dreg ?_))
        refine lpure (v := .int .i64 s22660.2.2) rfl (p_move rfl) rfl rfl ?_
        refine lpure (v := .pointer (some ⟨b19001, 0, none⟩)) rfl (p_fa fo_25_0 rfl) rfl rfl ?_
        refine lread (v := .int .i64 p18998.Nodes) rfl (q_load wd_3 rfl) (St.ld X22704 (j := 2) rfl rfl) rfl ?_
        refine lpure (v := .bool (decide (s22660.2.2 < p18998.Nodes))) rfl (p_lt rfl) rfl rfl ?_
        refine lend (nseq ?_)
        refine dcond rfl rfl (fun k22706 => ?_) (fun k22706 => ?_)
        · refine dskip (nseq (dseq (dblock (dseq (dreg ?_)))))
          refine lpure (v := .slice a22578 n22578 c22578) rfl (p_move rfl) rfl rfl ?_
          refine lpure (v := .int .i64 s22660.2.2) rfl (p_move rfl) rfl rfl ?_
          refine Sim.bindM fun e22707 he22708 => ?_
          obtain ⟨b22709, vs22709, m22709, off22709, cs22709, rfl, rfl, hp22709, hc22709, hR22709, hl22709, hm22709, hs22709⟩ := OSl.ia O22662 he22708 (kd := .i64) (n := 1) rfl
          have hR22709 : _ = [(.bool e22707 : Value)] := hR22709
          subst hR22709
          refine lpure (v := .pointer (some ⟨b22709, off22709, none⟩)) rfl (p_ia rs_22 rfl) hp22709 rfl ?_
          refine lread (v := .bool e22707) rfl (q_load wd_4 rfl) (St.ld X22704 (j := 0) rfl (rdE1 hc22709 (k := 0) rfl rfl)) rfl ?_
          refine lpure (v := .bool (!e22707)) rfl (p_not rfl) rfl rfl ?_
          refine lpure (v := .bool (!e22707)) rfl (p_move rfl) rfl rfl ?_
          refine ljoinM (τ := (List Int) × Bool) (σ := Blk) (fun s22723 blk22724 => [(1, .pointer (some ⟨b19001, 0, none⟩)), (3, .slice (some ⟨b19018, 0, none⟩) (p18998.Nodes).toNat (p18998.Nodes).toNat), (7, .slice a22578 n22578 c22578), (8, .int .i64 s22660.2.2), (118, .bool s22723.2)]) (fun s22723 blk22724 hh => St φ22575 h.n hh ([(some b22709, .cells vs22709 4 m22709), (some b19018, blk22724), (some b19001, .cells [.int .i64 p18998.Nodes, .slice a18999 n18999 c18999, .slice a19000 n19000 c19000] 25 .exact)]) ∧ OSl (eInt .i64) φ22575 3 (some b19018) blk22724 (.slice (some ⟨b19018, 0, none⟩) (p18998.Nodes).toNat (p18998.Nodes).toNat) s22723.1) 20 ?_ ?_
          · rintro s22723 blk22724 t0 h22726 ⟨X22725, O22724⟩
            refine lend (nseq ?_)
            refine dcond rfl rfl (fun k22727 => ?_) (fun k22727 => ?_)
            · refine dseq (dreg ?_)
              refine lpure (v := .bool false) rfl (p_assign rfl) rfl rfl ?_
              refine lend (nseq (dret (rblock (rseq (rloop (rblock (rseq ?_)))))))
              exact kcut_r (res_1 resT) X22725 rfl rfl
            refine dskip (nblock (nseq (dreg ?_)))
            refine lpure (v := .int .i64 s22660.2.2) rfl (p_move rfl) rfl rfl ?_
            refine lpure (v := .int .i64 (w64 (s22660.2.2 + 1))) rfl (p_add rfl) rfl rfl ?_
            refine lpure (v := .int .i64 (w64 (s22660.2.2 + 1))) rfl (p_assign rfl) rfl rfl ?_
            refine lend ?_
            exact kbackM ih22702 (s22723.1, s22660.2.1, (w64 (s22660.2.2 + 1))) (blk22724, (.cells vs22709 4 m22709)) (sub_cons rfl (sub_cons rfl (sub_cons rfl (sub_cons rfl sub_nil)))) ⟨X22725, O22724, O22662⟩
          intro j22728 J22729
          refine lif (i := 98) (show _ = Value.bool (!e22707) from rfl) (fun k22730 => ?_) (fun k22730 => ?_)
          · refine lskip rfl rfl ?_
            refine lskip rfl rfl ?_
            refine lskip rfl rfl ?_
            refine lskip rfl rfl ?_
            refine lskip rfl rfl ?_
            refine lskip rfl rfl ?_
            refine lskip rfl rfl ?_
            refine lskip rfl rfl ?_
            refine lskip rfl rfl ?_
            refine lskip rfl rfl ?_
            refine lskip rfl rfl ?_
            refine lskip rfl rfl ?_
            refine lskip rfl rfl ?_
            refine lskip rfl rfl ?_
            refine lskip rfl rfl ?_
            refine lskip rfl rfl ?_
            refine lskip rfl rfl ?_
            refine lskip rfl rfl ?_
            refine lskip rfl rfl ?_
            refine lpure (v := .bool true) rfl (p_pick rfl) rfl rfl ?_
            exact ljmpM J22729 (s22660.1, true) blk22661 (sub_cons rfl (sub_cons rfl (sub_cons rfl (sub_cons rfl (sub_cons rfl sub_nil))))) ⟨X22704, O22661⟩
          refine lpure (v := .pointer (some ⟨b19001, 1, none⟩)) rfl (p_fa fo_25_1 rfl) rfl rfl ?_
          refine lread (v := .slice a18999 n18999 c18999) rfl (q_load wd_22 rfl) (St.ld X22704 (j := 2) rfl rfl) rfl ?_
          refine lpure (v := .int .i64 s22660.2.2) rfl (p_move rfl) rfl rfl ?_
          refine Sim.bindM fun e22731 he22732 => ?_
          obtain ⟨p22733, cs22733, hp22733, hF22733, hR22733⟩ := RSl.ia (H18999.mono g22576) he22732 (kd := .i64) (n := 1) rfl
          have hR22733 : _ = [(.bool e22731 : Value)] := hR22733
          subst hR22733
          refine lpure (v := p22733) rfl (p_ia rs_22 rfl) hp22733 rfl ?_
          refine lread (v := .bool e22731) rfl (q_load wd_4 rfl) (FP.ld X22704 hF22733) rfl ?_
          refine lpure (v := .bool e22731) rfl (p_move rfl) rfl rfl ?_
          refine lif (i := 104) (show _ = Value.bool e22731 from rfl) (fun k22734 => ?_) (fun k22734 => ?_)
          · refine lpure (v := .slice (some ⟨b19018, 0, none⟩) (p18998.Nodes).toNat (p18998.Nodes).toNat) rfl (p_move rfl) rfl rfl ?_
            refine lpure (v := .int .i64 s22660.2.2) rfl (p_move rfl) rfl rfl ?_
            refine Sim.bindM fun e22735 he22736 => ?_
            obtain ⟨vs22737, m22737, off22737, cs22737, rfl, hp22737, hc22737, hR22737, hl22737, hm22737, hs22737⟩ := OSl.iaB O22661 he22736 (kd := .i64) (n := 1) rfl
            have hR22737 : _ = [(.int .i64 e22735 : Value)] := hR22737
            subst hR22737
            refine lpure (v := .pointer (some ⟨b19018, off22737, none⟩)) rfl (p_ia rs_26 rfl) hp22737 rfl ?_
            refine lread (v := .int .i64 e22735) rfl (q_load wd_3 rfl) (St.ld X22704 (j := 1) rfl (rdE1 hc22737 (k := 0) rfl rfl)) rfl ?_
            refine lpure (v := .bool (decide (e22735 < 1))) rfl (p_lt rfl) rfl rfl ?_
            refine lpure (v := .bool (decide (e22735 < 1))) rfl (p_move rfl) rfl rfl ?_
            refine lif (i := 110) (show _ = Value.bool (decide (e22735 < 1)) from rfl) (fun k22738 => ?_) (fun k22738 => ?_)
            · refine lskip rfl rfl ?_
              refine lskip rfl rfl ?_
              refine lskip rfl rfl ?_
              refine lskip rfl rfl ?_
              refine lskip rfl rfl ?_
              refine lpure (v := .bool true) rfl (p_pick rfl) rfl rfl ?_
              refine lpure (v := .bool true) rfl (p_pick rfl) rfl rfl ?_
              refine lpure (v := .bool true) rfl (p_pick rfl) rfl rfl ?_
              exact ljmpM J22729 (s22660.1, true) (.cells vs22737 3 m22737) (sub_cons rfl (sub_cons rfl (sub_cons rfl (sub_cons rfl (sub_cons rfl sub_nil))))) ⟨X22704, O22661⟩
            refine lpure (v := .slice (some ⟨b19018, 0, none⟩) (p18998.Nodes).toNat (p18998.Nodes).toNat) rfl (p_move rfl) rfl rfl ?_
            refine lpure (v := .int .i64 s22660.2.2) rfl (p_move rfl) rfl rfl ?_
            refine Sim.bindM fun e22739 he22740 => ?_
            obtain ⟨off22741, cs22741, hp22741, hc22741, hR22741, hl22741, hm22741, hs22741⟩ := OSl.iaC O22661 he22740 (kd := .i64) (n := 1) rfl
            have hR22741 : _ = [(.int .i64 e22739 : Value)] := hR22741
            subst hR22741
            refine lpure (v := .pointer (some ⟨b19018, off22741, none⟩)) rfl (p_ia rs_26 rfl) hp22741 rfl ?_
            refine lread (v := .int .i64 e22739) rfl (q_load wd_3 rfl) (St.ld X22704 (j := 1) rfl (rdE1 hc22741 (k := 0) rfl rfl)) rfl ?_
            refine lpure (v := .bool (decide (2 < e22739))) rfl (p_gt rfl) rfl rfl ?_
            refine lpure (v := .bool (decide (2 < e22739))) rfl (p_pick rfl) rfl rfl ?_
            refine lpure (v := .bool (decide (2 < e22739))) rfl (p_pick rfl) rfl rfl ?_
            refine lpure (v := .bool (decide (2 < e22739))) rfl (p_pick rfl) rfl rfl ?_
            exact ljmpM J22729 (s22660.1, (decide (2 < e22739))) (.cells vs22737 3 m22737) (sub_cons rfl (sub_cons rfl (sub_cons rfl (sub_cons rfl (sub_cons rfl sub_nil))))) ⟨X22704, O22661⟩
          refine lskip rfl rfl ?_
          refine lskip rfl rfl ?_
          refine lskip rfl rfl ?_
          refine lskip rfl rfl ?_
          refine lskip rfl rfl ?_
          refine lskip rfl rfl ?_
          refine lskip rfl rfl ?_
          refine lskip rfl rfl ?_
          refine lskip rfl rfl ?_
          refine lskip rfl rfl ?_
          refine lskip rfl rfl ?_
          refine lskip rfl rfl ?_
          refine lpure (v := .bool false) rfl (p_pick rfl) rfl rfl ?_
          refine lpure (v := .bool false) rfl (p_pick rfl) rfl rfl ?_
          exact ljmpM J22729 (s22660.1, false) blk22661 (sub_cons rfl (sub_cons rfl (sub_cons rfl (sub_cons rfl (sub_cons rfl sub_nil))))) ⟨X22704, O22661⟩
        refine dexit (eseq (eloop (xblock (nseq (dseq (dreg ?_))))))
        refine lpure (v := .bool true) rfl (p_assign rfl) rfl rfl ?_
        refine lend (nseq (dret ?_))
        exact kcut_r (res_1 resT) X22704 rfl rfl
      intro j22742 J22743
      refine lcase (i := 25) (show _ = Value.bool s19010 from rfl) (fun k22744 => ?_) (fun k22744 => ?_)
      · refine lskip rfl rfl ?_
        refine lskip rfl rfl ?_
        refine lskip rfl rfl ?_
        refine lskip rfl rfl ?_
        refine lpure (v := .bool true) rfl (p_pick rfl) rfl rfl ?_
        refine Sim.of_eq (congrArg j22742 (show (s19010 || (decide (24 < (p18998.Links.length : Int)))) = true from by rw [k22744] <;> rfl)) ?_
        exact ljmpM J22743 true () (sub_cons rfl (sub_cons rfl sub_nil)) X19011
      refine lpure (v := .pointer (some ⟨b19001, 2, none⟩)) rfl (p_fa fo_25_2 rfl) rfl rfl ?_
      refine lread (v := .slice a19000 n19000 c19000) rfl (q_load wd_23 rfl) (St.ld X19011 (j := 0) rfl rfl) rfl ?_
      refine lpure (v := .int .i64 (p18998.Links.length : Int)) rfl (p_len rfl rfl rfl un_23 rfl) (RSl.lenC H19000) rfl ?_
      refine lpure (v := .bool (decide (24 < (p18998.Links.length : Int)))) rfl (p_gt rfl) rfl rfl ?_
      refine lpure (v := .bool (decide (24 < (p18998.Links.length : Int)))) rfl (p_pick rfl) rfl rfl ?_
      refine Sim.of_eq (congrArg j22742 (show (s19010 || (decide (24 < (p18998.Links.length : Int)))) = (decide (24 < (p18998.Links.length : Int))) from by rw [k22744] <;> rfl)) ?_
      exact ljmpM J22743 (decide (24 < (p18998.Links.length : Int))) () (sub_cons rfl (sub_cons rfl sub_nil)) X19011
    intro j22745 J22746
    refine lcase (i := 17) (show _ = Value.bool s19006 from rfl) (fun k22747 => ?_) (fun k22747 => ?_)
    · refine lskip rfl rfl ?_
      refine lskip rfl rfl ?_
      refine lskip rfl rfl ?_
      refine lskip rfl rfl ?_
      refine lskip rfl rfl ?_
      refine lskip rfl rfl ?_
      refine lpure (v := .bool true) rfl (p_pick rfl) rfl rfl ?_
      refine Sim.of_eq (congrArg j22745 (show (s19006 || (decide ((p18998.Station.length : Int) ≠ p18998.Nodes))) = true from by rw [k22747] <;> rfl)) ?_
      exact ljmpM J22746 true () (sub_cons rfl (sub_cons rfl sub_nil)) X19007
    refine lpure (v := .pointer (some ⟨b19001, 1, none⟩)) rfl (p_fa fo_25_1 rfl) rfl rfl ?_
    refine lread (v := .slice a18999 n18999 c18999) rfl (q_load wd_22 rfl) (St.ld X19007 (j := 0) rfl rfl) rfl ?_
    refine lpure (v := .int .i64 (p18998.Station.length : Int)) rfl (p_len rfl rfl rfl un_22 rfl) (RSl.lenC H18999) rfl ?_
    refine lpure (v := .pointer (some ⟨b19001, 0, none⟩)) rfl (p_fa fo_25_0 rfl) rfl rfl ?_
    refine lread (v := .int .i64 p18998.Nodes) rfl (q_load wd_3 rfl) (St.ld X19007 (j := 0) rfl rfl) rfl ?_
    refine lpure (v := .bool (decide ((p18998.Station.length : Int) ≠ p18998.Nodes))) rfl (p_ne rfl) rfl rfl ?_
    refine lpure (v := .bool (decide ((p18998.Station.length : Int) ≠ p18998.Nodes))) rfl (p_pick rfl) rfl rfl ?_
    refine Sim.of_eq (congrArg j22745 (show (s19006 || (decide ((p18998.Station.length : Int) ≠ p18998.Nodes))) = (decide ((p18998.Station.length : Int) ≠ p18998.Nodes)) from by rw [k22747] <;> rfl)) ?_
    exact ljmpM J22746 (decide ((p18998.Station.length : Int) ≠ p18998.Nodes)) () (sub_cons rfl (sub_cons rfl sub_nil)) X19007
  intro j22748 J22749
  refine lcase (i := 12) (show _ = Value.bool (decide (p18998.Nodes < 2)) from rfl) (fun k22750 => ?_) (fun k22750 => ?_)
  · refine lskip rfl rfl ?_
    refine lskip rfl rfl ?_
    refine lskip rfl rfl ?_
    refine lpure (v := .bool true) rfl (p_pick rfl) rfl rfl ?_
    refine Sim.of_eq (congrArg j22748 (show ((decide (p18998.Nodes < 2)) || (decide (12 < p18998.Nodes))) = true from by rw [k22750] <;> rfl)) ?_
    exact ljmpM J22749 true () (sub_cons rfl (sub_cons rfl sub_nil)) X19004
  refine lpure (v := .pointer (some ⟨b19001, 0, none⟩)) rfl (p_fa fo_25_0 rfl) rfl rfl ?_
  refine lread (v := .int .i64 p18998.Nodes) rfl (q_load wd_3 rfl) (St.ld X19004 (j := 0) rfl rfl) rfl ?_
  refine lpure (v := .bool (decide (12 < p18998.Nodes))) rfl (p_gt rfl) rfl rfl ?_
  refine lpure (v := .bool (decide (12 < p18998.Nodes))) rfl (p_pick rfl) rfl rfl ?_
  refine Sim.of_eq (congrArg j22748 (show ((decide (p18998.Nodes < 2)) || (decide (12 < p18998.Nodes))) = (decide (12 < p18998.Nodes)) from by rw [k22750] <;> rfl)) ?_
  exact ljmpM J22749 (decide (12 < p18998.Nodes)) () (sub_cons rfl (sub_cons rfl sub_nil)) X19004
/-! isochron/isochronref16.Port -/
theorem f66_ok {n : Nat} {φ : Fz} {lo : Nat} {h : Heap} {own : OwnL}  {a22783 : Option Addr} {n22783 c22783 : Nat} {a22784 : Option Addr} {n22784 c22784 : Nat} (X : St φ lo h (own)) (p22782 : ApiTopo) (p22785 : Int) (H22783 : RSl eBool φ (.slice a22783 n22783 c22783) p22782.Station) (H22784 : RSl eApiLink φ (.slice a22784 n22784 c22784) p22782.Links) : Sim ((recN Tryz.prog LL cutF (n + 1)).call 66 #[(.agg #[.int .i64 p22782.Nodes, .slice a22783 n22783 c22783, .slice a22784 n22784 c22784]), (.int .i64 p22785)] h) (m_isochronref16_Port p22782 p22785) (fun (d : Bool) p => p = (.bool d, h)) := by
  refine fcut Tryz.func66 rfl rfl rfl rfl X ?_
  intro h0 X0
  refine dseq (dreg ?_)
  refine lbox rfl rfl rfl rfl rfl X0 (fun b22786 h22788 X22789 => ?_)
  refine lpure (v := .bool false) rfl (p_assign rfl) rfl rfl ?_
  refine lend (nseq (dseq (dreg ?_)))
  refine lpure (v := .int .i64 p22785) rfl (p_move rfl) rfl rfl ?_
  refine lpure (v := .bool (decide (0 ≤ p22785))) rfl (p_ge rfl) rfl rfl ?_
  refine lpure (v := .bool (decide (0 ≤ p22785))) rfl (p_move rfl) rfl rfl ?_
  refine lsh (τ := Bool) (σ := Unit) (fun s22791 (_ : Unit) => [(14, .bool s22791)]) (fun s22791 (_ : Unit) hh => St φ h.n hh ([(some b22786, .cells [.int .i64 p22782.Nodes, .slice a22783 n22783 c22783, .slice a22784 n22784 c22784] 25 .exact)])) 7 ?_ ?_
  · rintro s22791 _ t0 h22793 X22792
    refine lpure (v := .bool s22791) rfl (p_assign rfl) rfl rfl ?_
    refine lend (nseq (dret ?_))
    exact kcut_r (res_1 resT) X22792 rfl rfl
  intro j22794 J22795
  refine lcase (i := 7) (show _ = Value.bool (decide (0 ≤ p22785)) from rfl) (fun k22796 => ?_) (fun k22796 => ?_)
  · refine lpure (v := .int .i64 p22785) rfl (p_move rfl) rfl rfl ?_
    refine lpure (v := .pointer (some ⟨b22786, 2, none⟩)) rfl (p_fa fo_25_2 rfl) rfl rfl ?_
    refine lread (v := .slice a22784 n22784 c22784) rfl (q_load wd_23 rfl) (St.ld X22789 (j := 0) rfl rfl) rfl ?_
    refine lpure (v := .int .i64 (p22782.Links.length : Int)) rfl (p_len rfl rfl rfl un_23 rfl) (RSl.lenC H22784) rfl ?_
    refine lpure (v := .int .i64 (w64 (2 * (p22782.Links.length : Int)))) rfl (p_mul rfl) rfl rfl ?_
    refine lpure (v := .bool (decide (p22785 < (w64 (2 * (p22782.Links.length : Int)))))) rfl (p_lt rfl) rfl rfl ?_
    refine lpure (v := .bool (decide (p22785 < (w64 (2 * (p22782.Links.length : Int)))))) rfl (p_pick rfl) rfl rfl ?_
    refine Sim.of_eq (congrArg j22794 (show ((decide (0 ≤ p22785)) && (decide (p22785 < (w64 (2 * (p22782.Links.length : Int)))))) = (decide (p22785 < (w64 (2 * (p22782.Links.length : Int))))) from by rw [k22796] <;> rfl)) ?_
    exact ljmpM J22795 (decide (p22785 < (w64 (2 * (p22782.Links.length : Int))))) () (sub_cons rfl sub_nil) X22789
  refine lskip rfl rfl ?_
  refine lskip rfl rfl ?_
  refine lskip rfl rfl ?_
  refine lskip rfl rfl ?_
  refine lskip rfl rfl ?_
  refine lskip rfl rfl ?_
  refine lpure (v := .bool false) rfl (p_pick rfl) rfl rfl ?_
  refine Sim.of_eq (congrArg j22794 (show ((decide (0 ≤ p22785)) && (decide (p22785 < (w64 (2 * (p22782.Links.length : Int)))))) = false from by rw [k22796] <;> rfl)) ?_
  exact ljmpM J22795 false () (sub_cons rfl sub_nil) X22789
/-! isochron/isochronref16.From -/
theorem f41_ok {n : Nat} {φ : Fz} {lo : Nat} {h : Heap} {own : OwnL}  {a22815 : Option Addr} {n22815 c22815 : Nat} {a22816 : Option Addr} {n22816 c22816 : Nat} (X : St φ lo h (own)) (p22814 : ApiTopo) (p22817 : Int) (H22815 : RSl eBool φ (.slice a22815 n22815 c22815) p22814.Station) (H22816 : RSl eApiLink φ (.slice a22816 n22816 c22816) p22814.Links) : Sim ((recN Tryz.prog LL cutF (n + 1)).call 41 #[(.agg #[.int .i64 p22814.Nodes, .slice a22815 n22815 c22815, .slice a22816 n22816 c22816]), (.int .i64 p22817)] h) (m_isochronref16_From p22814 p22817) (fun (d : Int) p => p = (.int .i64 d, h)) := by
  refine fcut Tryz.func41 rfl rfl rfl rfl X ?_
  intro h0 X0
  refine dseq (dreg ?_)
  refine lbox rfl rfl rfl rfl rfl X0 (fun b22818 h22820 X22821 => ?_)
  refine lpure (v := .int .i64 0) rfl (p_assign rfl) rfl rfl ?_
  refine lend (nseq (dseq (dreg ?_)))
  refine lpure (v := .pointer (some ⟨b22818, 2, none⟩)) rfl (p_fa fo_25_2 rfl) rfl rfl ?_
  refine lread (v := .slice a22816 n22816 c22816) rfl (q_load wd_23 rfl) (St.ld X22821 (j := 0) rfl rfl) rfl ?_
  refine lpure (v := .int .i64 p22817) rfl (p_move rfl) rfl rfl ?_
  refine lpure (v := .int .i64 (w64 (Int.tdiv p22817 2))) rfl (p_quo rfl) rfl rfl ?_
  refine Sim.bindM fun e22822 he22823 => ?_
  obtain ⟨p22824, cs22824, hp22824, hF22824, hR22824⟩ := RSl.ia H22816 he22823 (kd := .i64) (n := 4) rfl
  obtain rfl := eApiLink_el hR22824
  refine lpure (v := p22824) rfl (p_ia rs_23 rfl) hp22824 rfl ?_
  refine lread (v := .agg #[.int .i64 e22822.A, .int .i64 e22822.B, .int .i64 e22822.Per, .int .i64 e22822.Delay]) rfl (q_load wd_65 rfl) (FP.ldw X22821 hF22824 rfl rfl) rfl ?_
  refine lalloc rfl tz_65 rfl rfl rfl X22821 (fun b22825 h22827 X22828 => ?_)
  refine lstore rfl ts_65 rfl rfl (j := 0) rfl rfl rfl rfl rfl rfl X22828 (fun h22829 X22830 => ?_)
  refine lend (nseq (dseq (dseq (dreg ?_))))
  refine lpure (v := .int .i64 p22817) rfl (p_move rfl) rfl rfl ?_
  refine lpure (v := .int .i64 (Int.tmod p22817 2)) rfl (p_rem rfl) rfl rfl ?_
  refine lpure (v := .bool (decide ((Int.tmod p22817 2) = 1))) rfl (p_eq rfl) rfl rfl ?_
  refine lend (nseq ?_)
  refine dcond rfl rfl (fun k22831 => ?_) (fun k22831 => ?_)
  · refine dseq (dreg ?_)
    refine lpure (v := .pointer (some ⟨b22825, 1, none⟩)) rfl (p_fa fo_65_1 rfl) rfl rfl ?_
    refine lread (v := .int .i64 e22822.B) rfl (q_load wd_3 rfl) (St.ld X22830 (j := 0) rfl rfl) rfl ?_
    refine lpure (v := .int .i64 e22822.B) rfl (p_assign rfl) rfl rfl ?_
    refine lend (nseq (dret (rseq ?_)))
    exact kcut_r (res_1 resT) X22830 rfl rfl
  refine dskip (nseq (dseq (dreg ?_)))
  refine lpure (v := .pointer (some ⟨b22825, 0, none⟩)) rfl (p_fa fo_65_0 rfl) rfl rfl ?_
  refine lread (v := .int .i64 e22822.A) rfl (q_load wd_3 rfl) (St.ld X22830 (j := 0) rfl rfl) rfl ?_
  refine lpure (v := .int .i64 e22822.A) rfl (p_assign rfl) rfl rfl ?_
  refine lend (nseq (dret ?_))
  exact kcut_r (res_1 resT) X22830 rfl rfl
/-! isochron/isochronref16.To -/
theorem f42_ok {n : Nat} {φ : Fz} {lo : Nat} {h : Heap} {own : OwnL}  {a22847 : Option Addr} {n22847 c22847 : Nat} {a22848 : Option Addr} {n22848 c22848 : Nat} (X : St φ lo h (own)) (p22846 : ApiTopo) (p22849 : Int) (H22847 : RSl eBool φ (.slice a22847 n22847 c22847) p22846.Station) (H22848 : RSl eApiLink φ (.slice a22848 n22848 c22848) p22846.Links) : Sim ((recN Tryz.prog LL cutF (n + 1)).call 42 #[(.agg #[.int .i64 p22846.Nodes, .slice a22847 n22847 c22847, .slice a22848 n22848 c22848]), (.int .i64 p22849)] h) (m_isochronref16_To p22846 p22849) (fun (d : Int) p => p = (.int .i64 d, h)) := by
  refine fcut Tryz.func42 rfl rfl rfl rfl X ?_
  intro h0 X0
  refine dseq (dreg ?_)
  refine lbox rfl rfl rfl rfl rfl X0 (fun b22850 h22852 X22853 => ?_)
  refine lpure (v := .int .i64 0) rfl (p_assign rfl) rfl rfl ?_
  refine lend (nseq (dseq (dreg ?_)))
  refine lpure (v := .pointer (some ⟨b22850, 2, none⟩)) rfl (p_fa fo_25_2 rfl) rfl rfl ?_
  refine lread (v := .slice a22848 n22848 c22848) rfl (q_load wd_23 rfl) (St.ld X22853 (j := 0) rfl rfl) rfl ?_
  refine lpure (v := .int .i64 p22849) rfl (p_move rfl) rfl rfl ?_
  refine lpure (v := .int .i64 (w64 (Int.tdiv p22849 2))) rfl (p_quo rfl) rfl rfl ?_
  refine Sim.bindM fun e22854 he22855 => ?_
  obtain ⟨p22856, cs22856, hp22856, hF22856, hR22856⟩ := RSl.ia H22848 he22855 (kd := .i64) (n := 4) rfl
  obtain rfl := eApiLink_el hR22856
  refine lpure (v := p22856) rfl (p_ia rs_23 rfl) hp22856 rfl ?_
  refine lread (v := .agg #[.int .i64 e22854.A, .int .i64 e22854.B, .int .i64 e22854.Per, .int .i64 e22854.Delay]) rfl (q_load wd_65 rfl) (FP.ldw X22853 hF22856 rfl rfl) rfl ?_
  refine lalloc rfl tz_65 rfl rfl rfl X22853 (fun b22857 h22859 X22860 => ?_)
  refine lstore rfl ts_65 rfl rfl (j := 0) rfl rfl rfl rfl rfl rfl X22860 (fun h22861 X22862 => ?_)
  refine lend (nseq (dseq (dseq (dreg ?_))))
  refine lpure (v := .int .i64 p22849) rfl (p_move rfl) rfl rfl ?_
  refine lpure (v := .int .i64 (Int.tmod p22849 2)) rfl (p_rem rfl) rfl rfl ?_
  refine lpure (v := .bool (decide ((Int.tmod p22849 2) = 1))) rfl (p_eq rfl) rfl rfl ?_
  refine lend (nseq ?_)
  refine dcond rfl rfl (fun k22863 => ?_) (fun k22863 => ?_)
  · refine dseq (dreg ?_)
    refine lpure (v := .pointer (some ⟨b22857, 0, none⟩)) rfl (p_fa fo_65_0 rfl) rfl rfl ?_
    refine lread (v := .int .i64 e22854.A) rfl (q_load wd_3 rfl) (St.ld X22862 (j := 0) rfl rfl) rfl ?_
    refine lpure (v := .int .i64 e22854.A) rfl (p_assign rfl) rfl rfl ?_
    refine lend (nseq (dret (rseq ?_)))
    exact kcut_r (res_1 resT) X22862 rfl rfl
  refine dskip (nseq (dseq (dreg ?_)))
  refine lpure (v := .pointer (some ⟨b22857, 1, none⟩)) rfl (p_fa fo_65_1 rfl) rfl rfl ?_
  refine lread (v := .int .i64 e22854.B) rfl (q_load wd_3 rfl) (St.ld X22862 (j := 0) rfl rfl) rfl ?_
  refine lpure (v := .int .i64 e22854.B) rfl (p_assign rfl) rfl rfl ?_
  refine lend (nseq (dret ?_))
  exact kcut_r (res_1 resT) X22862 rfl rfl
/-! isochron/isochronref21.Nodes -/
theorem f16_ok {n : Nat} {φ : Fz} {lo : Nat} {h : Heap} {own : OwnL}  {a22925 : Option Addr} {n22925 c22925 : Nat} {a22926 : Option Addr} {n22926 c22926 : Nat} {a22928 : Option Addr} {n22928 c22928 : Nat} (X : St φ lo h (own)) (p22924 : ApiTopo) (p22927 : (List Int)) (H22925 : RSl eBool φ (.slice a22925 n22925 c22925) p22924.Station) (H22926 : RSl eApiLink φ (.slice a22926 n22926 c22926) p22924.Links) (H22928 : RSl (eInt .i64) φ (.slice a22928 n22928 c22928) p22927) : Sim ((recN Tryz.prog LL cutF (n + 2)).call 16 #[(.agg #[.int .i64 p22924.Nodes, .slice a22925 n22925 c22925, .slice a22926 n22926 c22926]), (.slice a22928 n22928 c22928)] h) (m_isochronref21_Nodes p22924 p22927) (fun (d : (List Int)) p => ∃ φ2 : Fz, ∃ a23007 : Option Addr, ∃ n23007 : Nat, ∃ c23007 : Nat, ∃ ob23007 : Option Nat, ∃ blk23007 : Blk, Fz.le φ φ2 ∧ St φ2 lo p.2 ((ob23007, blk23007) :: own) ∧ p.1 = .slice a23007 n23007 c23007 ∧ OSl (eInt .i64) φ2 3 ob23007 blk23007 (.slice a23007 n23007 c23007) d) := by
  refine fopen Tryz.func16 rfl rfl rfl rfl ?_
  refine dseq (dreg ?_)
  refine lbox rfl rfl rfl rfl rfl X (fun b22929 h22931 X22932 => ?_)
  refine lpure (v := .slice none 0 0) rfl (p_assign rfl) rfl rfl ?_
  refine lend (nseq (dseq ?_))
  refine dgo_start (n := 7) rfl (by kernel_rfl) ?_
  refine gload (v := .agg #[.int .i64 p22924.Nodes, .slice a22925 n22925 c22925, .slice a22926 n22926 c22926]) rfl (q_load wd_25 rfl) (St.ld X22932 (j := 0) rfl rfl) rfl ?_
  refine gpure (v := .slice a22928 n22928 c22928) rfl (p_move rfl) (lo_t (lo_sl X22932 H22928) rfl) rfl rfl ?_
  refine Sim.bindM fun e22933 he22934 => ?_
  obtain ⟨p22935, cs22935, hp22935, hF22935, hR22935⟩ := RSl.ia H22928 he22934 (kd := .i64) (n := 1) rfl
  have hR22935 : _ = [(.int .i64 e22933 : Value)] := hR22935
  subst hR22935
  refine gpure (v := p22935) rfl (p_ia rs_27 rfl) (lo_t (lo_sl X22932 H22928) (lo_c rfl)) hp22935 rfl ?_
  refine gload (v := .int .i64 e22933) rfl (q_load wd_3 rfl) (FP.ld X22932 hF22935) rfl ?_
  refine gwait rfl (still_call rfl rfl ca_41 rfl) rfl ?_
  refine dgo_skip ?_
  refine dgo_skip ?_
  refine gcall (m := 6) [false, false] (rk_cons (q_load wd_3 rfl) (FP.ld X22932 hF22935) (same_self 20 rfl) (rk_cons (q_load wd_25 rfl) (St.ld X22932 (j := 0) rfl rfl) (same_self 20 rfl) rk_nil)) rfl rfl rfl rfl rfl ca_41 rfl rfl (f41_ok X22932 p22924 e22933 H22925 H22926) rfl (fun e22936 v22937 h22938 hq22939 => ?_)
  cases hq22939
  refine dgo_skip ?_
  refine dgo_skip ?_
  refine dgo_skip ?_
  refine dgo_skip ?_
  refine dgo_skip ?_
  obtain ⟨hv22940, ho22941⟩ := lay_at (E := (eInt .i64)) (φ := φ) (cs := [.int .i64 e22936]) (l := [e22936]) (len := 1) (parts := [(0, .int .i64 e22936)]) un_26 ts_3 rfl rfl rfl tz_3 rfl rfl (show RowD (eInt .i64) φ [.int .i64 e22936] [e22936] from ⟨[.int .i64 e22936], _, rfl, rfl, rfl⟩) rfl rfl
  refine glay rfl rfl rfl hv22940 rfl rfl X22932 (fun b22940 h22940 X22940 => ?_)
  have O22940 := ho22941 b22940
  refine gpure (v := .slice (some ⟨b22940, 0, none⟩) 1 1) rfl (p_assign rfl) (lo_t (lo_osl X22940 (j := 0) rfl O22940) rfl) rfl rfl ?_
  refine gend rk_nil ?_
  refine nseq (dseq (dseq (dreg ?_)))
  refine lpure (v := .int .i64 0) rfl (p_assign rfl) rfl rfl ?_
  refine lend (nseq (dblock ?_))
  refine dloopM (τ := (List Int) × Int) (σ := Option Addr × Nat × Nat × Option Nat × Blk) (fun s22974 (a22975, n22975, c22975, ob22975, blk22975) => [(1, .slice a22928 n22928 c22928), (2, .pointer (some ⟨b22929, 0, none⟩)), (5, .slice a22975 n22975 c22975), (6, .int .i64 s22974.2)]) (fun s22974 (a22975, n22975, c22975, ob22975, blk22975) hh => St φ lo hh ((ob22975, blk22975) :: (some b22929, .cells [.int .i64 p22924.Nodes, .slice a22925 n22925 c22925, .slice a22926 n22926 c22926] 25 .exact) :: own) ∧ OSl (eInt .i64) φ 3 ob22975 blk22975 (.slice a22975 n22975 c22975) s22974.1) ([e22936], 0) ((some ⟨b22940, 0, none⟩), 1, 1, some b22940, (.cells [.int .i64 e22936] 3 .exact)) (sub_cons rfl (sub_cons rfl (sub_cons rfl (sub_cons rfl sub_nil)))) ⟨X22940, O22940⟩ ?_
  rintro n22992 ih22991 s22974 ⟨a22975, n22975, c22975, ob22975, blk22975⟩ t0 h22994 ⟨X22993, O22975⟩
  refine dseq (dseq (dreg ?_))
  refine lpure (v := .int .i64 s22974.2) rfl (p_move rfl) rfl rfl ?_
  refine lpure (v := .slice a22928 n22928 c22928) rfl (p_move rfl) rfl rfl ?_
  refine lpure (v := .int .i64 (p22927.length : Int)) rfl (p_len rfl rfl rfl un_27 rfl) (RSl.lenC H22928) rfl ?_
  refine lpure (v := .bool (decide (s22974.2 < (p22927.length : Int)))) rfl (p_lt rfl) rfl rfl ?_
  refine lend (nseq ?_)
  refine dcond rfl rfl (fun k22995 => ?_) (fun k22995 => ?_)
  · refine dskip (nseq (dseq (dblock ?_)))
    refine dgo_start (n := 10) rfl (by kernel_rfl) ?_
    refine gpure (v := .slice a22975 n22975 c22975) rfl (p_move rfl) (lo_t (lo_osl X22993 (j := 0) rfl O22975) rfl) rfl rfl ?_
    refine gload (v := .agg #[.int .i64 p22924.Nodes, .slice a22925 n22925 c22925, .slice a22926 n22926 c22926]) rfl (q_load wd_25 rfl) (St.ld X22993 (j := 1) rfl rfl) rfl ?_
    refine gpure (v := .slice a22928 n22928 c22928) rfl (p_move rfl) (lo_t (lo_sl X22993 H22928) rfl) rfl rfl ?_
    refine gpure (v := .int .i64 s22974.2) rfl (p_move rfl) (lo_t rfl rfl) rfl rfl ?_
    refine Sim.bindM fun e22996 he22997 => ?_
    obtain ⟨p22998, cs22998, hp22998, hF22998, hR22998⟩ := RSl.ia H22928 he22997 (kd := .i64) (n := 1) rfl
    have hR22998 : _ = [(.int .i64 e22996 : Value)] := hR22998
    subst hR22998
    refine gpure (v := p22998) rfl (p_ia rs_27 rfl) (lo_t (lo_sl X22993 H22928) (lo_t rfl rfl)) hp22998 rfl ?_
    refine gload (v := .int .i64 e22996) rfl (q_load wd_3 rfl) (FP.ld X22993 hF22998) rfl ?_
    refine gwait rfl (still_call rfl rfl ca_42 rfl) rfl ?_
    refine dgo_skip ?_
    refine dgo_skip ?_
    refine dgo_skip ?_
    refine gcall (m := 9) [false, false] (rk_cons (q_load wd_3 rfl) (FP.ld X22993 hF22998) (same_self 20 rfl) (rk_cons (q_load wd_25 rfl) (St.ld X22993 (j := 1) rfl rfl) (same_self 20 rfl) rk_nil)) rfl rfl rfl rfl rfl ca_42 rfl rfl (f42_ok X22993 p22924 e22996 H22925 H22926) rfl (fun e22999 v23000 h23001 hq23002 => ?_)
    cases hq23002
    refine dgo_skip ?_
    refine dgo_skip ?_
    refine dgo_skip ?_
    refine dgo_skip ?_
    refine dgo_skip ?_
    refine dgo_skip ?_
    refine dgo_skip ?_
    obtain ⟨hv23003, ho23004⟩ := lay_at (E := (eInt .i64)) (φ := φ) (cs := [.int .i64 e22999]) (l := [e22999]) (len := 1) (parts := [(0, .int .i64 e22999)]) un_26 ts_3 rfl rfl rfl tz_3 rfl rfl (show RowD (eInt .i64) φ [.int .i64 e22999] [e22999] from ⟨[.int .i64 e22999], _, rfl, rfl, rfl⟩) rfl rfl
    refine glay rfl rfl rfl hv23003 rfl rfl X22993 (fun b23003 h23003 X23003 => ?_)
    have O23003 := ho23004 b23003
    obtain ⟨ws23006, hw23006⟩ := OSl.read O23003 X23003 (k := 0) rfl (n := 1) rfl
    refine Sim.mustM fun k23006 => ?_
    obtain ⟨h23006, a23006, c23006, ob23006, blk23006, hv23006, X23006, O23006⟩ := OSl.append O22975 X23003 (j := 1) rfl hw23006 k23006 (ts := #[26, 26]) rfl un_26 (argOk_of ax_26_26) ts_3 rfl rfl tb_3 rfl tz_3 rfl
    refine geither (m := 8) rfl (append_still rfl rfl rfl rfl hv23006) rk_nil rfl (h_builtin rfl rfl) hv23006 rfl ?_
    refine gpure (v := .slice a23006 (s22974.1.length + ([e22999]).length) c23006) rfl (p_assign rfl) (lo_t (lo_osl X23006 (j := 1) rfl O23006) rfl) rfl rfl ?_
    refine gend rk_nil ?_
    refine nblock (nseq (dreg ?_))
    refine lpure (v := .int .i64 s22974.2) rfl (p_move rfl) rfl rfl ?_
    refine lpure (v := .int .i64 (w64 (s22974.2 + 1))) rfl (p_add rfl) rfl rfl ?_
    refine lpure (v := .int .i64 (w64 (s22974.2 + 1))) rfl (p_assign rfl) rfl rfl ?_
    refine lend ?_
    exact kbackM ih22991 ((s22974.1 ++ ([e22999])), (w64 (s22974.2 + 1))) (a23006, (s22974.1.length + ([e22999]).length), c23006, ob23006, blk23006) (sub_cons rfl (sub_cons rfl (sub_cons rfl (sub_cons rfl sub_nil)))) ⟨(St.pick X23006 (.skip _ (.keep _ (.keep _ (.refl _))))), O23006⟩
  refine dexit (eseq (eloop (xblock (nseq (dseq (dreg ?_))))))
  refine lpure (v := .slice a22975 n22975 c22975) rfl (p_move rfl) rfl rfl ?_
  refine lpure (v := .slice a22975 n22975 c22975) rfl (p_assign rfl) rfl rfl ?_
  refine lend (nseq (dret ?_))
  exact kopen_r (res_1 resT) ⟨φ, a22975, n22975, c22975, ob22975, blk22975, (Fz.le_refl _), St.pick X22993 (.keep _ (.skip _ (.refl _))), rfl, O22975⟩
/-! isochron/isochronref21.Right -/
theorem f38_ok {n : Nat} {φ : Fz} {lo : Nat} {h : Heap} {own : OwnL}  {a22765 : Option Addr} {n22765 c22765 : Nat} {a22766 : Option Addr} {n22766 c22766 : Nat} {a22768 : Option Addr} {n22768 c22768 : Nat} (X : St φ lo h (own)) (p22764 : ApiTopo) (p22767 : (List Int)) (H22765 : RSl eBool φ (.slice a22765 n22765 c22765) p22764.Station) (H22766 : RSl eApiLink φ (.slice a22766 n22766 c22766) p22764.Links) (H22768 : RSl (eInt .i64) φ (.slice a22768 n22768 c22768) p22767) : Sim ((recN Tryz.prog LL cutF (n + 3)).call 38 #[(.agg #[.int .i64 p22764.Nodes, .slice a22765 n22765 c22765, .slice a22766 n22766 c22766]), (.slice a22768 n22768 c22768)] h) (m_isochronref21_Right p22764 p22767) (fun (d : Bool) p => p = (.bool d, h)) := by
  refine fcut Tryz.func38 rfl rfl rfl rfl X ?_
  intro h0 X0
  refine dseq (dreg ?_)
  refine lbox rfl rfl rfl rfl rfl X0 (fun b22769 h22771 X22772 => ?_)
  refine lpure (v := .bool false) rfl (p_assign rfl) rfl rfl ?_
  refine lend (nseq (dseq (dseq (dreg ?_))))
  refine lpure (v := .slice a22768 n22768 c22768) rfl (p_move rfl) rfl rfl ?_
  refine lpure (v := .int .i64 (p22767.length : Int)) rfl (p_len rfl rfl rfl un_27 rfl) (RSl.lenC H22768) rfl ?_
  refine lpure (v := .bool (decide ((p22767.length : Int) < 1))) rfl (p_lt rfl) rfl rfl ?_
  refine lpure (v := .bool (decide ((p22767.length : Int) < 1))) rfl (p_move rfl) rfl rfl ?_
  refine lsh (τ := Bool) (σ := Unit) (fun s22774 (_ : Unit) => [(1, .slice a22768 n22768 c22768), (2, .pointer (some ⟨b22769, 0, none⟩)), (15, .bool s22774)]) (fun s22774 (_ : Unit) hh => St φ h.n hh ([(some b22769, .cells [.int .i64 p22764.Nodes, .slice a22765 n22765 c22765, .slice a22766 n22766 c22766] 25 .exact)])) 4 ?_ ?_
  · rintro s22774 _ t0 h22776 X22775
    refine lend (nseq ?_)
    refine dcond rfl rfl (fun k22777 => ?_) (fun k22777 => ?_)
    · refine dseq (dreg ?_)
      refine lpure (v := .bool false) rfl (p_assign rfl) rfl rfl ?_
      refine lend (nseq (dret (rseq ?_)))
      exact kcut_r (res_1 resT) X22775 rfl rfl
    refine dskip (nseq (dseq (dseq (dreg ?_))))
    refine lpure (v := .int .i64 0) rfl (p_assign rfl) rfl rfl ?_
    refine lend (nseq (dblock ?_))
    refine dloopM (τ := Int) (σ := Unit) (fun s23491 (_ : Unit) => [(1, .slice a22768 n22768 c22768), (2, .pointer (some ⟨b22769, 0, none⟩)), (5, .int .i64 s23491)]) (fun s23491 (_ : Unit) hh => St φ h.n hh ([(some b22769, .cells [.int .i64 p22764.Nodes, .slice a22765 n22765 c22765, .slice a22766 n22766 c22766] 25 .exact)])) 0 () (sub_cons rfl (sub_cons rfl (sub_cons rfl sub_nil))) X22775 ?_
    rintro n23740 ih23739 s23491 _ t0 h23742 X23741
    refine dseq (dseq (dreg ?_))
    refine lpure (v := .int .i64 s23491) rfl (p_move rfl) rfl rfl ?_
    refine lpure (v := .slice a22768 n22768 c22768) rfl (p_move rfl) rfl rfl ?_
    refine lpure (v := .int .i64 (p22767.length : Int)) rfl (p_len rfl rfl rfl un_27 rfl) (RSl.lenC H22768) rfl ?_
    refine lpure (v := .bool (decide (s23491 < (p22767.length : Int)))) rfl (p_lt rfl) rfl rfl ?_
    refine lend (nseq ?_)
    refine dcond rfl rfl (fun k23743 => ?_) (fun k23743 => ?_)
    · refine dskip (nseq (dseq (dblock (dseq ?_))))
      refine ddraw 0 0 0 (by kernel_rfl) ?_
      refine sload (v := .agg #[.int .i64 p22764.Nodes, .slice a22765 n22765 c22765, .slice a22766 n22766 c22766]) rfl rfl (q_load wd_25 rfl) (St.ld X23741 (j := 0) rfl rfl) (same_self 20 rfl) rfl ?_
      refine spure (v := .slice a22768 n22768 c22768) rfl (p_move rfl) (lo_t (lo_sl X23741 H22768) rfl) rfl rfl ?_
      refine spure (v := .int .i64 s23491) rfl (p_move rfl) (lo_t rfl rfl) rfl rfl ?_
      refine Sim.bindM fun e23744 he23745 => ?_
      obtain ⟨p23746, cs23746, hp23746, hF23746, hR23746⟩ := RSl.ia H22768 he23745 (kd := .i64) (n := 1) rfl
      have hR23746 : _ = [(.int .i64 e23744 : Value)] := hR23746
      subst hR23746
      refine spure (v := p23746) rfl (p_ia rs_27 rfl) (lo_t (lo_sl X23741 H22768) (lo_t rfl rfl)) hp23746 rfl ?_
      refine sload (v := .int .i64 e23744) rfl rfl (q_load wd_3 rfl) (FP.ld X23741 hF23746) (same_self 20 rfl) rfl ?_
      refine scall (en := fun d => (.bool d)) rfl rfl ca_66 rfl rfl (f66_ok X23741 p22764 e23744 H22765 H22766) rfl (fun e23747 => ?_)
      refine spure (v := .bool (!e23747)) rfl (p_not rfl) (lo_t rfl rfl) rfl rfl ?_
      refine send ?_
      refine nseq ?_
      refine dcond rfl rfl (fun k23751 => ?_) (fun k23751 => ?_)
      · refine dseq (dreg ?_)
        refine lpure (v := .bool false) rfl (p_assign rfl) rfl rfl ?_
        refine lend (nseq (dret (rblock (rseq (rloop (rblock (rseq ?_)))))))
        exact kcut_r (res_1 resT) X23741 rfl rfl
      refine dskip (nblock (nseq (dreg ?_)))
      refine lpure (v := .int .i64 s23491) rfl (p_move rfl) rfl rfl ?_
      refine lpure (v := .int .i64 (w64 (s23491 + 1))) rfl (p_add rfl) rfl rfl ?_
      refine lpure (v := .int .i64 (w64 (s23491 + 1))) rfl (p_assign rfl) rfl rfl ?_
      refine lend ?_
      exact kbackM ih23739 (w64 (s23491 + 1)) () (sub_cons rfl (sub_cons rfl (sub_cons rfl sub_nil))) X23741
    refine dexit (eseq (eloop (xblock (nseq (dseq (dreg ?_))))))
    refine lread (v := .agg #[.int .i64 p22764.Nodes, .slice a22765 n22765 c22765, .slice a22766 n22766 c22766]) rfl (q_load wd_25 rfl) (St.ld X23741 (j := 0) rfl rfl) rfl ?_
    refine lpure (v := .slice a22768 n22768 c22768) rfl (p_move rfl) rfl rfl ?_
    refine lcall rfl rfl ca_16 rfl rfl (f16_ok X23741 p22764 p22767 H22765 H22766 H22768) rfl ?_
    rintro e23752 _ h23754 ⟨φ23756, a23759, n23759, c23759, ob23759, blk23759, g23757, X23758, rfl, O23759⟩
    refine lpure (v := .slice a23759 n23759 c23759) rfl (p_assign rfl) rfl rfl ?_
    refine lend (nseq (dseq (dseq (dreg ?_))))
    refine lpure (v := .int .i64 0) rfl (p_assign rfl) rfl rfl ?_
    refine lend (nseq (dblock ?_))
    obtain ⟨φ23779, g23780, X23781, H23782⟩ := OSl.freeze X23758 (j := 0) rfl O23759
    refine dloopM (τ := Int) (σ := Unit) (fun s23859 (_ : Unit) => [(1, .slice a22768 n22768 c22768), (2, .pointer (some ⟨b22769, 0, none⟩)), (6, .slice a23759 n23759 c23759), (7, .int .i64 s23859)]) (fun s23859 (_ : Unit) hh => St φ23779 h.n hh ([(none, .dead), (some b22769, .cells [.int .i64 p22764.Nodes, .slice a22765 n22765 c22765, .slice a22766 n22766 c22766] 25 .exact)])) 0 () (sub_cons rfl (sub_cons rfl (sub_cons rfl (sub_cons rfl sub_nil)))) (St.pick X23781 (.none _ (.skip _ (.keep _ (.nil _))))) ?_
    rintro n23924 ih23923 s23859 _ t0 h23926 X23925
    refine dseq (dseq (dreg ?_))
    refine lpure (v := .int .i64 s23859) rfl (p_move rfl) rfl rfl ?_
    refine lpure (v := .slice a23759 n23759 c23759) rfl (p_move rfl) rfl rfl ?_
    refine lpure (v := .int .i64 (e23752.length : Int)) rfl (p_len rfl rfl rfl un_26 rfl) (RSl.lenC H23782) rfl ?_
    refine lpure (v := .bool (decide (s23859 < (e23752.length : Int)))) rfl (p_lt rfl) rfl rfl ?_
    refine lend (nseq ?_)
    refine dcond rfl rfl (fun k23927 => ?_) (fun k23927 => ?_)
    · refine dskip (nseq (dseq (dblock (dseq (dseq ?_)))))
      refine ddraw 0 0 0 (by kernel_rfl) ?_
      refine spure (v := .slice a23759 n23759 c23759) rfl (p_move rfl) (lo_t (lo_sl X23925 H23782) rfl) rfl rfl ?_
      refine spure (v := .int .i64 s23859) rfl (p_move rfl) (lo_t rfl rfl) rfl rfl ?_
      refine Sim.mustM fun k23928 => ?_
      have k23928 := of_decide_eq_true k23928
      refine sslice H23782 X23925 rfl rfl rfl (evo_ok rfl) (evo_ok rfl) rfl rfl rfl un_26 ts_3 rfl bnd_none (bnd_int (show (0 : Int) ≤ s23859 from by omega)) (by omega) (by omega) (l' := (e23752.take (s23859).toNat)) rfl (lo_t (lo_sl X23925 H23782) (lo_t rfl rfl)) rfl (fun a23928 n23928 c23928 H23928 => ?_)
      refine spure (v := .slice a23759 n23759 c23759) rfl (p_move rfl) (lo_t (lo_sl X23925 H23782) rfl) rfl rfl ?_
      refine spure (v := .int .i64 s23859) rfl (p_move rfl) (lo_t rfl rfl) rfl rfl ?_
      refine Sim.bindM fun e23929 he23930 => ?_
      obtain ⟨p23931, cs23931, hp23931, hF23931, hR23931⟩ := RSl.ia H23782 he23930 (kd := .i64) (n := 1) rfl
      have hR23931 : _ = [(.int .i64 e23929 : Value)] := hR23931
      subst hR23931
      refine spure (v := p23931) rfl (p_ia rs_26 rfl) (lo_t (lo_sl X23925 H23782) (lo_t rfl rfl)) hp23931 rfl ?_
      refine sload (v := .int .i64 e23929) rfl rfl (q_load wd_3 rfl) (FP.ld X23925 hF23931) (same_self 20 rfl) rfl ?_
      refine scall (en := fun d => (.bool d)) rfl rfl ca_67 rfl rfl (f67_ok X23925 ((e23752.take (s23859).toNat)) e23929 H23928) rfl (fun e23932 => ?_)
      refine send ?_
      refine nseq ?_
      refine dcond rfl rfl (fun k23936 => ?_) (fun k23936 => ?_)
      · refine dseq (dreg ?_)
        refine lpure (v := .bool false) rfl (p_assign rfl) rfl rfl ?_
        refine lend (nseq (dret (rseq (rblock (rseq (rloop (rblock (rseq ?_))))))))
        exact kcut_r (res_1 resT) X23925 rfl rfl
      refine dskip (nseq (dseq ?_))
      refine ddraw 0 0 32 (by kernel_rfl) ?_
      refine spure (v := .int .i64 s23859) rfl (p_move rfl) (lo_t rfl rfl) rfl rfl ?_
      refine spure (v := .bool (decide (0 < s23859))) rfl (p_gt rfl) (lo_t rfl (lo_c rfl)) rfl rfl ?_
      refine spure (v := .bool (decide (0 < s23859))) rfl (p_move rfl) (lo_t rfl rfl) rfl rfl ?_
      refine ssh (τ := Bool) (σ := Unit) (fun s23938 (_ : Unit) => [(1, .slice a22768 n22768 c22768), (2, .pointer (some ⟨b22769, 0, none⟩)), (6, .slice a23759 n23759 c23759), (7, .int .i64 s23859), (53, .bool s23938)]) (fun s23938 (_ : Unit) hh => St φ23779 h.n hh ([(none, .dead), (some b22769, .cells [.int .i64 p22764.Nodes, .slice a22765 n22765 c22765, .slice a22766 n22766 c22766] 25 .exact)])) 5 8 ?_ ?_
      · rintro s23938 _ t0 h23940 X23939
        refine spure (v := .bool s23938) rfl (p_move rfl) (lo_t rfl rfl) rfl rfl ?_
        refine sjoinM (τ := Bool) (σ := Unit) (fun s23960 (_ : Unit) => [(1, .slice a22768 n22768 c22768), (2, .pointer (some ⟨b22769, 0, none⟩)), (6, .slice a23759 n23759 c23759), (7, .int .i64 s23859), (76, .bool s23960)]) (fun s23960 (_ : Unit) hh => St φ23779 h.n hh ([(none, .dead), (some b22769, .cells [.int .i64 p22764.Nodes, .slice a22765 n22765 c22765, .slice a22766 n22766 c22766] 25 .exact)])) 22 31 ?_ ?_
        · rintro s23960 _ t0 h23962 X23961
          refine send ?_
          refine nseq ?_
          refine dcond rfl rfl (fun k23963 => ?_) (fun k23963 => ?_)
          · refine dseq (dreg ?_)
            refine lpure (v := .bool false) rfl (p_assign rfl) rfl rfl ?_
            refine lend (nseq (dret (rblock (rseq (rloop (rblock (rseq ?_)))))))
            exact kcut_r (res_1 resT) X23961 rfl rfl
          refine dskip (nblock (nseq (dreg ?_)))
          refine lpure (v := .int .i64 s23859) rfl (p_move rfl) rfl rfl ?_
          refine lpure (v := .int .i64 (w64 (s23859 + 1))) rfl (p_add rfl) rfl rfl ?_
          refine lpure (v := .int .i64 (w64 (s23859 + 1))) rfl (p_assign rfl) rfl rfl ?_
          refine lend ?_
          exact kbackM ih23923 (w64 (s23859 + 1)) () (sub_cons rfl (sub_cons rfl (sub_cons rfl (sub_cons rfl sub_nil)))) (St.pick X23961 (.none _ (.skip _ (.keep _ (.nil _)))))
        intro j23964 J23965
        refine sif (j := 54) (show _ = Value.bool s23938 from rfl) (fun k23966 => ?_) (fun k23966 => ?_)
        · refine spure (v := .pointer (some ⟨b22769, 1, none⟩)) rfl (p_fa fo_25_1 rfl) (lo_t (lo_own X23939 (j := 1) (o := 0) (s := none) (f := 0) rfl) rfl) rfl rfl ?_
          refine sload (v := .slice a22765 n22765 c22765) rfl rfl (q_load wd_22 rfl) (St.ld X23939 (j := 1) rfl rfl) (same_self 20 rfl) rfl ?_
          refine spure (v := .slice a23759 n23759 c23759) rfl (p_move rfl) (lo_t (lo_sl X23939 H23782) rfl) rfl rfl ?_
          refine spure (v := .int .i64 s23859) rfl (p_move rfl) (lo_t rfl rfl) rfl rfl ?_
          refine Sim.bindM fun e23967 he23968 => ?_
          obtain ⟨p23969, cs23969, hp23969, hF23969, hR23969⟩ := RSl.ia H23782 he23968 (kd := .i64) (n := 1) rfl
          have hR23969 : _ = [(.int .i64 e23967 : Value)] := hR23969
          subst hR23969
          refine spure (v := p23969) rfl (p_ia rs_26 rfl) (lo_t (lo_sl X23939 H23782) (lo_t rfl rfl)) hp23969 rfl ?_
          refine sload (v := .int .i64 e23967) rfl rfl (q_load wd_3 rfl) (FP.ld X23939 hF23969) (same_self 20 rfl) rfl ?_
          refine Sim.bindM fun e23970 he23971 => ?_
          obtain ⟨p23972, cs23972, hp23972, hF23972, hR23972⟩ := RSl.ia (H22765.mono (g23757.trans g23780)) he23971 (kd := .i64) (n := 1) rfl
          have hR23972 : _ = [(.bool e23970 : Value)] := hR23972
          subst hR23972
          refine spure (v := p23972) rfl (p_ia rs_22 rfl) (lo_t (lo_sl X23939 (H22765.mono (g23757.trans g23780))) (lo_t rfl rfl)) hp23972 rfl ?_
          refine sload (v := .bool e23970) rfl rfl (q_load wd_4 rfl) (FP.ld X23939 hF23972) (same_self 20 rfl) rfl ?_
          refine spure (v := .bool e23970) rfl (p_move rfl) (lo_t rfl rfl) rfl rfl ?_
          refine sif (j := 63) (show _ = Value.bool e23970 from rfl) (fun k23973 => ?_) (fun k23973 => ?_)
          · refine sskip rfl rfl ?_
            refine sskip rfl rfl ?_
            refine sskip rfl rfl ?_
            refine sskip rfl rfl ?_
            refine sskip rfl rfl ?_
            refine sskip rfl rfl ?_
            refine sskip rfl rfl ?_
            refine sskip rfl rfl ?_
            refine sskip rfl rfl ?_
            refine sskip rfl rfl ?_
            refine sskip rfl rfl ?_
            refine spure (v := .bool true) rfl (p_pick rfl) (lo_t rfl (lo_c (lo_t rfl rfl))) rfl rfl ?_
            refine spure (v := .bool true) rfl (p_pick rfl) (lo_t rfl (lo_t rfl (lo_c rfl))) rfl rfl ?_
            exact sjmpM J23965 true () (sub_cons rfl (sub_cons rfl (sub_cons rfl (sub_cons rfl (sub_cons rfl sub_nil))))) (St.pick X23939 (.none _ (.skip _ (.keep _ (.nil _)))))
          refine sload (v := .agg #[.int .i64 p22764.Nodes, .slice a22765 n22765 c22765, .slice a22766 n22766 c22766]) rfl rfl (q_load wd_25 rfl) (St.ld X23939 (j := 1) rfl rfl) (same_self 20 rfl) rfl ?_
          refine spure (v := .slice a22768 n22768 c22768) rfl (p_move rfl) (lo_t (lo_sl X23939 (H22768.mono (g23757.trans g23780))) rfl) rfl rfl ?_
          refine spure (v := .int .i64 s23859) rfl (p_move rfl) (lo_t rfl rfl) rfl rfl ?_
          refine Sim.bindM fun e23974 he23975 => ?_
          obtain ⟨p23976, cs23976, hp23976, hF23976, hR23976⟩ := RSl.ia (H22768.mono (g23757.trans g23780)) he23975 (kd := .i64) (n := 1) rfl
          have hR23976 : _ = [(.int .i64 e23974 : Value)] := hR23976
          subst hR23976
          refine spure (v := p23976) rfl (p_ia rs_27 rfl) (lo_t (lo_sl X23939 (H22768.mono (g23757.trans g23780))) (lo_t rfl rfl)) hp23976 rfl ?_
          refine sload (v := .int .i64 e23974) rfl rfl (q_load wd_3 rfl) (FP.ld X23939 hF23976) (same_self 20 rfl) rfl ?_
          refine scall (en := fun d => (.int .i64 d)) rfl rfl ca_41 rfl rfl (f41_ok X23939 p22764 e23974 (H22765.mono (g23757.trans g23780)) (H22766.mono (g23757.trans g23780))) rfl (fun e23977 => ?_)
          refine spure (v := .slice a23759 n23759 c23759) rfl (p_move rfl) (lo_t (lo_sl X23939 H23782) rfl) rfl rfl ?_
          refine spure (v := .int .i64 s23859) rfl (p_move rfl) (lo_t rfl rfl) rfl rfl ?_
          refine Sim.bindM fun e23981 he23982 => ?_
          obtain ⟨p23983, cs23983, hp23983, hF23983, hR23983⟩ := RSl.ia H23782 he23982 (kd := .i64) (n := 1) rfl
          have hR23983 : _ = [(.int .i64 e23981 : Value)] := hR23983
          subst hR23983
          refine spure (v := p23983) rfl (p_ia rs_26 rfl) (lo_t (lo_sl X23939 H23782) (lo_t rfl rfl)) hp23983 rfl ?_
          refine sload (v := .int .i64 e23981) rfl rfl (q_load wd_3 rfl) (FP.ld X23939 hF23983) (same_self 20 rfl) rfl ?_
          refine spure (v := .bool (decide (e23977 ≠ e23981))) rfl (p_ne rfl) (lo_t rfl (lo_t rfl rfl)) rfl rfl ?_
          refine spure (v := .bool (decide (e23977 ≠ e23981))) rfl (p_pick rfl) (lo_t rfl (lo_c (lo_t rfl rfl))) rfl rfl ?_
          refine spure (v := .bool (decide (e23977 ≠ e23981))) rfl (p_pick rfl) (lo_t rfl (lo_t rfl (lo_c rfl))) rfl rfl ?_
          exact sjmpM J23965 (decide (e23977 ≠ e23981)) () (sub_cons rfl (sub_cons rfl (sub_cons rfl (sub_cons rfl (sub_cons rfl sub_nil))))) (St.pick X23939 (.none _ (.skip _ (.keep _ (.nil _)))))
        refine sskip rfl rfl ?_
        refine sskip rfl rfl ?_
        refine sskip rfl rfl ?_
        refine sskip rfl rfl ?_
        refine sskip rfl rfl ?_
        refine sskip rfl rfl ?_
        refine sskip rfl rfl ?_
        refine sskip rfl rfl ?_
        refine sskip rfl rfl ?_
        refine sskip rfl rfl ?_
        refine sskip rfl rfl ?_
        refine sskip rfl rfl ?_
        refine sskip rfl rfl ?_
        refine sskip rfl rfl ?_
        refine sskip rfl rfl ?_
        refine sskip rfl rfl ?_
        refine sskip rfl rfl ?_
        refine sskip rfl rfl ?_
        refine sskip rfl rfl ?_
        refine sskip rfl rfl ?_
        refine sskip rfl rfl ?_
        refine spure (v := .bool false) rfl (p_pick rfl) (lo_t rfl (lo_t rfl (lo_c rfl))) rfl rfl ?_
        exact sjmpM J23965 false () (sub_cons rfl (sub_cons rfl (sub_cons rfl (sub_cons rfl (sub_cons rfl sub_nil))))) (St.pick X23939 (.none _ (.skip _ (.keep _ (.nil _)))))
      intro j23984 J23985
      refine scase (j := 48) (show _ = Value.bool (decide (0 < s23859)) from rfl) (fun k23986 => ?_) (fun k23986 => ?_)
      · refine spure (v := .int .i64 s23859) rfl (p_move rfl) (lo_t rfl rfl) rfl rfl ?_
        refine spure (v := .slice a22768 n22768 c22768) rfl (p_move rfl) (lo_t (lo_sl X23925 (H22768.mono (g23757.trans g23780))) rfl) rfl rfl ?_
        refine spure (v := .int .i64 (p22767.length : Int)) rfl (p_len rfl rfl rfl un_27 rfl) (lo_t (lo_sl X23925 (H22768.mono (g23757.trans g23780))) rfl) (RSl.lenC (H22768.mono (g23757.trans g23780))) rfl ?_
        refine spure (v := .bool (decide (s23859 < (p22767.length : Int)))) rfl (p_lt rfl) (lo_t rfl (lo_t rfl rfl)) rfl rfl ?_
        refine spure (v := .bool (decide (s23859 < (p22767.length : Int)))) rfl (p_pick rfl) (lo_t rfl (lo_t rfl (lo_c rfl))) rfl rfl ?_
        refine Sim.of_eq (congrArg j23984 (show ((decide (0 < s23859)) && (decide (s23859 < (p22767.length : Int)))) = (decide (s23859 < (p22767.length : Int))) from by rw [k23986] <;> rfl)) ?_
        exact sjmpM J23985 (decide (s23859 < (p22767.length : Int))) () (sub_cons rfl (sub_cons rfl (sub_cons rfl (sub_cons rfl (sub_cons rfl sub_nil))))) (St.pick X23925 (.none _ (.skip _ (.keep _ (.nil _)))))
      refine sskip rfl rfl ?_
      refine sskip rfl rfl ?_
      refine sskip rfl rfl ?_
      refine sskip rfl rfl ?_
      refine spure (v := .bool false) rfl (p_pick rfl) (lo_t rfl (lo_t rfl (lo_c rfl))) rfl rfl ?_
      refine Sim.of_eq (congrArg j23984 (show ((decide (0 < s23859)) && (decide (s23859 < (p22767.length : Int)))) = false from by rw [k23986] <;> rfl)) ?_
      exact sjmpM J23985 false () (sub_cons rfl (sub_cons rfl (sub_cons rfl (sub_cons rfl (sub_cons rfl sub_nil))))) (St.pick X23925 (.none _ (.skip _ (.keep _ (.nil _)))))
    refine dexit (eseq (eloop (xblock (nseq (dseq (dreg ?_))))))
    refine lpure (v := .bool true) rfl (p_assign rfl) rfl rfl ?_
    refine lend (nseq (dret ?_))
    exact kcut_r (res_1 resT) X23925 rfl rfl
  intro j23987 J23988
  refine lcase (i := 11) (show _ = Value.bool (decide ((p22767.length : Int) < 1)) from rfl) (fun k23989 => ?_) (fun k23989 => ?_)
  · refine lskip rfl rfl ?_
    refine lskip rfl rfl ?_
    refine lskip rfl rfl ?_
    refine lpure (v := .bool true) rfl (p_pick rfl) rfl rfl ?_
    refine Sim.of_eq (congrArg j23987 (show ((decide ((p22767.length : Int) < 1)) || (decide (8 < (p22767.length : Int)))) = true from by rw [k23989] <;> rfl)) ?_
    exact ljmpM J23988 true () (sub_cons rfl (sub_cons rfl (sub_cons rfl sub_nil))) X22772
  refine lpure (v := .slice a22768 n22768 c22768) rfl (p_move rfl) rfl rfl ?_
  refine lpure (v := .int .i64 (p22767.length : Int)) rfl (p_len rfl rfl rfl un_27 rfl) (RSl.lenC H22768) rfl ?_
  refine lpure (v := .bool (decide (8 < (p22767.length : Int)))) rfl (p_gt rfl) rfl rfl ?_
  refine lpure (v := .bool (decide (8 < (p22767.length : Int)))) rfl (p_pick rfl) rfl rfl ?_
  refine Sim.of_eq (congrArg j23987 (show ((decide ((p22767.length : Int) < 1)) || (decide (8 < (p22767.length : Int)))) = (decide (8 < (p22767.length : Int))) from by rw [k23989] <;> rfl)) ?_
  exact ljmpM J23988 (decide (8 < (p22767.length : Int))) () (sub_cons rfl (sub_cons rfl (sub_cons rfl sub_nil))) X22772
/-! isochron/isochronlaw21.want -/
theorem f14_ok {n : Nat} {φ : Fz} {lo : Nat} {h : Heap} {own : OwnL}  {a18990 : Option Addr} {n18990 c18990 : Nat} {a18991 : Option Addr} {n18991 c18991 : Nat} {a18993 : Option Addr} {n18993 c18993 : Nat} (X : St φ lo h (own)) (p18989 : ApiTopo) (p18992 : (List (List Int))) (H18990 : RSl eBool φ (.slice a18990 n18990 c18990) p18989.Station) (H18991 : RSl eApiLink φ (.slice a18991 n18991 c18991) p18989.Links) (H18993 : RSl (eSl (eInt .i64)) φ (.slice a18993 n18993 c18993) p18992) : Sim ((recN Tryz.prog LL cutF (n + 4)).call 14 #[(.agg #[.int .i64 p18989.Nodes, .slice a18990 n18990 c18990, .slice a18991 n18991 c18991]), (.slice a18993 n18993 c18993)] h) (m_isochronlaw21_want p18989 p18992) (fun (d : Int) p => p = (.int .i64 d, h)) := by
  refine fcut Tryz.func14 rfl rfl rfl rfl X ?_
  intro h0 X0
  refine dseq (dreg ?_)
  refine lbox rfl rfl rfl rfl rfl X0 (fun b18994 h18996 X18997 => ?_)
  refine lpure (v := .int .i64 0) rfl (p_assign rfl) rfl rfl ?_
  refine lend (nseq (dseq (dseq (dreg ?_))))
  refine lread (v := .agg #[.int .i64 p18989.Nodes, .slice a18990 n18990 c18990, .slice a18991 n18991 c18991]) rfl (q_load wd_25 rfl) (St.ld X18997 (j := 0) rfl rfl) rfl ?_
  refine lcall rfl rfl ca_37 rfl rfl (f37_ok X18997 p18989 H18990 H18991) rfl (fun e22751 v22752 h22753 hq22754 => ?_)
  cases hq22754
  refine lpure (v := .bool (!e22751)) rfl (p_not rfl) rfl rfl ?_
  refine lend (nseq ?_)
  refine dcond rfl rfl (fun k22755 => ?_) (fun k22755 => ?_)
  · refine dseq (dreg ?_)
    refine lpure (v := .int .i64 260) rfl (p_assign rfl) rfl rfl ?_
    refine lend (nseq (dret (rseq ?_)))
    exact kcut_r (res_1 resT) X18997 rfl rfl
  refine dskip (nseq (dseq (dseq (dreg ?_))))
  refine lpure (v := .slice a18993 n18993 c18993) rfl (p_move rfl) rfl rfl ?_
  refine lpure (v := .int .i64 (p18992.length : Int)) rfl (p_len rfl rfl rfl un_52 rfl) (RSl.lenC H18993) rfl ?_
  refine lpure (v := .int .i64 0) rfl (p_move rfl) rfl rfl ?_
  refine lend (nseq (dblock ?_))
  refine dloopM (τ := Int) (σ := Unit) (fun s24008 (_ : Unit) => [(2, .pointer (some ⟨b18994, 0, none⟩)), (10, .slice a18993 n18993 c18993), (11, .int .i64 (p18992.length : Int)), (12, .int .i64 s24008)]) (fun s24008 (_ : Unit) hh => St φ h.n hh ([(some b18994, .cells [.int .i64 p18989.Nodes, .slice a18990 n18990 c18990, .slice a18991 n18991 c18991] 25 .exact)])) 0 () (sub_cons rfl (sub_cons rfl (sub_cons rfl (sub_cons rfl sub_nil)))) X18997 ?_
  rintro n24023 ih24022 s24008 _ t0 h24025 X24024
  refine dseq (dreg ?_)
  refine lpure (v := .bool (decide (s24008 < (p18992.length : Int)))) rfl (p_lt rfl) rfl rfl ?_
  refine lend (nseq (dseq ?_))
  refine dcond rfl rfl (fun k24026 => ?_) (fun k24026 => ?_)
  · refine dskip (nseq (dseq (dblock (dseq (dreg ?_)))))
    refine Sim.bindM fun e24027 he24028 => ?_
    obtain ⟨p24030, cs24030, hp24030, hF24030, hR24030⟩ := RSl.ia H18993 he24028 (kd := .i64) (n := 1) rfl
    obtain ⟨a24029, n24029, c24029, rfl, H24029⟩ := hR24030
    refine lpure (v := p24030) rfl (p_ia rs_52 rfl) hp24030 rfl ?_
    refine lread (v := .slice a24029 n24029 c24029) rfl (q_load wd_27 rfl) (FP.ld X24024 hF24030) rfl ?_
    refine lpure (v := .slice a24029 n24029 c24029) rfl (p_assign rfl) rfl rfl ?_
    refine lend (nseq (dseq (dreg ?_)))
    refine lread (v := .agg #[.int .i64 p18989.Nodes, .slice a18990 n18990 c18990, .slice a18991 n18991 c18991]) rfl (q_load wd_25 rfl) (St.ld X24024 (j := 0) rfl rfl) rfl ?_
    refine lpure (v := .slice a24029 n24029 c24029) rfl (p_move rfl) rfl rfl ?_
    refine lcall rfl rfl ca_38 rfl rfl (f38_ok X24024 p18989 e24027 H18990 H18991 H24029) rfl (fun e24031 v24032 h24033 hq24034 => ?_)
    cases hq24034
    refine lpure (v := .bool (!e24031)) rfl (p_not rfl) rfl rfl ?_
    refine lend (nseq ?_)
    refine dcond rfl rfl (fun k24035 => ?_) (fun k24035 => ?_)
    · refine dseq (dreg ?_)
      refine lpure (v := .int .i64 310) rfl (p_assign rfl) rfl rfl ?_
      refine lend (nseq (dret (rblock (rseq (rloop (rblock (rseq ?_)))))))
      exact kcut_r (res_1 resT) X24024 rfl rfl
    refine dskip (nblock (nseq (dreg ?_)))
    refine lpure (v := .int .i64 (w64 (s24008 + 1))) rfl (p_add rfl) rfl rfl ?_
    refine lpure (v := .int .i64 (w64 (s24008 + 1))) rfl (p_move rfl) rfl rfl ?_
    refine lend ?_
    exact kbackM ih24022 (w64 (s24008 + 1)) () (sub_cons rfl (sub_cons rfl (sub_cons rfl (sub_cons rfl sub_nil)))) X24024
  refine dexit (eseq (eloop (xblock (nseq (dseq (dreg ?_))))))
  refine lpure (v := .int .i64 0) rfl (p_assign rfl) rfl rfl ?_
  refine lend (nseq (dret ?_))
  exact kcut_r (res_1 resT) X24024 rfl rfl
/-! isochron/isochronref16.Delay -/
theorem f43_ok {n : Nat} {φ : Fz} {lo : Nat} {h : Heap} {own : OwnL}  {a24163 : Option Addr} {n24163 c24163 : Nat} {a24164 : Option Addr} {n24164 c24164 : Nat} (X : St φ lo h (own)) (p24162 : ApiTopo) (p24165 : Int) (H24163 : RSl eBool φ (.slice a24163 n24163 c24163) p24162.Station) (H24164 : RSl eApiLink φ (.slice a24164 n24164 c24164) p24162.Links) : Sim ((recN Tryz.prog LL cutF (n + 1)).call 43 #[(.agg #[.int .i64 p24162.Nodes, .slice a24163 n24163 c24163, .slice a24164 n24164 c24164]), (.int .i64 p24165)] h) (m_isochronref16_Delay p24162 p24165) (fun (d : Int) p => p = (.int .i64 d, h)) := by
  refine fcut Tryz.func43 rfl rfl rfl rfl X ?_
  intro h0 X0
  refine dseq (dreg ?_)
  refine lbox rfl rfl rfl rfl rfl X0 (fun b24166 h24168 X24169 => ?_)
  refine lpure (v := .int .i64 0) rfl (p_assign rfl) rfl rfl ?_
  refine lend (nseq (dseq (dreg ?_)))
  refine lpure (v := .pointer (some ⟨b24166, 2, none⟩)) rfl (p_fa fo_25_2 rfl) rfl rfl ?_
  refine lread (v := .slice a24164 n24164 c24164) rfl (q_load wd_23 rfl) (St.ld X24169 (j := 0) rfl rfl) rfl ?_
  refine lpure (v := .int .i64 p24165) rfl (p_move rfl) rfl rfl ?_
  refine lpure (v := .int .i64 (w64 (Int.tdiv p24165 2))) rfl (p_quo rfl) rfl rfl ?_
  refine Sim.bindM fun e24170 he24171 => ?_
  obtain ⟨p24172, cs24172, hp24172, hF24172, hR24172⟩ := RSl.ia H24164 he24171 (kd := .i64) (n := 4) rfl
  obtain rfl := eApiLink_el hR24172
  refine lpure (v := p24172) rfl (p_ia rs_23 rfl) hp24172 rfl ?_
  refine lpure (v := ptrAdd p24172 3) rfl (p_fa fo_65_3 rfl) (FP.fa hF24172) rfl ?_
  refine lread (v := .int .i64 e24170.Delay) rfl (q_load wd_3 rfl) (FP.ld X24169 (FP.add hF24172 (n := 3) (w := 1) rfl rfl)) rfl ?_
  refine lpure (v := .int .i64 e24170.Delay) rfl (p_assign rfl) rfl rfl ?_
  refine lend (nseq (dret ?_))
  exact kcut_r (res_1 resT) X24169 rfl rfl
/-! isochron/isochronref21.Delay -/
theorem f18_ok {n : Nat} {φ : Fz} {lo : Nat} {h : Heap} {own : OwnL}  {a24150 : Option Addr} {n24150 c24150 : Nat} {a24151 : Option Addr} {n24151 c24151 : Nat} {a24153 : Option Addr} {n24153 c24153 : Nat} (X : St φ lo h (own)) (p24149 : ApiTopo) (p24152 : (List Int)) (H24150 : RSl eBool φ (.slice a24150 n24150 c24150) p24149.Station) (H24151 : RSl eApiLink φ (.slice a24151 n24151 c24151) p24149.Links) (H24153 : RSl (eInt .i64) φ (.slice a24153 n24153 c24153) p24152) : Sim ((recN Tryz.prog LL cutF (n + 2)).call 18 #[(.agg #[.int .i64 p24149.Nodes, .slice a24150 n24150 c24150, .slice a24151 n24151 c24151]), (.slice a24153 n24153 c24153)] h) (m_isochronref21_Delay p24149 p24152) (fun (d : Int) p => p = (.int .i64 d, h)) := by
  refine fcut Tryz.func18 rfl rfl rfl rfl X ?_
  intro h0 X0
  refine dseq (dreg ?_)
  refine lbox rfl rfl rfl rfl rfl X0 (fun b24154 h24156 X24157 => ?_)
  refine lpure (v := .int .i64 0) rfl (p_assign rfl) rfl rfl ?_
  refine lend (nseq (dseq (dreg ?_)))
  refine lpure (v := .int .i64 0) rfl (p_assign rfl) rfl rfl ?_
  refine lend (nseq (dseq (dseq (dreg ?_))))
  refine lpure (v := .int .i64 0) rfl (p_assign rfl) rfl rfl ?_
  refine lend (nseq (dblock ?_))
  refine dloopM (τ := Int × Int) (σ := Unit) (fun s24191 (_ : Unit) => [(1, .slice a24153 n24153 c24153), (2, .pointer (some ⟨b24154, 0, none⟩)), (5, .int .i64 s24191.1), (6, .int .i64 s24191.2)]) (fun s24191 (_ : Unit) hh => St φ h.n hh ([(some b24154, .cells [.int .i64 p24149.Nodes, .slice a24150 n24150 c24150, .slice a24151 n24151 c24151] 25 .exact)])) (0, 0) () (sub_cons rfl (sub_cons rfl (sub_cons rfl (sub_cons rfl sub_nil)))) X24157 ?_
  rintro n24204 ih24203 s24191 _ t0 h24206 X24205
  refine dseq (dseq (dreg ?_))
  refine lpure (v := .int .i64 s24191.2) rfl (p_move rfl) rfl rfl ?_
  refine lpure (v := .slice a24153 n24153 c24153) rfl (p_move rfl) rfl rfl ?_
  refine lpure (v := .int .i64 (p24152.length : Int)) rfl (p_len rfl rfl rfl un_27 rfl) (RSl.lenC H24153) rfl ?_
  refine lpure (v := .bool (decide (s24191.2 < (p24152.length : Int)))) rfl (p_lt rfl) rfl rfl ?_
  refine lend (nseq ?_)
  refine dcond rfl rfl (fun k24207 => ?_) (fun k24207 => ?_)
  · refine dskip (nseq (dseq (dblock ?_)))
    refine ddraw 0 0 0 (by kernel_rfl) ?_
    refine spure (v := .int .i64 s24191.1) rfl (p_move rfl) (lo_t rfl rfl) rfl rfl ?_
    refine sload (v := .agg #[.int .i64 p24149.Nodes, .slice a24150 n24150 c24150, .slice a24151 n24151 c24151]) rfl rfl (q_load wd_25 rfl) (St.ld X24205 (j := 0) rfl rfl) (same_self 20 rfl) rfl ?_
    refine spure (v := .slice a24153 n24153 c24153) rfl (p_move rfl) (lo_t (lo_sl X24205 H24153) rfl) rfl rfl ?_
    refine spure (v := .int .i64 s24191.2) rfl (p_move rfl) (lo_t rfl rfl) rfl rfl ?_
    refine Sim.bindM fun e24208 he24209 => ?_
    obtain ⟨p24210, cs24210, hp24210, hF24210, hR24210⟩ := RSl.ia H24153 he24209 (kd := .i64) (n := 1) rfl
    have hR24210 : _ = [(.int .i64 e24208 : Value)] := hR24210
    subst hR24210
    refine spure (v := p24210) rfl (p_ia rs_27 rfl) (lo_t (lo_sl X24205 H24153) (lo_t rfl rfl)) hp24210 rfl ?_
    refine sload (v := .int .i64 e24208) rfl rfl (q_load wd_3 rfl) (FP.ld X24205 hF24210) (same_self 20 rfl) rfl ?_
    refine scall (en := fun d => (.int .i64 d)) rfl rfl ca_43 rfl rfl (f43_ok X24205 p24149 e24208 H24150 H24151) rfl (fun e24211 => ?_)
    refine spure (v := .int .i64 (w64 (s24191.1 + e24211))) rfl (p_add rfl) (lo_t rfl (lo_t rfl rfl)) rfl rfl ?_
    refine spure (v := .int .i64 (w64 (s24191.1 + e24211))) rfl (p_assign rfl) (lo_t rfl rfl) rfl rfl ?_
    refine send ?_
    refine nblock (nseq (dreg ?_))
    refine lpure (v := .int .i64 s24191.2) rfl (p_move rfl) rfl rfl ?_
    refine lpure (v := .int .i64 (w64 (s24191.2 + 1))) rfl (p_add rfl) rfl rfl ?_
    refine lpure (v := .int .i64 (w64 (s24191.2 + 1))) rfl (p_assign rfl) rfl rfl ?_
    refine lend ?_
    exact kbackM ih24203 ((w64 (s24191.1 + e24211)), (w64 (s24191.2 + 1))) () (sub_cons rfl (sub_cons rfl (sub_cons rfl (sub_cons rfl sub_nil)))) X24205
  refine dexit (eseq (eloop (xblock (nseq (dseq (dreg ?_))))))
  refine lpure (v := .int .i64 s24191.1) rfl (p_move rfl) rfl rfl ?_
  refine lpure (v := .int .i64 s24191.1) rfl (p_assign rfl) rfl rfl ?_
  refine lend (nseq (dret ?_))
  exact kcut_r (res_1 resT) X24205 rfl rfl
/-! isochron/isochronref16.Back -/
theorem f44_ok {n : Nat} {φ : Fz} {lo : Nat} {h : Heap} {own : OwnL}  (X : St φ lo h (own)) (p24233 : Int) : Sim ((recN Tryz.prog LL cutF (n + 1)).call 44 #[(.int .i64 p24233)] h) (m_isochronref16_Back p24233) (fun (d : Int) p => p = (.int .i64 d, h)) := by
  refine fcut Tryz.func44 rfl rfl rfl rfl X ?_
  intro h0 X0
  refine dseq (dreg ?_)
  refine lpure (v := .int .i64 0) rfl (p_assign rfl) rfl rfl ?_
  refine lend (nseq (dseq (dseq (dreg ?_))))
  refine lpure (v := .int .i64 p24233) rfl (p_move rfl) rfl rfl ?_
  refine lpure (v := .int .i64 (Int.tmod p24233 2)) rfl (p_rem rfl) rfl rfl ?_
  refine lpure (v := .bool (decide ((Int.tmod p24233 2) = 1))) rfl (p_eq rfl) rfl rfl ?_
  refine lend (nseq ?_)
  refine dcond rfl rfl (fun k24234 => ?_) (fun k24234 => ?_)
  · refine dseq (dreg ?_)
    refine lpure (v := .int .i64 p24233) rfl (p_move rfl) rfl rfl ?_
    refine lpure (v := .int .i64 (w64 (p24233 - 1))) rfl (p_sub rfl) rfl rfl ?_
    refine lpure (v := .int .i64 (w64 (p24233 - 1))) rfl (p_assign rfl) rfl rfl ?_
    refine lend (nseq (dret (rseq ?_)))
    exact kcut_r (res_1 resT) X0 rfl rfl
  refine dskip (nseq (dseq (dreg ?_)))
  refine lpure (v := .int .i64 p24233) rfl (p_move rfl) rfl rfl ?_
  refine lpure (v := .int .i64 (w64 (p24233 + 1))) rfl (p_add rfl) rfl rfl ?_
  refine lpure (v := .int .i64 (w64 (p24233 + 1))) rfl (p_assign rfl) rfl rfl ?_
  refine lend (nseq (dret ?_))
  exact kcut_r (res_1 resT) X0 rfl rfl
/-! isochron/isochronref21.Back -/
theorem f20_ok {n : Nat} {φ : Fz} {lo : Nat} {h : Heap} {own : OwnL}  {a24293 : Option Addr} {n24293 c24293 : Nat} (X : St φ lo h (own)) (p24292 : (List Int)) (H24293 : RSl (eInt .i64) φ (.slice a24293 n24293 c24293) p24292) : Sim ((recN Tryz.prog LL cutF (n + 2)).call 20 #[(.slice a24293 n24293 c24293)] h) (m_isochronref21_Back p24292) (fun (d : (List Int)) p => ∃ φ2 : Fz, ∃ a24358 : Option Addr, ∃ n24358 : Nat, ∃ c24358 : Nat, ∃ ob24358 : Option Nat, ∃ blk24358 : Blk, Fz.le φ φ2 ∧ St φ2 lo p.2 ((ob24358, blk24358) :: own) ∧ p.1 = .slice a24358 n24358 c24358 ∧ OSl (eInt .i64) φ2 3 ob24358 blk24358 (.slice a24358 n24358 c24358) d) := by
  refine fopen Tryz.func20 rfl rfl rfl rfl ?_
  refine dseq (dreg ?_)
  refine lpure (v := .slice none 0 0) rfl (p_assign rfl) rfl rfl ?_
  refine lend (nseq (dseq (dreg ?_)))
  refine lpure (v := .slice none 0 0) rfl (p_assign rfl) rfl rfl ?_
  refine lend (nseq (dseq (dseq (dreg ?_))))
  refine lpure (v := .slice a24293 n24293 c24293) rfl (p_move rfl) rfl rfl ?_
  refine lpure (v := .int .i64 (p24292.length : Int)) rfl (p_len rfl rfl rfl un_27 rfl) (RSl.lenC H24293) rfl ?_
  refine lpure (v := .int .i64 (w64 ((p24292.length : Int) - 1))) rfl (p_sub rfl) rfl rfl ?_
  refine lpure (v := .int .i64 (w64 ((p24292.length : Int) - 1))) rfl (p_assign rfl) rfl rfl ?_
  refine lend (nseq (dblock ?_))
  refine dloopM (τ := (List Int) × Int) (σ := Option Addr × Nat × Nat × Option Nat × Blk) (fun s24326 (a24328, n24328, c24328, ob24328, blk24328) => [(0, .slice a24293 n24293 c24293), (3, .slice a24328 n24328 c24328), (4, .int .i64 s24326.2)]) (fun s24326 (a24328, n24328, c24328, ob24328, blk24328) hh => St φ lo hh ((ob24328, blk24328) :: own) ∧ OSl (eInt .i64) φ 3 ob24328 blk24328 (.slice a24328 n24328 c24328) s24326.1) ([], (w64 ((p24292.length : Int) - 1))) (none, 0, 0, none, .dead) (sub_cons rfl (sub_cons rfl (sub_cons rfl sub_nil))) ⟨(St.pick X (.none _ (.refl _))), OSl.nil⟩ ?_
  rintro n24344 ih24343 s24326 ⟨a24328, n24328, c24328, ob24328, blk24328⟩ t0 h24346 ⟨X24345, O24328⟩
  refine dseq (dseq (dreg ?_))
  refine lpure (v := .int .i64 s24326.2) rfl (p_move rfl) rfl rfl ?_
  refine lpure (v := .bool (decide (0 ≤ s24326.2))) rfl (p_ge rfl) rfl rfl ?_
  refine lend (nseq ?_)
  refine dcond rfl rfl (fun k24347 => ?_) (fun k24347 => ?_)
  · refine dskip (nseq (dseq (dblock (dreg ?_))))
    refine lpure (v := .slice a24328 n24328 c24328) rfl (p_move rfl) rfl rfl ?_
    refine lpure (v := .slice a24293 n24293 c24293) rfl (p_move rfl) rfl rfl ?_
    refine lpure (v := .int .i64 s24326.2) rfl (p_move rfl) rfl rfl ?_
    refine Sim.bindM fun e24348 he24349 => ?_
    obtain ⟨p24350, cs24350, hp24350, hF24350, hR24350⟩ := RSl.ia H24293 he24349 (kd := .i64) (n := 1) rfl
    have hR24350 : _ = [(.int .i64 e24348 : Value)] := hR24350
    subst hR24350
    refine lpure (v := p24350) rfl (p_ia rs_27 rfl) hp24350 rfl ?_
    refine lread (v := .int .i64 e24348) rfl (q_load wd_3 rfl) (FP.ld X24345 hF24350) rfl ?_
    refine lcall rfl rfl ca_44 rfl rfl (f44_ok X24345 e24348) rfl (fun e24351 v24352 h24353 hq24354 => ?_)
    cases hq24354
    obtain ⟨h24355, b24355, hv24355, X24355, O24355⟩ := OSl.lay (E := (eInt .i64)) (φ := φ) (cs := [.int .i64 e24351]) (l := [e24351]) (len := 1) (parts := [(0, .int .i64 e24351)]) un_27 ts_3 rfl rfl rfl tz_3 rfl rfl (show RowD (eInt .i64) φ [.int .i64 e24351] [e24351] from ⟨[.int .i64 e24351], _, rfl, rfl, rfl⟩) rfl rfl X24345
    refine lheap rfl (h_buildSlice rfl) hv24355 rfl ?_
    obtain ⟨ws24357, hw24357⟩ := OSl.read O24355 X24355 (k := 0) rfl (n := 1) rfl
    refine Sim.mustM fun k24357 => ?_
    obtain ⟨h24357, a24357, c24357, ob24357, blk24357, hv24357, X24357, O24357⟩ := OSl.append O24328 X24355 (j := 1) rfl hw24357 k24357 (ts := #[27, 27]) rfl un_27 (argOk_of ax_27_27) ts_3 rfl rfl tb_3 rfl tz_3 rfl
    refine lheap rfl (h_builtin rfl rfl) hv24357 rfl ?_
    refine lpure (v := .slice a24357 (s24326.1.length + ([e24351]).length) c24357) rfl (p_assign rfl) rfl rfl ?_
    refine lend (nblock (nseq (dreg ?_)))
    refine lpure (v := .int .i64 s24326.2) rfl (p_move rfl) rfl rfl ?_
    refine lpure (v := .int .i64 (w64 (s24326.2 - 1))) rfl (p_sub rfl) rfl rfl ?_
    refine lpure (v := .int .i64 (w64 (s24326.2 - 1))) rfl (p_assign rfl) rfl rfl ?_
    refine lend ?_
    exact kbackM ih24343 ((s24326.1 ++ ([e24351])), (w64 (s24326.2 - 1))) (a24357, (s24326.1.length + ([e24351]).length), c24357, ob24357, blk24357) (sub_cons rfl (sub_cons rfl (sub_cons rfl sub_nil))) ⟨(St.pick X24357 (.skip _ (.keep _ (.refl _)))), O24357⟩
  refine dexit (eseq (eloop (xblock (nseq (dseq (dreg ?_))))))
  refine lpure (v := .slice a24328 n24328 c24328) rfl (p_move rfl) rfl rfl ?_
  refine lpure (v := .slice a24328 n24328 c24328) rfl (p_assign rfl) rfl rfl ?_
  refine lend (nseq (dret ?_))
  exact kopen_r (res_1 resT) ⟨φ, a24328, n24328, c24328, ob24328, blk24328, (Fz.le_refl _), St.pick X24345 (.keep _ (.refl _)), rfl, O24328⟩
/-! isochron/isochronref16.Per -/
theorem f45_ok {n : Nat} {φ : Fz} {lo : Nat} {h : Heap} {own : OwnL}  {a24414 : Option Addr} {n24414 c24414 : Nat} {a24415 : Option Addr} {n24415 c24415 : Nat} (X : St φ lo h (own)) (p24413 : ApiTopo) (p24416 : Int) (H24414 : RSl eBool φ (.slice a24414 n24414 c24414) p24413.Station) (H24415 : RSl eApiLink φ (.slice a24415 n24415 c24415) p24413.Links) : Sim ((recN Tryz.prog LL cutF (n + 1)).call 45 #[(.agg #[.int .i64 p24413.Nodes, .slice a24414 n24414 c24414, .slice a24415 n24415 c24415]), (.int .i64 p24416)] h) (m_isochronref16_Per p24413 p24416) (fun (d : Int) p => p = (.int .i64 d, h)) := by
  refine fcut Tryz.func45 rfl rfl rfl rfl X ?_
  intro h0 X0
  refine dseq (dreg ?_)
  refine lbox rfl rfl rfl rfl rfl X0 (fun b24417 h24419 X24420 => ?_)
  refine lpure (v := .int .i64 0) rfl (p_assign rfl) rfl rfl ?_
  refine lend (nseq (dseq (dreg ?_)))
  refine lpure (v := .pointer (some ⟨b24417, 2, none⟩)) rfl (p_fa fo_25_2 rfl) rfl rfl ?_
  refine lread (v := .slice a24415 n24415 c24415) rfl (q_load wd_23 rfl) (St.ld X24420 (j := 0) rfl rfl) rfl ?_
  refine lpure (v := .int .i64 p24416) rfl (p_move rfl) rfl rfl ?_
  refine lpure (v := .int .i64 (w64 (Int.tdiv p24416 2))) rfl (p_quo rfl) rfl rfl ?_
  refine Sim.bindM fun e24421 he24422 => ?_
  obtain ⟨p24423, cs24423, hp24423, hF24423, hR24423⟩ := RSl.ia H24415 he24422 (kd := .i64) (n := 4) rfl
  obtain rfl := eApiLink_el hR24423
  refine lpure (v := p24423) rfl (p_ia rs_23 rfl) hp24423 rfl ?_
  refine lpure (v := ptrAdd p24423 2) rfl (p_fa fo_65_2 rfl) (FP.fa hF24423) rfl ?_
  refine lread (v := .int .i64 e24421.Per) rfl (q_load wd_3 rfl) (FP.ld X24420 (FP.add hF24423 (n := 2) (w := 1) rfl rfl)) rfl ?_
  refine lpure (v := .int .i64 e24421.Per) rfl (p_assign rfl) rfl rfl ?_
  refine lend (nseq (dret ?_))
  exact kcut_r (res_1 resT) X24420 rfl rfl
/-! isochron/isochronref21.Time -/
theorem f21_ok {n : Nat} {φ : Fz} {lo : Nat} {h : Heap} {own : OwnL}  {a24400 : Option Addr} {n24400 c24400 : Nat} {a24401 : Option Addr} {n24401 c24401 : Nat} {a24403 : Option Addr} {n24403 c24403 : Nat} (X : St φ lo h (own)) (p24399 : ApiTopo) (p24402 : (List Int)) (p24404 : Int) (H24400 : RSl eBool φ (.slice a24400 n24400 c24400) p24399.Station) (H24401 : RSl eApiLink φ (.slice a24401 n24401 c24401) p24399.Links) (H24403 : RSl (eInt .i64) φ (.slice a24403 n24403 c24403) p24402) : Sim ((recN Tryz.prog LL cutF (n + 2)).call 21 #[(.agg #[.int .i64 p24399.Nodes, .slice a24400 n24400 c24400, .slice a24401 n24401 c24401]), (.slice a24403 n24403 c24403), (.int .i64 p24404)] h) (m_isochronref21_Time p24399 p24402 p24404) (fun (d : Int) p => p = (.int .i64 d, h)) := by
  refine fcut Tryz.func21 rfl rfl rfl rfl X ?_
  intro h0 X0
  refine dseq (dreg ?_)
  refine lbox rfl rfl rfl rfl rfl X0 (fun b24405 h24407 X24408 => ?_)
  refine lpure (v := .int .i64 0) rfl (p_assign rfl) rfl rfl ?_
  refine lend (nseq (dseq (dreg ?_)))
  refine lpure (v := .int .i64 0) rfl (p_assign rfl) rfl rfl ?_
  refine lend (nseq (dseq (dseq (dreg ?_))))
  refine lpure (v := .int .i64 0) rfl (p_assign rfl) rfl rfl ?_
  refine lend (nseq (dblock ?_))
  refine dloopM (τ := Int × Int) (σ := Unit) (fun s24456 (_ : Unit) => [(1, .slice a24403 n24403 c24403), (2, .int .i64 p24404), (3, .pointer (some ⟨b24405, 0, none⟩)), (7, .int .i64 s24456.1), (8, .int .i64 s24456.2)]) (fun s24456 (_ : Unit) hh => St φ h.n hh ([(some b24405, .cells [.int .i64 p24399.Nodes, .slice a24400 n24400 c24400, .slice a24401 n24401 c24401] 25 .exact)])) (0, 0) () (sub_cons rfl (sub_cons rfl (sub_cons rfl (sub_cons rfl (sub_cons rfl sub_nil))))) X24408 ?_
  rintro n24476 ih24475 s24456 _ t0 h24478 X24477
  refine dseq (dseq (dreg ?_))
  refine lpure (v := .int .i64 s24456.2) rfl (p_move rfl) rfl rfl ?_
  refine lpure (v := .slice a24403 n24403 c24403) rfl (p_move rfl) rfl rfl ?_
  refine lpure (v := .int .i64 (p24402.length : Int)) rfl (p_len rfl rfl rfl un_27 rfl) (RSl.lenC H24403) rfl ?_
  refine lpure (v := .bool (decide (s24456.2 < (p24402.length : Int)))) rfl (p_lt rfl) rfl rfl ?_
  refine lend (nseq ?_)
  refine dcond rfl rfl (fun k24479 => ?_) (fun k24479 => ?_)
  · refine dskip (nseq (dseq (dblock ?_)))
    refine ddraw 0 0 0 (by kernel_rfl) ?_
    refine spure (v := .int .i64 s24456.1) rfl (p_move rfl) (lo_t rfl rfl) rfl rfl ?_
    refine spure (v := .int .i64 p24404) rfl (p_move rfl) (lo_t rfl rfl) rfl rfl ?_
    refine sload (v := .agg #[.int .i64 p24399.Nodes, .slice a24400 n24400 c24400, .slice a24401 n24401 c24401]) rfl rfl (q_load wd_25 rfl) (St.ld X24477 (j := 0) rfl rfl) (same_self 20 rfl) rfl ?_
    refine spure (v := .slice a24403 n24403 c24403) rfl (p_move rfl) (lo_t (lo_sl X24477 H24403) rfl) rfl rfl ?_
    refine spure (v := .int .i64 s24456.2) rfl (p_move rfl) (lo_t rfl rfl) rfl rfl ?_
    refine Sim.bindM fun e24480 he24481 => ?_
    obtain ⟨p24482, cs24482, hp24482, hF24482, hR24482⟩ := RSl.ia H24403 he24481 (kd := .i64) (n := 1) rfl
    have hR24482 : _ = [(.int .i64 e24480 : Value)] := hR24482
    subst hR24482
    refine spure (v := p24482) rfl (p_ia rs_27 rfl) (lo_t (lo_sl X24477 H24403) (lo_t rfl rfl)) hp24482 rfl ?_
    refine sload (v := .int .i64 e24480) rfl rfl (q_load wd_3 rfl) (FP.ld X24477 hF24482) (same_self 20 rfl) rfl ?_
    refine scall (en := fun d => (.int .i64 d)) rfl rfl ca_45 rfl rfl (f45_ok X24477 p24399 e24480 H24400 H24401) rfl (fun e24483 => ?_)
    refine spure (v := .int .i64 (w64 (p24404 * e24483))) rfl (p_mul rfl) (lo_t rfl (lo_t rfl rfl)) rfl rfl ?_
    refine spure (v := .int .i64 (w64 (s24456.1 + (w64 (p24404 * e24483))))) rfl (p_add rfl) (lo_t rfl (lo_t rfl rfl)) rfl rfl ?_
    refine sload (v := .agg #[.int .i64 p24399.Nodes, .slice a24400 n24400 c24400, .slice a24401 n24401 c24401]) rfl rfl (q_load wd_25 rfl) (St.ld X24477 (j := 0) rfl rfl) (same_self 20 rfl) rfl ?_
    refine spure (v := .slice a24403 n24403 c24403) rfl (p_move rfl) (lo_t (lo_sl X24477 H24403) rfl) rfl rfl ?_
    refine spure (v := .int .i64 s24456.2) rfl (p_move rfl) (lo_t rfl rfl) rfl rfl ?_
    refine Sim.bindM fun e24487 he24488 => ?_
    obtain ⟨p24489, cs24489, hp24489, hF24489, hR24489⟩ := RSl.ia H24403 he24488 (kd := .i64) (n := 1) rfl
    have hR24489 : _ = [(.int .i64 e24487 : Value)] := hR24489
    subst hR24489
    refine spure (v := p24489) rfl (p_ia rs_27 rfl) (lo_t (lo_sl X24477 H24403) (lo_t rfl rfl)) hp24489 rfl ?_
    refine sload (v := .int .i64 e24487) rfl rfl (q_load wd_3 rfl) (FP.ld X24477 hF24489) (same_self 20 rfl) rfl ?_
    refine scall (en := fun d => (.int .i64 d)) rfl rfl ca_43 rfl rfl (f43_ok X24477 p24399 e24487 H24400 H24401) rfl (fun e24490 => ?_)
    refine spure (v := .int .i64 (w64 ((w64 (s24456.1 + (w64 (p24404 * e24483)))) + e24490))) rfl (p_add rfl) (lo_t rfl (lo_t rfl rfl)) rfl rfl ?_
    refine spure (v := .int .i64 (w64 ((w64 (s24456.1 + (w64 (p24404 * e24483)))) + e24490))) rfl (p_assign rfl) (lo_t rfl rfl) rfl rfl ?_
    refine send ?_
    refine nblock (nseq (dreg ?_))
    refine lpure (v := .int .i64 s24456.2) rfl (p_move rfl) rfl rfl ?_
    refine lpure (v := .int .i64 (w64 (s24456.2 + 1))) rfl (p_add rfl) rfl rfl ?_
    refine lpure (v := .int .i64 (w64 (s24456.2 + 1))) rfl (p_assign rfl) rfl rfl ?_
    refine lend ?_
    exact kbackM ih24475 ((w64 ((w64 (s24456.1 + (w64 (p24404 * e24483)))) + e24490)), (w64 (s24456.2 + 1))) () (sub_cons rfl (sub_cons rfl (sub_cons rfl (sub_cons rfl (sub_cons rfl sub_nil))))) X24477
  refine dexit (eseq (eloop (xblock (nseq (dseq (dreg ?_))))))
  refine lpure (v := .int .i64 s24456.1) rfl (p_move rfl) rfl rfl ?_
  refine lpure (v := .int .i64 s24456.1) rfl (p_assign rfl) rfl rfl ?_
  refine lend (nseq (dret ?_))
  exact kcut_r (res_1 resT) X24477 rfl rfl
/-! isochron/isochronlaw21.RouteChecks -/
theorem f3_ok {n : Nat} {φ : Fz} {lo : Nat} {h : Heap} {own : OwnL}  {a2 : Option Addr} {n2 c2 : Nat} {a3 : Option Addr} {n3 c3 : Nat} {a5 : Option Addr} {n5 c5 : Nat} (X : St φ lo h (own)) (p1 : ApiTopo) (p4 : (List Int)) (p6 : Int) (H2 : RSl eBool φ (.slice a2 n2 c2) p1.Station) (H3 : RSl eApiLink φ (.slice a3 n3 c3) p1.Links) (H5 : RSl (eInt .i64) φ (.slice a5 n5 c5) p4) (K2 : c2 < unk) (K3 : c3 < unk) : Sim ((recN Tryz.prog LL cutF (n + 19)).call 3 #[(.agg #[.int .i64 p1.Nodes, .slice a2 n2 c2, .slice a3 n3 c3]), (.slice a5 n5 c5), (.int .i64 p6)] h) (m_isochronlaw21_RouteChecks p1 p4 p6) (fun (d : Bool) p => p = (.bool d, h)) := by
  refine fcut Tryz.func3 rfl rfl rfl rfl X ?_
  intro h0 X0
  refine dseq (dreg ?_)
  refine lbox rfl rfl rfl rfl rfl X0 (fun b7 h9 X10 => ?_)
  refine lpure (v := .bool false) rfl (p_assign rfl) rfl rfl ?_
  refine lend (nseq (dseq (dseq (dreg ?_))))
  refine lcall rfl rfl ca_6 rfl rfl (f6_ok X10) rfl (fun e18877 v18878 h18879 hq18880 => ?_)
  cases hq18880
  refine lpure (v := .bool (!e18877)) rfl (p_not rfl) rfl rfl ?_
  refine lend (nseq ?_)
  refine dcond rfl rfl (fun k18881 => ?_) (fun k18881 => ?_)
  · refine dseq (dreg ?_)
    refine lpure (v := .bool false) rfl (p_assign rfl) rfl rfl ?_
    refine lend (nseq (dret (rseq ?_)))
    exact kcut_r (res_1 resT) X10 rfl rfl
  refine dskip (nseq (dseq (dreg ?_)))
  refine lread (v := .agg #[.int .i64 p1.Nodes, .slice a2 n2 c2, .slice a3 n3 c3]) rfl (q_load wd_25 rfl) (St.ld X10 (j := 0) rfl rfl) rfl ?_
  refine lcall rfl rfl ca_7 rfl rfl (f7_ok X10 p1 H2 H3 K2 K3) rfl ?_
  rintro e18922 _ _ ⟨a18926, n18926, c18926, a18927, n18927, c18927, hq, H18926, H18927⟩
  cases hq
  refine lstore rfl ts_25 rfl rfl (j := 0) rfl rfl rfl rfl rfl rfl X10 (fun h18928 X18929 => ?_)
  refine lend (nseq (dseq (dreg ?_)))
  refine lpure (v := .slice a5 n5 c5) rfl (p_move rfl) rfl rfl ?_
  refine lcall rfl rfl ca_8 rfl rfl (f8_ok X18929 p4 H5) rfl ?_
  rintro e18944 _ h18946 ⟨φ18948, a18951, n18951, c18951, ob18951, blk18951, g18949, X18950, rfl, O18951⟩
  refine lpure (v := .slice a18951 n18951 c18951) rfl (p_assign rfl) rfl rfl ?_
  refine lend (nseq (dseq (dreg ?_)))
  refine lread (v := .agg #[.int .i64 e18922.Nodes, .slice a18926 n18926 c18926, .slice a18927 n18927 c18927]) rfl (q_load wd_25 rfl) (St.ld X18950 (j := 1) rfl rfl) rfl ?_
  refine lpure (v := .slice a18951 n18951 c18951) rfl (p_move rfl) rfl rfl ?_
  obtain ⟨φ18953, g18954, X18955, H18956⟩ := OSl.freeze X18950 (j := 0) rfl O18951
  refine lcall rfl rfl ca_9 rfl rfl (f9_ok X18955 e18922 e18944 (H18926.mono (g18949.trans g18954)) (H18927.mono (g18949.trans g18954)) H18956) rfl ?_
  rintro e18957 _ h18959 ⟨φ18961, a18964, n18964, c18964, ob18964, blk18964, g18962, X18963, rfl, O18964⟩
  refine lpure (v := .tuple #[.slice a18964 n18964 c18964, .int .i64 e18957.2]) rfl (p_move rfl) rfl rfl ?_
  refine lpure (v := .slice a18964 n18964 c18964) rfl (p_extract rfl) rfl rfl ?_
  refine lpure (v := .int .i64 e18957.2) rfl (p_extract rfl) rfl rfl ?_
  refine lpure (v := .slice a18964 n18964 c18964) rfl (p_assign rfl) rfl rfl ?_
  refine lpure (v := .int .i64 e18957.2) rfl (p_assign rfl) rfl rfl ?_
  refine lend (nseq (dseq (dreg ?_)))
  refine lread (v := .agg #[.int .i64 e18922.Nodes, .slice a18926 n18926 c18926, .slice a18927 n18927 c18927]) rfl (q_load wd_25 rfl) (St.ld X18963 (j := 2) rfl rfl) rfl ?_
  refine lpure (v := .slice a18951 n18951 c18951) rfl (p_move rfl) rfl rfl ?_
  refine lcall rfl rfl ca_10 rfl rfl (f10_ok X18963 e18922 e18944 (H18926.mono ((g18949.trans g18954).trans g18962)) (H18927.mono ((g18949.trans g18954).trans g18962)) (H18956.mono g18962)) rfl (fun e18966 v18967 h18968 hq18969 => ?_)
  cases hq18969
  refine lpure (v := .tuple #[.int .i64 e18966.1, .int .i64 e18966.2.1, .int .i64 e18966.2.2]) rfl (p_move rfl) rfl rfl ?_
  refine lpure (v := .int .i64 e18966.1) rfl (p_extract rfl) rfl rfl ?_
  refine lpure (v := .int .i64 e18966.2.1) rfl (p_extract rfl) rfl rfl ?_
  refine lpure (v := .int .i64 e18966.2.2) rfl (p_extract rfl) rfl rfl ?_
  refine lpure (v := .int .i64 e18966.1) rfl (p_assign rfl) rfl rfl ?_
  refine lpure (v := .int .i64 e18966.2.1) rfl (p_assign rfl) rfl rfl ?_
  refine lpure (v := .int .i64 e18966.2.2) rfl (p_assign rfl) rfl rfl ?_
  refine lend (nseq (dseq (dreg ?_)))
  refine lread (v := .agg #[.int .i64 e18922.Nodes, .slice a18926 n18926 c18926, .slice a18927 n18927 c18927]) rfl (q_load wd_25 rfl) (St.ld X18963 (j := 2) rfl rfl) rfl ?_
  refine lpure (v := .slice a18951 n18951 c18951) rfl (p_move rfl) rfl rfl ?_
  refine lcall rfl rfl ca_11 rfl rfl (f11_ok X18963 e18922 e18944 (H18926.mono ((g18949.trans g18954).trans g18962)) (H18927.mono ((g18949.trans g18954).trans g18962)) (H18956.mono g18962)) rfl (fun e18970 v18971 h18972 hq18973 => ?_)
  cases hq18973
  refine lpure (v := .tuple #[.int .i64 e18970.1, .int .i64 e18970.2]) rfl (p_move rfl) rfl rfl ?_
  refine lpure (v := .int .i64 e18970.1) rfl (p_extract rfl) rfl rfl ?_
  refine lpure (v := .int .i64 e18970.2) rfl (p_extract rfl) rfl rfl ?_
  refine lpure (v := .int .i64 e18970.1) rfl (p_assign rfl) rfl rfl ?_
  refine lpure (v := .int .i64 e18970.2) rfl (p_assign rfl) rfl rfl ?_
  refine lend (nseq (dseq (dreg ?_)))
  refine lread (v := .agg #[.int .i64 e18922.Nodes, .slice a18926 n18926 c18926, .slice a18927 n18927 c18927]) rfl (q_load wd_25 rfl) (St.ld X18963 (j := 2) rfl rfl) rfl ?_
  refine lpure (v := .slice a18951 n18951 c18951) rfl (p_move rfl) rfl rfl ?_
  refine lpure (v := .int .i64 p6) rfl (p_move rfl) rfl rfl ?_
  refine lcall rfl rfl ca_12 rfl rfl (f12_ok X18963 e18922 e18944 p6 (H18926.mono ((g18949.trans g18954).trans g18962)) (H18927.mono ((g18949.trans g18954).trans g18962)) (H18956.mono g18962)) rfl (fun e18974 v18975 h18976 hq18977 => ?_)
  cases hq18977
  refine lpure (v := .tuple #[.int .i64 e18974.1, .int .i64 e18974.2]) rfl (p_move rfl) rfl rfl ?_
  refine lpure (v := .int .i64 e18974.1) rfl (p_extract rfl) rfl rfl ?_
  refine lpure (v := .int .i64 e18974.2) rfl (p_extract rfl) rfl rfl ?_
  refine lpure (v := .int .i64 e18974.1) rfl (p_assign rfl) rfl rfl ?_
  refine lpure (v := .int .i64 e18974.2) rfl (p_assign rfl) rfl rfl ?_
  refine lend (nseq (dseq (dreg ?_)))
  refine lread (v := .agg #[.int .i64 e18922.Nodes, .slice a18926 n18926 c18926, .slice a18927 n18927 c18927]) rfl (q_load wd_25 rfl) (St.ld X18963 (j := 2) rfl rfl) rfl ?_
  refine lpure (v := .slice a18951 n18951 c18951) rfl (p_move rfl) rfl rfl ?_
  refine lcall rfl rfl ca_13 rfl rfl (f13_ok X18963 e18922 e18944 (H18926.mono ((g18949.trans g18954).trans g18962)) (H18927.mono ((g18949.trans g18954).trans g18962)) (H18956.mono g18962)) rfl ?_
  rintro e18978 _ h18980 ⟨φ18982, a18985, n18985, c18985, ob18985, blk18985, g18983, X18984, rfl, O18985⟩
  refine lpure (v := .tuple #[.slice a18985 n18985 c18985, .int .i64 e18978.2]) rfl (p_move rfl) rfl rfl ?_
  refine lpure (v := .slice a18985 n18985 c18985) rfl (p_extract rfl) rfl rfl ?_
  refine lpure (v := .int .i64 e18978.2) rfl (p_extract rfl) rfl rfl ?_
  refine lpure (v := .slice a18985 n18985 c18985) rfl (p_assign rfl) rfl rfl ?_
  refine lpure (v := .int .i64 e18978.2) rfl (p_assign rfl) rfl rfl ?_
  refine lend (nseq (dseq (dreg ?_)))
  refine lread (v := .agg #[.int .i64 e18922.Nodes, .slice a18926 n18926 c18926, .slice a18927 n18927 c18927]) rfl (q_load wd_25 rfl) (St.ld X18984 (j := 3) rfl rfl) rfl ?_
  refine lpure (v := .slice a18951 n18951 c18951) rfl (p_move rfl) rfl rfl ?_
  obtain ⟨h18987, b18987, hv18987, X18987, O18987⟩ := OSl.lay (E := (eSl (eInt .i64))) (φ := φ18982) (cs := [.slice a18951 n18951 c18951]) (l := [e18944]) (len := 1) (parts := [(0, .slice a18951 n18951 c18951)]) un_52 ts_27 rfl rfl rfl tz_27 rfl rfl (show RowD (eSl (eInt .i64)) φ18982 [.slice a18951 n18951 c18951] [e18944] from ⟨[.slice a18951 n18951 c18951], _, rfl, ⟨_, _, _, rfl, (H18956.mono (g18962.trans g18983))⟩, rfl⟩) rfl rfl X18984
  refine lheap rfl (h_buildSlice rfl) hv18987 rfl ?_
  obtain ⟨φ24036, g24037, X24038, H24039⟩ := OSl.freeze X18987 (j := 0) rfl O18987
  refine lcall rfl rfl ca_14 rfl rfl (f14_ok X24038 e18922 ([e18944]) (H18926.mono ((((g18949.trans g18954).trans g18962).trans g18983).trans g24037)) (H18927.mono ((((g18949.trans g18954).trans g18962).trans g18983).trans g24037)) H24039) rfl (fun e24040 v24041 h24042 hq24043 => ?_)
  cases hq24043
  refine lpure (v := .int .i64 e24040) rfl (p_assign rfl) rfl rfl ?_
  refine lend (nseq (dseq (dseq (dreg ?_))))
  refine lread (v := .agg #[.int .i64 e18922.Nodes, .slice a18926 n18926 c18926, .slice a18927 n18927 c18927]) rfl (q_load wd_25 rfl) (St.ld X18987 (j := 4) rfl rfl) rfl ?_
  refine lpure (v := .slice a18951 n18951 c18951) rfl (p_move rfl) rfl rfl ?_
  refine lcall rfl rfl ca_15 rfl rfl (f15_ok X18987 e18922 e18944 (H18926.mono (((g18949.trans g18954).trans g18962).trans g18983)) (H18927.mono (((g18949.trans g18954).trans g18962).trans g18983)) (H18956.mono (g18962.trans g18983))) rfl (fun e24044 v24045 h24046 hq24047 => ?_)
  cases hq24047
  refine lpure (v := .int .i64 e24040) rfl (p_move rfl) rfl rfl ?_
  refine lpure (v := .bool (decide (e24044 ≠ e24040))) rfl (p_ne rfl) rfl rfl ?_
  refine lpure (v := .bool (decide (e24044 ≠ e24040))) rfl (p_move rfl) rfl rfl ?_
  refine lsh (τ := Bool) (σ := Unit) (fun s24049 (_ : Unit) => [(2, .int .i64 p6), (3, .pointer (some ⟨b7, 0, none⟩)), (7, .slice a18951 n18951 c18951), (8, .slice a18964 n18964 c18964), (10, .int .i64 e18966.1), (11, .int .i64 e18966.2.1), (12, .int .i64 e18966.2.2), (13, .int .i64 e18970.1), (14, .int .i64 e18970.2), (15, .int .i64 e18974.1), (16, .int .i64 e18974.2), (17, .slice a18985 n18985 c18985), (18, .int .i64 e18978.2), (19, .int .i64 e24040), (72, .bool s24049)]) (fun s24049 (_ : Unit) hh => St φ18982 h.n hh ([(some b18987, (.cells [.slice a18951 n18951 c18951] 27 .exact)), (ob18985, blk18985), (ob18964, blk18964), (none, .dead), (some b7, .cells [.int .i64 e18922.Nodes, .slice a18926 n18926 c18926, .slice a18927 n18927 c18927] 25 .exact)])) 4 ?_ ?_
  · rintro s24049 _ t0 h24051 X24050
    refine lpure (v := .bool s24049) rfl (p_move rfl) rfl rfl ?_
    refine lsh (τ := Bool) (σ := Unit) (fun s24053 (_ : Unit) => [(2, .int .i64 p6), (3, .pointer (some ⟨b7, 0, none⟩)), (7, .slice a18951 n18951 c18951), (8, .slice a18964 n18964 c18964), (10, .int .i64 e18966.1), (11, .int .i64 e18966.2.1), (13, .int .i64 e18970.1), (14, .int .i64 e18970.2), (15, .int .i64 e18974.1), (16, .int .i64 e18974.2), (17, .slice a18985 n18985 c18985), (18, .int .i64 e18978.2), (19, .int .i64 e24040), (77, .bool s24053)]) (fun s24053 (_ : Unit) hh => St φ18982 h.n hh ([(some b18987, (.cells [.slice a18951 n18951 c18951] 27 .exact)), (ob18985, blk18985), (ob18964, blk18964), (none, .dead), (some b7, .cells [.int .i64 e18922.Nodes, .slice a18926 n18926 c18926, .slice a18927 n18927 c18927] 25 .exact)])) 4 ?_ ?_
    · rintro s24053 _ t0 h24055 X24054
      refine lpure (v := .bool s24053) rfl (p_move rfl) rfl rfl ?_
      refine lsh (τ := Bool) (σ := Unit) (fun s24057 (_ : Unit) => [(2, .int .i64 p6), (3, .pointer (some ⟨b7, 0, none⟩)), (7, .slice a18951 n18951 c18951), (8, .slice a18964 n18964 c18964), (10, .int .i64 e18966.1), (11, .int .i64 e18966.2.1), (13, .int .i64 e18970.1), (15, .int .i64 e18974.1), (16, .int .i64 e18974.2), (17, .slice a18985 n18985 c18985), (18, .int .i64 e18978.2), (19, .int .i64 e24040), (82, .bool s24057)]) (fun s24057 (_ : Unit) hh => St φ18982 h.n hh ([(some b18987, (.cells [.slice a18951 n18951 c18951] 27 .exact)), (ob18985, blk18985), (ob18964, blk18964), (none, .dead), (some b7, .cells [.int .i64 e18922.Nodes, .slice a18926 n18926 c18926, .slice a18927 n18927 c18927] 25 .exact)])) 4 ?_ ?_
      · rintro s24057 _ t0 h24059 X24058
        refine lpure (v := .bool s24057) rfl (p_move rfl) rfl rfl ?_
        refine lsh (τ := Bool) (σ := Unit) (fun s24061 (_ : Unit) => [(2, .int .i64 p6), (3, .pointer (some ⟨b7, 0, none⟩)), (7, .slice a18951 n18951 c18951), (8, .slice a18964 n18964 c18964), (10, .int .i64 e18966.1), (11, .int .i64 e18966.2.1), (13, .int .i64 e18970.1), (15, .int .i64 e18974.1), (16, .int .i64 e18974.2), (17, .slice a18985 n18985 c18985), (19, .int .i64 e24040), (87, .bool s24061)]) (fun s24061 (_ : Unit) hh => St φ18982 h.n hh ([(some b18987, (.cells [.slice a18951 n18951 c18951] 27 .exact)), (ob18985, blk18985), (ob18964, blk18964), (none, .dead), (some b7, .cells [.int .i64 e18922.Nodes, .slice a18926 n18926 c18926, .slice a18927 n18927 c18927] 25 .exact)])) 4 ?_ ?_
        · rintro s24061 _ t0 h24063 X24062
          refine lend (nseq ?_)
          refine dcond rfl rfl (fun k24064 => ?_) (fun k24064 => ?_)
          · refine dseq (dreg ?_)
            refine lpure (v := .bool false) rfl (p_assign rfl) rfl rfl ?_
            refine lend (nseq (dret (rseq ?_)))
            exact kcut_r (res_1 resT) X24062 rfl rfl
          refine dskip (nseq (dseq (dseq (dreg ?_))))
          refine lpure (v := .int .i64 e24040) rfl (p_move rfl) rfl rfl ?_
          refine lpure (v := .bool (decide (e24040 ≠ 0))) rfl (p_ne rfl) rfl rfl ?_
          refine lend (nseq ?_)
          refine dcond rfl rfl (fun k24065 => ?_) (fun k24065 => ?_)
          · refine dseq (dreg ?_)
            refine lpure (v := .int .i64 e18974.2) rfl (p_move rfl) rfl rfl ?_
            refine lpure (v := .int .i64 e24040) rfl (p_move rfl) rfl rfl ?_
            refine lpure (v := .bool (decide (e18974.2 = e24040))) rfl (p_eq rfl) rfl rfl ?_
            refine lpure (v := .bool (decide (e18974.2 = e24040))) rfl (p_move rfl) rfl rfl ?_
            refine lsh (τ := Bool) (σ := Unit) (fun s24067 (_ : Unit) => [(10, .int .i64 e18966.1), (11, .int .i64 e18966.2.1), (13, .int .i64 e18970.1), (15, .int .i64 e18974.1), (17, .slice a18985 n18985 c18985), (97, .bool s24067)]) (fun s24067 (_ : Unit) hh => St φ18982 h.n hh ([(some b18987, (.cells [.slice a18951 n18951 c18951] 27 .exact)), (ob18985, blk18985), (ob18964, blk18964), (none, .dead), (some b7, .cells [.int .i64 e18922.Nodes, .slice a18926 n18926 c18926, .slice a18927 n18927 c18927] 25 .exact)])) 4 ?_ ?_
            · rintro s24067 _ t0 h24069 X24068
              refine lpure (v := .bool s24067) rfl (p_move rfl) rfl rfl ?_
              refine lsh (τ := Bool) (σ := Unit) (fun s24071 (_ : Unit) => [(11, .int .i64 e18966.2.1), (13, .int .i64 e18970.1), (15, .int .i64 e18974.1), (17, .slice a18985 n18985 c18985), (101, .bool s24071)]) (fun s24071 (_ : Unit) hh => St φ18982 h.n hh ([(some b18987, (.cells [.slice a18951 n18951 c18951] 27 .exact)), (ob18985, blk18985), (ob18964, blk18964), (none, .dead), (some b7, .cells [.int .i64 e18922.Nodes, .slice a18926 n18926 c18926, .slice a18927 n18927 c18927] 25 .exact)])) 3 ?_ ?_
              · rintro s24071 _ t0 h24073 X24072
                refine lpure (v := .bool s24071) rfl (p_move rfl) rfl rfl ?_
                refine lsh (τ := Bool) (σ := Unit) (fun s24075 (_ : Unit) => [(13, .int .i64 e18970.1), (15, .int .i64 e18974.1), (17, .slice a18985 n18985 c18985), (105, .bool s24075)]) (fun s24075 (_ : Unit) hh => St φ18982 h.n hh ([(some b18987, (.cells [.slice a18951 n18951 c18951] 27 .exact)), (ob18985, blk18985), (ob18964, blk18964), (none, .dead), (some b7, .cells [.int .i64 e18922.Nodes, .slice a18926 n18926 c18926, .slice a18927 n18927 c18927] 25 .exact)])) 3 ?_ ?_
                · rintro s24075 _ t0 h24077 X24076
                  refine lpure (v := .bool s24075) rfl (p_move rfl) rfl rfl ?_
                  refine lsh (τ := Bool) (σ := Unit) (fun s24079 (_ : Unit) => [(15, .int .i64 e18974.1), (17, .slice a18985 n18985 c18985), (109, .bool s24079)]) (fun s24079 (_ : Unit) hh => St φ18982 h.n hh ([(some b18987, (.cells [.slice a18951 n18951 c18951] 27 .exact)), (ob18985, blk18985), (ob18964, blk18964), (none, .dead), (some b7, .cells [.int .i64 e18922.Nodes, .slice a18926 n18926 c18926, .slice a18927 n18927 c18927] 25 .exact)])) 3 ?_ ?_
                  · rintro s24079 _ t0 h24081 X24080
                    refine lpure (v := .bool s24079) rfl (p_move rfl) rfl rfl ?_
                    refine lsh (τ := Bool) (σ := Unit) (fun s24083 (_ : Unit) => [(17, .slice a18985 n18985 c18985), (113, .bool s24083)]) (fun s24083 (_ : Unit) hh => St φ18982 h.n hh ([(some b18987, (.cells [.slice a18951 n18951 c18951] 27 .exact)), (ob18985, blk18985), (ob18964, blk18964), (none, .dead), (some b7, .cells [.int .i64 e18922.Nodes, .slice a18926 n18926 c18926, .slice a18927 n18927 c18927] 25 .exact)])) 3 ?_ ?_
                    · rintro s24083 _ t0 h24085 X24084
                      refine lpure (v := .bool s24083) rfl (p_move rfl) rfl rfl ?_
                      refine lsh (τ := Bool) (σ := Unit) (fun s24087 (_ : Unit) => [(118, .bool s24087)]) (fun s24087 (_ : Unit) hh => St φ18982 h.n hh ([(some b18987, (.cells [.slice a18951 n18951 c18951] 27 .exact)), (ob18985, blk18985), (ob18964, blk18964), (none, .dead), (some b7, .cells [.int .i64 e18922.Nodes, .slice a18926 n18926 c18926, .slice a18927 n18927 c18927] 25 .exact)])) 4 ?_ ?_
                      · rintro s24087 _ t0 h24089 X24088
                        refine lpure (v := .bool s24087) rfl (p_assign rfl) rfl rfl ?_
                        refine lend (nseq (dret (rseq ?_)))
                        exact kcut_r (res_1 resT) X24088 rfl rfl
                      intro j24090 J24091
                      refine lcase (i := 114) (show _ = Value.bool s24083 from rfl) (fun k24092 => ?_) (fun k24092 => ?_)
                      · refine lpure (v := .slice a18985 n18985 c18985) rfl (p_move rfl) rfl rfl ?_
                        refine lpure (v := .int .i64 (e18978.1.length : Int)) rfl (p_len rfl rfl rfl un_27 rfl) (OSl.len O18985) rfl ?_
                        refine lpure (v := .bool (decide ((e18978.1.length : Int) = 0))) rfl (p_eq rfl) rfl rfl ?_
                        refine lpure (v := .bool (decide ((e18978.1.length : Int) = 0))) rfl (p_pick rfl) rfl rfl ?_
                        refine Sim.of_eq (congrArg j24090 (show (s24083 && (decide ((e18978.1.length : Int) = 0))) = (decide ((e18978.1.length : Int) = 0)) from by rw [k24092] <;> rfl)) ?_
                        exact ljmpM J24091 (decide ((e18978.1.length : Int) = 0)) () (sub_cons rfl sub_nil) (St.pick X24084 (.keep _ (.keep _ (.keep _ (.none _ (.skip _ (.keep _ (.nil _))))))))
                      refine lskip rfl rfl ?_
                      refine lskip rfl rfl ?_
                      refine lskip rfl rfl ?_
                      refine lpure (v := .bool false) rfl (p_pick rfl) rfl rfl ?_
                      refine Sim.of_eq (congrArg j24090 (show (s24083 && (decide ((e18978.1.length : Int) = 0))) = false from by rw [k24092] <;> rfl)) ?_
                      exact ljmpM J24091 false () (sub_cons rfl sub_nil) (St.pick X24084 (.keep _ (.keep _ (.keep _ (.none _ (.skip _ (.keep _ (.nil _))))))))
                    intro j24093 J24094
                    refine lcase (i := 110) (show _ = Value.bool s24079 from rfl) (fun k24095 => ?_) (fun k24095 => ?_)
                    · refine lpure (v := .int .i64 e18974.1) rfl (p_move rfl) rfl rfl ?_
                      refine lpure (v := .bool (decide (e18974.1 = 0))) rfl (p_eq rfl) rfl rfl ?_
                      refine lpure (v := .bool (decide (e18974.1 = 0))) rfl (p_pick rfl) rfl rfl ?_
                      refine Sim.of_eq (congrArg j24093 (show (s24079 && (decide (e18974.1 = 0))) = (decide (e18974.1 = 0)) from by rw [k24095] <;> rfl)) ?_
                      exact ljmpM J24094 (decide (e18974.1 = 0)) () (sub_cons rfl (sub_cons rfl sub_nil)) (St.pick X24080 (.keep _ (.keep _ (.keep _ (.none _ (.skip _ (.keep _ (.nil _))))))))
                    refine lskip rfl rfl ?_
                    refine lskip rfl rfl ?_
                    refine lpure (v := .bool false) rfl (p_pick rfl) rfl rfl ?_
                    refine Sim.of_eq (congrArg j24093 (show (s24079 && (decide (e18974.1 = 0))) = false from by rw [k24095] <;> rfl)) ?_
                    exact ljmpM J24094 false () (sub_cons rfl (sub_cons rfl sub_nil)) (St.pick X24080 (.keep _ (.keep _ (.keep _ (.none _ (.skip _ (.keep _ (.nil _))))))))
                  intro j24096 J24097
                  refine lcase (i := 106) (show _ = Value.bool s24075 from rfl) (fun k24098 => ?_) (fun k24098 => ?_)
                  · refine lpure (v := .int .i64 e18970.1) rfl (p_move rfl) rfl rfl ?_
                    refine lpure (v := .bool (decide (e18970.1 = 0))) rfl (p_eq rfl) rfl rfl ?_
                    refine lpure (v := .bool (decide (e18970.1 = 0))) rfl (p_pick rfl) rfl rfl ?_
                    refine Sim.of_eq (congrArg j24096 (show (s24075 && (decide (e18970.1 = 0))) = (decide (e18970.1 = 0)) from by rw [k24098] <;> rfl)) ?_
                    exact ljmpM J24097 (decide (e18970.1 = 0)) () (sub_cons rfl (sub_cons rfl (sub_cons rfl sub_nil))) (St.pick X24076 (.keep _ (.keep _ (.keep _ (.none _ (.skip _ (.keep _ (.nil _))))))))
                  refine lskip rfl rfl ?_
                  refine lskip rfl rfl ?_
                  refine lpure (v := .bool false) rfl (p_pick rfl) rfl rfl ?_
                  refine Sim.of_eq (congrArg j24096 (show (s24075 && (decide (e18970.1 = 0))) = false from by rw [k24098] <;> rfl)) ?_
                  exact ljmpM J24097 false () (sub_cons rfl (sub_cons rfl (sub_cons rfl sub_nil))) (St.pick X24076 (.keep _ (.keep _ (.keep _ (.none _ (.skip _ (.keep _ (.nil _))))))))
                intro j24099 J24100
                refine lcase (i := 102) (show _ = Value.bool s24071 from rfl) (fun k24101 => ?_) (fun k24101 => ?_)
                · refine lpure (v := .int .i64 e18966.2.1) rfl (p_move rfl) rfl rfl ?_
                  refine lpure (v := .bool (decide (e18966.2.1 = 0))) rfl (p_eq rfl) rfl rfl ?_
                  refine lpure (v := .bool (decide (e18966.2.1 = 0))) rfl (p_pick rfl) rfl rfl ?_
                  refine Sim.of_eq (congrArg j24099 (show (s24071 && (decide (e18966.2.1 = 0))) = (decide (e18966.2.1 = 0)) from by rw [k24101] <;> rfl)) ?_
                  exact ljmpM J24100 (decide (e18966.2.1 = 0)) () (sub_cons rfl (sub_cons rfl (sub_cons rfl (sub_cons rfl sub_nil)))) (St.pick X24072 (.keep _ (.keep _ (.keep _ (.none _ (.skip _ (.keep _ (.nil _))))))))
                refine lskip rfl rfl ?_
                refine lskip rfl rfl ?_
                refine lpure (v := .bool false) rfl (p_pick rfl) rfl rfl ?_
                refine Sim.of_eq (congrArg j24099 (show (s24071 && (decide (e18966.2.1 = 0))) = false from by rw [k24101] <;> rfl)) ?_
                exact ljmpM J24100 false () (sub_cons rfl (sub_cons rfl (sub_cons rfl (sub_cons rfl sub_nil)))) (St.pick X24072 (.keep _ (.keep _ (.keep _ (.none _ (.skip _ (.keep _ (.nil _))))))))
              intro j24102 J24103
              refine lcase (i := 98) (show _ = Value.bool s24067 from rfl) (fun k24104 => ?_) (fun k24104 => ?_)
              · refine lpure (v := .int .i64 e18966.1) rfl (p_move rfl) rfl rfl ?_
                refine lpure (v := .bool (decide (e18966.1 = 0))) rfl (p_eq rfl) rfl rfl ?_
                refine lpure (v := .bool (decide (e18966.1 = 0))) rfl (p_pick rfl) rfl rfl ?_
                refine Sim.of_eq (congrArg j24102 (show (s24067 && (decide (e18966.1 = 0))) = (decide (e18966.1 = 0)) from by rw [k24104] <;> rfl)) ?_
                exact ljmpM J24103 (decide (e18966.1 = 0)) () (sub_cons rfl (sub_cons rfl (sub_cons rfl (sub_cons rfl (sub_cons rfl sub_nil))))) (St.pick X24068 (.keep _ (.keep _ (.keep _ (.none _ (.skip _ (.keep _ (.nil _))))))))
              refine lskip rfl rfl ?_
              refine lskip rfl rfl ?_
              refine lpure (v := .bool false) rfl (p_pick rfl) rfl rfl ?_
              refine Sim.of_eq (congrArg j24102 (show (s24067 && (decide (e18966.1 = 0))) = false from by rw [k24104] <;> rfl)) ?_
              exact ljmpM J24103 false () (sub_cons rfl (sub_cons rfl (sub_cons rfl (sub_cons rfl (sub_cons rfl sub_nil))))) (St.pick X24068 (.keep _ (.keep _ (.keep _ (.none _ (.skip _ (.keep _ (.nil _))))))))
            intro j24105 J24106
            refine lcase (i := 93) (show _ = Value.bool (decide (e18974.2 = e24040)) from rfl) (fun k24107 => ?_) (fun k24107 => ?_)
            · refine lpure (v := .slice a18964 n18964 c18964) rfl (p_move rfl) rfl rfl ?_
              refine lpure (v := .int .i64 (e18957.1.length : Int)) rfl (p_len rfl rfl rfl un_26 rfl) (OSl.len (O18964.mono g18983)) rfl ?_
              refine lpure (v := .bool (decide ((e18957.1.length : Int) = 0))) rfl (p_eq rfl) rfl rfl ?_
              refine lpure (v := .bool (decide ((e18957.1.length : Int) = 0))) rfl (p_pick rfl) rfl rfl ?_
              refine Sim.of_eq (congrArg j24105 (show ((decide (e18974.2 = e24040)) && (decide ((e18957.1.length : Int) = 0))) = (decide ((e18957.1.length : Int) = 0)) from by rw [k24107] <;> rfl)) ?_
              exact ljmpM J24106 (decide ((e18957.1.length : Int) = 0)) () (sub_cons rfl (sub_cons rfl (sub_cons rfl (sub_cons rfl (sub_cons rfl (sub_cons rfl sub_nil)))))) (St.pick X24062 (.keep _ (.keep _ (.keep _ (.none _ (.skip _ (.keep _ (.nil _))))))))
            refine lskip rfl rfl ?_
            refine lskip rfl rfl ?_
            refine lskip rfl rfl ?_
            refine lpure (v := .bool false) rfl (p_pick rfl) rfl rfl ?_
            refine Sim.of_eq (congrArg j24105 (show ((decide (e18974.2 = e24040)) && (decide ((e18957.1.length : Int) = 0))) = false from by rw [k24107] <;> rfl)) ?_
            exact ljmpM J24106 false () (sub_cons rfl (sub_cons rfl (sub_cons rfl (sub_cons rfl (sub_cons rfl (sub_cons rfl sub_nil)))))) (St.pick X24062 (.keep _ (.keep _ (.keep _ (.none _ (.skip _ (.keep _ (.nil _))))))))
          refine dskip (nseq (dseq (dreg ?_)))
          refine lread (v := .agg #[.int .i64 e18922.Nodes, .slice a18926 n18926 c18926, .slice a18927 n18927 c18927]) rfl (q_load wd_25 rfl) (St.ld X24062 (j := 4) rfl rfl) rfl ?_
          refine lpure (v := .slice a18951 n18951 c18951) rfl (p_move rfl) rfl rfl ?_
          refine lcall rfl rfl ca_16 rfl rfl (f16_ok X24062 e18922 e18944 (H18926.mono (((g18949.trans g18954).trans g18962).trans g18983)) (H18927.mono (((g18949.trans g18954).trans g18962).trans g18983)) (H18956.mono (g18962.trans g18983))) rfl ?_
          rintro e24108 _ h24110 ⟨φ24112, a24115, n24115, c24115, ob24115, blk24115, g24113, X24114, rfl, O24115⟩
          refine lpure (v := .slice a24115 n24115 c24115) rfl (p_assign rfl) rfl rfl ?_
          refine lend (nseq (dseq (dseq (dreg ?_))))
          refine lpure (v := .slice a18964 n18964 c18964) rfl (p_move rfl) rfl rfl ?_
          refine lpure (v := .slice a24115 n24115 c24115) rfl (p_move rfl) rfl rfl ?_
          obtain ⟨φ24117, g24118, X24119, H24120⟩ := OSl.freeze X24114 (j := 3) rfl (O18964.mono (g18983.trans g24113))
          obtain ⟨φ24121, g24122, X24123, H24124⟩ := OSl.freeze X24119 (j := 0) rfl (O24115.mono g24118)
          refine lcall rfl rfl ca_17 rfl rfl (f17_ok X24123 (e18957.1) e24108 (H24120.mono g24122) H24124) rfl (fun e24125 v24126 h24127 hq24128 => ?_)
          cases hq24128
          refine lpure (v := .bool (!e24125)) rfl (p_not rfl) rfl rfl ?_
          refine lpure (v := .bool (!e24125)) rfl (p_move rfl) rfl rfl ?_
          refine ljoinM (τ := (List Int) × Bool) (σ := Blk) (fun s24134 blk24135 => [(2, .int .i64 p6), (3, .pointer (some ⟨b7, 0, none⟩)), (7, .slice a18951 n18951 c18951), (11, .int .i64 e18966.2.1), (13, .int .i64 e18970.1), (15, .int .i64 e18974.1), (16, .int .i64 e18974.2), (17, .slice a18985 n18985 c18985), (20, .slice a24115 n24115 c24115), (132, .bool s24134.2)]) (fun s24134 blk24135 hh => St φ24112 h.n hh ([(ob24115, blk24135), (some b18987, (.cells [.slice a18951 n18951 c18951] 27 .exact)), (ob18985, blk18985), (ob18964, blk18964), (none, .dead), (some b7, .cells [.int .i64 e18922.Nodes, .slice a18926 n18926 c18926, .slice a18927 n18927 c18927] 25 .exact)]) ∧ OSl (eInt .i64) φ24112 3 ob24115 blk24135 (.slice a24115 n24115 c24115) s24134.1) 6 ?_ ?_
          · rintro s24134 blk24135 t0 h24137 ⟨X24136, O24135⟩
            refine lpure (v := .bool s24134.2) rfl (p_move rfl) rfl rfl ?_
            refine ljoinM (τ := Bool × (List Int)) (σ := Blk) (fun s24143 blk24144 => [(2, .int .i64 p6), (3, .pointer (some ⟨b7, 0, none⟩)), (7, .slice a18951 n18951 c18951), (13, .int .i64 e18970.1), (15, .int .i64 e18974.1), (16, .int .i64 e18974.2), (17, .slice a18985 n18985 c18985), (142, .bool s24143.1)]) (fun s24143 blk24144 hh => St φ24112 h.n hh ([(ob24115, blk24144), (some b18987, (.cells [.slice a18951 n18951 c18951] 27 .exact)), (ob18985, blk18985), (ob18964, blk18964), (none, .dead), (some b7, .cells [.int .i64 e18922.Nodes, .slice a18926 n18926 c18926, .slice a18927 n18927 c18927] 25 .exact)]) ∧ OSl (eInt .i64) φ24112 3 ob24115 blk24144 (.slice a24115 n24115 c24115) s24143.2) 9 ?_ ?_
            · rintro s24143 blk24144 t0 h24146 ⟨X24145, O24144⟩
              refine lpure (v := .bool s24143.1) rfl (p_move rfl) rfl rfl ?_
              refine ljoinM (τ := Bool) (σ := Unit) (fun s24219 (_ : Unit) => [(2, .int .i64 p6), (3, .pointer (some ⟨b7, 0, none⟩)), (7, .slice a18951 n18951 c18951), (15, .int .i64 e18974.1), (16, .int .i64 e18974.2), (17, .slice a18985 n18985 c18985), (149, .bool s24219)]) (fun s24219 (_ : Unit) hh => St φ24112 h.n hh ([(ob24115, blk24144), (some b18987, (.cells [.slice a18951 n18951 c18951] 27 .exact)), (ob18985, blk18985), (ob18964, blk18964), (none, .dead), (some b7, .cells [.int .i64 e18922.Nodes, .slice a18926 n18926 c18926, .slice a18927 n18927 c18927] 25 .exact)])) 6 ?_ ?_
              · rintro s24219 _ t0 h24221 X24220
                refine lpure (v := .bool s24219) rfl (p_move rfl) rfl rfl ?_
                refine ljoinM (τ := Bool) (σ := Fz) (fun s24381 φ24382 => [(2, .int .i64 p6), (3, .pointer (some ⟨b7, 0, none⟩)), (7, .slice a18951 n18951 c18951), (15, .int .i64 e18974.1), (16, .int .i64 e18974.2), (156, .bool s24381)]) (fun s24381 φ24382 hh => St φ24382 h.n hh ([(ob24115, blk24144), (some b18987, (.cells [.slice a18951 n18951 c18951] 27 .exact)), (ob18985, blk18985), (ob18964, blk18964), (none, .dead), (some b7, .cells [.int .i64 e18922.Nodes, .slice a18926 n18926 c18926, .slice a18927 n18927 c18927] 25 .exact)]) ∧ Fz.le φ24112 φ24382) 6 ?_ ?_
                · rintro s24381 φ24382 t0 h24385 ⟨X24384, g24383⟩
                  refine lend (nseq ?_)
                  refine dcond rfl rfl (fun k24386 => ?_) (fun k24386 => ?_)
                  · refine dseq (dreg ?_)
                    refine lpure (v := .bool false) rfl (p_assign rfl) rfl rfl ?_
                    refine lend (nseq (dret (rseq ?_)))
                    exact kcut_r (res_1 resT) X24384 rfl rfl
                  refine dskip (nseq (dseq (dseq (dreg ?_))))
                  refine lpure (v := .int .i64 p6) rfl (p_move rfl) rfl rfl ?_
                  refine lpure (v := .bool (decide (p6 < 84))) rfl (p_lt rfl) rfl rfl ?_
                  refine lpure (v := .bool (decide (p6 < 84))) rfl (p_move rfl) rfl rfl ?_
                  refine lsh (τ := Bool) (σ := Unit) (fun s24388 (_ : Unit) => [(2, .int .i64 p6), (3, .pointer (some ⟨b7, 0, none⟩)), (7, .slice a18951 n18951 c18951), (15, .int .i64 e18974.1), (16, .int .i64 e18974.2), (162, .bool s24388)]) (fun s24388 (_ : Unit) hh => St φ24382 h.n hh ([(ob24115, blk24144), (some b18987, (.cells [.slice a18951 n18951 c18951] 27 .exact)), (ob18985, blk18985), (ob18964, blk18964), (none, .dead), (some b7, .cells [.int .i64 e18922.Nodes, .slice a18926 n18926 c18926, .slice a18927 n18927 c18927] 25 .exact)])) 3 ?_ ?_
                  · rintro s24388 _ t0 h24390 X24389
                    refine lend (nseq ?_)
                    refine dcond rfl rfl (fun k24391 => ?_) (fun k24391 => ?_)
                    · refine dseq (dreg ?_)
                      refine lpure (v := .int .i64 e18974.1) rfl (p_move rfl) rfl rfl ?_
                      refine lpure (v := .bool (decide (e18974.1 = 0))) rfl (p_eq rfl) rfl rfl ?_
                      refine lpure (v := .bool (decide (e18974.1 = 0))) rfl (p_move rfl) rfl rfl ?_
                      refine lsh (τ := Bool) (σ := Unit) (fun s24393 (_ : Unit) => [(168, .bool s24393)]) (fun s24393 (_ : Unit) hh => St φ24382 h.n hh ([(ob24115, blk24144), (some b18987, (.cells [.slice a18951 n18951 c18951] 27 .exact)), (ob18985, blk18985), (ob18964, blk18964), (none, .dead), (some b7, .cells [.int .i64 e18922.Nodes, .slice a18926 n18926 c18926, .slice a18927 n18927 c18927] 25 .exact)])) 3 ?_ ?_
                      · rintro s24393 _ t0 h24395 X24394
                        refine lpure (v := .bool s24393) rfl (p_assign rfl) rfl rfl ?_
                        refine lend (nseq (dret (rseq ?_)))
                        exact kcut_r (res_1 resT) X24394 rfl rfl
                      intro j24396 J24397
                      refine lcase (i := 165) (show _ = Value.bool (decide (e18974.1 = 0)) from rfl) (fun k24398 => ?_) (fun k24398 => ?_)
                      · refine lpure (v := .int .i64 e18974.2) rfl (p_move rfl) rfl rfl ?_
                        refine lpure (v := .bool (decide (e18974.2 = 2))) rfl (p_eq rfl) rfl rfl ?_
                        refine lpure (v := .bool (decide (e18974.2 = 2))) rfl (p_pick rfl) rfl rfl ?_
                        refine Sim.of_eq (congrArg j24396 (show ((decide (e18974.1 = 0)) && (decide (e18974.2 = 2))) = (decide (e18974.2 = 2)) from by rw [k24398] <;> rfl)) ?_
                        exact ljmpM J24397 (decide (e18974.2 = 2)) () (sub_cons rfl sub_nil) (St.pick X24389 (.keep _ (.keep _ (.keep _ (.keep _ (.none _ (.skip _ (.keep _ (.nil _)))))))))
                      refine lskip rfl rfl ?_
                      refine lskip rfl rfl ?_
                      refine lpure (v := .bool false) rfl (p_pick rfl) rfl rfl ?_
                      refine Sim.of_eq (congrArg j24396 (show ((decide (e18974.1 = 0)) && (decide (e18974.2 = 2))) = false from by rw [k24398] <;> rfl)) ?_
                      exact ljmpM J24397 false () (sub_cons rfl sub_nil) (St.pick X24389 (.keep _ (.keep _ (.keep _ (.keep _ (.none _ (.skip _ (.keep _ (.nil _)))))))))
                    refine dskip (nseq (dseq (dreg ?_)))
                    refine lpure (v := .int .i64 e18974.1) rfl (p_move rfl) rfl rfl ?_
                    refine lread (v := .agg #[.int .i64 e18922.Nodes, .slice a18926 n18926 c18926, .slice a18927 n18927 c18927]) rfl (q_load wd_25 rfl) (St.ld X24389 (j := 5) rfl rfl) rfl ?_
                    refine lpure (v := .slice a18951 n18951 c18951) rfl (p_move rfl) rfl rfl ?_
                    refine lpure (v := .int .i64 p6) rfl (p_move rfl) rfl rfl ?_
                    refine lcall rfl rfl ca_21 rfl rfl (f21_ok X24389 e18922 e18944 p6 (H18926.mono (((((g18949.trans g18954).trans g18962).trans g18983).trans g24113).trans g24383)) (H18927.mono (((((g18949.trans g18954).trans g18962).trans g18983).trans g24113).trans g24383)) (H18956.mono (((g18962.trans g18983).trans g24113).trans g24383))) rfl (fun e24494 v24495 h24496 hq24497 => ?_)
                    cases hq24497
                    refine lpure (v := .bool (decide (e18974.1 = e24494))) rfl (p_eq rfl) rfl rfl ?_
                    refine lpure (v := .bool (decide (e18974.1 = e24494))) rfl (p_move rfl) rfl rfl ?_
                    refine lsh (τ := Bool) (σ := Unit) (fun s24499 (_ : Unit) => [(178, .bool s24499)]) (fun s24499 (_ : Unit) hh => St φ24382 h.n hh ([(ob24115, blk24144), (some b18987, (.cells [.slice a18951 n18951 c18951] 27 .exact)), (ob18985, blk18985), (ob18964, blk18964), (none, .dead), (some b7, .cells [.int .i64 e18922.Nodes, .slice a18926 n18926 c18926, .slice a18927 n18927 c18927] 25 .exact)])) 3 ?_ ?_
                    · rintro s24499 _ t0 h24501 X24500
                      refine lpure (v := .bool s24499) rfl (p_assign rfl) rfl rfl ?_
                      refine lend (nseq (dret ?_))
                      exact kcut_r (res_1 resT) X24500 rfl rfl
                    intro j24502 J24503
                    refine lcase (i := 175) (show _ = Value.bool (decide (e18974.1 = e24494)) from rfl) (fun k24504 => ?_) (fun k24504 => ?_)
                    · refine lpure (v := .int .i64 e18974.2) rfl (p_move rfl) rfl rfl ?_
                      refine lpure (v := .bool (decide (e18974.2 = 0))) rfl (p_eq rfl) rfl rfl ?_
                      refine lpure (v := .bool (decide (e18974.2 = 0))) rfl (p_pick rfl) rfl rfl ?_
                      refine Sim.of_eq (congrArg j24502 (show ((decide (e18974.1 = e24494)) && (decide (e18974.2 = 0))) = (decide (e18974.2 = 0)) from by rw [k24504] <;> rfl)) ?_
                      exact ljmpM J24503 (decide (e18974.2 = 0)) () (sub_cons rfl sub_nil) (St.pick X24389 (.keep _ (.keep _ (.keep _ (.keep _ (.none _ (.skip _ (.keep _ (.nil _)))))))))
                    refine lskip rfl rfl ?_
                    refine lskip rfl rfl ?_
                    refine lpure (v := .bool false) rfl (p_pick rfl) rfl rfl ?_
                    refine Sim.of_eq (congrArg j24502 (show ((decide (e18974.1 = e24494)) && (decide (e18974.2 = 0))) = false from by rw [k24504] <;> rfl)) ?_
                    exact ljmpM J24503 false () (sub_cons rfl sub_nil) (St.pick X24389 (.keep _ (.keep _ (.keep _ (.keep _ (.none _ (.skip _ (.keep _ (.nil _)))))))))
                  intro j24505 J24506
                  refine lcase (i := 159) (show _ = Value.bool (decide (p6 < 84)) from rfl) (fun k24507 => ?_) (fun k24507 => ?_)
                  · refine lskip rfl rfl ?_
                    refine lskip rfl rfl ?_
                    refine lpure (v := .bool true) rfl (p_pick rfl) rfl rfl ?_
                    refine Sim.of_eq (congrArg j24505 (show ((decide (p6 < 84)) || (decide (1542 < p6))) = true from by rw [k24507] <;> rfl)) ?_
                    exact ljmpM J24506 true () (sub_cons rfl (sub_cons rfl (sub_cons rfl (sub_cons rfl (sub_cons rfl (sub_cons rfl sub_nil)))))) (St.pick X24384 (.keep _ (.keep _ (.keep _ (.keep _ (.none _ (.skip _ (.keep _ (.nil _)))))))))
                  refine lpure (v := .int .i64 p6) rfl (p_move rfl) rfl rfl ?_
                  refine lpure (v := .bool (decide (1542 < p6))) rfl (p_gt rfl) rfl rfl ?_
                  refine lpure (v := .bool (decide (1542 < p6))) rfl (p_pick rfl) rfl rfl ?_
                  refine Sim.of_eq (congrArg j24505 (show ((decide (p6 < 84)) || (decide (1542 < p6))) = (decide (1542 < p6)) from by rw [k24507] <;> rfl)) ?_
                  exact ljmpM J24506 (decide (1542 < p6)) () (sub_cons rfl (sub_cons rfl (sub_cons rfl (sub_cons rfl (sub_cons rfl (sub_cons rfl sub_nil)))))) (St.pick X24384 (.keep _ (.keep _ (.keep _ (.keep _ (.none _ (.skip _ (.keep _ (.nil _)))))))))
                intro j24508 J24509
                refine lif (i := 150) (show _ = Value.bool s24219 from rfl) (fun k24510 => ?_) (fun k24510 => ?_)
                · refine lskip rfl rfl ?_
                  refine lskip rfl rfl ?_
                  refine lskip rfl rfl ?_
                  refine lskip rfl rfl ?_
                  refine lskip rfl rfl ?_
                  refine lpure (v := .bool true) rfl (p_pick rfl) rfl rfl ?_
                  exact ljmpM J24509 true φ24112 (sub_cons rfl (sub_cons rfl (sub_cons rfl (sub_cons rfl (sub_cons rfl (sub_cons rfl sub_nil)))))) ⟨(St.pick X24220 (.keep _ (.keep _ (.keep _ (.keep _ (.none _ (.skip _ (.keep _ (.nil _))))))))), (Fz.le_refl _)⟩
                refine lpure (v := .slice a18985 n18985 c18985) rfl (p_move rfl) rfl rfl ?_
                refine lpure (v := .slice a18951 n18951 c18951) rfl (p_move rfl) rfl rfl ?_
                refine lcall rfl rfl ca_20 rfl rfl (f20_ok X24220 e18944 (H18956.mono ((g18962.trans g18983).trans g24113))) rfl ?_
                rintro e24511 _ h24513 ⟨φ24515, a24518, n24518, c24518, ob24518, blk24518, g24516, X24517, rfl, O24518⟩
                obtain ⟨φ24520, g24521, X24522, H24523⟩ := OSl.freeze X24517 (j := 3) rfl (O18985.mono (g24113.trans g24516))
                obtain ⟨φ24524, g24525, X24526, H24527⟩ := OSl.freeze X24522 (j := 0) rfl (O24518.mono g24521)
                refine lcall rfl rfl ca_19 rfl rfl (f19_ok X24526 (e18978.1) e24511 (H24523.mono g24525) H24527) rfl (fun e24528 v24529 h24530 hq24531 => ?_)
                cases hq24531
                refine lpure (v := .bool (!e24528)) rfl (p_not rfl) rfl rfl ?_
                refine lpure (v := .bool (!e24528)) rfl (p_pick rfl) rfl rfl ?_
                exact ljmpM J24509 (!e24528) φ24515 (sub_cons rfl (sub_cons rfl (sub_cons rfl (sub_cons rfl (sub_cons rfl (sub_cons rfl sub_nil)))))) ⟨(St.pick X24517 (.skip _ (.keep _ (.keep _ (.keep _ (.keep _ (.none _ (.skip _ (.keep _ (.nil _)))))))))), g24516⟩
              intro j24532 J24533
              refine lif (i := 143) (show _ = Value.bool s24143.1 from rfl) (fun k24534 => ?_) (fun k24534 => ?_)
              · refine lskip rfl rfl ?_
                refine lskip rfl rfl ?_
                refine lskip rfl rfl ?_
                refine lskip rfl rfl ?_
                refine lskip rfl rfl ?_
                refine lpure (v := .bool true) rfl (p_pick rfl) rfl rfl ?_
                exact ljmpM J24533 true () (sub_cons rfl (sub_cons rfl (sub_cons rfl (sub_cons rfl (sub_cons rfl (sub_cons rfl (sub_cons rfl sub_nil))))))) (St.pick X24145 (.keep _ (.keep _ (.keep _ (.keep _ (.none _ (.skip _ (.keep _ (.nil _)))))))))
              refine lpure (v := .int .i64 e18970.1) rfl (p_move rfl) rfl rfl ?_
              refine lread (v := .agg #[.int .i64 e18922.Nodes, .slice a18926 n18926 c18926, .slice a18927 n18927 c18927]) rfl (q_load wd_25 rfl) (St.ld X24145 (j := 5) rfl rfl) rfl ?_
              refine lpure (v := .slice a18951 n18951 c18951) rfl (p_move rfl) rfl rfl ?_
              refine lcall rfl rfl ca_18 rfl rfl (f18_ok X24145 e18922 e18944 (H18926.mono ((((g18949.trans g18954).trans g18962).trans g18983).trans g24113)) (H18927.mono ((((g18949.trans g18954).trans g18962).trans g18983).trans g24113)) (H18956.mono ((g18962.trans g18983).trans g24113))) rfl (fun e24535 v24536 h24537 hq24538 => ?_)
              cases hq24538
              refine lpure (v := .bool (decide (e18970.1 ≠ e24535))) rfl (p_ne rfl) rfl rfl ?_
              refine lpure (v := .bool (decide (e18970.1 ≠ e24535))) rfl (p_pick rfl) rfl rfl ?_
              exact ljmpM J24533 (decide (e18970.1 ≠ e24535)) () (sub_cons rfl (sub_cons rfl (sub_cons rfl (sub_cons rfl (sub_cons rfl (sub_cons rfl (sub_cons rfl sub_nil))))))) (St.pick X24145 (.keep _ (.keep _ (.keep _ (.keep _ (.none _ (.skip _ (.keep _ (.nil _)))))))))
            intro j24539 J24540
            refine lif (i := 133) (show _ = Value.bool s24134.2 from rfl) (fun k24541 => ?_) (fun k24541 => ?_)
            · refine lskip rfl rfl ?_
              refine lskip rfl rfl ?_
              refine lskip rfl rfl ?_
              refine lskip rfl rfl ?_
              refine lskip rfl rfl ?_
              refine lskip rfl rfl ?_
              refine lskip rfl rfl ?_
              refine lskip rfl rfl ?_
              refine lpure (v := .bool true) rfl (p_pick rfl) rfl rfl ?_
              exact ljmpM J24540 (true, s24134.1) blk24135 (sub_cons rfl (sub_cons rfl (sub_cons rfl (sub_cons rfl (sub_cons rfl (sub_cons rfl (sub_cons rfl (sub_cons rfl sub_nil)))))))) ⟨(St.pick X24136 (.keep _ (.keep _ (.keep _ (.keep _ (.none _ (.skip _ (.keep _ (.nil _))))))))), O24135⟩
            refine lpure (v := .int .i64 e18966.2.1) rfl (p_move rfl) rfl rfl ?_
            refine lpure (v := .slice a24115 n24115 c24115) rfl (p_move rfl) rfl rfl ?_
            refine lpure (v := .slice a24115 n24115 c24115) rfl (p_move rfl) rfl rfl ?_
            refine lpure (v := .int .i64 (s24134.1.length : Int)) rfl (p_len rfl rfl rfl un_26 rfl) (OSl.len O24135) rfl ?_
            refine lpure (v := .int .i64 (w64 ((s24134.1.length : Int) - 1))) rfl (p_sub rfl) rfl rfl ?_
            refine Sim.bindM fun e24542 he24543 => ?_
            obtain ⟨b24544, vs24544, m24544, off24544, cs24544, rfl, rfl, hp24544, hc24544, hR24544, hl24544, hm24544, hs24544⟩ := OSl.ia O24135 he24543 (kd := .i64) (n := 1) rfl
            have hR24544 : _ = [(.int .i64 e24542 : Value)] := hR24544
            subst hR24544
            refine lpure (v := .pointer (some ⟨b24544, off24544, none⟩)) rfl (p_ia rs_26 rfl) hp24544 rfl ?_
            refine lread (v := .int .i64 e24542) rfl (q_load wd_3 rfl) (St.ld X24136 (j := 0) rfl (rdE1 hc24544 (k := 0) rfl rfl)) rfl ?_
            refine lpure (v := .bool (decide (e18966.2.1 ≠ e24542))) rfl (p_ne rfl) rfl rfl ?_
            refine lpure (v := .bool (decide (e18966.2.1 ≠ e24542))) rfl (p_pick rfl) rfl rfl ?_
            exact ljmpM J24540 ((decide (e18966.2.1 ≠ e24542)), s24134.1) (.cells vs24544 3 m24544) (sub_cons rfl (sub_cons rfl (sub_cons rfl (sub_cons rfl (sub_cons rfl (sub_cons rfl (sub_cons rfl (sub_cons rfl sub_nil)))))))) ⟨(St.pick X24136 (.keep _ (.keep _ (.keep _ (.keep _ (.none _ (.skip _ (.keep _ (.nil _))))))))), O24135⟩
          intro j24545 J24546
          refine lif (i := 126) (show _ = Value.bool (!e24125) from rfl) (fun k24547 => ?_) (fun k24547 => ?_)
          · refine lskip rfl rfl ?_
            refine lskip rfl rfl ?_
            refine lskip rfl rfl ?_
            refine lskip rfl rfl ?_
            refine lskip rfl rfl ?_
            refine lpure (v := .bool true) rfl (p_pick rfl) rfl rfl ?_
            exact ljmpM J24546 (e24108, true) blk24115 (sub_cons rfl (sub_cons rfl (sub_cons rfl (sub_cons rfl (sub_cons rfl (sub_cons rfl (sub_cons rfl (sub_cons rfl (sub_cons rfl (sub_cons rfl sub_nil)))))))))) ⟨(St.pick X24114 (.keep _ (.keep _ (.keep _ (.keep _ (.none _ (.skip _ (.keep _ (.nil _))))))))), O24115⟩
          refine lpure (v := .int .i64 e18966.1) rfl (p_move rfl) rfl rfl ?_
          refine lpure (v := .slice a24115 n24115 c24115) rfl (p_move rfl) rfl rfl ?_
          refine Sim.bindM fun e24548 he24549 => ?_
          obtain ⟨b24550, vs24550, m24550, off24550, cs24550, rfl, rfl, hp24550, hc24550, hR24550, hl24550, hm24550, hs24550⟩ := OSl.ia O24115 he24549 (kd := .i64) (n := 1) rfl
          have hR24550 : _ = [(.int .i64 e24548 : Value)] := hR24550
          subst hR24550
          refine lpure (v := .pointer (some ⟨b24550, off24550, none⟩)) rfl (p_ia rs_26 rfl) hp24550 rfl ?_
          refine lread (v := .int .i64 e24548) rfl (q_load wd_3 rfl) (St.ld X24114 (j := 0) rfl (rdE1 hc24550 (k := 0) rfl rfl)) rfl ?_
          refine lpure (v := .bool (decide (e18966.1 ≠ e24548))) rfl (p_ne rfl) rfl rfl ?_
          refine lpure (v := .bool (decide (e18966.1 ≠ e24548))) rfl (p_pick rfl) rfl rfl ?_
          exact ljmpM J24546 (e24108, (decide (e18966.1 ≠ e24548))) (.cells vs24550 3 m24550) (sub_cons rfl (sub_cons rfl (sub_cons rfl (sub_cons rfl (sub_cons rfl (sub_cons rfl (sub_cons rfl (sub_cons rfl (sub_cons rfl (sub_cons rfl sub_nil)))))))))) ⟨(St.pick X24114 (.keep _ (.keep _ (.keep _ (.keep _ (.none _ (.skip _ (.keep _ (.nil _))))))))), O24115⟩
        intro j24551 J24552
        refine lcase (i := 83) (show _ = Value.bool s24057 from rfl) (fun k24553 => ?_) (fun k24553 => ?_)
        · refine lskip rfl rfl ?_
          refine lskip rfl rfl ?_
          refine lskip rfl rfl ?_
          refine lpure (v := .bool true) rfl (p_pick rfl) rfl rfl ?_
          refine Sim.of_eq (congrArg j24551 (show (s24057 || (decide (e18978.2 ≠ e24040))) = true from by rw [k24553] <;> rfl)) ?_
          exact ljmpM J24552 true () (sub_cons rfl (sub_cons rfl (sub_cons rfl (sub_cons rfl (sub_cons rfl (sub_cons rfl (sub_cons rfl (sub_cons rfl (sub_cons rfl (sub_cons rfl (sub_cons rfl (sub_cons rfl sub_nil)))))))))))) (St.pick X24058 (.keep _ (.keep _ (.keep _ (.none _ (.skip _ (.keep _ (.nil _))))))))
        refine lpure (v := .int .i64 e18978.2) rfl (p_move rfl) rfl rfl ?_
        refine lpure (v := .int .i64 e24040) rfl (p_move rfl) rfl rfl ?_
        refine lpure (v := .bool (decide (e18978.2 ≠ e24040))) rfl (p_ne rfl) rfl rfl ?_
        refine lpure (v := .bool (decide (e18978.2 ≠ e24040))) rfl (p_pick rfl) rfl rfl ?_
        refine Sim.of_eq (congrArg j24551 (show (s24057 || (decide (e18978.2 ≠ e24040))) = (decide (e18978.2 ≠ e24040)) from by rw [k24553] <;> rfl)) ?_
        exact ljmpM J24552 (decide (e18978.2 ≠ e24040)) () (sub_cons rfl (sub_cons rfl (sub_cons rfl (sub_cons rfl (sub_cons rfl (sub_cons rfl (sub_cons rfl (sub_cons rfl (sub_cons rfl (sub_cons rfl (sub_cons rfl (sub_cons rfl sub_nil)))))))))))) (St.pick X24058 (.keep _ (.keep _ (.keep _ (.none _ (.skip _ (.keep _ (.nil _))))))))
      intro j24554 J24555
      refine lcase (i := 78) (show _ = Value.bool s24053 from rfl) (fun k24556 => ?_) (fun k24556 => ?_)
      · refine lskip rfl rfl ?_
        refine lskip rfl rfl ?_
        refine lskip rfl rfl ?_
        refine lpure (v := .bool true) rfl (p_pick rfl) rfl rfl ?_
        refine Sim.of_eq (congrArg j24554 (show (s24053 || (decide (e18970.2 ≠ e24040))) = true from by rw [k24556] <;> rfl)) ?_
        exact ljmpM J24555 true () (sub_cons rfl (sub_cons rfl (sub_cons rfl (sub_cons rfl (sub_cons rfl (sub_cons rfl (sub_cons rfl (sub_cons rfl (sub_cons rfl (sub_cons rfl (sub_cons rfl (sub_cons rfl (sub_cons rfl sub_nil))))))))))))) (St.pick X24054 (.keep _ (.keep _ (.keep _ (.none _ (.skip _ (.keep _ (.nil _))))))))
      refine lpure (v := .int .i64 e18970.2) rfl (p_move rfl) rfl rfl ?_
      refine lpure (v := .int .i64 e24040) rfl (p_move rfl) rfl rfl ?_
      refine lpure (v := .bool (decide (e18970.2 ≠ e24040))) rfl (p_ne rfl) rfl rfl ?_
      refine lpure (v := .bool (decide (e18970.2 ≠ e24040))) rfl (p_pick rfl) rfl rfl ?_
      refine Sim.of_eq (congrArg j24554 (show (s24053 || (decide (e18970.2 ≠ e24040))) = (decide (e18970.2 ≠ e24040)) from by rw [k24556] <;> rfl)) ?_
      exact ljmpM J24555 (decide (e18970.2 ≠ e24040)) () (sub_cons rfl (sub_cons rfl (sub_cons rfl (sub_cons rfl (sub_cons rfl (sub_cons rfl (sub_cons rfl (sub_cons rfl (sub_cons rfl (sub_cons rfl (sub_cons rfl (sub_cons rfl (sub_cons rfl sub_nil))))))))))))) (St.pick X24054 (.keep _ (.keep _ (.keep _ (.none _ (.skip _ (.keep _ (.nil _))))))))
    intro j24557 J24558
    refine lcase (i := 73) (show _ = Value.bool s24049 from rfl) (fun k24559 => ?_) (fun k24559 => ?_)
    · refine lskip rfl rfl ?_
      refine lskip rfl rfl ?_
      refine lskip rfl rfl ?_
      refine lpure (v := .bool true) rfl (p_pick rfl) rfl rfl ?_
      refine Sim.of_eq (congrArg j24557 (show (s24049 || (decide (e18966.2.2 ≠ e24040))) = true from by rw [k24559] <;> rfl)) ?_
      exact ljmpM J24558 true () (sub_cons rfl (sub_cons rfl (sub_cons rfl (sub_cons rfl (sub_cons rfl (sub_cons rfl (sub_cons rfl (sub_cons rfl (sub_cons rfl (sub_cons rfl (sub_cons rfl (sub_cons rfl (sub_cons rfl (sub_cons rfl sub_nil)))))))))))))) (St.pick X24050 (.keep _ (.keep _ (.keep _ (.none _ (.skip _ (.keep _ (.nil _))))))))
    refine lpure (v := .int .i64 e18966.2.2) rfl (p_move rfl) rfl rfl ?_
    refine lpure (v := .int .i64 e24040) rfl (p_move rfl) rfl rfl ?_
    refine lpure (v := .bool (decide (e18966.2.2 ≠ e24040))) rfl (p_ne rfl) rfl rfl ?_
    refine lpure (v := .bool (decide (e18966.2.2 ≠ e24040))) rfl (p_pick rfl) rfl rfl ?_
    refine Sim.of_eq (congrArg j24557 (show (s24049 || (decide (e18966.2.2 ≠ e24040))) = (decide (e18966.2.2 ≠ e24040)) from by rw [k24559] <;> rfl)) ?_
    exact ljmpM J24558 (decide (e18966.2.2 ≠ e24040)) () (sub_cons rfl (sub_cons rfl (sub_cons rfl (sub_cons rfl (sub_cons rfl (sub_cons rfl (sub_cons rfl (sub_cons rfl (sub_cons rfl (sub_cons rfl (sub_cons rfl (sub_cons rfl (sub_cons rfl (sub_cons rfl sub_nil)))))))))))))) (St.pick X24050 (.keep _ (.keep _ (.keep _ (.none _ (.skip _ (.keep _ (.nil _))))))))
  intro j24560 J24561
  refine lcase (i := 68) (show _ = Value.bool (decide (e24044 ≠ e24040)) from rfl) (fun k24562 => ?_) (fun k24562 => ?_)
  · refine lskip rfl rfl ?_
    refine lskip rfl rfl ?_
    refine lskip rfl rfl ?_
    refine lpure (v := .bool true) rfl (p_pick rfl) rfl rfl ?_
    refine Sim.of_eq (congrArg j24560 (show ((decide (e24044 ≠ e24040)) || (decide (e18957.2 ≠ e24040))) = true from by rw [k24562] <;> rfl)) ?_
    exact ljmpM J24561 true () (sub_cons rfl (sub_cons rfl (sub_cons rfl (sub_cons rfl (sub_cons rfl (sub_cons rfl (sub_cons rfl (sub_cons rfl (sub_cons rfl (sub_cons rfl (sub_cons rfl (sub_cons rfl (sub_cons rfl (sub_cons rfl (sub_cons rfl sub_nil))))))))))))))) (St.pick X18987 (.keep _ (.keep _ (.keep _ (.none _ (.skip _ (.keep _ (.nil _))))))))
  refine lpure (v := .int .i64 e18957.2) rfl (p_move rfl) rfl rfl ?_
  refine lpure (v := .int .i64 e24040) rfl (p_move rfl) rfl rfl ?_
  refine lpure (v := .bool (decide (e18957.2 ≠ e24040))) rfl (p_ne rfl) rfl rfl ?_
  refine lpure (v := .bool (decide (e18957.2 ≠ e24040))) rfl (p_pick rfl) rfl rfl ?_
  refine Sim.of_eq (congrArg j24560 (show ((decide (e24044 ≠ e24040)) || (decide (e18957.2 ≠ e24040))) = (decide (e18957.2 ≠ e24040)) from by rw [k24562] <;> rfl)) ?_
  exact ljmpM J24561 (decide (e18957.2 ≠ e24040)) () (sub_cons rfl (sub_cons rfl (sub_cons rfl (sub_cons rfl (sub_cons rfl (sub_cons rfl (sub_cons rfl (sub_cons rfl (sub_cons rfl (sub_cons rfl (sub_cons rfl (sub_cons rfl (sub_cons rfl (sub_cons rfl (sub_cons rfl sub_nil))))))))))))))) (St.pick X18987 (.keep _ (.keep _ (.keep _ (.none _ (.skip _ (.keep _ (.nil _))))))))
end Go.AM
