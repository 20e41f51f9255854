/- Printed: functions of the given program as functions over plain data, and that the machine does what they say; no claim of its own; no condition. -/
import Derived.Test.YtlkddekecegfdaaGreatGaOk2
set_option maxRecDepth 100000
set_option maxHeartbeats 4000000
set_option linter.unusedVariables false
set_option linter.unusedSimpArgs false
namespace Go.AM
open Go Go.Proofs

/-! isochron/isochronref16.Right -/
theorem f37_ok {n : Nat} {φ : Fz} {lo : Nat} {h : Heap} {own : OwnL}  {a18995 : Option Addr} {n18995 c18995 : Nat} {a18996 : Option Addr} {n18996 c18996 : Nat} (X : St φ lo h (own)) (p18994 : ApiTopo) (H18995 : RSl eBool φ (.slice a18995 n18995 c18995) p18994.Station) (H18996 : RSl eApiLink φ (.slice a18996 n18996 c18996) p18994.Links) : Sim ((recN Tryz.prog LL cutF (n + 3)).call 37 #[(.agg #[.int .i64 p18994.Nodes, .slice a18995 n18995 c18995, .slice a18996 n18996 c18996])] h) (m_isochronref16_Right p18994) (fun (d : Bool) p => p = (.bool d, h)) := by
  refine fcut Tryz.func37 rfl rfl rfl rfl X ?_
  intro h0 X0
  refine dseq (dreg ?_)
  refine lbox rfl rfl rfl rfl rfl X0 (fun b18997 h18999 X19000 => ?_)
  refine lpure (v := .bool false) rfl (p_assign rfl) rfl rfl ?_
  refine lend (nseq (dseq (dseq (dreg ?_))))
  refine lpure (v := .pointer (some ⟨b18997, 0, none⟩)) rfl (p_fa fo_25_0 rfl) rfl rfl ?_
  refine lread (v := .int .i64 p18994.Nodes) rfl (q_load wd_3 rfl) (St.ld X19000 (j := 0) rfl rfl) rfl ?_
  refine lpure (v := .bool (decide (p18994.Nodes < 2))) rfl (p_lt rfl) rfl rfl ?_
  refine lpure (v := .bool (decide (p18994.Nodes < 2))) rfl (p_move rfl) rfl rfl ?_
  refine lsh (τ := Bool) (σ := Unit) (fun s19002 (_ : Unit) => [(1, .pointer (some ⟨b18997, 0, none⟩)), (16, .bool s19002)]) (fun s19002 (_ : Unit) hh => St φ h.n hh ([(some b18997, .cells [.int .i64 p18994.Nodes, .slice a18995 n18995 c18995, .slice a18996 n18996 c18996] 25 .exact)])) 4 ?_ ?_
  · rintro s19002 _ t0 h19004 X19003
    refine lpure (v := .bool s19002) rfl (p_move rfl) rfl rfl ?_
    refine lsh (τ := Bool) (σ := Unit) (fun s19006 (_ : Unit) => [(1, .pointer (some ⟨b18997, 0, none⟩)), (24, .bool s19006)]) (fun s19006 (_ : Unit) hh => St φ h.n hh ([(some b18997, .cells [.int .i64 p18994.Nodes, .slice a18995 n18995 c18995, .slice a18996 n18996 c18996] 25 .exact)])) 7 ?_ ?_
    · rintro s19006 _ t0 h19008 X19007
      refine lpure (v := .bool s19006) rfl (p_move rfl) rfl rfl ?_
      refine lsh (τ := Bool) (σ := Unit) (fun s19010 (_ : Unit) => [(1, .pointer (some ⟨b18997, 0, none⟩)), (30, .bool s19010)]) (fun s19010 (_ : Unit) hh => St φ h.n hh ([(some b18997, .cells [.int .i64 p18994.Nodes, .slice a18995 n18995 c18995, .slice a18996 n18996 c18996] 25 .exact)])) 5 ?_ ?_
      · rintro s19010 _ t0 h19012 X19011
        refine lend (nseq ?_)
        refine dcond rfl rfl (fun k19013 => ?_) (fun k19013 => ?_)
        · refine dseq (dreg ?_)
          refine lpure (v := .bool false) rfl (p_assign rfl) rfl rfl ?_
          refine lend (nseq (dret (rseq ?_)))
          exact kcut_r (res_1 resT) X19011 rfl rfl
        refine dskip (nseq (dseq (dreg ?_)))
        refine lpure (v := .pointer (some ⟨b18997, 0, none⟩)) rfl (p_fa fo_25_0 rfl) rfl rfl ?_
        refine lread (v := .int .i64 p18994.Nodes) rfl (q_load wd_3 rfl) (St.ld X19011 (j := 0) rfl rfl) rfl ?_
        refine Sim.mustM fun k19014 => ?_
        have k19014 := of_decide_eq_true k19014
        obtain ⟨h19014, b19014, vs19014, hv19014, X19014, O19014⟩ := OSl.mk (E := (eInt .i64)) (φ := φ) (a0 := 0) (k := .i64) (k' := .i64) (l := p18994.Nodes) (c := p18994.Nodes) un_26 tb_3 rfl ts_3 rfl rfl tz_3 rfl rfl rfl (by omega) (by omega) (by omega) X19011
        refine lheap rfl (h_makeSlice rfl) hv19014 rfl ?_
        refine lpure (v := .slice (some ⟨b19014, 0, none⟩) (p18994.Nodes).toNat (p18994.Nodes).toNat) rfl (p_assign rfl) rfl rfl ?_
        refine lend (nseq (dseq (dseq (dreg ?_))))
        refine lpure (v := .int .i64 0) rfl (p_assign rfl) rfl rfl ?_
        refine lend (nseq (dblock ?_))
        refine dloopM (τ := (List Int) × Int) (σ := Blk) (fun s22113 blk22114 => [(1, .pointer (some ⟨b18997, 0, none⟩)), (3, .slice (some ⟨b19014, 0, none⟩) (p18994.Nodes).toNat (p18994.Nodes).toNat), (4, .int .i64 s22113.2)]) (fun s22113 blk22114 hh => St φ h.n hh ([(some b19014, blk22114), (some b18997, .cells [.int .i64 p18994.Nodes, .slice a18995 n18995 c18995, .slice a18996 n18996 c18996] 25 .exact)]) ∧ OSl (eInt .i64) φ 3 (some b19014) blk22114 (.slice (some ⟨b19014, 0, none⟩) (p18994.Nodes).toNat (p18994.Nodes).toNat) s22113.1) ((List.replicate (p18994.Nodes).toNat 0), 0) ((.cells vs19014 3 .exact)) (sub_cons rfl (sub_cons rfl (sub_cons rfl sub_nil))) ⟨X19014, O19014⟩ ?_
        rintro n22427 ih22426 s22113 blk22114 t0 h22429 ⟨X22428, O22114⟩
        refine dseq (dseq (dreg ?_))
        refine lpure (v := .int .i64 s22113.2) rfl (p_move rfl) rfl rfl ?_
        refine lpure (v := .pointer (some ⟨b18997, 2, none⟩)) rfl (p_fa fo_25_2 rfl) rfl rfl ?_
        refine lread (v := .slice a18996 n18996 c18996) rfl (q_load wd_23 rfl) (St.ld X22428 (j := 1) rfl rfl) rfl ?_
        refine lpure (v := .int .i64 (p18994.Links.length : Int)) rfl (p_len rfl rfl rfl un_23 rfl) (RSl.lenC H18996) rfl ?_
        refine lpure (v := .bool (decide (s22113.2 < (p18994.Links.length : Int)))) rfl (p_lt rfl) rfl rfl ?_
        refine lend (nseq ?_)
        refine dcond rfl rfl (fun k22430 => ?_) (fun k22430 => ?_)
        · refine dskip (nseq (dseq (dblock (dseq (dreg ?_)))))
          refine lpure (v := .pointer (some ⟨b18997, 2, none⟩)) rfl (p_fa fo_25_2 rfl) rfl rfl ?_
          refine lread (v := .slice a18996 n18996 c18996) rfl (q_load wd_23 rfl) (St.ld X22428 (j := 1) rfl rfl) rfl ?_
          refine lpure (v := .int .i64 s22113.2) rfl (p_move rfl) rfl rfl ?_
          refine Sim.bindM fun e22431 he22432 => ?_
          obtain ⟨p22433, cs22433, hp22433, hF22433, hR22433⟩ := RSl.ia H18996 he22432 (kd := .i64) (n := 4) rfl
          obtain rfl := eApiLink_el hR22433
          refine lpure (v := p22433) rfl (p_ia rs_23 rfl) hp22433 rfl ?_
          refine lread (v := .agg #[.int .i64 e22431.A, .int .i64 e22431.B, .int .i64 e22431.Per, .int .i64 e22431.Delay]) rfl (q_load wd_65 rfl) (FP.ldw X22428 hF22433 rfl rfl) rfl ?_
          refine lalloc rfl tz_65 rfl rfl rfl X22428 (fun b22434 h22436 X22437 => ?_)
          refine lstore rfl ts_65 rfl rfl (j := 0) rfl rfl rfl rfl rfl rfl X22437 (fun h22438 X22439 => ?_)
          refine lend (nseq (dseq (dseq (dreg ?_))))
          refine lread (v := .agg #[.int .i64 p18994.Nodes, .slice a18995 n18995 c18995, .slice a18996 n18996 c18996]) rfl (q_load wd_25 rfl) (St.ld X22439 (j := 2) rfl rfl) rfl ?_
          refine lread (v := .agg #[.int .i64 e22431.A, .int .i64 e22431.B, .int .i64 e22431.Per, .int .i64 e22431.Delay]) rfl (q_load wd_65 rfl) (St.ld X22439 (j := 0) rfl rfl) rfl ?_
          refine lcall rfl rfl ca_63 rfl rfl (f63_ok X22439 p18994 e22431 H18995 H18996) rfl (fun e22440 v22441 h22442 hq22443 => ?_)
          cases hq22443
          refine lpure (v := .bool (!e22440)) rfl (p_not rfl) rfl rfl ?_
          refine lend (nseq ?_)
          refine dcond rfl rfl (fun k22444 => ?_) (fun k22444 => ?_)
          · refine dseq (dreg ?_)
            refine lpure (v := .bool false) rfl (p_assign rfl) rfl rfl ?_
            refine lend (nseq (dret (rseq (rblock (rseq (rloop (rblock (rseq ?_))))))))
            exact kcut_r (res_1 resT) X22439 rfl rfl
          refine dskip (nseq (dseq (dseq (dreg ?_))))
          refine lpure (v := .int .i64 0) rfl (p_assign rfl) rfl rfl ?_
          refine lend (nseq (dblock ?_))
          refine dloopM (τ := Int) (σ := Unit) (fun s22505 (_ : Unit) => [(1, .pointer (some ⟨b18997, 0, none⟩)), (3, .slice (some ⟨b19014, 0, none⟩) (p18994.Nodes).toNat (p18994.Nodes).toNat), (4, .int .i64 s22113.2), (5, .pointer (some ⟨b22434, 0, none⟩)), (6, .int .i64 s22505)]) (fun s22505 (_ : Unit) hh => St φ h.n hh ([(some b22434, .cells [.int .i64 e22431.A, .int .i64 e22431.B, .int .i64 e22431.Per, .int .i64 e22431.Delay] 65 .exact), (some b19014, blk22114), (some b18997, .cells [.int .i64 p18994.Nodes, .slice a18995 n18995 c18995, .slice a18996 n18996 c18996] 25 .exact)])) 0 () (sub_cons rfl (sub_cons rfl (sub_cons rfl (sub_cons rfl (sub_cons rfl sub_nil))))) X22439 ?_
          rintro n22537 ih22536 s22505 _ t0 h22539 X22538
          refine dseq (dseq (dreg ?_))
          refine lpure (v := .int .i64 s22505) rfl (p_move rfl) rfl rfl ?_
          refine lpure (v := .int .i64 s22113.2) rfl (p_move rfl) rfl rfl ?_
          refine lpure (v := .bool (decide (s22505 < s22113.2))) rfl (p_lt rfl) rfl rfl ?_
          refine lend (nseq ?_)
          refine dcond rfl rfl (fun k22540 => ?_) (fun k22540 => ?_)
          · refine dskip (nseq (dseq (dblock (dseq ?_))))
            refine ddraw 0 0 0 (by kernel_rfl) ?_
            refine spure (v := .pointer (some ⟨b18997, 2, none⟩)) rfl (p_fa fo_25_2 rfl) (lo_t (lo_own X22538 (j := 2) (o := 0) (s := none) (f := 0) rfl) rfl) rfl rfl ?_
            refine sload (v := .slice a18996 n18996 c18996) rfl rfl (q_load wd_23 rfl) (St.ld X22538 (j := 2) rfl rfl) (same_self 20 rfl) rfl ?_
            refine spure (v := .int .i64 s22505) rfl (p_move rfl) (lo_t rfl rfl) rfl rfl ?_
            refine Sim.bindM fun e22541 he22542 => ?_
            obtain ⟨p22543, cs22543, hp22543, hF22543, hR22543⟩ := RSl.ia H18996 he22542 (kd := .i64) (n := 4) rfl
            obtain rfl := eApiLink_el hR22543
            refine spure (v := p22543) rfl (p_ia rs_23 rfl) (lo_t (lo_sl X22538 H18996) (lo_t rfl rfl)) hp22543 rfl ?_
            refine sload (v := .agg #[.int .i64 e22541.A, .int .i64 e22541.B, .int .i64 e22541.Per, .int .i64 e22541.Delay]) rfl rfl (q_load wd_65 rfl) (FP.ldw X22538 hF22543 rfl rfl) (same_self 20 rfl) rfl ?_
            refine spure (v := .pointer (some ⟨b22434, 0, none⟩)) rfl (p_fa fo_65_0 rfl) (lo_t (lo_own X22538 (j := 0) (o := 0) (s := none) (f := 0) rfl) rfl) rfl rfl ?_
            refine sload (v := .int .i64 e22431.A) rfl rfl (q_load wd_3 rfl) (St.ld X22538 (j := 0) rfl rfl) (same_self 20 rfl) rfl ?_
            refine spure (v := .pointer (some ⟨b22434, 1, none⟩)) rfl (p_fa fo_65_1 rfl) (lo_t (lo_own X22538 (j := 0) (o := 0) (s := none) (f := 0) rfl) rfl) rfl rfl ?_
            refine sload (v := .int .i64 e22431.B) rfl rfl (q_load wd_3 rfl) (St.ld X22538 (j := 0) rfl rfl) (same_self 20 rfl) rfl ?_
            refine scall (en := fun d => (.bool d)) rfl rfl ca_64 rfl rfl (f64_ok X22538 e22541 (e22431.A) (e22431.B)) rfl (fun e22544 => ?_)
            refine send ?_
            refine nseq ?_
            refine dcond rfl rfl (fun k22548 => ?_) (fun k22548 => ?_)
            · refine dseq (dreg ?_)
              refine lpure (v := .bool false) rfl (p_assign rfl) rfl rfl ?_
              refine lend (nseq (dret (rblock (rseq (rloop (rblock (rseq (rblock (rseq (rloop (rblock ?_)))))))))))
              refine rseq ?_
              exact kcut_r (res_1 resT) X22538 rfl rfl
            refine dskip (nblock (nseq (dreg ?_)))
            refine lpure (v := .int .i64 s22505) rfl (p_move rfl) rfl rfl ?_
            refine lpure (v := .int .i64 (w64 (s22505 + 1))) rfl (p_add rfl) rfl rfl ?_
            refine lpure (v := .int .i64 (w64 (s22505 + 1))) rfl (p_assign rfl) rfl rfl ?_
            refine lend ?_
            exact kbackM ih22536 (w64 (s22505 + 1)) () (sub_cons rfl (sub_cons rfl (sub_cons rfl (sub_cons rfl (sub_cons rfl sub_nil))))) X22538
          refine dexit (eseq (eloop (xblock (nseq (dseq ?_)))))
          refine ddraw 1024 1024 0 (by kernel_rfl) ?_
          refine spure (v := .slice (some ⟨b19014, 0, none⟩) (p18994.Nodes).toNat (p18994.Nodes).toNat) rfl (p_move rfl) (lo_t (lo_osl X22538 (j := 1) rfl O22114) rfl) rfl rfl ?_
          refine spure (v := .pointer (some ⟨b22434, 0, none⟩)) rfl (p_fa fo_65_0 rfl) (lo_t (lo_own X22538 (j := 0) (o := 0) (s := none) (f := 0) rfl) rfl) rfl rfl ?_
          refine sload (v := .int .i64 e22431.A) rfl rfl (q_load wd_3 rfl) (St.ld X22538 (j := 0) rfl rfl) (same_self 20 rfl) rfl ?_
          refine spure (v := .slice (some ⟨b19014, 0, none⟩) (p18994.Nodes).toNat (p18994.Nodes).toNat) rfl (p_move rfl) (lo_t (lo_osl X22538 (j := 1) rfl O22114) rfl) rfl rfl ?_
          refine spure (v := .pointer (some ⟨b22434, 0, none⟩)) rfl (p_fa fo_65_0 rfl) (lo_t (lo_own X22538 (j := 0) (o := 0) (s := none) (f := 0) rfl) rfl) rfl rfl ?_
          refine sload (v := .int .i64 e22431.A) rfl rfl (q_load wd_3 rfl) (St.ld X22538 (j := 0) rfl rfl) (same_self 20 rfl) rfl ?_
          refine Sim.bindM fun e22549 he22550 => ?_
          obtain ⟨vs22551, m22551, off22551, cs22551, rfl, hp22551, hc22551, hR22551, hl22551, hm22551, hs22551⟩ := OSl.iaB O22114 he22550 (kd := .i64) (n := 1) rfl
          have hR22551 : _ = [(.int .i64 e22549 : Value)] := hR22551
          subst hR22551
          refine spure (v := .pointer (some ⟨b19014, off22551, none⟩)) rfl (p_ia rs_26 rfl) (lo_t (lo_osl X22538 (j := 1) rfl O22114) (lo_t rfl rfl)) hp22551 rfl ?_
          refine sload (v := .int .i64 e22549) rfl rfl (q_load wd_3 rfl) (St.ld X22538 (j := 1) rfl (rdE1 hc22551 (k := 0) rfl rfl)) (same_self 20 rfl) rfl ?_
          refine spure (v := .int .i64 (w64 (e22549 + 1))) rfl (p_add rfl) (lo_t rfl (lo_c rfl)) rfl rfl ?_
          refine Sim.bindM fun e22552 he22553 => ?_
          obtain ⟨off22554, cs22554, hp22554, hc22554, hR22554, hl22554, hm22554, hs22554⟩ := OSl.iaC O22114 he22553 (kd := .i64) (n := 1) rfl
          have hR22554 : _ = [(.int .i64 e22552 : Value)] := hR22554
          subst hR22554
          refine spure (v := .pointer (some ⟨b19014, off22554, none⟩)) rfl (p_ia rs_26 rfl) (lo_t (lo_osl X22538 (j := 1) rfl O22114) (lo_t rfl rfl)) hp22554 rfl ?_
          have O22557 := hs22554 [.int .i64 (w64 (e22549 + 1))] ((w64 (e22549 + 1))) rfl
          refine sstore rfl rfl ts_3 rfl rfl (j := 1) rfl hm22554 rfl rfl (ble_iff.2 hl22554) rfl X22538 (fun h22555 X22556 => ?_)
          refine send ?_
          refine nseq ?_
          refine ddraw 1024 1024 0 (by kernel_rfl) ?_
          refine spure (v := .slice (some ⟨b19014, 0, none⟩) (p18994.Nodes).toNat (p18994.Nodes).toNat) rfl (p_move rfl) (lo_t (lo_osl X22556 (j := 1) rfl O22557) rfl) rfl rfl ?_
          refine spure (v := .pointer (some ⟨b22434, 1, none⟩)) rfl (p_fa fo_65_1 rfl) (lo_t (lo_own X22556 (j := 0) (o := 0) (s := none) (f := 0) rfl) rfl) rfl rfl ?_
          refine sload (v := .int .i64 e22431.B) rfl rfl (q_load wd_3 rfl) (St.ld X22556 (j := 0) rfl rfl) (same_self 20 rfl) rfl ?_
          refine spure (v := .slice (some ⟨b19014, 0, none⟩) (p18994.Nodes).toNat (p18994.Nodes).toNat) rfl (p_move rfl) (lo_t (lo_osl X22556 (j := 1) rfl O22557) rfl) rfl rfl ?_
          refine spure (v := .pointer (some ⟨b22434, 1, none⟩)) rfl (p_fa fo_65_1 rfl) (lo_t (lo_own X22556 (j := 0) (o := 0) (s := none) (f := 0) rfl) rfl) rfl rfl ?_
          refine sload (v := .int .i64 e22431.B) rfl rfl (q_load wd_3 rfl) (St.ld X22556 (j := 0) rfl rfl) (same_self 20 rfl) rfl ?_
          refine Sim.bindM fun e22558 he22559 => ?_
          obtain ⟨off22560, cs22560, hp22560, hc22560, hR22560, hl22560, hm22560, hs22560⟩ := OSl.iaC O22557 he22559 (kd := .i64) (n := 1) rfl
          have hR22560 : _ = [(.int .i64 e22558 : Value)] := hR22560
          subst hR22560
          refine spure (v := .pointer (some ⟨b19014, off22560, none⟩)) rfl (p_ia rs_26 rfl) (lo_t (lo_osl X22556 (j := 1) rfl O22557) (lo_t rfl rfl)) hp22560 rfl ?_
          refine sload (v := .int .i64 e22558) rfl rfl (q_load wd_3 rfl) (St.ld X22556 (j := 1) rfl (rdE1 hc22560 (k := 0) rfl rfl)) (same_self 20 rfl) rfl ?_
          refine spure (v := .int .i64 (w64 (e22558 + 1))) rfl (p_add rfl) (lo_t rfl (lo_c rfl)) rfl rfl ?_
          refine Sim.bindM fun e22561 he22562 => ?_
          obtain ⟨off22563, cs22563, hp22563, hc22563, hR22563, hl22563, hm22563, hs22563⟩ := OSl.iaC O22557 he22562 (kd := .i64) (n := 1) rfl
          have hR22563 : _ = [(.int .i64 e22561 : Value)] := hR22563
          subst hR22563
          refine spure (v := .pointer (some ⟨b19014, off22563, none⟩)) rfl (p_ia rs_26 rfl) (lo_t (lo_osl X22556 (j := 1) rfl O22557) (lo_t rfl rfl)) hp22563 rfl ?_
          have O22566 := hs22563 [.int .i64 (w64 (e22558 + 1))] ((w64 (e22558 + 1))) rfl
          refine sstore rfl rfl ts_3 rfl rfl (j := 1) rfl hm22563 rfl rfl (ble_iff.2 hl22563) rfl X22556 (fun h22564 X22565 => ?_)
          refine send ?_
          refine nblock (nseq (dreg ?_))
          refine lpure (v := .int .i64 s22113.2) rfl (p_move rfl) rfl rfl ?_
          refine lpure (v := .int .i64 (w64 (s22113.2 + 1))) rfl (p_add rfl) rfl rfl ?_
          refine lpure (v := .int .i64 (w64 (s22113.2 + 1))) rfl (p_assign rfl) rfl rfl ?_
          refine lend ?_
          exact kbackM ih22426 (((s22113.1.set (e22431.A).toNat (w64 (e22549 + 1))).set (e22431.B).toNat (w64 (e22558 + 1))), (w64 (s22113.2 + 1))) ((.cells (setAt (setAt vs22551 off22554 [.int .i64 (w64 (e22549 + 1))]) off22563 [.int .i64 (w64 (e22558 + 1))]) 3 m22551)) (sub_cons rfl (sub_cons rfl (sub_cons rfl sub_nil))) ⟨(St.pick X22565 (.skip _ (.keep _ (.keep _ (.nil _))))), O22566⟩
        refine dexit (eseq (eloop (xblock (nseq (dseq (dreg ?_))))))
        refine lread (v := .agg #[.int .i64 p18994.Nodes, .slice a18995 n18995 c18995, .slice a18996 n18996 c18996]) rfl (q_load wd_25 rfl) (St.ld X22428 (j := 1) rfl rfl) rfl ?_
        refine lcall rfl rfl ca_65 rfl rfl (f65_ok X22428 p18994 0 ([]) H18995 H18996 (.inl ⟨rfl, rfl⟩)) rfl ?_
        rintro e22567 _ h22569 ⟨φ22571, a22574, n22574, c22574, ob22574, blk22574, g22572, X22573, rfl, O22574⟩
        refine lpure (v := .slice a22574 n22574 c22574) rfl (p_assign rfl) rfl rfl ?_
        refine lend (nseq (dseq (dseq (dreg ?_))))
        refine lpure (v := .int .i64 0) rfl (p_assign rfl) rfl rfl ?_
        refine lend (nseq (dblock ?_))
        refine dloopM (τ := (List Int) × (List Bool) × Int) (σ := Blk × Blk) (fun s22656 (blk22657, blk22658) => [(1, .pointer (some ⟨b18997, 0, none⟩)), (3, .slice (some ⟨b19014, 0, none⟩) (p18994.Nodes).toNat (p18994.Nodes).toNat), (7, .slice a22574 n22574 c22574), (8, .int .i64 s22656.2.2)]) (fun s22656 (blk22657, blk22658) hh => St φ22571 h.n hh ([(ob22574, blk22658), (some b19014, blk22657), (some b18997, .cells [.int .i64 p18994.Nodes, .slice a18995 n18995 c18995, .slice a18996 n18996 c18996] 25 .exact)]) ∧ OSl (eInt .i64) φ22571 3 (some b19014) blk22657 (.slice (some ⟨b19014, 0, none⟩) (p18994.Nodes).toNat (p18994.Nodes).toNat) s22656.1 ∧ OSl eBool φ22571 4 ob22574 blk22658 (.slice a22574 n22574 c22574) s22656.2.1) (s22113.1, e22567, 0) (blk22114, blk22574) (sub_cons rfl (sub_cons rfl (sub_cons rfl (sub_cons rfl sub_nil)))) ⟨X22573, (O22114.mono g22572), O22574⟩ ?_
        rintro n22699 ih22698 s22656 ⟨blk22657, blk22658⟩ t0 h22701 ⟨X22700, O22657, O22658⟩
        refine dseq (dseq (dreg ?_))
        refine lpure (v := .int .i64 s22656.2.2) rfl (p_move rfl) rfl rfl ?_
        refine lpure (v := .pointer (some ⟨b18997, 0, none⟩)) rfl (p_fa fo_25_0 rfl) rfl rfl ?_
        refine lread (v := .int .i64 p18994.Nodes) rfl (q_load wd_3 rfl) (St.ld X22700 (j := 2) rfl rfl) rfl ?_
        refine lpure (v := .bool (decide (s22656.2.2 < p18994.Nodes))) rfl (p_lt rfl) rfl rfl ?_
        refine lend (nseq ?_)
        refine dcond rfl rfl (fun k22702 => ?_) (fun k22702 => ?_)
        · refine dskip (nseq (dseq (dblock (dseq (dreg ?_)))))
          refine lpure (v := .slice a22574 n22574 c22574) rfl (p_move rfl) rfl rfl ?_
          refine lpure (v := .int .i64 s22656.2.2) rfl (p_move rfl) rfl rfl ?_
          refine Sim.bindM fun e22703 he22704 => ?_
          obtain ⟨b22705, vs22705, m22705, off22705, cs22705, rfl, rfl, hp22705, hc22705, hR22705, hl22705, hm22705, hs22705⟩ := OSl.ia O22658 he22704 (kd := .i64) (n := 1) rfl
          have hR22705 : _ = [(.bool e22703 : Value)] := hR22705
          subst hR22705
          refine lpure (v := .pointer (some ⟨b22705, off22705, none⟩)) rfl (p_ia rs_22 rfl) hp22705 rfl ?_
          refine lread (v := .bool e22703) rfl (q_load wd_4 rfl) (St.ld X22700 (j := 0) rfl (rdE1 hc22705 (k := 0) rfl rfl)) rfl ?_
          refine lpure (v := .bool (!e22703)) rfl (p_not rfl) rfl rfl ?_
          refine lpure (v := .bool (!e22703)) rfl (p_move rfl) rfl rfl ?_
          refine ljoinM (τ := (List Int) × Bool) (σ := Blk) (fun s22719 blk22720 => [(1, .pointer (some ⟨b18997, 0, none⟩)), (3, .slice (some ⟨b19014, 0, none⟩) (p18994.Nodes).toNat (p18994.Nodes).toNat), (7, .slice a22574 n22574 c22574), (8, .int .i64 s22656.2.2), (118, .bool s22719.2)]) (fun s22719 blk22720 hh => St φ22571 h.n hh ([(some b22705, .cells vs22705 4 m22705), (some b19014, blk22720), (some b18997, .cells [.int .i64 p18994.Nodes, .slice a18995 n18995 c18995, .slice a18996 n18996 c18996] 25 .exact)]) ∧ OSl (eInt .i64) φ22571 3 (some b19014) blk22720 (.slice (some ⟨b19014, 0, none⟩) (p18994.Nodes).toNat (p18994.Nodes).toNat) s22719.1) 20 ?_ ?_
          · rintro s22719 blk22720 t0 h22722 ⟨X22721, O22720⟩
            refine lend (nseq ?_)
            refine dcond rfl rfl (fun k22723 => ?_) (fun k22723 => ?_)
            · refine dseq (dreg ?_)
              refine lpure (v := .bool false) rfl (p_assign rfl) rfl rfl ?_
              refine lend (nseq (dret (rblock (rseq (rloop (rblock (rseq ?_)))))))
              exact kcut_r (res_1 resT) X22721 rfl rfl
            refine dskip (nblock (nseq (dreg ?_)))
            refine lpure (v := .int .i64 s22656.2.2) rfl (p_move rfl) rfl rfl ?_
            refine lpure (v := .int .i64 (w64 (s22656.2.2 + 1))) rfl (p_add rfl) rfl rfl ?_
            refine lpure (v := .int .i64 (w64 (s22656.2.2 + 1))) rfl (p_assign rfl) rfl rfl ?_
            refine lend ?_
            exact kbackM ih22698 (s22719.1, s22656.2.1, (w64 (s22656.2.2 + 1))) (blk22720, (.cells vs22705 4 m22705)) (sub_cons rfl (sub_cons rfl (sub_cons rfl (sub_cons rfl sub_nil)))) ⟨X22721, O22720, O22658⟩
          intro j22724 J22725
          refine lif (i := 98) (show _ = Value.bool (!e22703) from rfl) (fun k22726 => ?_) (fun k22726 => ?_)
          · refine lskip rfl rfl ?_
            refine lskip rfl rfl ?_
            refine lskip rfl rfl ?_
            refine lskip rfl rfl ?_
            refine lskip rfl rfl ?_
            refine lskip rfl rfl ?_
            refine lskip rfl rfl ?_
            refine lskip rfl rfl ?_
            refine lskip rfl rfl ?_
            refine lskip rfl rfl ?_
            refine lskip rfl rfl ?_
            refine lskip rfl rfl ?_
            refine lskip rfl rfl ?_
            refine lskip rfl rfl ?_
            refine lskip rfl rfl ?_
            refine lskip rfl rfl ?_
            refine lskip rfl rfl ?_
            refine lskip rfl rfl ?_
            refine lskip rfl rfl ?_
            refine lpure (v := .bool true) rfl (p_pick rfl) rfl rfl ?_
            exact ljmpM J22725 (s22656.1, true) blk22657 (sub_cons rfl (sub_cons rfl (sub_cons rfl (sub_cons rfl (sub_cons rfl sub_nil))))) ⟨X22700, O22657⟩
          refine lpure (v := .pointer (some ⟨b18997, 1, none⟩)) rfl (p_fa fo_25_1 rfl) rfl rfl ?_
          refine lread (v := .slice a18995 n18995 c18995) rfl (q_load wd_22 rfl) (St.ld X22700 (j := 2) rfl rfl) rfl ?_
          refine lpure (v := .int .i64 s22656.2.2) rfl (p_move rfl) rfl rfl ?_
          refine Sim.bindM fun e22727 he22728 => ?_
          obtain ⟨p22729, cs22729, hp22729, hF22729, hR22729⟩ := RSl.ia (H18995.mono g22572) he22728 (kd := .i64) (n := 1) rfl
          have hR22729 : _ = [(.bool e22727 : Value)] := hR22729
          subst hR22729
          refine lpure (v := p22729) rfl (p_ia rs_22 rfl) hp22729 rfl ?_
          refine lread (v := .bool e22727) rfl (q_load wd_4 rfl) (FP.ld X22700 hF22729) rfl ?_
          refine lpure (v := .bool e22727) rfl (p_move rfl) rfl rfl ?_
          refine lif (i := 104) (show _ = Value.bool e22727 from rfl) (fun k22730 => ?_) (fun k22730 => ?_)
          · refine lpure (v := .slice (some ⟨b19014, 0, none⟩) (p18994.Nodes).toNat (p18994.Nodes).toNat) rfl (p_move rfl) rfl rfl ?_
            refine lpure (v := .int .i64 s22656.2.2) rfl (p_move rfl) rfl rfl ?_
            refine Sim.bindM fun e22731 he22732 => ?_
            obtain ⟨vs22733, m22733, off22733, cs22733, rfl, hp22733, hc22733, hR22733, hl22733, hm22733, hs22733⟩ := OSl.iaB O22657 he22732 (kd := .i64) (n := 1) rfl
            have hR22733 : _ = [(.int .i64 e22731 : Value)] := hR22733
            subst hR22733
            refine lpure (v := .pointer (some ⟨b19014, off22733, none⟩)) rfl (p_ia rs_26 rfl) hp22733 rfl ?_
            refine lread (v := .int .i64 e22731) rfl (q_load wd_3 rfl) (St.ld X22700 (j := 1) rfl (rdE1 hc22733 (k := 0) rfl rfl)) rfl ?_
            refine lpure (v := .bool (decide (e22731 < 1))) rfl (p_lt rfl) rfl rfl ?_
            refine lpure (v := .bool (decide (e22731 < 1))) rfl (p_move rfl) rfl rfl ?_
            refine lif (i := 110) (show _ = Value.bool (decide (e22731 < 1)) from rfl) (fun k22734 => ?_) (fun k22734 => ?_)
            · refine lskip rfl rfl ?_
              refine lskip rfl rfl ?_
              refine lskip rfl rfl ?_
              refine lskip rfl rfl ?_
              refine lskip rfl rfl ?_
              refine lpure (v := .bool true) rfl (p_pick rfl) rfl rfl ?_
              refine lpure (v := .bool true) rfl (p_pick rfl) rfl rfl ?_
              refine lpure (v := .bool true) rfl (p_pick rfl) rfl rfl ?_
              exact ljmpM J22725 (s22656.1, true) (.cells vs22733 3 m22733) (sub_cons rfl (sub_cons rfl (sub_cons rfl (sub_cons rfl (sub_cons rfl sub_nil))))) ⟨X22700, O22657⟩
            refine lpure (v := .slice (some ⟨b19014, 0, none⟩) (p18994.Nodes).toNat (p18994.Nodes).toNat) rfl (p_move rfl) rfl rfl ?_
            refine lpure (v := .int .i64 s22656.2.2) rfl (p_move rfl) rfl rfl ?_
            refine Sim.bindM fun e22735 he22736 => ?_
            obtain ⟨off22737, cs22737, hp22737, hc22737, hR22737, hl22737, hm22737, hs22737⟩ := OSl.iaC O22657 he22736 (kd := .i64) (n := 1) rfl
            have hR22737 : _ = [(.int .i64 e22735 : Value)] := hR22737
            subst hR22737
            refine lpure (v := .pointer (some ⟨b19014, off22737, none⟩)) rfl (p_ia rs_26 rfl) hp22737 rfl ?_
            refine lread (v := .int .i64 e22735) rfl (q_load wd_3 rfl) (St.ld X22700 (j := 1) rfl (rdE1 hc22737 (k := 0) rfl rfl)) rfl ?_
            refine lpure (v := .bool (decide (2 < e22735))) rfl (p_gt rfl) rfl rfl ?_
            refine lpure (v := .bool (decide (2 < e22735))) rfl (p_pick rfl) rfl rfl ?_
            refine lpure (v := .bool (decide (2 < e22735))) rfl (p_pick rfl) rfl rfl ?_
            refine lpure (v := .bool (decide (2 < e22735))) rfl (p_pick rfl) rfl rfl ?_
            exact ljmpM J22725 (s22656.1, (decide (2 < e22735))) (.cells vs22733 3 m22733) (sub_cons rfl (sub_cons rfl (sub_cons rfl (sub_cons rfl (sub_cons rfl sub_nil))))) ⟨X22700, O22657⟩
          refine lskip rfl rfl ?_
          refine lskip rfl rfl ?_
          refine lskip rfl rfl ?_
          refine lskip rfl rfl ?_
          refine lskip rfl rfl ?_
          refine lskip rfl rfl ?_
          refine lskip rfl rfl ?_
          refine lskip rfl rfl ?_
          refine lskip rfl rfl ?_
          refine lskip rfl rfl ?_
          refine lskip rfl rfl ?_
          refine lskip rfl rfl ?_
          refine lpure (v := .bool false) rfl (p_pick rfl) rfl rfl ?_
          refine lpure (v := .bool false) rfl (p_pick rfl) rfl rfl ?_
          exact ljmpM J22725 (s22656.1, false) blk22657 (sub_cons rfl (sub_cons rfl (sub_cons rfl (sub_cons rfl (sub_cons rfl sub_nil))))) ⟨X22700, O22657⟩
        refine dexit (eseq (eloop (xblock (nseq (dseq (dreg ?_))))))
        refine lpure (v := .bool true) rfl (p_assign rfl) rfl rfl ?_
        refine lend (nseq (dret ?_))
        exact kcut_r (res_1 resT) X22700 rfl rfl
      intro j22738 J22739
      refine lcase (i := 25) (show _ = Value.bool s19006 from rfl) (fun k22740 => ?_) (fun k22740 => ?_)
      · refine lskip rfl rfl ?_
        refine lskip rfl rfl ?_
        refine lskip rfl rfl ?_
        refine lskip rfl rfl ?_
        refine lpure (v := .bool true) rfl (p_pick rfl) rfl rfl ?_
        refine Sim.of_eq (congrArg j22738 (show (s19006 || (decide (24 < (p18994.Links.length : Int)))) = true from by rw [k22740] <;> rfl)) ?_
        exact ljmpM J22739 true () (sub_cons rfl (sub_cons rfl sub_nil)) X19007
      refine lpure (v := .pointer (some ⟨b18997, 2, none⟩)) rfl (p_fa fo_25_2 rfl) rfl rfl ?_
      refine lread (v := .slice a18996 n18996 c18996) rfl (q_load wd_23 rfl) (St.ld X19007 (j := 0) rfl rfl) rfl ?_
      refine lpure (v := .int .i64 (p18994.Links.length : Int)) rfl (p_len rfl rfl rfl un_23 rfl) (RSl.lenC H18996) rfl ?_
      refine lpure (v := .bool (decide (24 < (p18994.Links.length : Int)))) rfl (p_gt rfl) rfl rfl ?_
      refine lpure (v := .bool (decide (24 < (p18994.Links.length : Int)))) rfl (p_pick rfl) rfl rfl ?_
      refine Sim.of_eq (congrArg j22738 (show (s19006 || (decide (24 < (p18994.Links.length : Int)))) = (decide (24 < (p18994.Links.length : Int))) from by rw [k22740] <;> rfl)) ?_
      exact ljmpM J22739 (decide (24 < (p18994.Links.length : Int))) () (sub_cons rfl (sub_cons rfl sub_nil)) X19007
    intro j22741 J22742
    refine lcase (i := 17) (show _ = Value.bool s19002 from rfl) (fun k22743 => ?_) (fun k22743 => ?_)
    · refine lskip rfl rfl ?_
      refine lskip rfl rfl ?_
      refine lskip rfl rfl ?_
      refine lskip rfl rfl ?_
      refine lskip rfl rfl ?_
      refine lskip rfl rfl ?_
      refine lpure (v := .bool true) rfl (p_pick rfl) rfl rfl ?_
      refine Sim.of_eq (congrArg j22741 (show (s19002 || (decide ((p18994.Station.length : Int) ≠ p18994.Nodes))) = true from by rw [k22743] <;> rfl)) ?_
      exact ljmpM J22742 true () (sub_cons rfl (sub_cons rfl sub_nil)) X19003
    refine lpure (v := .pointer (some ⟨b18997, 1, none⟩)) rfl (p_fa fo_25_1 rfl) rfl rfl ?_
    refine lread (v := .slice a18995 n18995 c18995) rfl (q_load wd_22 rfl) (St.ld X19003 (j := 0) rfl rfl) rfl ?_
    refine lpure (v := .int .i64 (p18994.Station.length : Int)) rfl (p_len rfl rfl rfl un_22 rfl) (RSl.lenC H18995) rfl ?_
    refine lpure (v := .pointer (some ⟨b18997, 0, none⟩)) rfl (p_fa fo_25_0 rfl) rfl rfl ?_
    refine lread (v := .int .i64 p18994.Nodes) rfl (q_load wd_3 rfl) (St.ld X19003 (j := 0) rfl rfl) rfl ?_
    refine lpure (v := .bool (decide ((p18994.Station.length : Int) ≠ p18994.Nodes))) rfl (p_ne rfl) rfl rfl ?_
    refine lpure (v := .bool (decide ((p18994.Station.length : Int) ≠ p18994.Nodes))) rfl (p_pick rfl) rfl rfl ?_
    refine Sim.of_eq (congrArg j22741 (show (s19002 || (decide ((p18994.Station.length : Int) ≠ p18994.Nodes))) = (decide ((p18994.Station.length : Int) ≠ p18994.Nodes)) from by rw [k22743] <;> rfl)) ?_
    exact ljmpM J22742 (decide ((p18994.Station.length : Int) ≠ p18994.Nodes)) () (sub_cons rfl (sub_cons rfl sub_nil)) X19003
  intro j22744 J22745
  refine lcase (i := 12) (show _ = Value.bool (decide (p18994.Nodes < 2)) from rfl) (fun k22746 => ?_) (fun k22746 => ?_)
  · refine lskip rfl rfl ?_
    refine lskip rfl rfl ?_
    refine lskip rfl rfl ?_
    refine lpure (v := .bool true) rfl (p_pick rfl) rfl rfl ?_
    refine Sim.of_eq (congrArg j22744 (show ((decide (p18994.Nodes < 2)) || (decide (12 < p18994.Nodes))) = true from by rw [k22746] <;> rfl)) ?_
    exact ljmpM J22745 true () (sub_cons rfl (sub_cons rfl sub_nil)) X19000
  refine lpure (v := .pointer (some ⟨b18997, 0, none⟩)) rfl (p_fa fo_25_0 rfl) rfl rfl ?_
  refine lread (v := .int .i64 p18994.Nodes) rfl (q_load wd_3 rfl) (St.ld X19000 (j := 0) rfl rfl) rfl ?_
  refine lpure (v := .bool (decide (12 < p18994.Nodes))) rfl (p_gt rfl) rfl rfl ?_
  refine lpure (v := .bool (decide (12 < p18994.Nodes))) rfl (p_pick rfl) rfl rfl ?_
  refine Sim.of_eq (congrArg j22744 (show ((decide (p18994.Nodes < 2)) || (decide (12 < p18994.Nodes))) = (decide (12 < p18994.Nodes)) from by rw [k22746] <;> rfl)) ?_
  exact ljmpM J22745 (decide (12 < p18994.Nodes)) () (sub_cons rfl (sub_cons rfl sub_nil)) X19000
/-! isochron/isochronref16.Port -/
theorem f66_ok {n : Nat} {φ : Fz} {lo : Nat} {h : Heap} {own : OwnL}  {a22779 : Option Addr} {n22779 c22779 : Nat} {a22780 : Option Addr} {n22780 c22780 : Nat} (X : St φ lo h (own)) (p22778 : ApiTopo) (p22781 : Int) (H22779 : RSl eBool φ (.slice a22779 n22779 c22779) p22778.Station) (H22780 : RSl eApiLink φ (.slice a22780 n22780 c22780) p22778.Links) : Sim ((recN Tryz.prog LL cutF (n + 1)).call 66 #[(.agg #[.int .i64 p22778.Nodes, .slice a22779 n22779 c22779, .slice a22780 n22780 c22780]), (.int .i64 p22781)] h) (m_isochronref16_Port p22778 p22781) (fun (d : Bool) p => p = (.bool d, h)) := by
  refine fcut Tryz.func66 rfl rfl rfl rfl X ?_
  intro h0 X0
  refine dseq (dreg ?_)
  refine lbox rfl rfl rfl rfl rfl X0 (fun b22782 h22784 X22785 => ?_)
  refine lpure (v := .bool false) rfl (p_assign rfl) rfl rfl ?_
  refine lend (nseq (dseq (dreg ?_)))
  refine lpure (v := .int .i64 p22781) rfl (p_move rfl) rfl rfl ?_
  refine lpure (v := .bool (decide (0 ≤ p22781))) rfl (p_ge rfl) rfl rfl ?_
  refine lpure (v := .bool (decide (0 ≤ p22781))) rfl (p_move rfl) rfl rfl ?_
  refine lsh (τ := Bool) (σ := Unit) (fun s22787 (_ : Unit) => [(14, .bool s22787)]) (fun s22787 (_ : Unit) hh => St φ h.n hh ([(some b22782, .cells [.int .i64 p22778.Nodes, .slice a22779 n22779 c22779, .slice a22780 n22780 c22780] 25 .exact)])) 7 ?_ ?_
  · rintro s22787 _ t0 h22789 X22788
    refine lpure (v := .bool s22787) rfl (p_assign rfl) rfl rfl ?_
    refine lend (nseq (dret ?_))
    exact kcut_r (res_1 resT) X22788 rfl rfl
  intro j22790 J22791
  refine lcase (i := 7) (show _ = Value.bool (decide (0 ≤ p22781)) from rfl) (fun k22792 => ?_) (fun k22792 => ?_)
  · refine lpure (v := .int .i64 p22781) rfl (p_move rfl) rfl rfl ?_
    refine lpure (v := .pointer (some ⟨b22782, 2, none⟩)) rfl (p_fa fo_25_2 rfl) rfl rfl ?_
    refine lread (v := .slice a22780 n22780 c22780) rfl (q_load wd_23 rfl) (St.ld X22785 (j := 0) rfl rfl) rfl ?_
    refine lpure (v := .int .i64 (p22778.Links.length : Int)) rfl (p_len rfl rfl rfl un_23 rfl) (RSl.lenC H22780) rfl ?_
    refine lpure (v := .int .i64 (w64 (2 * (p22778.Links.length : Int)))) rfl (p_mul rfl) rfl rfl ?_
    refine lpure (v := .bool (decide (p22781 < (w64 (2 * (p22778.Links.length : Int)))))) rfl (p_lt rfl) rfl rfl ?_
    refine lpure (v := .bool (decide (p22781 < (w64 (2 * (p22778.Links.length : Int)))))) rfl (p_pick rfl) rfl rfl ?_
    refine Sim.of_eq (congrArg j22790 (show ((decide (0 ≤ p22781)) && (decide (p22781 < (w64 (2 * (p22778.Links.length : Int)))))) = (decide (p22781 < (w64 (2 * (p22778.Links.length : Int))))) from by rw [k22792] <;> rfl)) ?_
    exact ljmpM J22791 (decide (p22781 < (w64 (2 * (p22778.Links.length : Int))))) () (sub_cons rfl sub_nil) X22785
  refine lskip rfl rfl ?_
  refine lskip rfl rfl ?_
  refine lskip rfl rfl ?_
  refine lskip rfl rfl ?_
  refine lskip rfl rfl ?_
  refine lskip rfl rfl ?_
  refine lpure (v := .bool false) rfl (p_pick rfl) rfl rfl ?_
  refine Sim.of_eq (congrArg j22790 (show ((decide (0 ≤ p22781)) && (decide (p22781 < (w64 (2 * (p22778.Links.length : Int)))))) = false from by rw [k22792] <;> rfl)) ?_
  exact ljmpM J22791 false () (sub_cons rfl sub_nil) X22785
/-! isochron/isochronref16.From -/
theorem f41_ok {n : Nat} {φ : Fz} {lo : Nat} {h : Heap} {own : OwnL}  {a22811 : Option Addr} {n22811 c22811 : Nat} {a22812 : Option Addr} {n22812 c22812 : Nat} (X : St φ lo h (own)) (p22810 : ApiTopo) (p22813 : Int) (H22811 : RSl eBool φ (.slice a22811 n22811 c22811) p22810.Station) (H22812 : RSl eApiLink φ (.slice a22812 n22812 c22812) p22810.Links) : Sim ((recN Tryz.prog LL cutF (n + 1)).call 41 #[(.agg #[.int .i64 p22810.Nodes, .slice a22811 n22811 c22811, .slice a22812 n22812 c22812]), (.int .i64 p22813)] h) (m_isochronref16_From p22810 p22813) (fun (d : Int) p => p = (.int .i64 d, h)) := by
  refine fcut Tryz.func41 rfl rfl rfl rfl X ?_
  intro h0 X0
  refine dseq (dreg ?_)
  refine lbox rfl rfl rfl rfl rfl X0 (fun b22814 h22816 X22817 => ?_)
  refine lpure (v := .int .i64 0) rfl (p_assign rfl) rfl rfl ?_
  refine lend (nseq (dseq (dreg ?_)))
  refine lpure (v := .pointer (some ⟨b22814, 2, none⟩)) rfl (p_fa fo_25_2 rfl) rfl rfl ?_
  refine lread (v := .slice a22812 n22812 c22812) rfl (q_load wd_23 rfl) (St.ld X22817 (j := 0) rfl rfl) rfl ?_
  refine lpure (v := .int .i64 p22813) rfl (p_move rfl) rfl rfl ?_
  refine lpure (v := .int .i64 (w64 (Int.tdiv p22813 2))) rfl (p_quo rfl) rfl rfl ?_
  refine Sim.bindM fun e22818 he22819 => ?_
  obtain ⟨p22820, cs22820, hp22820, hF22820, hR22820⟩ := RSl.ia H22812 he22819 (kd := .i64) (n := 4) rfl
  obtain rfl := eApiLink_el hR22820
  refine lpure (v := p22820) rfl (p_ia rs_23 rfl) hp22820 rfl ?_
  refine lread (v := .agg #[.int .i64 e22818.A, .int .i64 e22818.B, .int .i64 e22818.Per, .int .i64 e22818.Delay]) rfl (q_load wd_65 rfl) (FP.ldw X22817 hF22820 rfl rfl) rfl ?_
  refine lalloc rfl tz_65 rfl rfl rfl X22817 (fun b22821 h22823 X22824 => ?_)
  refine lstore rfl ts_65 rfl rfl (j := 0) rfl rfl rfl rfl rfl rfl X22824 (fun h22825 X22826 => ?_)
  refine lend (nseq (dseq (dseq (dreg ?_))))
  refine lpure (v := .int .i64 p22813) rfl (p_move rfl) rfl rfl ?_
  refine lpure (v := .int .i64 (Int.tmod p22813 2)) rfl (p_rem rfl) rfl rfl ?_
  refine lpure (v := .bool (decide ((Int.tmod p22813 2) = 1))) rfl (p_eq rfl) rfl rfl ?_
  refine lend (nseq ?_)
  refine dcond rfl rfl (fun k22827 => ?_) (fun k22827 => ?_)
  · refine dseq (dreg ?_)
    refine lpure (v := .pointer (some ⟨b22821, 1, none⟩)) rfl (p_fa fo_65_1 rfl) rfl rfl ?_
    refine lread (v := .int .i64 e22818.B) rfl (q_load wd_3 rfl) (St.ld X22826 (j := 0) rfl rfl) rfl ?_
    refine lpure (v := .int .i64 e22818.B) rfl (p_assign rfl) rfl rfl ?_
    refine lend (nseq (dret (rseq ?_)))
    exact kcut_r (res_1 resT) X22826 rfl rfl
  refine dskip (nseq (dseq (dreg ?_)))
  refine lpure (v := .pointer (some ⟨b22821, 0, none⟩)) rfl (p_fa fo_65_0 rfl) rfl rfl ?_
  refine lread (v := .int .i64 e22818.A) rfl (q_load wd_3 rfl) (St.ld X22826 (j := 0) rfl rfl) rfl ?_
  refine lpure (v := .int .i64 e22818.A) rfl (p_assign rfl) rfl rfl ?_
  refine lend (nseq (dret ?_))
  exact kcut_r (res_1 resT) X22826 rfl rfl
/-! isochron/isochronref16.To -/
theorem f42_ok {n : Nat} {φ : Fz} {lo : Nat} {h : Heap} {own : OwnL}  {a22843 : Option Addr} {n22843 c22843 : Nat} {a22844 : Option Addr} {n22844 c22844 : Nat} (X : St φ lo h (own)) (p22842 : ApiTopo) (p22845 : Int) (H22843 : RSl eBool φ (.slice a22843 n22843 c22843) p22842.Station) (H22844 : RSl eApiLink φ (.slice a22844 n22844 c22844) p22842.Links) : Sim ((recN Tryz.prog LL cutF (n + 1)).call 42 #[(.agg #[.int .i64 p22842.Nodes, .slice a22843 n22843 c22843, .slice a22844 n22844 c22844]), (.int .i64 p22845)] h) (m_isochronref16_To p22842 p22845) (fun (d : Int) p => p = (.int .i64 d, h)) := by
  refine fcut Tryz.func42 rfl rfl rfl rfl X ?_
  intro h0 X0
  refine dseq (dreg ?_)
  refine lbox rfl rfl rfl rfl rfl X0 (fun b22846 h22848 X22849 => ?_)
  refine lpure (v := .int .i64 0) rfl (p_assign rfl) rfl rfl ?_
  refine lend (nseq (dseq (dreg ?_)))
  refine lpure (v := .pointer (some ⟨b22846, 2, none⟩)) rfl (p_fa fo_25_2 rfl) rfl rfl ?_
  refine lread (v := .slice a22844 n22844 c22844) rfl (q_load wd_23 rfl) (St.ld X22849 (j := 0) rfl rfl) rfl ?_
  refine lpure (v := .int .i64 p22845) rfl (p_move rfl) rfl rfl ?_
  refine lpure (v := .int .i64 (w64 (Int.tdiv p22845 2))) rfl (p_quo rfl) rfl rfl ?_
  refine Sim.bindM fun e22850 he22851 => ?_
  obtain ⟨p22852, cs22852, hp22852, hF22852, hR22852⟩ := RSl.ia H22844 he22851 (kd := .i64) (n := 4) rfl
  obtain rfl := eApiLink_el hR22852
  refine lpure (v := p22852) rfl (p_ia rs_23 rfl) hp22852 rfl ?_
  refine lread (v := .agg #[.int .i64 e22850.A, .int .i64 e22850.B, .int .i64 e22850.Per, .int .i64 e22850.Delay]) rfl (q_load wd_65 rfl) (FP.ldw X22849 hF22852 rfl rfl) rfl ?_
  refine lalloc rfl tz_65 rfl rfl rfl X22849 (fun b22853 h22855 X22856 => ?_)
  refine lstore rfl ts_65 rfl rfl (j := 0) rfl rfl rfl rfl rfl rfl X22856 (fun h22857 X22858 => ?_)
  refine lend (nseq (dseq (dseq (dreg ?_))))
  refine lpure (v := .int .i64 p22845) rfl (p_move rfl) rfl rfl ?_
  refine lpure (v := .int .i64 (Int.tmod p22845 2)) rfl (p_rem rfl) rfl rfl ?_
  refine lpure (v := .bool (decide ((Int.tmod p22845 2) = 1))) rfl (p_eq rfl) rfl rfl ?_
  refine lend (nseq ?_)
  refine dcond rfl rfl (fun k22859 => ?_) (fun k22859 => ?_)
  · refine dseq (dreg ?_)
    refine lpure (v := .pointer (some ⟨b22853, 0, none⟩)) rfl (p_fa fo_65_0 rfl) rfl rfl ?_
    refine lread (v := .int .i64 e22850.A) rfl (q_load wd_3 rfl) (St.ld X22858 (j := 0) rfl rfl) rfl ?_
    refine lpure (v := .int .i64 e22850.A) rfl (p_assign rfl) rfl rfl ?_
    refine lend (nseq (dret (rseq ?_)))
    exact kcut_r (res_1 resT) X22858 rfl rfl
  refine dskip (nseq (dseq (dreg ?_)))
  refine lpure (v := .pointer (some ⟨b22853, 1, none⟩)) rfl (p_fa fo_65_1 rfl) rfl rfl ?_
  refine lread (v := .int .i64 e22850.B) rfl (q_load wd_3 rfl) (St.ld X22858 (j := 0) rfl rfl) rfl ?_
  refine lpure (v := .int .i64 e22850.B) rfl (p_assign rfl) rfl rfl ?_
  refine lend (nseq (dret ?_))
  exact kcut_r (res_1 resT) X22858 rfl rfl
/-! isochron/isochronref21.Nodes -/
theorem f16_ok {n : Nat} {φ : Fz} {lo : Nat} {h : Heap} {own : OwnL}  {a22921 : Option Addr} {n22921 c22921 : Nat} {a22922 : Option Addr} {n22922 c22922 : Nat} {a22924 : Option Addr} {n22924 c22924 : Nat} (X : St φ lo h (own)) (p22920 : ApiTopo) (p22923 : (List Int)) (H22921 : RSl eBool φ (.slice a22921 n22921 c22921) p22920.Station) (H22922 : RSl eApiLink φ (.slice a22922 n22922 c22922) p22920.Links) (H22924 : RSl (eInt .i64) φ (.slice a22924 n22924 c22924) p22923) : Sim ((recN Tryz.prog LL cutF (n + 2)).call 16 #[(.agg #[.int .i64 p22920.Nodes, .slice a22921 n22921 c22921, .slice a22922 n22922 c22922]), (.slice a22924 n22924 c22924)] h) (m_isochronref21_Nodes p22920 p22923) (fun (d : (List Int)) p => ∃ φ2 : Fz, ∃ a23003 : Option Addr, ∃ n23003 : Nat, ∃ c23003 : Nat, ∃ ob23003 : Option Nat, ∃ blk23003 : Blk, Fz.le φ φ2 ∧ St φ2 lo p.2 ((ob23003, blk23003) :: own) ∧ p.1 = .slice a23003 n23003 c23003 ∧ OSl (eInt .i64) φ2 3 ob23003 blk23003 (.slice a23003 n23003 c23003) d) := by
  refine fopen Tryz.func16 rfl rfl rfl rfl ?_
  refine dseq (dreg ?_)
  refine lbox rfl rfl rfl rfl rfl X (fun b22925 h22927 X22928 => ?_)
  refine lpure (v := .slice none 0 0) rfl (p_assign rfl) rfl rfl ?_
  refine lend (nseq (dseq ?_))
  refine dgo_start (n := 7) rfl (by kernel_rfl) ?_
  refine gload (v := .agg #[.int .i64 p22920.Nodes, .slice a22921 n22921 c22921, .slice a22922 n22922 c22922]) rfl (q_load wd_25 rfl) (St.ld X22928 (j := 0) rfl rfl) rfl ?_
  refine gpure (v := .slice a22924 n22924 c22924) rfl (p_move rfl) (lo_t (lo_sl X22928 H22924) rfl) rfl rfl ?_
  refine Sim.bindM fun e22929 he22930 => ?_
  obtain ⟨p22931, cs22931, hp22931, hF22931, hR22931⟩ := RSl.ia H22924 he22930 (kd := .i64) (n := 1) rfl
  have hR22931 : _ = [(.int .i64 e22929 : Value)] := hR22931
  subst hR22931
  refine gpure (v := p22931) rfl (p_ia rs_27 rfl) (lo_t (lo_sl X22928 H22924) (lo_c rfl)) hp22931 rfl ?_
  refine gload (v := .int .i64 e22929) rfl (q_load wd_3 rfl) (FP.ld X22928 hF22931) rfl ?_
  refine gwait rfl (still_call rfl rfl ca_41 rfl) rfl ?_
  refine dgo_skip ?_
  refine dgo_skip ?_
  refine gcall (m := 6) [false, false] (rk_cons (q_load wd_3 rfl) (FP.ld X22928 hF22931) (same_self 20 rfl) (rk_cons (q_load wd_25 rfl) (St.ld X22928 (j := 0) rfl rfl) (same_self 20 rfl) rk_nil)) rfl rfl rfl rfl rfl ca_41 rfl rfl (f41_ok X22928 p22920 e22929 H22921 H22922) rfl (fun e22932 v22933 h22934 hq22935 => ?_)
  cases hq22935
  refine dgo_skip ?_
  refine dgo_skip ?_
  refine dgo_skip ?_
  refine dgo_skip ?_
  refine dgo_skip ?_
  obtain ⟨hv22936, ho22937⟩ := lay_at (E := (eInt .i64)) (φ := φ) (cs := [.int .i64 e22932]) (l := [e22932]) (len := 1) (parts := [(0, .int .i64 e22932)]) un_26 ts_3 rfl rfl rfl tz_3 rfl rfl (show RowD (eInt .i64) φ [.int .i64 e22932] [e22932] from ⟨[.int .i64 e22932], _, rfl, rfl, rfl⟩) rfl rfl
  refine glay rfl rfl rfl hv22936 rfl rfl X22928 (fun b22936 h22936 X22936 => ?_)
  have O22936 := ho22937 b22936
  refine gpure (v := .slice (some ⟨b22936, 0, none⟩) 1 1) rfl (p_assign rfl) (lo_t (lo_osl X22936 (j := 0) rfl O22936) rfl) rfl rfl ?_
  refine gend rk_nil ?_
  refine nseq (dseq (dseq (dreg ?_)))
  refine lpure (v := .int .i64 0) rfl (p_assign rfl) rfl rfl ?_
  refine lend (nseq (dblock ?_))
  refine dloopM (τ := (List Int) × Int) (σ := Option Addr × Nat × Nat × Option Nat × Blk) (fun s22970 (a22971, n22971, c22971, ob22971, blk22971) => [(1, .slice a22924 n22924 c22924), (2, .pointer (some ⟨b22925, 0, none⟩)), (5, .slice a22971 n22971 c22971), (6, .int .i64 s22970.2)]) (fun s22970 (a22971, n22971, c22971, ob22971, blk22971) hh => St φ lo hh ((ob22971, blk22971) :: (some b22925, .cells [.int .i64 p22920.Nodes, .slice a22921 n22921 c22921, .slice a22922 n22922 c22922] 25 .exact) :: own) ∧ OSl (eInt .i64) φ 3 ob22971 blk22971 (.slice a22971 n22971 c22971) s22970.1) ([e22932], 0) ((some ⟨b22936, 0, none⟩), 1, 1, some b22936, (.cells [.int .i64 e22932] 3 .exact)) (sub_cons rfl (sub_cons rfl (sub_cons rfl (sub_cons rfl sub_nil)))) ⟨X22936, O22936⟩ ?_
  rintro n22988 ih22987 s22970 ⟨a22971, n22971, c22971, ob22971, blk22971⟩ t0 h22990 ⟨X22989, O22971⟩
  refine dseq (dseq (dreg ?_))
  refine lpure (v := .int .i64 s22970.2) rfl (p_move rfl) rfl rfl ?_
  refine lpure (v := .slice a22924 n22924 c22924) rfl (p_move rfl) rfl rfl ?_
  refine lpure (v := .int .i64 (p22923.length : Int)) rfl (p_len rfl rfl rfl un_27 rfl) (RSl.lenC H22924) rfl ?_
  refine lpure (v := .bool (decide (s22970.2 < (p22923.length : Int)))) rfl (p_lt rfl) rfl rfl ?_
  refine lend (nseq ?_)
  refine dcond rfl rfl (fun k22991 => ?_) (fun k22991 => ?_)
  · refine dskip (nseq (dseq (dblock ?_)))
    refine dgo_start (n := 10) rfl (by kernel_rfl) ?_
    refine gpure (v := .slice a22971 n22971 c22971) rfl (p_move rfl) (lo_t (lo_osl X22989 (j := 0) rfl O22971) rfl) rfl rfl ?_
    refine gload (v := .agg #[.int .i64 p22920.Nodes, .slice a22921 n22921 c22921, .slice a22922 n22922 c22922]) rfl (q_load wd_25 rfl) (St.ld X22989 (j := 1) rfl rfl) rfl ?_
    refine gpure (v := .slice a22924 n22924 c22924) rfl (p_move rfl) (lo_t (lo_sl X22989 H22924) rfl) rfl rfl ?_
    refine gpure (v := .int .i64 s22970.2) rfl (p_move rfl) (lo_t rfl rfl) rfl rfl ?_
    refine Sim.bindM fun e22992 he22993 => ?_
    obtain ⟨p22994, cs22994, hp22994, hF22994, hR22994⟩ := RSl.ia H22924 he22993 (kd := .i64) (n := 1) rfl
    have hR22994 : _ = [(.int .i64 e22992 : Value)] := hR22994
    subst hR22994
    refine gpure (v := p22994) rfl (p_ia rs_27 rfl) (lo_t (lo_sl X22989 H22924) (lo_t rfl rfl)) hp22994 rfl ?_
    refine gload (v := .int .i64 e22992) rfl (q_load wd_3 rfl) (FP.ld X22989 hF22994) rfl ?_
    refine gwait rfl (still_call rfl rfl ca_42 rfl) rfl ?_
    refine dgo_skip ?_
    refine dgo_skip ?_
    refine dgo_skip ?_
    refine gcall (m := 9) [false, false] (rk_cons (q_load wd_3 rfl) (FP.ld X22989 hF22994) (same_self 20 rfl) (rk_cons (q_load wd_25 rfl) (St.ld X22989 (j := 1) rfl rfl) (same_self 20 rfl) rk_nil)) rfl rfl rfl rfl rfl ca_42 rfl rfl (f42_ok X22989 p22920 e22992 H22921 H22922) rfl (fun e22995 v22996 h22997 hq22998 => ?_)
    cases hq22998
    refine dgo_skip ?_
    refine dgo_skip ?_
    refine dgo_skip ?_
    refine dgo_skip ?_
    refine dgo_skip ?_
    refine dgo_skip ?_
    refine dgo_skip ?_
    obtain ⟨hv22999, ho23000⟩ := lay_at (E := (eInt .i64)) (φ := φ) (cs := [.int .i64 e22995]) (l := [e22995]) (len := 1) (parts := [(0, .int .i64 e22995)]) un_26 ts_3 rfl rfl rfl tz_3 rfl rfl (show RowD (eInt .i64) φ [.int .i64 e22995] [e22995] from ⟨[.int .i64 e22995], _, rfl, rfl, rfl⟩) rfl rfl
    refine glay rfl rfl rfl hv22999 rfl rfl X22989 (fun b22999 h22999 X22999 => ?_)
    have O22999 := ho23000 b22999
    obtain ⟨ws23002, hw23002⟩ := OSl.read O22999 X22999 (k := 0) rfl (n := 1) rfl
    refine Sim.mustM fun k23002 => ?_
    obtain ⟨h23002, a23002, c23002, ob23002, blk23002, hv23002, X23002, O23002⟩ := OSl.append O22971 X22999 (j := 1) rfl hw23002 k23002 (ts := #[26, 26]) rfl un_26 (argOk_of ax_26_26) ts_3 rfl rfl tb_3 rfl tz_3 rfl
    refine geither (m := 8) rfl (append_still rfl rfl rfl rfl hv23002) rk_nil rfl (h_builtin rfl rfl) hv23002 rfl ?_
    refine gpure (v := .slice a23002 (s22970.1.length + ([e22995]).length) c23002) rfl (p_assign rfl) (lo_t (lo_osl X23002 (j := 1) rfl O23002) rfl) rfl rfl ?_
    refine gend rk_nil ?_
    refine nblock (nseq (dreg ?_))
    refine lpure (v := .int .i64 s22970.2) rfl (p_move rfl) rfl rfl ?_
    refine lpure (v := .int .i64 (w64 (s22970.2 + 1))) rfl (p_add rfl) rfl rfl ?_
    refine lpure (v := .int .i64 (w64 (s22970.2 + 1))) rfl (p_assign rfl) rfl rfl ?_
    refine lend ?_
    exact kbackM ih22987 ((s22970.1 ++ ([e22995])), (w64 (s22970.2 + 1))) (a23002, (s22970.1.length + ([e22995]).length), c23002, ob23002, blk23002) (sub_cons rfl (sub_cons rfl (sub_cons rfl (sub_cons rfl sub_nil)))) ⟨(St.pick X23002 (.skip _ (.keep _ (.keep _ (.refl _))))), O23002⟩
  refine dexit (eseq (eloop (xblock (nseq (dseq (dreg ?_))))))
  refine lpure (v := .slice a22971 n22971 c22971) rfl (p_move rfl) rfl rfl ?_
  refine lpure (v := .slice a22971 n22971 c22971) rfl (p_assign rfl) rfl rfl ?_
  refine lend (nseq (dret ?_))
  exact kopen_r (res_1 resT) ⟨φ, a22971, n22971, c22971, ob22971, blk22971, (Fz.le_refl _), St.pick X22989 (.keep _ (.skip _ (.refl _))), rfl, O22971⟩
/-! isochron/isochronref21.Right -/
theorem f38_ok {n : Nat} {φ : Fz} {lo : Nat} {h : Heap} {own : OwnL}  {a22761 : Option Addr} {n22761 c22761 : Nat} {a22762 : Option Addr} {n22762 c22762 : Nat} {a22764 : Option Addr} {n22764 c22764 : Nat} (X : St φ lo h (own)) (p22760 : ApiTopo) (p22763 : (List Int)) (H22761 : RSl eBool φ (.slice a22761 n22761 c22761) p22760.Station) (H22762 : RSl eApiLink φ (.slice a22762 n22762 c22762) p22760.Links) (H22764 : RSl (eInt .i64) φ (.slice a22764 n22764 c22764) p22763) : Sim ((recN Tryz.prog LL cutF (n + 3)).call 38 #[(.agg #[.int .i64 p22760.Nodes, .slice a22761 n22761 c22761, .slice a22762 n22762 c22762]), (.slice a22764 n22764 c22764)] h) (m_isochronref21_Right p22760 p22763) (fun (d : Bool) p => p = (.bool d, h)) := by
  refine fcut Tryz.func38 rfl rfl rfl rfl X ?_
  intro h0 X0
  refine dseq (dreg ?_)
  refine lbox rfl rfl rfl rfl rfl X0 (fun b22765 h22767 X22768 => ?_)
  refine lpure (v := .bool false) rfl (p_assign rfl) rfl rfl ?_
  refine lend (nseq (dseq (dseq (dreg ?_))))
  refine lpure (v := .slice a22764 n22764 c22764) rfl (p_move rfl) rfl rfl ?_
  refine lpure (v := .int .i64 (p22763.length : Int)) rfl (p_len rfl rfl rfl un_27 rfl) (RSl.lenC H22764) rfl ?_
  refine lpure (v := .bool (decide ((p22763.length : Int) < 1))) rfl (p_lt rfl) rfl rfl ?_
  refine lpure (v := .bool (decide ((p22763.length : Int) < 1))) rfl (p_move rfl) rfl rfl ?_
  refine lsh (τ := Bool) (σ := Unit) (fun s22770 (_ : Unit) => [(1, .slice a22764 n22764 c22764), (2, .pointer (some ⟨b22765, 0, none⟩)), (15, .bool s22770)]) (fun s22770 (_ : Unit) hh => St φ h.n hh ([(some b22765, .cells [.int .i64 p22760.Nodes, .slice a22761 n22761 c22761, .slice a22762 n22762 c22762] 25 .exact)])) 4 ?_ ?_
  · rintro s22770 _ t0 h22772 X22771
    refine lend (nseq ?_)
    refine dcond rfl rfl (fun k22773 => ?_) (fun k22773 => ?_)
    · refine dseq (dreg ?_)
      refine lpure (v := .bool false) rfl (p_assign rfl) rfl rfl ?_
      refine lend (nseq (dret (rseq ?_)))
      exact kcut_r (res_1 resT) X22771 rfl rfl
    refine dskip (nseq (dseq (dseq (dreg ?_))))
    refine lpure (v := .int .i64 0) rfl (p_assign rfl) rfl rfl ?_
    refine lend (nseq (dblock ?_))
    refine dloopM (τ := Int) (σ := Unit) (fun s23487 (_ : Unit) => [(1, .slice a22764 n22764 c22764), (2, .pointer (some ⟨b22765, 0, none⟩)), (5, .int .i64 s23487)]) (fun s23487 (_ : Unit) hh => St φ h.n hh ([(some b22765, .cells [.int .i64 p22760.Nodes, .slice a22761 n22761 c22761, .slice a22762 n22762 c22762] 25 .exact)])) 0 () (sub_cons rfl (sub_cons rfl (sub_cons rfl sub_nil))) X22771 ?_
    rintro n23736 ih23735 s23487 _ t0 h23738 X23737
    refine dseq (dseq (dreg ?_))
    refine lpure (v := .int .i64 s23487) rfl (p_move rfl) rfl rfl ?_
    refine lpure (v := .slice a22764 n22764 c22764) rfl (p_move rfl) rfl rfl ?_
    refine lpure (v := .int .i64 (p22763.length : Int)) rfl (p_len rfl rfl rfl un_27 rfl) (RSl.lenC H22764) rfl ?_
    refine lpure (v := .bool (decide (s23487 < (p22763.length : Int)))) rfl (p_lt rfl) rfl rfl ?_
    refine lend (nseq ?_)
    refine dcond rfl rfl (fun k23739 => ?_) (fun k23739 => ?_)
    · refine dskip (nseq (dseq (dblock (dseq ?_))))
      refine ddraw 0 0 0 (by kernel_rfl) ?_
      refine sload (v := .agg #[.int .i64 p22760.Nodes, .slice a22761 n22761 c22761, .slice a22762 n22762 c22762]) rfl rfl (q_load wd_25 rfl) (St.ld X23737 (j := 0) rfl rfl) (same_self 20 rfl) rfl ?_
      refine spure (v := .slice a22764 n22764 c22764) rfl (p_move rfl) (lo_t (lo_sl X23737 H22764) rfl) rfl rfl ?_
      refine spure (v := .int .i64 s23487) rfl (p_move rfl) (lo_t rfl rfl) rfl rfl ?_
      refine Sim.bindM fun e23740 he23741 => ?_
      obtain ⟨p23742, cs23742, hp23742, hF23742, hR23742⟩ := RSl.ia H22764 he23741 (kd := .i64) (n := 1) rfl
      have hR23742 : _ = [(.int .i64 e23740 : Value)] := hR23742
      subst hR23742
      refine spure (v := p23742) rfl (p_ia rs_27 rfl) (lo_t (lo_sl X23737 H22764) (lo_t rfl rfl)) hp23742 rfl ?_
      refine sload (v := .int .i64 e23740) rfl rfl (q_load wd_3 rfl) (FP.ld X23737 hF23742) (same_self 20 rfl) rfl ?_
      refine scall (en := fun d => (.bool d)) rfl rfl ca_66 rfl rfl (f66_ok X23737 p22760 e23740 H22761 H22762) rfl (fun e23743 => ?_)
      refine spure (v := .bool (!e23743)) rfl (p_not rfl) (lo_t rfl rfl) rfl rfl ?_
      refine send ?_
      refine nseq ?_
      refine dcond rfl rfl (fun k23747 => ?_) (fun k23747 => ?_)
      · refine dseq (dreg ?_)
        refine lpure (v := .bool false) rfl (p_assign rfl) rfl rfl ?_
        refine lend (nseq (dret (rblock (rseq (rloop (rblock (rseq ?_)))))))
        exact kcut_r (res_1 resT) X23737 rfl rfl
      refine dskip (nblock (nseq (dreg ?_)))
      refine lpure (v := .int .i64 s23487) rfl (p_move rfl) rfl rfl ?_
      refine lpure (v := .int .i64 (w64 (s23487 + 1))) rfl (p_add rfl) rfl rfl ?_
      refine lpure (v := .int .i64 (w64 (s23487 + 1))) rfl (p_assign rfl) rfl rfl ?_
      refine lend ?_
      exact kbackM ih23735 (w64 (s23487 + 1)) () (sub_cons rfl (sub_cons rfl (sub_cons rfl sub_nil))) X23737
    refine dexit (eseq (eloop (xblock (nseq (dseq (dreg ?_))))))
    refine lread (v := .agg #[.int .i64 p22760.Nodes, .slice a22761 n22761 c22761, .slice a22762 n22762 c22762]) rfl (q_load wd_25 rfl) (St.ld X23737 (j := 0) rfl rfl) rfl ?_
    refine lpure (v := .slice a22764 n22764 c22764) rfl (p_move rfl) rfl rfl ?_
    refine lcall rfl rfl ca_16 rfl rfl (f16_ok X23737 p22760 p22763 H22761 H22762 H22764) rfl ?_
    rintro e23748 _ h23750 ⟨φ23752, a23755, n23755, c23755, ob23755, blk23755, g23753, X23754, rfl, O23755⟩
    refine lpure (v := .slice a23755 n23755 c23755) rfl (p_assign rfl) rfl rfl ?_
    refine lend (nseq (dseq (dseq (dreg ?_))))
    refine lpure (v := .int .i64 0) rfl (p_assign rfl) rfl rfl ?_
    refine lend (nseq (dblock ?_))
    obtain ⟨φ23775, g23776, X23777, H23778⟩ := OSl.freeze X23754 (j := 0) rfl O23755
    refine dloopM (τ := Int) (σ := Unit) (fun s23855 (_ : Unit) => [(1, .slice a22764 n22764 c22764), (2, .pointer (some ⟨b22765, 0, none⟩)), (6, .slice a23755 n23755 c23755), (7, .int .i64 s23855)]) (fun s23855 (_ : Unit) hh => St φ23775 h.n hh ([(none, .dead), (some b22765, .cells [.int .i64 p22760.Nodes, .slice a22761 n22761 c22761, .slice a22762 n22762 c22762] 25 .exact)])) 0 () (sub_cons rfl (sub_cons rfl (sub_cons rfl (sub_cons rfl sub_nil)))) (St.pick X23777 (.none _ (.skip _ (.keep _ (.nil _))))) ?_
    rintro n23920 ih23919 s23855 _ t0 h23922 X23921
    refine dseq (dseq (dreg ?_))
    refine lpure (v := .int .i64 s23855) rfl (p_move rfl) rfl rfl ?_
    refine lpure (v := .slice a23755 n23755 c23755) rfl (p_move rfl) rfl rfl ?_
    refine lpure (v := .int .i64 (e23748.length : Int)) rfl (p_len rfl rfl rfl un_26 rfl) (RSl.lenC H23778) rfl ?_
    refine lpure (v := .bool (decide (s23855 < (e23748.length : Int)))) rfl (p_lt rfl) rfl rfl ?_
    refine lend (nseq ?_)
    refine dcond rfl rfl (fun k23923 => ?_) (fun k23923 => ?_)
    · refine dskip (nseq (dseq (dblock (dseq (dseq ?_)))))
      refine ddraw 0 0 0 (by kernel_rfl) ?_
      refine spure (v := .slice a23755 n23755 c23755) rfl (p_move rfl) (lo_t (lo_sl X23921 H23778) rfl) rfl rfl ?_
      refine spure (v := .int .i64 s23855) rfl (p_move rfl) (lo_t rfl rfl) rfl rfl ?_
      refine Sim.mustM fun k23924 => ?_
      have k23924 := of_decide_eq_true k23924
      refine sslice H23778 X23921 rfl rfl rfl (evo_ok rfl) (evo_ok rfl) rfl rfl rfl un_26 ts_3 rfl bnd_none (bnd_int (show (0 : Int) ≤ s23855 from by omega)) (by omega) (by omega) (l' := (e23748.take (s23855).toNat)) rfl (lo_t (lo_sl X23921 H23778) (lo_t rfl rfl)) rfl (fun a23924 n23924 c23924 H23924 => ?_)
      refine spure (v := .slice a23755 n23755 c23755) rfl (p_move rfl) (lo_t (lo_sl X23921 H23778) rfl) rfl rfl ?_
      refine spure (v := .int .i64 s23855) rfl (p_move rfl) (lo_t rfl rfl) rfl rfl ?_
      refine Sim.bindM fun e23925 he23926 => ?_
      obtain ⟨p23927, cs23927, hp23927, hF23927, hR23927⟩ := RSl.ia H23778 he23926 (kd := .i64) (n := 1) rfl
      have hR23927 : _ = [(.int .i64 e23925 : Value)] := hR23927
      subst hR23927
      refine spure (v := p23927) rfl (p_ia rs_26 rfl) (lo_t (lo_sl X23921 H23778) (lo_t rfl rfl)) hp23927 rfl ?_
      refine sload (v := .int .i64 e23925) rfl rfl (q_load wd_3 rfl) (FP.ld X23921 hF23927) (same_self 20 rfl) rfl ?_
      refine scall (en := fun d => (.bool d)) rfl rfl ca_67 rfl rfl (f67_ok X23921 ((e23748.take (s23855).toNat)) e23925 H23924) rfl (fun e23928 => ?_)
      refine send ?_
      refine nseq ?_
      refine dcond rfl rfl (fun k23932 => ?_) (fun k23932 => ?_)
      · refine dseq (dreg ?_)
        refine lpure (v := .bool false) rfl (p_assign rfl) rfl rfl ?_
        refine lend (nseq (dret (rseq (rblock (rseq (rloop (rblock (rseq ?_))))))))
        exact kcut_r (res_1 resT) X23921 rfl rfl
      refine dskip (nseq (dseq ?_))
      refine ddraw 0 0 32 (by kernel_rfl) ?_
      refine spure (v := .int .i64 s23855) rfl (p_move rfl) (lo_t rfl rfl) rfl rfl ?_
      refine spure (v := .bool (decide (0 < s23855))) rfl (p_gt rfl) (lo_t rfl (lo_c rfl)) rfl rfl ?_
      refine spure (v := .bool (decide (0 < s23855))) rfl (p_move rfl) (lo_t rfl rfl) rfl rfl ?_
      refine ssh (τ := Bool) (σ := Unit) (fun s23934 (_ : Unit) => [(1, .slice a22764 n22764 c22764), (2, .pointer (some ⟨b22765, 0, none⟩)), (6, .slice a23755 n23755 c23755), (7, .int .i64 s23855), (53, .bool s23934)]) (fun s23934 (_ : Unit) hh => St φ23775 h.n hh ([(none, .dead), (some b22765, .cells [.int .i64 p22760.Nodes, .slice a22761 n22761 c22761, .slice a22762 n22762 c22762] 25 .exact)])) 5 8 ?_ ?_
      · rintro s23934 _ t0 h23936 X23935
        refine spure (v := .bool s23934) rfl (p_move rfl) (lo_t rfl rfl) rfl rfl ?_
        refine sjoinM (τ := Bool) (σ := Unit) (fun s23956 (_ : Unit) => [(1, .slice a22764 n22764 c22764), (2, .pointer (some ⟨b22765, 0, none⟩)), (6, .slice a23755 n23755 c23755), (7, .int .i64 s23855), (76, .bool s23956)]) (fun s23956 (_ : Unit) hh => St φ23775 h.n hh ([(none, .dead), (some b22765, .cells [.int .i64 p22760.Nodes, .slice a22761 n22761 c22761, .slice a22762 n22762 c22762] 25 .exact)])) 22 31 ?_ ?_
        · rintro s23956 _ t0 h23958 X23957
          refine send ?_
          refine nseq ?_
          refine dcond rfl rfl (fun k23959 => ?_) (fun k23959 => ?_)
          · refine dseq (dreg ?_)
            refine lpure (v := .bool false) rfl (p_assign rfl) rfl rfl ?_
            refine lend (nseq (dret (rblock (rseq (rloop (rblock (rseq ?_)))))))
            exact kcut_r (res_1 resT) X23957 rfl rfl
          refine dskip (nblock (nseq (dreg ?_)))
          refine lpure (v := .int .i64 s23855) rfl (p_move rfl) rfl rfl ?_
          refine lpure (v := .int .i64 (w64 (s23855 + 1))) rfl (p_add rfl) rfl rfl ?_
          refine lpure (v := .int .i64 (w64 (s23855 + 1))) rfl (p_assign rfl) rfl rfl ?_
          refine lend ?_
          exact kbackM ih23919 (w64 (s23855 + 1)) () (sub_cons rfl (sub_cons rfl (sub_cons rfl (sub_cons rfl sub_nil)))) (St.pick X23957 (.none _ (.skip _ (.keep _ (.nil _)))))
        intro j23960 J23961
        refine sif (j := 54) (show _ = Value.bool s23934 from rfl) (fun k23962 => ?_) (fun k23962 => ?_)
        · refine spure (v := .pointer (some ⟨b22765, 1, none⟩)) rfl (p_fa fo_25_1 rfl) (lo_t (lo_own X23935 (j := 1) (o := 0) (s := none) (f := 0) rfl) rfl) rfl rfl ?_
          refine sload (v := .slice a22761 n22761 c22761) rfl rfl (q_load wd_22 rfl) (St.ld X23935 (j := 1) rfl rfl) (same_self 20 rfl) rfl ?_
          refine spure (v := .slice a23755 n23755 c23755) rfl (p_move rfl) (lo_t (lo_sl X23935 H23778) rfl) rfl rfl ?_
          refine spure (v := .int .i64 s23855) rfl (p_move rfl) (lo_t rfl rfl) rfl rfl ?_
          refine Sim.bindM fun e23963 he23964 => ?_
          obtain ⟨p23965, cs23965, hp23965, hF23965, hR23965⟩ := RSl.ia H23778 he23964 (kd := .i64) (n := 1) rfl
          have hR23965 : _ = [(.int .i64 e23963 : Value)] := hR23965
          subst hR23965
          refine spure (v := p23965) rfl (p_ia rs_26 rfl) (lo_t (lo_sl X23935 H23778) (lo_t rfl rfl)) hp23965 rfl ?_
          refine sload (v := .int .i64 e23963) rfl rfl (q_load wd_3 rfl) (FP.ld X23935 hF23965) (same_self 20 rfl) rfl ?_
          refine Sim.bindM fun e23966 he23967 => ?_
          obtain ⟨p23968, cs23968, hp23968, hF23968, hR23968⟩ := RSl.ia (H22761.mono (g23753.trans g23776)) he23967 (kd := .i64) (n := 1) rfl
          have hR23968 : _ = [(.bool e23966 : Value)] := hR23968
          subst hR23968
          refine spure (v := p23968) rfl (p_ia rs_22 rfl) (lo_t (lo_sl X23935 (H22761.mono (g23753.trans g23776))) (lo_t rfl rfl)) hp23968 rfl ?_
          refine sload (v := .bool e23966) rfl rfl (q_load wd_4 rfl) (FP.ld X23935 hF23968) (same_self 20 rfl) rfl ?_
          refine spure (v := .bool e23966) rfl (p_move rfl) (lo_t rfl rfl) rfl rfl ?_
          refine sif (j := 63) (show _ = Value.bool e23966 from rfl) (fun k23969 => ?_) (fun k23969 => ?_)
          · refine sskip rfl rfl ?_
            refine sskip rfl rfl ?_
            refine sskip rfl rfl ?_
            refine sskip rfl rfl ?_
            refine sskip rfl rfl ?_
            refine sskip rfl rfl ?_
            refine sskip rfl rfl ?_
            refine sskip rfl rfl ?_
            refine sskip rfl rfl ?_
            refine sskip rfl rfl ?_
            refine sskip rfl rfl ?_
            refine spure (v := .bool true) rfl (p_pick rfl) (lo_t rfl (lo_c (lo_t rfl rfl))) rfl rfl ?_
            refine spure (v := .bool true) rfl (p_pick rfl) (lo_t rfl (lo_t rfl (lo_c rfl))) rfl rfl ?_
            exact sjmpM J23961 true () (sub_cons rfl (sub_cons rfl (sub_cons rfl (sub_cons rfl (sub_cons rfl sub_nil))))) (St.pick X23935 (.none _ (.skip _ (.keep _ (.nil _)))))
          refine sload (v := .agg #[.int .i64 p22760.Nodes, .slice a22761 n22761 c22761, .slice a22762 n22762 c22762]) rfl rfl (q_load wd_25 rfl) (St.ld X23935 (j := 1) rfl rfl) (same_self 20 rfl) rfl ?_
          refine spure (v := .slice a22764 n22764 c22764) rfl (p_move rfl) (lo_t (lo_sl X23935 (H22764.mono (g23753.trans g23776))) rfl) rfl rfl ?_
          refine spure (v := .int .i64 s23855) rfl (p_move rfl) (lo_t rfl rfl) rfl rfl ?_
          refine Sim.bindM fun e23970 he23971 => ?_
          obtain ⟨p23972, cs23972, hp23972, hF23972, hR23972⟩ := RSl.ia (H22764.mono (g23753.trans g23776)) he23971 (kd := .i64) (n := 1) rfl
          have hR23972 : _ = [(.int .i64 e23970 : Value)] := hR23972
          subst hR23972
          refine spure (v := p23972) rfl (p_ia rs_27 rfl) (lo_t (lo_sl X23935 (H22764.mono (g23753.trans g23776))) (lo_t rfl rfl)) hp23972 rfl ?_
          refine sload (v := .int .i64 e23970) rfl rfl (q_load wd_3 rfl) (FP.ld X23935 hF23972) (same_self 20 rfl) rfl ?_
          refine scall (en := fun d => (.int .i64 d)) rfl rfl ca_41 rfl rfl (f41_ok X23935 p22760 e23970 (H22761.mono (g23753.trans g23776)) (H22762.mono (g23753.trans g23776))) rfl (fun e23973 => ?_)
          refine spure (v := .slice a23755 n23755 c23755) rfl (p_move rfl) (lo_t (lo_sl X23935 H23778) rfl) rfl rfl ?_
          refine spure (v := .int .i64 s23855) rfl (p_move rfl) (lo_t rfl rfl) rfl rfl ?_
          refine Sim.bindM fun e23977 he23978 => ?_
          obtain ⟨p23979, cs23979, hp23979, hF23979, hR23979⟩ := RSl.ia H23778 he23978 (kd := .i64) (n := 1) rfl
          have hR23979 : _ = [(.int .i64 e23977 : Value)] := hR23979
          subst hR23979
          refine spure (v := p23979) rfl (p_ia rs_26 rfl) (lo_t (lo_sl X23935 H23778) (lo_t rfl rfl)) hp23979 rfl ?_
          refine sload (v := .int .i64 e23977) rfl rfl (q_load wd_3 rfl) (FP.ld X23935 hF23979) (same_self 20 rfl) rfl ?_
          refine spure (v := .bool (decide (e23973 ≠ e23977))) rfl (p_ne rfl) (lo_t rfl (lo_t rfl rfl)) rfl rfl ?_
          refine spure (v := .bool (decide (e23973 ≠ e23977))) rfl (p_pick rfl) (lo_t rfl (lo_c (lo_t rfl rfl))) rfl rfl ?_
          refine spure (v := .bool (decide (e23973 ≠ e23977))) rfl (p_pick rfl) (lo_t rfl (lo_t rfl (lo_c rfl))) rfl rfl ?_
          exact sjmpM J23961 (decide (e23973 ≠ e23977)) () (sub_cons rfl (sub_cons rfl (sub_cons rfl (sub_cons rfl (sub_cons rfl sub_nil))))) (St.pick X23935 (.none _ (.skip _ (.keep _ (.nil _)))))
        refine sskip rfl rfl ?_
        refine sskip rfl rfl ?_
        refine sskip rfl rfl ?_
        refine sskip rfl rfl ?_
        refine sskip rfl rfl ?_
        refine sskip rfl rfl ?_
        refine sskip rfl rfl ?_
        refine sskip rfl rfl ?_
        refine sskip rfl rfl ?_
        refine sskip rfl rfl ?_
        refine sskip rfl rfl ?_
        refine sskip rfl rfl ?_
        refine sskip rfl rfl ?_
        refine sskip rfl rfl ?_
        refine sskip rfl rfl ?_
        refine sskip rfl rfl ?_
        refine sskip rfl rfl ?_
        refine sskip rfl rfl ?_
        refine sskip rfl rfl ?_
        refine sskip rfl rfl ?_
        refine sskip rfl rfl ?_
        refine spure (v := .bool false) rfl (p_pick rfl) (lo_t rfl (lo_t rfl (lo_c rfl))) rfl rfl ?_
        exact sjmpM J23961 false () (sub_cons rfl (sub_cons rfl (sub_cons rfl (sub_cons rfl (sub_cons rfl sub_nil))))) (St.pick X23935 (.none _ (.skip _ (.keep _ (.nil _)))))
      intro j23980 J23981
      refine scase (j := 48) (show _ = Value.bool (decide (0 < s23855)) from rfl) (fun k23982 => ?_) (fun k23982 => ?_)
      · refine spure (v := .int .i64 s23855) rfl (p_move rfl) (lo_t rfl rfl) rfl rfl ?_
        refine spure (v := .slice a22764 n22764 c22764) rfl (p_move rfl) (lo_t (lo_sl X23921 (H22764.mono (g23753.trans g23776))) rfl) rfl rfl ?_
        refine spure (v := .int .i64 (p22763.length : Int)) rfl (p_len rfl rfl rfl un_27 rfl) (lo_t (lo_sl X23921 (H22764.mono (g23753.trans g23776))) rfl) (RSl.lenC (H22764.mono (g23753.trans g23776))) rfl ?_
        refine spure (v := .bool (decide (s23855 < (p22763.length : Int)))) rfl (p_lt rfl) (lo_t rfl (lo_t rfl rfl)) rfl rfl ?_
        refine spure (v := .bool (decide (s23855 < (p22763.length : Int)))) rfl (p_pick rfl) (lo_t rfl (lo_t rfl (lo_c rfl))) rfl rfl ?_
        refine Sim.of_eq (congrArg j23980 (show ((decide (0 < s23855)) && (decide (s23855 < (p22763.length : Int)))) = (decide (s23855 < (p22763.length : Int))) from by rw [k23982] <;> rfl)) ?_
        exact sjmpM J23981 (decide (s23855 < (p22763.length : Int))) () (sub_cons rfl (sub_cons rfl (sub_cons rfl (sub_cons rfl (sub_cons rfl sub_nil))))) (St.pick X23921 (.none _ (.skip _ (.keep _ (.nil _)))))
      refine sskip rfl rfl ?_
      refine sskip rfl rfl ?_
      refine sskip rfl rfl ?_
      refine sskip rfl rfl ?_
      refine spure (v := .bool false) rfl (p_pick rfl) (lo_t rfl (lo_t rfl (lo_c rfl))) rfl rfl ?_
      refine Sim.of_eq (congrArg j23980 (show ((decide (0 < s23855)) && (decide (s23855 < (p22763.length : Int)))) = false from by rw [k23982] <;> rfl)) ?_
      exact sjmpM J23981 false () (sub_cons rfl (sub_cons rfl (sub_cons rfl (sub_cons rfl (sub_cons rfl sub_nil))))) (St.pick X23921 (.none _ (.skip _ (.keep _ (.nil _)))))
    refine dexit (eseq (eloop (xblock (nseq (dseq (dreg ?_))))))
    refine lpure (v := .bool true) rfl (p_assign rfl) rfl rfl ?_
    refine lend (nseq (dret ?_))
    exact kcut_r (res_1 resT) X23921 rfl rfl
  intro j23983 J23984
  refine lcase (i := 11) (show _ = Value.bool (decide ((p22763.length : Int) < 1)) from rfl) (fun k23985 => ?_) (fun k23985 => ?_)
  · refine lskip rfl rfl ?_
    refine lskip rfl rfl ?_
    refine lskip rfl rfl ?_
    refine lpure (v := .bool true) rfl (p_pick rfl) rfl rfl ?_
    refine Sim.of_eq (congrArg j23983 (show ((decide ((p22763.length : Int) < 1)) || (decide (8 < (p22763.length : Int)))) = true from by rw [k23985] <;> rfl)) ?_
    exact ljmpM J23984 true () (sub_cons rfl (sub_cons rfl (sub_cons rfl sub_nil))) X22768
  refine lpure (v := .slice a22764 n22764 c22764) rfl (p_move rfl) rfl rfl ?_
  refine lpure (v := .int .i64 (p22763.length : Int)) rfl (p_len rfl rfl rfl un_27 rfl) (RSl.lenC H22764) rfl ?_
  refine lpure (v := .bool (decide (8 < (p22763.length : Int)))) rfl (p_gt rfl) rfl rfl ?_
  refine lpure (v := .bool (decide (8 < (p22763.length : Int)))) rfl (p_pick rfl) rfl rfl ?_
  refine Sim.of_eq (congrArg j23983 (show ((decide ((p22763.length : Int) < 1)) || (decide (8 < (p22763.length : Int)))) = (decide (8 < (p22763.length : Int))) from by rw [k23985] <;> rfl)) ?_
  exact ljmpM J23984 (decide (8 < (p22763.length : Int))) () (sub_cons rfl (sub_cons rfl (sub_cons rfl sub_nil))) X22768
/-! isochron/isochronlaw21.want -/
theorem f14_ok {n : Nat} {φ : Fz} {lo : Nat} {h : Heap} {own : OwnL}  {a18986 : Option Addr} {n18986 c18986 : Nat} {a18987 : Option Addr} {n18987 c18987 : Nat} {a18989 : Option Addr} {n18989 c18989 : Nat} (X : St φ lo h (own)) (p18985 : ApiTopo) (p18988 : (List (List Int))) (H18986 : RSl eBool φ (.slice a18986 n18986 c18986) p18985.Station) (H18987 : RSl eApiLink φ (.slice a18987 n18987 c18987) p18985.Links) (H18989 : RSl (eSl (eInt .i64)) φ (.slice a18989 n18989 c18989) p18988) : Sim ((recN Tryz.prog LL cutF (n + 4)).call 14 #[(.agg #[.int .i64 p18985.Nodes, .slice a18986 n18986 c18986, .slice a18987 n18987 c18987]), (.slice a18989 n18989 c18989)] h) (m_isochronlaw21_want p18985 p18988) (fun (d : Int) p => p = (.int .i64 d, h)) := by
  refine fcut Tryz.func14 rfl rfl rfl rfl X ?_
  intro h0 X0
  refine dseq (dreg ?_)
  refine lbox rfl rfl rfl rfl rfl X0 (fun b18990 h18992 X18993 => ?_)
  refine lpure (v := .int .i64 0) rfl (p_assign rfl) rfl rfl ?_
  refine lend (nseq (dseq (dseq (dreg ?_))))
  refine lread (v := .agg #[.int .i64 p18985.Nodes, .slice a18986 n18986 c18986, .slice a18987 n18987 c18987]) rfl (q_load wd_25 rfl) (St.ld X18993 (j := 0) rfl rfl) rfl ?_
  refine lcall rfl rfl ca_37 rfl rfl (f37_ok X18993 p18985 H18986 H18987) rfl (fun e22747 v22748 h22749 hq22750 => ?_)
  cases hq22750
  refine lpure (v := .bool (!e22747)) rfl (p_not rfl) rfl rfl ?_
  refine lend (nseq ?_)
  refine dcond rfl rfl (fun k22751 => ?_) (fun k22751 => ?_)
  · refine dseq (dreg ?_)
    refine lpure (v := .int .i64 260) rfl (p_assign rfl) rfl rfl ?_
    refine lend (nseq (dret (rseq ?_)))
    exact kcut_r (res_1 resT) X18993 rfl rfl
  refine dskip (nseq (dseq (dseq (dreg ?_))))
  refine lpure (v := .slice a18989 n18989 c18989) rfl (p_move rfl) rfl rfl ?_
  refine lpure (v := .int .i64 (p18988.length : Int)) rfl (p_len rfl rfl rfl un_52 rfl) (RSl.lenC H18989) rfl ?_
  refine lpure (v := .int .i64 0) rfl (p_move rfl) rfl rfl ?_
  refine lend (nseq (dblock ?_))
  refine dloopM (τ := Int) (σ := Unit) (fun s24004 (_ : Unit) => [(2, .pointer (some ⟨b18990, 0, none⟩)), (10, .slice a18989 n18989 c18989), (11, .int .i64 (p18988.length : Int)), (12, .int .i64 s24004)]) (fun s24004 (_ : Unit) hh => St φ h.n hh ([(some b18990, .cells [.int .i64 p18985.Nodes, .slice a18986 n18986 c18986, .slice a18987 n18987 c18987] 25 .exact)])) 0 () (sub_cons rfl (sub_cons rfl (sub_cons rfl (sub_cons rfl sub_nil)))) X18993 ?_
  rintro n24019 ih24018 s24004 _ t0 h24021 X24020
  refine dseq (dreg ?_)
  refine lpure (v := .bool (decide (s24004 < (p18988.length : Int)))) rfl (p_lt rfl) rfl rfl ?_
  refine lend (nseq (dseq ?_))
  refine dcond rfl rfl (fun k24022 => ?_) (fun k24022 => ?_)
  · refine dskip (nseq (dseq (dblock (dseq (dreg ?_)))))
    refine Sim.bindM fun e24023 he24024 => ?_
    obtain ⟨p24026, cs24026, hp24026, hF24026, hR24026⟩ := RSl.ia H18989 he24024 (kd := .i64) (n := 1) rfl
    obtain ⟨a24025, n24025, c24025, rfl, H24025⟩ := hR24026
    refine lpure (v := p24026) rfl (p_ia rs_52 rfl) hp24026 rfl ?_
    refine lread (v := .slice a24025 n24025 c24025) rfl (q_load wd_27 rfl) (FP.ld X24020 hF24026) rfl ?_
    refine lpure (v := .slice a24025 n24025 c24025) rfl (p_assign rfl) rfl rfl ?_
    refine lend (nseq (dseq (dreg ?_)))
    refine lread (v := .agg #[.int .i64 p18985.Nodes, .slice a18986 n18986 c18986, .slice a18987 n18987 c18987]) rfl (q_load wd_25 rfl) (St.ld X24020 (j := 0) rfl rfl) rfl ?_
    refine lpure (v := .slice a24025 n24025 c24025) rfl (p_move rfl) rfl rfl ?_
    refine lcall rfl rfl ca_38 rfl rfl (f38_ok X24020 p18985 e24023 H18986 H18987 H24025) rfl (fun e24027 v24028 h24029 hq24030 => ?_)
    cases hq24030
    refine lpure (v := .bool (!e24027)) rfl (p_not rfl) rfl rfl ?_
    refine lend (nseq ?_)
    refine dcond rfl rfl (fun k24031 => ?_) (fun k24031 => ?_)
    · refine dseq (dreg ?_)
      refine lpure (v := .int .i64 310) rfl (p_assign rfl) rfl rfl ?_
      refine lend (nseq (dret (rblock (rseq (rloop (rblock (rseq ?_)))))))
      exact kcut_r (res_1 resT) X24020 rfl rfl
    refine dskip (nblock (nseq (dreg ?_)))
    refine lpure (v := .int .i64 (w64 (s24004 + 1))) rfl (p_add rfl) rfl rfl ?_
    refine lpure (v := .int .i64 (w64 (s24004 + 1))) rfl (p_move rfl) rfl rfl ?_
    refine lend ?_
    exact kbackM ih24018 (w64 (s24004 + 1)) () (sub_cons rfl (sub_cons rfl (sub_cons rfl (sub_cons rfl sub_nil)))) X24020
  refine dexit (eseq (eloop (xblock (nseq (dseq (dreg ?_))))))
  refine lpure (v := .int .i64 0) rfl (p_assign rfl) rfl rfl ?_
  refine lend (nseq (dret ?_))
  exact kcut_r (res_1 resT) X24020 rfl rfl
/-! isochron/isochronref21.crosses -/
theorem f51_ok {n : Nat} {φ : Fz} {lo : Nat} {h : Heap} {own : OwnL}  {a24130 : Option Addr} {n24130 c24130 : Nat} {a24132 : Option Addr} {n24132 c24132 : Nat} (X : St φ lo h (own)) (p24129 : (List Int)) (p24131 : (List Int)) (H24130 : RSl (eInt .i64) φ (.slice a24130 n24130 c24130) p24129) (H24132 : RSl (eInt .i64) φ (.slice a24132 n24132 c24132) p24131) : Sim ((recN Tryz.prog LL cutF (n + 2)).call 51 #[(.slice a24130 n24130 c24130), (.slice a24132 n24132 c24132)] h) (m_isochronref21_crosses p24129 p24131) (fun (d : Bool) p => p = (.bool d, h)) := by
  refine fcut Tryz.func51 rfl rfl rfl rfl X ?_
  intro h0 X0
  refine dseq (dreg ?_)
  refine lpure (v := .bool false) rfl (p_assign rfl) rfl rfl ?_
  refine lend (nseq (dseq (dseq (dreg ?_))))
  refine lpure (v := .int .i64 1) rfl (p_assign rfl) rfl rfl ?_
  refine lend (nseq (dblock ?_))
  refine dloopM (τ := Int) (σ := Unit) (fun s24157 (_ : Unit) => [(0, .slice a24130 n24130 c24130), (1, .slice a24132 n24132 c24132), (5, .int .i64 s24157)]) (fun s24157 (_ : Unit) hh => St φ h.n hh ([])) 1 () (sub_cons rfl (sub_cons rfl (sub_cons rfl sub_nil))) X0 ?_
  rintro n24171 ih24170 s24157 _ t0 h24173 X24172
  refine dseq (dseq (dreg ?_))
  refine lpure (v := .int .i64 s24157) rfl (p_move rfl) rfl rfl ?_
  refine lpure (v := .slice a24130 n24130 c24130) rfl (p_move rfl) rfl rfl ?_
  refine lpure (v := .int .i64 (p24129.length : Int)) rfl (p_len rfl rfl rfl un_26 rfl) (RSl.lenC H24130) rfl ?_
  refine lpure (v := .int .i64 (w64 ((p24129.length : Int) - 1))) rfl (p_sub rfl) rfl rfl ?_
  refine lpure (v := .bool (decide (s24157 < (w64 ((p24129.length : Int) - 1))))) rfl (p_lt rfl) rfl rfl ?_
  refine lend (nseq ?_)
  refine dcond rfl rfl (fun k24174 => ?_) (fun k24174 => ?_)
  · refine dskip (nseq (dseq (dblock (dseq (dreg ?_)))))
    refine lpure (v := .slice a24132 n24132 c24132) rfl (p_move rfl) rfl rfl ?_
    refine lpure (v := .slice a24130 n24130 c24130) rfl (p_move rfl) rfl rfl ?_
    refine lpure (v := .int .i64 s24157) rfl (p_move rfl) rfl rfl ?_
    refine Sim.bindM fun e24175 he24176 => ?_
    obtain ⟨p24177, cs24177, hp24177, hF24177, hR24177⟩ := RSl.ia H24130 he24176 (kd := .i64) (n := 1) rfl
    have hR24177 : _ = [(.int .i64 e24175 : Value)] := hR24177
    subst hR24177
    refine lpure (v := p24177) rfl (p_ia rs_26 rfl) hp24177 rfl ?_
    refine lread (v := .int .i64 e24175) rfl (q_load wd_3 rfl) (FP.ld X24172 hF24177) rfl ?_
    refine lcall rfl rfl ca_67 rfl rfl (f67_ok X24172 p24131 e24175 H24132) rfl (fun e24178 v24179 h24180 hq24181 => ?_)
    cases hq24181
    refine lend (nseq ?_)
    refine dcond rfl rfl (fun k24182 => ?_) (fun k24182 => ?_)
    · refine dseq (dreg ?_)
      refine lpure (v := .bool true) rfl (p_assign rfl) rfl rfl ?_
      refine lend (nseq (dret (rblock (rseq (rloop (rblock (rseq ?_)))))))
      exact kcut_r (res_1 resT) X24172 rfl rfl
    refine dskip (nblock (nseq (dreg ?_)))
    refine lpure (v := .int .i64 s24157) rfl (p_move rfl) rfl rfl ?_
    refine lpure (v := .int .i64 (w64 (s24157 + 1))) rfl (p_add rfl) rfl rfl ?_
    refine lpure (v := .int .i64 (w64 (s24157 + 1))) rfl (p_assign rfl) rfl rfl ?_
    refine lend ?_
    exact kbackM ih24170 (w64 (s24157 + 1)) () (sub_cons rfl (sub_cons rfl (sub_cons rfl sub_nil))) X24172
  refine dexit (eseq (eloop (xblock (nseq (dseq (dreg ?_))))))
  refine lpure (v := .bool false) rfl (p_assign rfl) rfl rfl ?_
  refine lend (nseq (dret ?_))
  exact kcut_r (res_1 resT) X24172 rfl rfl
/-! isochron/isochronref21.Apart -/
theorem f23_ok {n : Nat} {φ : Fz} {lo : Nat} {h : Heap} {own : OwnL}  {a24051 : Option Addr} {n24051 c24051 : Nat} {a24052 : Option Addr} {n24052 c24052 : Nat} {a24054 : Option Addr} {n24054 c24054 : Nat} {a24056 : Option Addr} {n24056 c24056 : Nat} (X : St φ lo h (own)) (p24050 : ApiTopo) (p24053 : (List Int)) (p24055 : (List Int)) (H24051 : RSl eBool φ (.slice a24051 n24051 c24051) p24050.Station) (H24052 : RSl eApiLink φ (.slice a24052 n24052 c24052) p24050.Links) (H24054 : RSl (eInt .i64) φ (.slice a24054 n24054 c24054) p24053) (H24056 : RSl (eInt .i64) φ (.slice a24056 n24056 c24056) p24055) : Sim ((recN Tryz.prog LL cutF (n + 3)).call 23 #[(.agg #[.int .i64 p24050.Nodes, .slice a24051 n24051 c24051, .slice a24052 n24052 c24052]), (.slice a24054 n24054 c24054), (.slice a24056 n24056 c24056)] h) (m_isochronref21_Apart p24050 p24053 p24055) (fun (d : Bool) p => p = (.bool d, h)) := by
  refine fcut Tryz.func23 rfl rfl rfl rfl X ?_
  intro h0 X0
  refine dseq (dreg ?_)
  refine lbox rfl rfl rfl rfl rfl X0 (fun b24057 h24059 X24060 => ?_)
  refine lpure (v := .bool false) rfl (p_assign rfl) rfl rfl ?_
  refine lend (nseq (dseq (dseq (dreg ?_))))
  refine lpure (v := .int .i64 0) rfl (p_assign rfl) rfl rfl ?_
  refine lend (nseq (dblock ?_))
  refine dloopM (τ := Int) (σ := Unit) (fun s24337 (_ : Unit) => [(1, .slice a24054 n24054 c24054), (2, .slice a24056 n24056 c24056), (3, .pointer (some ⟨b24057, 0, none⟩)), (7, .int .i64 s24337)]) (fun s24337 (_ : Unit) hh => St φ h.n hh ([(some b24057, .cells [.int .i64 p24050.Nodes, .slice a24051 n24051 c24051, .slice a24052 n24052 c24052] 25 .exact)])) 0 () (sub_cons rfl (sub_cons rfl (sub_cons rfl (sub_cons rfl sub_nil)))) X24060 ?_
  rintro n24450 ih24449 s24337 _ t0 h24452 X24451
  refine dseq (dseq (dreg ?_))
  refine lpure (v := .int .i64 s24337) rfl (p_move rfl) rfl rfl ?_
  refine lpure (v := .slice a24054 n24054 c24054) rfl (p_move rfl) rfl rfl ?_
  refine lpure (v := .int .i64 (p24053.length : Int)) rfl (p_len rfl rfl rfl un_27 rfl) (RSl.lenC H24054) rfl ?_
  refine lpure (v := .bool (decide (s24337 < (p24053.length : Int)))) rfl (p_lt rfl) rfl rfl ?_
  refine lend (nseq ?_)
  refine dcond rfl rfl (fun k24453 => ?_) (fun k24453 => ?_)
  · refine dskip (nseq (dseq (dblock (dseq (dreg ?_)))))
    refine lpure (v := .int .i64 0) rfl (p_assign rfl) rfl rfl ?_
    refine lend (nseq (dblock ?_))
    refine dloopM (τ := Int) (σ := Unit) (fun s24476 (_ : Unit) => [(1, .slice a24054 n24054 c24054), (2, .slice a24056 n24056 c24056), (3, .pointer (some ⟨b24057, 0, none⟩)), (7, .int .i64 s24337), (8, .int .i64 s24476)]) (fun s24476 (_ : Unit) hh => St φ h.n hh ([(some b24057, .cells [.int .i64 p24050.Nodes, .slice a24051 n24051 c24051, .slice a24052 n24052 c24052] 25 .exact)])) 0 () (sub_cons rfl (sub_cons rfl (sub_cons rfl (sub_cons rfl (sub_cons rfl sub_nil))))) X24451 ?_
    rintro n24489 ih24488 s24476 _ t0 h24491 X24490
    refine dseq (dseq (dreg ?_))
    refine lpure (v := .int .i64 s24476) rfl (p_move rfl) rfl rfl ?_
    refine lpure (v := .slice a24056 n24056 c24056) rfl (p_move rfl) rfl rfl ?_
    refine lpure (v := .int .i64 (p24055.length : Int)) rfl (p_len rfl rfl rfl un_27 rfl) (RSl.lenC H24056) rfl ?_
    refine lpure (v := .bool (decide (s24476 < (p24055.length : Int)))) rfl (p_lt rfl) rfl rfl ?_
    refine lend (nseq ?_)
    refine dcond rfl rfl (fun k24492 => ?_) (fun k24492 => ?_)
    · refine dskip (nseq (dseq (dblock (dseq ?_))))
      refine ddraw 0 0 0 (by kernel_rfl) ?_
      refine spure (v := .slice a24054 n24054 c24054) rfl (p_move rfl) (lo_t (lo_sl X24490 H24054) rfl) rfl rfl ?_
      refine spure (v := .int .i64 s24337) rfl (p_move rfl) (lo_t rfl rfl) rfl rfl ?_
      refine Sim.bindM fun e24493 he24494 => ?_
      obtain ⟨p24495, cs24495, hp24495, hF24495, hR24495⟩ := RSl.ia H24054 he24494 (kd := .i64) (n := 1) rfl
      have hR24495 : _ = [(.int .i64 e24493 : Value)] := hR24495
      subst hR24495
      refine spure (v := p24495) rfl (p_ia rs_27 rfl) (lo_t (lo_sl X24490 H24054) (lo_t rfl rfl)) hp24495 rfl ?_
      refine sload (v := .int .i64 e24493) rfl rfl (q_load wd_3 rfl) (FP.ld X24490 hF24495) (same_self 20 rfl) rfl ?_
      refine spure (v := .int .i64 (w64 (Int.tdiv e24493 2))) rfl (p_quo rfl) (lo_t rfl (lo_c rfl)) rfl rfl ?_
      refine spure (v := .slice a24056 n24056 c24056) rfl (p_move rfl) (lo_t (lo_sl X24490 H24056) rfl) rfl rfl ?_
      refine spure (v := .int .i64 s24476) rfl (p_move rfl) (lo_t rfl rfl) rfl rfl ?_
      refine Sim.bindM fun e24496 he24497 => ?_
      obtain ⟨p24498, cs24498, hp24498, hF24498, hR24498⟩ := RSl.ia H24056 he24497 (kd := .i64) (n := 1) rfl
      have hR24498 : _ = [(.int .i64 e24496 : Value)] := hR24498
      subst hR24498
      refine spure (v := p24498) rfl (p_ia rs_27 rfl) (lo_t (lo_sl X24490 H24056) (lo_t rfl rfl)) hp24498 rfl ?_
      refine sload (v := .int .i64 e24496) rfl rfl (q_load wd_3 rfl) (FP.ld X24490 hF24498) (same_self 20 rfl) rfl ?_
      refine spure (v := .int .i64 (w64 (Int.tdiv e24496 2))) rfl (p_quo rfl) (lo_t rfl (lo_c rfl)) rfl rfl ?_
      refine spure (v := .bool (decide ((w64 (Int.tdiv e24493 2)) = (w64 (Int.tdiv e24496 2))))) rfl (p_eq rfl) (lo_t rfl (lo_t rfl rfl)) rfl rfl ?_
      refine send ?_
      refine nseq ?_
      refine dcond rfl rfl (fun k24499 => ?_) (fun k24499 => ?_)
      · refine dseq (dreg ?_)
        refine lpure (v := .bool false) rfl (p_assign rfl) rfl rfl ?_
        refine lend (nseq (dret (rblock (rseq (rloop (rblock (rblock (rseq (rloop (rblock (rseq ?_)))))))))))
        exact kcut_r (res_1 resT) X24490 rfl rfl
      refine dskip (nblock (nseq (dreg ?_)))
      refine lpure (v := .int .i64 s24476) rfl (p_move rfl) rfl rfl ?_
      refine lpure (v := .int .i64 (w64 (s24476 + 1))) rfl (p_add rfl) rfl rfl ?_
      refine lpure (v := .int .i64 (w64 (s24476 + 1))) rfl (p_assign rfl) rfl rfl ?_
      refine lend ?_
      exact kbackM ih24488 (w64 (s24476 + 1)) () (sub_cons rfl (sub_cons rfl (sub_cons rfl (sub_cons rfl (sub_cons rfl sub_nil))))) X24490
    refine dexit (eseq (eloop (xblock (nblock (nseq (dreg ?_))))))
    refine lpure (v := .int .i64 s24337) rfl (p_move rfl) rfl rfl ?_
    refine lpure (v := .int .i64 (w64 (s24337 + 1))) rfl (p_add rfl) rfl rfl ?_
    refine lpure (v := .int .i64 (w64 (s24337 + 1))) rfl (p_assign rfl) rfl rfl ?_
    refine lend ?_
    exact kbackM ih24449 (w64 (s24337 + 1)) () (sub_cons rfl (sub_cons rfl (sub_cons rfl (sub_cons rfl sub_nil)))) X24490
  refine dexit (eseq (eloop (xblock (nseq (dseq ?_)))))
  refine dgo_start (n := 19) rfl (by kernel_rfl) ?_
  refine gload (v := .agg #[.int .i64 p24050.Nodes, .slice a24051 n24051 c24051, .slice a24052 n24052 c24052]) rfl (q_load wd_25 rfl) (St.ld X24451 (j := 0) rfl rfl) rfl ?_
  refine gpure (v := .slice a24054 n24054 c24054) rfl (p_move rfl) (lo_t (lo_sl X24451 H24054) rfl) rfl rfl ?_
  refine gwait rfl (still_call rfl rfl ca_16 rfl) rfl ?_
  refine gload (v := .agg #[.int .i64 p24050.Nodes, .slice a24051 n24051 c24051, .slice a24052 n24052 c24052]) rfl (q_load wd_25 rfl) (St.ld X24451 (j := 0) rfl rfl) rfl ?_
  refine gpure (v := .slice a24056 n24056 c24056) rfl (p_move rfl) (lo_t (lo_sl X24451 H24056) rfl) rfl rfl ?_
  refine dgo_skip ?_
  refine dgo_skip ?_
  refine dgo_skip ?_
  refine dgo_skip ?_
  refine dgo_skip ?_
  refine dgo_skip ?_
  refine dgo_skip ?_
  refine dgo_skip ?_
  refine dgo_skip ?_
  refine dgo_skip ?_
  refine dgo_skip ?_
  refine dgo_skip ?_
  refine dgo_skip ?_
  refine dgo_skip ?_
  refine gcall (m := 18) [true, false] (rk_cons (q_load wd_25 rfl) (St.ld X24451 (j := 0) rfl rfl) (same_self 20 rfl) (rk_cons (q_load wd_25 rfl) (St.ld X24451 (j := 0) rfl rfl) (same_self 20 rfl) rk_nil)) rfl rfl rfl rfl rfl ca_16 rfl rfl (f16_ok X24451 p24050 p24053 H24051 H24052 H24054) rfl ?_
  rintro e24500 _ h24502 ⟨φ24504, a24507, n24507, c24507, ob24507, blk24507, g24505, X24506, rfl, O24507⟩
  refine dgo_skip ?_
  refine dgo_skip ?_
  refine dgo_skip ?_
  refine dgo_skip ?_
  refine dgo_skip ?_
  refine gwait rfl (still_call rfl rfl ca_16 rfl) rfl ?_
  refine dgo_skip ?_
  refine dgo_skip ?_
  refine dgo_skip ?_
  refine dgo_skip ?_
  refine dgo_skip ?_
  refine dgo_skip ?_
  refine dgo_skip ?_
  refine dgo_skip ?_
  refine dgo_skip ?_
  refine dgo_skip ?_
  refine dgo_skip ?_
  refine dgo_skip ?_
  refine dgo_skip ?_
  refine gcall (m := 17) [false] (rk_cons (q_load wd_25 rfl) (St.ld X24506 (j := 1) rfl rfl) (same_self 20 rfl) rk_nil) rfl rfl rfl rfl rfl ca_16 rfl rfl (f16_ok X24506 p24050 p24055 (H24051.mono g24505) (H24052.mono g24505) (H24056.mono g24505)) rfl ?_
  rintro e24509 _ h24511 ⟨φ24513, a24516, n24516, c24516, ob24516, blk24516, g24514, X24515, rfl, O24516⟩
  refine dgo_skip ?_
  refine dgo_skip ?_
  refine dgo_skip ?_
  refine dgo_skip ?_
  refine dgo_skip ?_
  refine dgo_skip ?_
  refine gwait rfl (still_call rfl rfl ca_51 rfl) rfl ?_
  refine dgo_skip ?_
  refine dgo_skip ?_
  refine dgo_skip ?_
  refine dgo_skip ?_
  refine dgo_skip ?_
  refine dgo_skip ?_
  refine dgo_skip ?_
  refine dgo_skip ?_
  refine dgo_skip ?_
  refine dgo_skip ?_
  refine dgo_skip ?_
  refine dgo_skip ?_
  obtain ⟨φ24518, g24519, X24520, H24521⟩ := OSl.freeze X24515 (j := 1) rfl (O24507.mono g24514)
  obtain ⟨φ24522, g24523, X24524, H24525⟩ := OSl.freeze X24520 (j := 0) rfl (O24516.mono g24519)
  refine gcall (m := 16) [] rk_nil rfl rfl rfl rfl rfl ca_51 rfl rfl (f51_ok X24524 e24500 e24509 (H24521.mono g24523) H24525) rfl (fun e24526 v24527 h24528 hq24529 => ?_)
  cases hq24529
  refine dgo_skip ?_
  refine dgo_skip ?_
  refine dgo_skip ?_
  refine dgo_skip ?_
  refine dgo_skip ?_
  refine dgo_skip ?_
  refine dgo_skip ?_
  refine gpure (v := .bool (!e24526)) rfl (p_not rfl) (lo_t rfl rfl) rfl rfl ?_
  refine gpure (v := .bool (!e24526)) rfl (p_move rfl) (lo_t rfl rfl) rfl rfl ?_
  refine gif (j := 40) (show _ = Value.bool (!e24526) from rfl) (fun k24530 => ?_) (fun k24530 => ?_)
  · refine gload (v := .agg #[.int .i64 p24050.Nodes, .slice a24051 n24051 c24051, .slice a24052 n24052 c24052]) rfl (q_load wd_25 rfl) (St.ld X24515 (j := 2) rfl rfl) rfl ?_
    refine gpure (v := .slice a24056 n24056 c24056) rfl (p_move rfl) (lo_t (lo_sl X24515 (H24056.mono (g24505.trans g24514))) rfl) rfl rfl ?_
    refine gwait rfl (still_call rfl rfl ca_16 rfl) rfl ?_
    refine gload (v := .agg #[.int .i64 p24050.Nodes, .slice a24051 n24051 c24051, .slice a24052 n24052 c24052]) rfl (q_load wd_25 rfl) (St.ld X24515 (j := 2) rfl rfl) rfl ?_
    refine gpure (v := .slice a24054 n24054 c24054) rfl (p_move rfl) (lo_t (lo_sl X24515 (H24054.mono (g24505.trans g24514))) rfl) rfl rfl ?_
    refine dgo_skip ?_
    refine dgo_skip ?_
    refine dgo_skip ?_
    refine dgo_skip ?_
    refine dgo_skip ?_
    refine gcall (m := 15) [true, false] (rk_cons (q_load wd_25 rfl) (St.ld X24515 (j := 2) rfl rfl) (same_self 20 rfl) (rk_cons (q_load wd_25 rfl) (St.ld X24515 (j := 2) rfl rfl) (same_self 20 rfl) rk_nil)) rfl rfl rfl rfl rfl ca_16 rfl rfl (f16_ok X24515 p24050 p24055 (H24051.mono (g24505.trans g24514)) (H24052.mono (g24505.trans g24514)) (H24056.mono (g24505.trans g24514))) rfl ?_
    rintro e24531 _ h24533 ⟨φ24535, a24538, n24538, c24538, ob24538, blk24538, g24536, X24537, rfl, O24538⟩
    refine dgo_skip ?_
    refine dgo_skip ?_
    refine dgo_skip ?_
    refine dgo_skip ?_
    refine dgo_skip ?_
    refine dgo_skip ?_
    refine dgo_skip ?_
    refine dgo_skip ?_
    refine dgo_skip ?_
    refine dgo_skip ?_
    refine dgo_skip ?_
    refine dgo_skip ?_
    refine dgo_skip ?_
    refine dgo_skip ?_
    refine gwait rfl (still_call rfl rfl ca_16 rfl) rfl ?_
    refine dgo_skip ?_
    refine dgo_skip ?_
    refine dgo_skip ?_
    refine dgo_skip ?_
    refine gcall (m := 14) [false] (rk_cons (q_load wd_25 rfl) (St.ld X24537 (j := 3) rfl rfl) (same_self 20 rfl) rk_nil) rfl rfl rfl rfl rfl ca_16 rfl rfl (f16_ok X24537 p24050 p24053 (H24051.mono ((g24505.trans g24514).trans g24536)) (H24052.mono ((g24505.trans g24514).trans g24536)) (H24054.mono ((g24505.trans g24514).trans g24536))) rfl ?_
    rintro e24540 _ h24542 ⟨φ24544, a24547, n24547, c24547, ob24547, blk24547, g24545, X24546, rfl, O24547⟩
    refine dgo_skip ?_
    refine dgo_skip ?_
    refine dgo_skip ?_
    refine dgo_skip ?_
    refine dgo_skip ?_
    refine dgo_skip ?_
    refine dgo_skip ?_
    refine dgo_skip ?_
    refine dgo_skip ?_
    refine dgo_skip ?_
    refine dgo_skip ?_
    refine dgo_skip ?_
    refine dgo_skip ?_
    refine dgo_skip ?_
    refine dgo_skip ?_
    refine gwait rfl (still_call rfl rfl ca_51 rfl) rfl ?_
    refine dgo_skip ?_
    refine dgo_skip ?_
    refine dgo_skip ?_
    obtain ⟨φ24549, g24550, X24551, H24552⟩ := OSl.freeze X24546 (j := 1) rfl (O24538.mono g24545)
    obtain ⟨φ24553, g24554, X24555, H24556⟩ := OSl.freeze X24551 (j := 0) rfl (O24547.mono g24550)
    refine gcall (m := 13) [] rk_nil rfl rfl rfl rfl rfl ca_51 rfl rfl (f51_ok X24555 e24531 e24540 (H24552.mono g24554) H24556) rfl (fun e24557 v24558 h24559 hq24560 => ?_)
    cases hq24560
    refine dgo_skip ?_
    refine dgo_skip ?_
    refine dgo_skip ?_
    refine dgo_skip ?_
    refine dgo_skip ?_
    refine dgo_skip ?_
    refine dgo_skip ?_
    refine dgo_skip ?_
    refine dgo_skip ?_
    refine dgo_skip ?_
    refine dgo_skip ?_
    refine dgo_skip ?_
    refine dgo_skip ?_
    refine dgo_skip ?_
    refine dgo_skip ?_
    refine dgo_skip ?_
    refine gpure (v := .bool (!e24557)) rfl (p_not rfl) (lo_t rfl rfl) rfl rfl ?_
    refine gpure (v := .bool (!e24557)) rfl (p_pick rfl) (lo_t rfl (lo_t rfl (lo_c rfl))) rfl rfl ?_
    refine gpure (v := .bool (!e24557)) rfl (p_assign rfl) (lo_t rfl rfl) rfl rfl ?_
    refine gend rk_nil ?_
    refine nseq (dret ?_)
    exact kcut_r (res_1 resT) X24546 rfl rfl
  refine gskip rfl rfl ?_
  refine gskip rfl rfl ?_
  refine gskip rfl rfl ?_
  refine gskip rfl rfl ?_
  refine gskip rfl rfl ?_
  refine gskip rfl rfl ?_
  refine gskip rfl rfl ?_
  refine gskip rfl rfl ?_
  refine gpure (v := .bool false) rfl (p_pick rfl) (lo_t rfl (lo_t rfl (lo_c rfl))) rfl rfl ?_
  refine gpure (v := .bool false) rfl (p_assign rfl) (lo_t rfl rfl) rfl rfl ?_
  refine gend rk_nil ?_
  refine nseq (dret ?_)
  exact kcut_r (res_1 resT) X24515 rfl rfl
/-! isochron/isochronlaw21.RouteAparts -/
theorem f4_ok {n : Nat} {φ : Fz} {lo : Nat} {h : Heap} {own : OwnL}  {a2 : Option Addr} {n2 c2 : Nat} {a3 : Option Addr} {n3 c3 : Nat} {a5 : Option Addr} {n5 c5 : Nat} {a7 : Option Addr} {n7 c7 : Nat} (X : St φ lo h (own)) (p1 : ApiTopo) (p4 : (List Int)) (p6 : (List Int)) (H2 : RSl eBool φ (.slice a2 n2 c2) p1.Station) (H3 : RSl eApiLink φ (.slice a3 n3 c3) p1.Links) (H5 : RSl (eInt .i64) φ (.slice a5 n5 c5) p4) (H7 : RSl (eInt .i64) φ (.slice a7 n7 c7) p6) (K2 : c2 < unk) (K3 : c3 < unk) : Sim ((recN Tryz.prog LL cutF (n + 19)).call 4 #[(.agg #[.int .i64 p1.Nodes, .slice a2 n2 c2, .slice a3 n3 c3]), (.slice a5 n5 c5), (.slice a7 n7 c7)] h) (m_isochronlaw21_RouteAparts p1 p4 p6) (fun (d : Bool) p => p = (.bool d, h)) := by
  refine fcut Tryz.func4 rfl rfl rfl rfl X ?_
  intro h0 X0
  refine dseq (dreg ?_)
  refine lbox rfl rfl rfl rfl rfl X0 (fun b8 h10 X11 => ?_)
  refine lpure (v := .bool false) rfl (p_assign rfl) rfl rfl ?_
  refine lend (nseq (dseq (dseq (dreg ?_))))
  refine lcall rfl rfl ca_6 rfl rfl (f6_ok X11) rfl (fun e18878 v18879 h18880 hq18881 => ?_)
  cases hq18881
  refine lpure (v := .bool (!e18878)) rfl (p_not rfl) rfl rfl ?_
  refine lend (nseq ?_)
  refine dcond rfl rfl (fun k18882 => ?_) (fun k18882 => ?_)
  · refine dseq (dreg ?_)
    refine lpure (v := .bool false) rfl (p_assign rfl) rfl rfl ?_
    refine lend (nseq (dret (rseq ?_)))
    exact kcut_r (res_1 resT) X11 rfl rfl
  refine dskip (nseq (dseq (dreg ?_)))
  refine lread (v := .agg #[.int .i64 p1.Nodes, .slice a2 n2 c2, .slice a3 n3 c3]) rfl (q_load wd_25 rfl) (St.ld X11 (j := 0) rfl rfl) rfl ?_
  refine lcall rfl rfl ca_7 rfl rfl (f7_ok X11 p1 H2 H3 K2 K3) rfl ?_
  rintro e18923 _ _ ⟨a18927, n18927, c18927, a18928, n18928, c18928, hq, H18927, H18928⟩
  cases hq
  refine lstore rfl ts_25 rfl rfl (j := 0) rfl rfl rfl rfl rfl rfl X11 (fun h18929 X18930 => ?_)
  refine lend (nseq (dseq (dreg ?_)))
  refine lpure (v := .slice a5 n5 c5) rfl (p_move rfl) rfl rfl ?_
  refine lcall rfl rfl ca_8 rfl rfl (f8_ok X18930 p4 H5) rfl ?_
  rintro e18945 _ h18947 ⟨φ18949, a18952, n18952, c18952, ob18952, blk18952, g18950, X18951, rfl, O18952⟩
  refine lpure (v := .slice a7 n7 c7) rfl (p_move rfl) rfl rfl ?_
  refine lcall rfl rfl ca_8 rfl rfl (f8_ok X18951 p6 (H7.mono g18950)) rfl ?_
  rintro e18954 _ h18956 ⟨φ18958, a18961, n18961, c18961, ob18961, blk18961, g18959, X18960, rfl, O18961⟩
  refine lpure (v := .slice a18952 n18952 c18952) rfl (p_assign rfl) rfl rfl ?_
  refine lpure (v := .slice a18961 n18961 c18961) rfl (p_assign rfl) rfl rfl ?_
  refine lend (nseq (dseq (dreg ?_)))
  refine lread (v := .agg #[.int .i64 e18923.Nodes, .slice a18927 n18927 c18927, .slice a18928 n18928 c18928]) rfl (q_load wd_25 rfl) (St.ld X18960 (j := 2) rfl rfl) rfl ?_
  refine lpure (v := .slice a18952 n18952 c18952) rfl (p_move rfl) rfl rfl ?_
  refine lpure (v := .slice a18961 n18961 c18961) rfl (p_move rfl) rfl rfl ?_
  obtain ⟨φ18963, g18964, X18965, H18966⟩ := OSl.freeze X18960 (j := 1) rfl (O18952.mono g18959)
  obtain ⟨φ18967, g18968, X18969, H18970⟩ := OSl.freeze X18965 (j := 0) rfl (O18961.mono g18964)
  refine lcall rfl rfl ca_22 rfl rfl (f22_ok X18969 e18923 e18945 e18954 (H18927.mono (((g18950.trans g18959).trans g18964).trans g18968)) (H18928.mono (((g18950.trans g18959).trans g18964).trans g18968)) (H18966.mono g18968) H18970) rfl (fun e18971 v18972 h18973 hq18974 => ?_)
  cases hq18974
  refine lpure (v := .tuple #[.bool e18971.1, .int .i64 e18971.2]) rfl (p_move rfl) rfl rfl ?_
  refine lpure (v := .bool e18971.1) rfl (p_extract rfl) rfl rfl ?_
  refine lpure (v := .int .i64 e18971.2) rfl (p_extract rfl) rfl rfl ?_
  refine lpure (v := .bool e18971.1) rfl (p_assign rfl) rfl rfl ?_
  refine lpure (v := .int .i64 e18971.2) rfl (p_assign rfl) rfl rfl ?_
  refine lend (nseq (dseq (dseq (dreg ?_))))
  refine lread (v := .agg #[.int .i64 e18923.Nodes, .slice a18927 n18927 c18927, .slice a18928 n18928 c18928]) rfl (q_load wd_25 rfl) (St.ld X18960 (j := 2) rfl rfl) rfl ?_
  refine lpure (v := .slice a18952 n18952 c18952) rfl (p_move rfl) rfl rfl ?_
  refine lpure (v := .slice a18961 n18961 c18961) rfl (p_move rfl) rfl rfl ?_
  obtain ⟨φ18975, g18976, X18977, H18978⟩ := OSl.freeze X18960 (j := 1) rfl (O18952.mono g18959)
  obtain ⟨φ18979, g18980, X18981, H18982⟩ := OSl.freeze X18977 (j := 0) rfl (O18961.mono g18976)
  obtain ⟨h18983, b18983, hv18983, X18983, O18983⟩ := OSl.lay (E := (eSl (eInt .i64))) (φ := φ18979) (cs := [.slice a18952 n18952 c18952, .slice a18961 n18961 c18961]) (l := [e18945, e18954]) (len := 2) (parts := [(0, .slice a18952 n18952 c18952), (1, .slice a18961 n18961 c18961)]) un_52 ts_27 rfl rfl rfl tz_27 rfl rfl (show RowD (eSl (eInt .i64)) φ18979 [.slice a18952 n18952 c18952, .slice a18961 n18961 c18961] [e18945, e18954] from ⟨[.slice a18952 n18952 c18952], _, rfl, ⟨_, _, _, rfl, (H18978.mono g18980)⟩, ⟨[.slice a18961 n18961 c18961], _, rfl, ⟨_, _, _, rfl, H18982⟩, rfl⟩⟩) rfl rfl X18981
  refine lheap rfl (h_buildSlice rfl) hv18983 rfl ?_
  obtain ⟨φ24032, g24033, X24034, H24035⟩ := OSl.freeze X18983 (j := 0) rfl O18983
  refine lcall rfl rfl ca_14 rfl rfl (f14_ok X24034 e18923 ([e18945, e18954]) (H18927.mono ((((g18950.trans g18959).trans g18976).trans g18980).trans g24033)) (H18928.mono ((((g18950.trans g18959).trans g18976).trans g18980).trans g24033)) H24035) rfl (fun e24036 v24037 h24038 hq24039 => ?_)
  cases hq24039
  refine lpure (v := .int .i64 e24036) rfl (p_assign rfl) rfl rfl ?_
  refine lend (nseq (dseq (dreg ?_)))
  refine lpure (v := .int .i64 e24036) rfl (p_move rfl) rfl rfl ?_
  refine lpure (v := .bool (decide (e24036 ≠ 0))) rfl (p_ne rfl) rfl rfl ?_
  refine lend (nseq ?_)
  refine dcond rfl rfl (fun k24040 => ?_) (fun k24040 => ?_)
  · refine dseq (dreg ?_)
    refine lpure (v := .bool e18971.1) rfl (p_move rfl) rfl rfl ?_
    refine lpure (v := .bool (!e18971.1)) rfl (p_not rfl) rfl rfl ?_
    refine lpure (v := .bool (!e18971.1)) rfl (p_move rfl) rfl rfl ?_
    refine lsh (τ := Bool) (σ := Unit) (fun s24042 (_ : Unit) => [(40, .bool s24042)]) (fun s24042 (_ : Unit) hh => St φ18979 h.n hh ([(some b18983, (.cells [.slice a18952 n18952 c18952, .slice a18961 n18961 c18961] 27 .exact)), (none, .dead), (none, .dead), (some b8, .cells [.int .i64 e18923.Nodes, .slice a18927 n18927 c18927, .slice a18928 n18928 c18928] 25 .exact)])) 4 ?_ ?_
    · rintro s24042 _ t0 h24044 X24043
      refine lpure (v := .bool s24042) rfl (p_assign rfl) rfl rfl ?_
      refine lend (nseq (dret (rseq ?_)))
      exact kcut_r (res_1 resT) X24043 rfl rfl
    intro j24045 J24046
    refine lcase (i := 36) (show _ = Value.bool (!e18971.1) from rfl) (fun k24047 => ?_) (fun k24047 => ?_)
    · refine lpure (v := .int .i64 e18971.2) rfl (p_move rfl) rfl rfl ?_
      refine lpure (v := .int .i64 e24036) rfl (p_move rfl) rfl rfl ?_
      refine lpure (v := .bool (decide (e18971.2 = e24036))) rfl (p_eq rfl) rfl rfl ?_
      refine lpure (v := .bool (decide (e18971.2 = e24036))) rfl (p_pick rfl) rfl rfl ?_
      refine Sim.of_eq (congrArg j24045 (show ((!e18971.1) && (decide (e18971.2 = e24036))) = (decide (e18971.2 = e24036)) from by rw [k24047] <;> rfl)) ?_
      exact ljmpM J24046 (decide (e18971.2 = e24036)) () (sub_cons rfl sub_nil) (St.pick X18983 (.keep _ (.none _ (.none _ (.skip _ (.skip _ (.keep _ (.nil _))))))))
    refine lskip rfl rfl ?_
    refine lskip rfl rfl ?_
    refine lskip rfl rfl ?_
    refine lpure (v := .bool false) rfl (p_pick rfl) rfl rfl ?_
    refine Sim.of_eq (congrArg j24045 (show ((!e18971.1) && (decide (e18971.2 = e24036))) = false from by rw [k24047] <;> rfl)) ?_
    exact ljmpM J24046 false () (sub_cons rfl sub_nil) (St.pick X18983 (.keep _ (.none _ (.none _ (.skip _ (.skip _ (.keep _ (.nil _))))))))
  refine dskip (nseq (dseq (dreg ?_)))
  refine lpure (v := .int .i64 e18971.2) rfl (p_move rfl) rfl rfl ?_
  refine lpure (v := .bool (decide (e18971.2 = 0))) rfl (p_eq rfl) rfl rfl ?_
  refine lpure (v := .bool (decide (e18971.2 = 0))) rfl (p_move rfl) rfl rfl ?_
  refine ljoinM (τ := Bool) (σ := Unit) (fun s24565 (_ : Unit) => [(50, .bool s24565)]) (fun s24565 (_ : Unit) hh => St φ18979 h.n hh ([(some b18983, (.cells [.slice a18952 n18952 c18952, .slice a18961 n18961 c18961] 27 .exact)), (none, .dead), (none, .dead), (some b8, .cells [.int .i64 e18923.Nodes, .slice a18927 n18927 c18927, .slice a18928 n18928 c18928] 25 .exact)])) 7 ?_ ?_
  · rintro s24565 _ t0 h24567 X24566
    refine lpure (v := .bool s24565) rfl (p_assign rfl) rfl rfl ?_
    refine lend (nseq (dret ?_))
    exact kcut_r (res_1 resT) X24566 rfl rfl
  intro j24568 J24569
  refine lif (i := 43) (show _ = Value.bool (decide (e18971.2 = 0)) from rfl) (fun k24570 => ?_) (fun k24570 => ?_)
  · refine lpure (v := .bool e18971.1) rfl (p_move rfl) rfl rfl ?_
    refine lread (v := .agg #[.int .i64 e18923.Nodes, .slice a18927 n18927 c18927, .slice a18928 n18928 c18928]) rfl (q_load wd_25 rfl) (St.ld X18983 (j := 3) rfl rfl) rfl ?_
    refine lpure (v := .slice a18952 n18952 c18952) rfl (p_move rfl) rfl rfl ?_
    refine lpure (v := .slice a18961 n18961 c18961) rfl (p_move rfl) rfl rfl ?_
    refine lcall rfl rfl ca_23 rfl rfl (f23_ok X18983 e18923 e18945 e18954 (H18927.mono (((g18950.trans g18959).trans g18976).trans g18980)) (H18928.mono (((g18950.trans g18959).trans g18976).trans g18980)) (H18978.mono g18980) H18982) rfl (fun e24571 v24572 h24573 hq24574 => ?_)
    cases hq24574
    refine lpure (v := .bool (e18971.1 == e24571)) rfl (p_bin rfl) (bin_eqB un_4) rfl ?_
    refine lpure (v := .bool (e18971.1 == e24571)) rfl (p_pick rfl) rfl rfl ?_
    exact ljmpM J24569 (e18971.1 == e24571) () (sub_cons rfl sub_nil) (St.pick X18983 (.keep _ (.none _ (.none _ (.skip _ (.skip _ (.keep _ (.nil _))))))))
  refine lskip rfl rfl ?_
  refine lskip rfl rfl ?_
  refine lskip rfl rfl ?_
  refine lskip rfl rfl ?_
  refine lskip rfl rfl ?_
  refine lskip rfl rfl ?_
  refine lpure (v := .bool false) rfl (p_pick rfl) rfl rfl ?_
  exact ljmpM J24569 false () (sub_cons rfl sub_nil) (St.pick X18983 (.keep _ (.none _ (.none _ (.skip _ (.skip _ (.keep _ (.nil _))))))))
end Go.AM
