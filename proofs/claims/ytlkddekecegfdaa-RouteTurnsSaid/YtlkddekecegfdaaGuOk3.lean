/- Printed: functions of the given program as functions over plain data, and that the machine does what they say; no claim of its own; no condition. -/
import Derived.Test.YtlkddekecegfdaaGuOk2
set_option maxRecDepth 100000
set_option maxHeartbeats 4000000
set_option linter.unusedVariables false
set_option linter.unusedSimpArgs false
namespace Go.AM
open Go Go.Proofs

/-! (isochron/isochronref16.Draft).Topo -/
theorem f8_ok {n : Nat} {φ : Fz} {lo : Nat} {h : Heap} {own : OwnL}  {a90276 : Option Addr} {n90276 c90276 : Nat} {a90277 : Option Addr} {n90277 c90277 : Nat} {a90278 : Option Addr} {n90278 c90278 : Nat} {a90279 : Option Addr} {n90279 c90279 : Nat} (X : St φ lo h (own)) (p90275 : Isochronref16Draft) (H90276 : RSl (eInt .u8) φ (.slice a90276 n90276 c90276) p90275.Chords) (H90277 : RSl (eInt .u8) φ (.slice a90277 n90277 c90277) p90275.Homes) (H90278 : RSl (eInt .u8) φ (.slice a90278 n90278 c90278) p90275.Pers) (H90279 : RSl (eInt .u8) φ (.slice a90279 n90279 c90279) p90275.Delays) : Sim ((recN Try.prog LL cutF (n + 4)).call 8 #[(.agg #[.int .u8 p90275.Bridges, .int .u8 p90275.Stations, .slice a90276 n90276 c90276, .slice a90277 n90277 c90277, .slice a90278 n90278 c90278, .slice a90279 n90279 c90279])] h) (m_isochronref16_Draft_Topo p90275) (fun (d : ApiTopo) p => ∃ φ2 : Fz, ∃ a161160 : Option Addr, ∃ n161160 : Nat, ∃ c161160 : Nat, ∃ a161161 : Option Addr, ∃ n161161 : Nat, ∃ c161161 : Nat, ∃ ob161161 : Option Nat, ∃ blk161161 : Blk, Fz.le φ φ2 ∧ St φ2 lo p.2 ((ob161161, blk161161) :: own) ∧ p.1 = .agg #[.int .i64 d.Nodes, .slice a161160 n161160 c161160, .slice a161161 n161161 c161161] ∧ RSl eBool φ2 (.slice a161160 n161160 c161160) d.Station ∧ OSl eApiLink φ2 75 ob161161 blk161161 (.slice a161161 n161161 c161161) d.Links) := by
  refine fopen Try.func8 rfl rfl rfl rfl ?_
  refine dseq (dreg ?_)
  refine lbox rfl rfl rfl rfl rfl X (fun b90280 h90282 X90283 => ?_)
  refine lalloc rfl tz_29 rfl rfl rfl X90283 (fun b90284 h90286 X90287 => ?_)
  refine lend (nseq (dseq (dreg ?_)))
  refine lpure (v := .pointer (some ⟨b90280, 0, none⟩)) rfl (p_fa fo_24_0 rfl) rfl rfl ?_
  refine lread (v := .int .u8 p90275.Bridges) rfl (q_load wd_5 rfl) (St.ld X90287 (j := 1) rfl rfl) rfl ?_
  refine lpure (v := .int .u8 (Int.tmod p90275.Bridges 6)) rfl (p_rem rfl) rfl rfl ?_
  refine lpure (v := .int .i64 (w64 (Int.tmod p90275.Bridges 6))) rfl (p_conv un_5 un_3 rfl) rfl rfl ?_
  refine lpure (v := .int .i64 (w64 (1 + (w64 (Int.tmod p90275.Bridges 6))))) rfl (p_add rfl) rfl rfl ?_
  refine lpure (v := .int .i64 (w64 (1 + (w64 (Int.tmod p90275.Bridges 6))))) rfl (p_assign rfl) rfl rfl ?_
  refine lend (nseq (dseq (dreg ?_)))
  refine lpure (v := .pointer (some ⟨b90280, 1, none⟩)) rfl (p_fa fo_24_1 rfl) rfl rfl ?_
  refine lread (v := .int .u8 p90275.Stations) rfl (q_load wd_5 rfl) (St.ld X90287 (j := 1) rfl rfl) rfl ?_
  refine lpure (v := .int .u8 (Int.tmod p90275.Stations 5)) rfl (p_rem rfl) rfl rfl ?_
  refine lpure (v := .int .i64 (w64 (Int.tmod p90275.Stations 5))) rfl (p_conv un_5 un_3 rfl) rfl rfl ?_
  refine lpure (v := .int .i64 (w64 (2 + (w64 (Int.tmod p90275.Stations 5))))) rfl (p_add rfl) rfl rfl ?_
  refine lpure (v := .int .i64 (w64 (2 + (w64 (Int.tmod p90275.Stations 5))))) rfl (p_assign rfl) rfl rfl ?_
  refine lend (nseq (dseq (dreg ?_)))
  refine lpure (v := .int .i64 (w64 (1 + (w64 (Int.tmod p90275.Bridges 6))))) rfl (p_move rfl) rfl rfl ?_
  refine lpure (v := .int .i64 (w64 (2 + (w64 (Int.tmod p90275.Stations 5))))) rfl (p_move rfl) rfl rfl ?_
  refine lpure (v := .int .i64 (w64 ((w64 (1 + (w64 (Int.tmod p90275.Bridges 6)))) + (w64 (2 + (w64 (Int.tmod p90275.Stations 5))))))) rfl (p_add rfl) rfl rfl ?_
  refine lpure (v := .agg #[.int .i64 (w64 ((w64 (1 + (w64 (Int.tmod p90275.Bridges 6)))) + (w64 (2 + (w64 (Int.tmod p90275.Stations 5)))))), .slice none 0 0, .slice none 0 0]) rfl (p_build rfl) (build_st' tz_29 pl_29 rfl) rfl ?_
  refine lalloc rfl tz_29 rfl rfl rfl X90287 (fun b90288 h90290 X90291 => ?_)
  refine lstore rfl ts_29 rfl rfl (j := 0) rfl rfl rfl rfl rfl rfl X90291 (fun h90292 X90293 => ?_)
  refine lend (nseq (dseq (dseq (dreg ?_))))
  refine lpure (v := .int .i64 0) rfl (p_assign rfl) rfl rfl ?_
  refine lend (nseq (dblock ?_))
  refine dloopM (τ := Int × (List Bool)) (σ := Option Addr × Nat × Nat × Option Nat × Blk) (fun s123478 (a123480, n123480, c123480, ob123480, blk123480) => [(1, .pointer (some ⟨b90280, 0, none⟩)), (2, .pointer (some ⟨b90284, 0, none⟩)), (3, .int .i64 (w64 (1 + (w64 (Int.tmod p90275.Bridges 6))))), (4, .int .i64 (w64 (2 + (w64 (Int.tmod p90275.Stations 5))))), (5, .pointer (some ⟨b90288, 0, none⟩)), (6, .int .i64 s123478.1)]) (fun s123478 (a123480, n123480, c123480, ob123480, blk123480) hh => St φ lo hh ((ob123480, blk123480) :: (some b90288, .cells [.int .i64 (w64 ((w64 (1 + (w64 (Int.tmod p90275.Bridges 6)))) + (w64 (2 + (w64 (Int.tmod p90275.Stations 5)))))), .slice a123480 n123480 c123480, .slice none 0 0] 29 .exact) :: (some b90284, .cells [.int .i64 0, .slice none 0 0, .slice none 0 0] 29 .exact) :: (some b90280, .cells [.int .u8 p90275.Bridges, .int .u8 p90275.Stations, .slice a90276 n90276 c90276, .slice a90277 n90277 c90277, .slice a90278 n90278 c90278, .slice a90279 n90279 c90279] 24 .exact) :: own) ∧ OSl eBool φ 4 ob123480 blk123480 (.slice a123480 n123480 c123480) s123478.2) (0, []) (none, 0, 0, none, .dead) (sub_cons rfl (sub_cons rfl (sub_cons rfl (sub_cons rfl (sub_cons rfl (sub_cons rfl sub_nil)))))) ⟨(St.pick X90293 (.none _ (.keep _ (.keep _ (.keep _ (.refl _)))))), OSl.nil⟩ ?_
  rintro n142321 ih142320 s123478 ⟨a123480, n123480, c123480, ob123480, blk123480⟩ t0 h142323 ⟨X142322, O123480⟩
  refine dseq (dseq (dreg ?_))
  refine lpure (v := .int .i64 s123478.1) rfl (p_move rfl) rfl rfl ?_
  refine lpure (v := .pointer (some ⟨b90288, 0, none⟩)) rfl (p_fa fo_29_0 rfl) rfl rfl ?_
  refine lread (v := .int .i64 (w64 ((w64 (1 + (w64 (Int.tmod p90275.Bridges 6)))) + (w64 (2 + (w64 (Int.tmod p90275.Stations 5))))))) rfl (q_load wd_3 rfl) (St.ld X142322 (j := 1) rfl rfl) rfl ?_
  refine lpure (v := .bool (decide (s123478.1 < (w64 ((w64 (1 + (w64 (Int.tmod p90275.Bridges 6)))) + (w64 (2 + (w64 (Int.tmod p90275.Stations 5))))))))) rfl (p_lt rfl) rfl rfl ?_
  refine lend (nseq ?_)
  refine dcond rfl rfl (fun k142324 => ?_) (fun k142324 => ?_)
  · refine dskip (nseq (dseq (dblock (dreg ?_))))
    refine lpure (v := .pointer (some ⟨b90288, 1, none⟩)) rfl (p_fa fo_29_1 rfl) rfl rfl ?_
    refine lread (v := .slice a123480 n123480 c123480) rfl (q_load wd_26 rfl) (St.ld X142322 (j := 1) rfl rfl) rfl ?_
    refine lpure (v := .int .i64 s123478.1) rfl (p_move rfl) rfl rfl ?_
    refine lpure (v := .int .i64 (w64 (1 + (w64 (Int.tmod p90275.Bridges 6))))) rfl (p_move rfl) rfl rfl ?_
    refine lpure (v := .bool (decide ((w64 (1 + (w64 (Int.tmod p90275.Bridges 6)))) ≤ s123478.1))) rfl (p_ge rfl) rfl rfl ?_
    obtain ⟨h142325, b142325, hv142325, X142325, O142325⟩ := OSl.lay (E := eBool) (φ := φ) (cs := [.bool (decide ((w64 (1 + (w64 (Int.tmod p90275.Bridges 6)))) ≤ s123478.1))]) (l := [(decide ((w64 (1 + (w64 (Int.tmod p90275.Bridges 6)))) ≤ s123478.1))]) (len := 1) (parts := [(0, .bool (decide ((w64 (1 + (w64 (Int.tmod p90275.Bridges 6)))) ≤ s123478.1)))]) un_26 ts_4 rfl rfl rfl tz_4 rfl rfl (show RowD eBool φ [.bool (decide ((w64 (1 + (w64 (Int.tmod p90275.Bridges 6)))) ≤ s123478.1))] [(decide ((w64 (1 + (w64 (Int.tmod p90275.Bridges 6)))) ≤ s123478.1))] from ⟨[.bool (decide ((w64 (1 + (w64 (Int.tmod p90275.Bridges 6)))) ≤ s123478.1))], _, rfl, rfl, rfl⟩) rfl rfl X142322
    refine lheap rfl (h_buildSlice rfl) hv142325 rfl ?_
    obtain ⟨ws142327, hw142327⟩ := OSl.read O142325 X142325 (k := 0) rfl (n := 1) rfl
    refine Sim.mustM fun k142327 => ?_
    obtain ⟨h142327, a142327, c142327, ob142327, blk142327, hv142327, X142327, O142327⟩ := OSl.append O123480 X142325 (j := 1) rfl hw142327 k142327 (ts := #[26, 26]) rfl un_26 (argOk_of ax_26_26) ts_4 rfl rfl tb_4 rfl tz_4 rfl
    refine lheap rfl (h_builtin rfl rfl) hv142327 rfl ?_
    refine lpure (v := .pointer (some ⟨b90288, 1, none⟩)) rfl (p_fa fo_29_1 rfl) rfl rfl ?_
    refine lstore rfl ts_26 rfl rfl (j := 2) rfl rfl rfl rfl rfl rfl X142327 (fun h142328 X142329 => ?_)
    refine lend (nblock (nseq (dreg ?_)))
    refine lpure (v := .int .i64 s123478.1) rfl (p_move rfl) rfl rfl ?_
    refine lpure (v := .int .i64 (w64 (s123478.1 + 1))) rfl (p_add rfl) rfl rfl ?_
    refine lpure (v := .int .i64 (w64 (s123478.1 + 1))) rfl (p_assign rfl) rfl rfl ?_
    refine lend ?_
    exact kbackM ih142320 ((w64 (s123478.1 + 1)), (s123478.2 ++ ([(decide ((w64 (1 + (w64 (Int.tmod p90275.Bridges 6)))) ≤ s123478.1))]))) (a142327, (s123478.2.length + ([(decide ((w64 (1 + (w64 (Int.tmod p90275.Bridges 6)))) ≤ s123478.1))]).length), c142327, ob142327, blk142327) (sub_cons rfl (sub_cons rfl (sub_cons rfl (sub_cons rfl (sub_cons rfl (sub_cons rfl sub_nil)))))) ⟨(St.pick X142329 (.skip _ (.keep _ (.keep _ (.keep _ (.keep _ (.refl _))))))), O142327⟩
  refine dexit (eseq (eloop (xblock (nseq (dseq (dseq (dreg ?_)))))))
  refine lpure (v := .int .i64 1) rfl (p_assign rfl) rfl rfl ?_
  refine lend (nseq (dblock ?_))
  obtain ⟨φ146824, g146825, X146826, H146827⟩ := OSl.freeze X142322 (j := 0) rfl O123480
  refine dloopM (τ := Int × Int × (List Bool) × (List ApiLink)) (σ := Fz × Option Addr × Nat × Nat × Option Nat × Blk × Option Addr × Nat × Nat) (fun s153993 (φ153997, a153996, n153996, c153996, ob153996, blk153996, a153994, n153994, c153994) => [(1, .pointer (some ⟨b90280, 0, none⟩)), (2, .pointer (some ⟨b90284, 0, none⟩)), (3, .int .i64 (w64 (1 + (w64 (Int.tmod p90275.Bridges 6))))), (4, .int .i64 (w64 (2 + (w64 (Int.tmod p90275.Stations 5))))), (5, .pointer (some ⟨b90288, 0, none⟩)), (7, .int .i64 s153993.1)]) (fun s153993 (φ153997, a153996, n153996, c153996, ob153996, blk153996, a153994, n153994, c153994) hh => St φ153997 lo hh ((ob153996, blk153996) :: (none, .dead) :: (some b90288, .cells [.int .i64 s153993.2.1, .slice a153994 n153994 c153994, .slice a153996 n153996 c153996] 29 .exact) :: (some b90284, .cells [.int .i64 0, .slice none 0 0, .slice none 0 0] 29 .exact) :: (some b90280, .cells [.int .u8 p90275.Bridges, .int .u8 p90275.Stations, .slice a90276 n90276 c90276, .slice a90277 n90277 c90277, .slice a90278 n90278 c90278, .slice a90279 n90279 c90279] 24 .exact) :: own) ∧ Fz.le φ146824 φ153997 ∧ OSl eApiLink φ153997 75 ob153996 blk153996 (.slice a153996 n153996 c153996) s153993.2.2.2 ∧ RSl eBool φ153997 (.slice a153994 n153994 c153994) s153993.2.2.1) (1, (w64 ((w64 (1 + (w64 (Int.tmod p90275.Bridges 6)))) + (w64 (2 + (w64 (Int.tmod p90275.Stations 5)))))), s123478.2, []) (φ146824, none, 0, 0, none, .dead, a123480, n123480, c123480) (sub_cons rfl (sub_cons rfl (sub_cons rfl (sub_cons rfl (sub_cons rfl (sub_cons rfl sub_nil)))))) ⟨(St.pick X146826 (.none _ (.none _ (.skip _ (.keep _ (.keep _ (.keep _ (.refl _)))))))), (Fz.le_refl _), OSl.nil, H146827⟩ ?_
  rintro n157580 ih157579 s153993 ⟨φ153997, a153996, n153996, c153996, ob153996, blk153996, a153994, n153994, c153994⟩ t0 h157582 ⟨X157581, g153998, O153996, H153994⟩
  refine dseq (dseq (dreg ?_))
  refine lpure (v := .int .i64 s153993.1) rfl (p_move rfl) rfl rfl ?_
  refine lpure (v := .int .i64 (w64 (1 + (w64 (Int.tmod p90275.Bridges 6))))) rfl (p_move rfl) rfl rfl ?_
  refine lpure (v := .bool (decide (s153993.1 < (w64 (1 + (w64 (Int.tmod p90275.Bridges 6))))))) rfl (p_lt rfl) rfl rfl ?_
  refine lend (nseq ?_)
  refine dcond rfl rfl (fun k157583 => ?_) (fun k157583 => ?_)
  · refine dskip (nseq (dseq (dblock (dreg ?_))))
    refine lread (v := .agg #[.int .u8 p90275.Bridges, .int .u8 p90275.Stations, .slice a90276 n90276 c90276, .slice a90277 n90277 c90277, .slice a90278 n90278 c90278, .slice a90279 n90279 c90279]) rfl (q_load wd_24 rfl) (St.ld X157581 (j := 4) rfl rfl) rfl ?_
    refine lread (v := .agg #[.int .i64 s153993.2.1, .slice a153994 n153994 c153994, .slice a153996 n153996 c153996]) rfl (q_load wd_29 rfl) (St.ld X157581 (j := 2) rfl rfl) rfl ?_
    refine lpure (v := .int .i64 s153993.1) rfl (p_move rfl) rfl rfl ?_
    refine lpure (v := .int .i64 (w64 (s153993.1 - 1))) rfl (p_sub rfl) rfl rfl ?_
    refine lpure (v := .int .i64 s153993.1) rfl (p_move rfl) rfl rfl ?_
    refine lcall rfl rfl ca_34 rfl rfl (f34_ok X157581 p90275 ((ApiTopo.mk s153993.2.1 s153993.2.2.1 s153993.2.2.2)) ((w64 (s153993.1 - 1))) (s153993.1) (H90276.mono (g146825.trans g153998)) (H90277.mono (g146825.trans g153998)) (H90278.mono (g146825.trans g153998)) (H90279.mono (g146825.trans g153998)) H153994 O153996) rfl ?_
    rintro e157584 _ h157586 ⟨φ157588, a157591, n157591, c157591, a157592, n157592, c157592, ob157592, blk157592, g157589, X157590, rfl, H157591, O157592⟩
    refine lstore rfl ts_29 rfl rfl (j := 2) rfl rfl rfl rfl rfl rfl X157590 (fun h157594 X157595 => ?_)
    refine lend (nblock (nseq (dreg ?_)))
    refine lpure (v := .int .i64 s153993.1) rfl (p_move rfl) rfl rfl ?_
    refine lpure (v := .int .i64 (w64 (s153993.1 + 1))) rfl (p_add rfl) rfl rfl ?_
    refine lpure (v := .int .i64 (w64 (s153993.1 + 1))) rfl (p_assign rfl) rfl rfl ?_
    refine lend ?_
    exact kbackM ih157579 ((w64 (s153993.1 + 1)), e157584.Nodes, e157584.Station, e157584.Links) (φ157588, a157592, n157592, c157592, ob157592, blk157592, a157591, n157591, c157591) (sub_cons rfl (sub_cons rfl (sub_cons rfl (sub_cons rfl (sub_cons rfl (sub_cons rfl sub_nil)))))) ⟨(St.pick X157595 (.keep _ (.none _ (.skip _ (.keep _ (.keep _ (.keep _ (.refl _)))))))), (g153998.trans g157589), O157592, H157591⟩
  refine dexit (eseq (eloop (xblock (nseq (dseq (dseq (dreg ?_)))))))
  refine lpure (v := .int .i64 0) rfl (p_assign rfl) rfl rfl ?_
  refine lend (nseq (dblock ?_))
  refine dloopM (τ := Int × Int × (List Bool) × (List ApiLink)) (σ := Fz × Option Addr × Nat × Nat × Option Nat × Blk × Option Addr × Nat × Nat) (fun s159377 (φ159381, a159380, n159380, c159380, ob159380, blk159380, a159378, n159378, c159378) => [(1, .pointer (some ⟨b90280, 0, none⟩)), (2, .pointer (some ⟨b90284, 0, none⟩)), (3, .int .i64 (w64 (1 + (w64 (Int.tmod p90275.Bridges 6))))), (4, .int .i64 (w64 (2 + (w64 (Int.tmod p90275.Stations 5))))), (5, .pointer (some ⟨b90288, 0, none⟩)), (8, .int .i64 s159377.1)]) (fun s159377 (φ159381, a159380, n159380, c159380, ob159380, blk159380, a159378, n159378, c159378) hh => St φ159381 lo hh ((ob159380, blk159380) :: (none, .dead) :: (none, .dead) :: (some b90288, .cells [.int .i64 s159377.2.1, .slice a159378 n159378 c159378, .slice a159380 n159380 c159380] 29 .exact) :: (some b90284, .cells [.int .i64 0, .slice none 0 0, .slice none 0 0] 29 .exact) :: (some b90280, .cells [.int .u8 p90275.Bridges, .int .u8 p90275.Stations, .slice a90276 n90276 c90276, .slice a90277 n90277 c90277, .slice a90278 n90278 c90278, .slice a90279 n90279 c90279] 24 .exact) :: own) ∧ Fz.le φ153997 φ159381 ∧ OSl eApiLink φ159381 75 ob159380 blk159380 (.slice a159380 n159380 c159380) s159377.2.2.2 ∧ RSl eBool φ159381 (.slice a159378 n159378 c159378) s159377.2.2.1) (0, s153993.2.1, s153993.2.2.1, s153993.2.2.2) (φ153997, a153996, n153996, c153996, ob153996, blk153996, a153994, n153994, c153994) (sub_cons rfl (sub_cons rfl (sub_cons rfl (sub_cons rfl (sub_cons rfl (sub_cons rfl sub_nil)))))) ⟨(St.pick X157581 (.keep _ (.none _ (.none _ (.skip _ (.keep _ (.keep _ (.keep _ (.refl _))))))))), (Fz.le_refl _), O153996, H153994⟩ ?_
  rintro n160272 ih160271 s159377 ⟨φ159381, a159380, n159380, c159380, ob159380, blk159380, a159378, n159378, c159378⟩ t0 h160274 ⟨X160273, g159382, O159380, H159378⟩
  refine dseq (dseq (dreg ?_))
  refine lpure (v := .int .i64 s159377.1) rfl (p_move rfl) rfl rfl ?_
  refine lpure (v := .int .i64 (w64 (2 + (w64 (Int.tmod p90275.Stations 5))))) rfl (p_move rfl) rfl rfl ?_
  refine lpure (v := .bool (decide (s159377.1 < (w64 (2 + (w64 (Int.tmod p90275.Stations 5))))))) rfl (p_lt rfl) rfl rfl ?_
  refine lend (nseq ?_)
  refine dcond rfl rfl (fun k160275 => ?_) (fun k160275 => ?_)
  · refine dskip (nseq (dseq (dblock ?_)))
    refine dgo_start (n := 14) rfl (by kernel_rfl) ?_
    refine gload (v := .agg #[.int .u8 p90275.Bridges, .int .u8 p90275.Stations, .slice a90276 n90276 c90276, .slice a90277 n90277 c90277, .slice a90278 n90278 c90278, .slice a90279 n90279 c90279]) rfl (q_load wd_24 rfl) (St.ld X160273 (j := 5) rfl rfl) rfl ?_
    refine gload (v := .agg #[.int .i64 s159377.2.1, .slice a159378 n159378 c159378, .slice a159380 n159380 c159380]) rfl (q_load wd_29 rfl) (St.ld X160273 (j := 3) rfl rfl) rfl ?_
    refine gpure (v := .int .i64 (w64 (1 + (w64 (Int.tmod p90275.Bridges 6))))) rfl (p_move rfl) (lo_t rfl rfl) rfl rfl ?_
    refine gpure (v := .int .i64 s159377.1) rfl (p_move rfl) (lo_t rfl rfl) rfl rfl ?_
    refine gpure (v := .int .i64 (w64 ((w64 (1 + (w64 (Int.tmod p90275.Bridges 6)))) + s159377.1))) rfl (p_add rfl) (lo_t rfl (lo_t rfl rfl)) rfl rfl ?_
    refine gpure (v := .pointer (some ⟨b90280, 3, none⟩)) rfl (p_fa fo_24_3 rfl) (lo_t (lo_own X160273 (j := 5) (o := 0) (s := none) (f := 0) rfl) rfl) rfl rfl ?_
    refine gload (v := .slice a90277 n90277 c90277) rfl (q_load wd_22 rfl) (St.ld X160273 (j := 5) rfl rfl) rfl ?_
    refine gpure (v := .int .i64 s159377.1) rfl (p_move rfl) (lo_t rfl rfl) rfl rfl ?_
    refine gpure (v := .int .i64 (w64 (2 * s159377.1))) rfl (p_mul rfl) (lo_c (lo_t rfl rfl)) rfl rfl ?_
    refine gwait rfl (still_call rfl rfl ca_35 rfl) rfl ?_
    refine gpure (v := .int .i64 (w64 (1 + (w64 (Int.tmod p90275.Bridges 6))))) rfl (p_move rfl) (lo_t rfl rfl) rfl rfl ?_
    refine dgo_skip ?_
    refine dgo_skip ?_
    refine dgo_skip ?_
    refine gcall (m := 13) [false, true, true] (rk_cons (q_load wd_22 rfl) (St.ld X160273 (j := 5) rfl rfl) (same_self 20 rfl) (rk_cons (q_load wd_29 rfl) (St.ld X160273 (j := 3) rfl rfl) (same_self 20 rfl) (rk_cons (q_load wd_24 rfl) (St.ld X160273 (j := 5) rfl rfl) (same_self 20 rfl) rk_nil))) rfl rfl rfl rfl rfl ca_35 rfl rfl (f35_ok X160273 (p90275.Homes) ((w64 (2 * s159377.1))) (H90277.mono ((g146825.trans g153998).trans g159382))) rfl (fun e160276 v160277 h160278 hq160279 => ?_)
    cases hq160279
    refine dgo_skip ?_
    refine dgo_skip ?_
    refine dgo_skip ?_
    refine dgo_skip ?_
    refine dgo_skip ?_
    refine dgo_skip ?_
    refine dgo_skip ?_
    refine dgo_skip ?_
    refine dgo_skip ?_
    refine dgo_skip ?_
    refine dgo_skip ?_
    refine Sim.mustM fun k160280 => ?_
    refine gpure (v := .int .i64 (Int.tmod e160276 (w64 (1 + (w64 (Int.tmod p90275.Bridges 6)))))) rfl (p_rem rfl) (lo_t rfl (lo_t rfl rfl)) (rem_ok (of_decide_eq_true k160280)) rfl ?_
    refine gwait rfl (still_call rfl rfl ca_34 rfl) rfl ?_
    refine dgo_skip ?_
    refine gcall (m := 12) [false, false] (rk_cons (q_load wd_29 rfl) (St.ld X160273 (j := 3) rfl rfl) (same_self 20 rfl) (rk_cons (q_load wd_24 rfl) (St.ld X160273 (j := 5) rfl rfl) (same_self 20 rfl) rk_nil)) rfl rfl rfl rfl rfl ca_34 rfl rfl (f34_ok X160273 p90275 ((ApiTopo.mk s159377.2.1 s159377.2.2.1 s159377.2.2.2)) ((w64 ((w64 (1 + (w64 (Int.tmod p90275.Bridges 6)))) + s159377.1))) ((Int.tmod e160276 (w64 (1 + (w64 (Int.tmod p90275.Bridges 6)))))) (H90276.mono ((g146825.trans g153998).trans g159382)) (H90277.mono ((g146825.trans g153998).trans g159382)) (H90278.mono ((g146825.trans g153998).trans g159382)) (H90279.mono ((g146825.trans g153998).trans g159382)) H159378 O159380) rfl ?_
    rintro e160281 _ h160283 ⟨φ160285, a160288, n160288, c160288, a160289, n160289, c160289, ob160289, blk160289, g160286, X160287, rfl, H160288, O160289⟩
    refine dgo_skip ?_
    refine dgo_skip ?_
    refine dgo_skip ?_
    refine dgo_skip ?_
    refine dgo_skip ?_
    refine dgo_skip ?_
    refine dgo_skip ?_
    refine dgo_skip ?_
    refine dgo_skip ?_
    refine dgo_skip ?_
    refine dgo_skip ?_
    refine dgo_skip ?_
    refine dgo_skip ?_
    refine gwait rfl (still_store rfl rfl rfl) rfl ?_
    obtain ⟨h160291, hst160293, X160292⟩ := St.st X160287 (j := 3) (o := 0) (n := 3) (x := .agg #[.int .i64 e160281.Nodes, .slice a160288 n160288 c160288, .slice a160289 n160289 c160289]) rfl rfl rfl rfl rfl rfl
    refine gact0 (m := 11) [] rk_nil rfl rfl rfl rfl (h_store ts_29 rfl) hst160293 ?_
    refine dgo_skip ?_
    refine dgo_skip ?_
    refine dgo_skip ?_
    refine dgo_skip ?_
    refine dgo_skip ?_
    refine dgo_skip ?_
    refine dgo_skip ?_
    refine dgo_skip ?_
    refine dgo_skip ?_
    refine dgo_skip ?_
    refine dgo_skip ?_
    refine dgo_skip ?_
    refine dgo_skip ?_
    refine dgo_skip ?_
    refine gend rk_nil ?_
    refine nblock (nseq (dreg ?_))
    refine lpure (v := .int .i64 s159377.1) rfl (p_move rfl) rfl rfl ?_
    refine lpure (v := .int .i64 (w64 (s159377.1 + 1))) rfl (p_add rfl) rfl rfl ?_
    refine lpure (v := .int .i64 (w64 (s159377.1 + 1))) rfl (p_assign rfl) rfl rfl ?_
    refine lend ?_
    exact kbackM ih160271 ((w64 (s159377.1 + 1)), e160281.Nodes, e160281.Station, e160281.Links) (φ160285, a160289, n160289, c160289, ob160289, blk160289, a160288, n160288, c160288) (sub_cons rfl (sub_cons rfl (sub_cons rfl (sub_cons rfl (sub_cons rfl (sub_cons rfl sub_nil)))))) ⟨(St.pick X160292 (.keep _ (.none _ (.none _ (.skip _ (.skip _ (.keep _ (.keep _ (.keep _ (.refl _)))))))))), (g159382.trans g160286), O160289, H160288⟩
  refine dexit (eseq (eloop (xblock (nseq (dseq (dseq (dreg ?_)))))))
  refine lpure (v := .int .i64 (w64 (1 + (w64 (Int.tmod p90275.Bridges 6))))) rfl (p_move rfl) rfl rfl ?_
  refine lpure (v := .bool (decide (2 < (w64 (1 + (w64 (Int.tmod p90275.Bridges 6))))))) rfl (p_gt rfl) rfl rfl ?_
  refine lpure (v := .bool (decide (2 < (w64 (1 + (w64 (Int.tmod p90275.Bridges 6))))))) rfl (p_move rfl) rfl rfl ?_
  refine lsh (τ := Bool) (σ := Unit) (fun s160295 (_ : Unit) => [(1, .pointer (some ⟨b90280, 0, none⟩)), (2, .pointer (some ⟨b90284, 0, none⟩)), (3, .int .i64 (w64 (1 + (w64 (Int.tmod p90275.Bridges 6))))), (4, .int .i64 (w64 (2 + (w64 (Int.tmod p90275.Stations 5))))), (5, .pointer (some ⟨b90288, 0, none⟩)), (75, .bool s160295)]) (fun s160295 (_ : Unit) hh => St φ159381 lo hh ((ob159380, blk159380) :: (none, .dead) :: (none, .dead) :: (some b90288, .cells [.int .i64 s159377.2.1, .slice a159378 n159378 c159378, .slice a159380 n159380 c159380] 29 .exact) :: (some b90284, .cells [.int .i64 0, .slice none 0 0, .slice none 0 0] 29 .exact) :: (some b90280, .cells [.int .u8 p90275.Bridges, .int .u8 p90275.Stations, .slice a90276 n90276 c90276, .slice a90277 n90277 c90277, .slice a90278 n90278 c90278, .slice a90279 n90279 c90279] 24 .exact) :: own)) 5 ?_ ?_
  · rintro s160295 _ t0 h160297 X160296
    refine lend (nseq ?_)
    refine djoinM (τ := Int × (List Bool) × (List ApiLink)) (σ := Fz × Option Addr × Nat × Nat × Option Nat × Blk × Option Addr × Nat × Nat) (fun s160311 (φ160315, a160314, n160314, c160314, ob160314, blk160314, a160312, n160312, c160312) => [(1, .pointer (some ⟨b90280, 0, none⟩)), (2, .pointer (some ⟨b90284, 0, none⟩)), (3, .int .i64 (w64 (1 + (w64 (Int.tmod p90275.Bridges 6))))), (4, .int .i64 (w64 (2 + (w64 (Int.tmod p90275.Stations 5))))), (5, .pointer (some ⟨b90288, 0, none⟩))]) (fun s160311 (φ160315, a160314, n160314, c160314, ob160314, blk160314, a160312, n160312, c160312) hh => St φ160315 lo hh ((ob160314, blk160314) :: (none, .dead) :: (none, .dead) :: (none, .dead) :: (some b90288, .cells [.int .i64 s160311.1, .slice a160312 n160312 c160312, .slice a160314 n160314 c160314] 29 .exact) :: (some b90284, .cells [.int .i64 0, .slice none 0 0, .slice none 0 0] 29 .exact) :: (some b90280, .cells [.int .u8 p90275.Bridges, .int .u8 p90275.Stations, .slice a90276 n90276 c90276, .slice a90277 n90277 c90277, .slice a90278 n90278 c90278, .slice a90279 n90279 c90279] 24 .exact) :: own) ∧ Fz.le φ159381 φ160315 ∧ OSl eApiLink φ160315 75 ob160314 blk160314 (.slice a160314 n160314 c160314) s160311.2.2 ∧ RSl eBool φ160315 (.slice a160312 n160312 c160312) s160311.2.1) ?_ ?_
    · rintro s160311 ⟨φ160315, a160314, n160314, c160314, ob160314, blk160314, a160312, n160312, c160312⟩ t0 h160318 ⟨X160317, g160316, O160314, H160312⟩
      refine nseq (dseq (dseq (dreg ?_)))
      refine lpure (v := .int .i64 0) rfl (p_assign rfl) rfl rfl ?_
      refine lend (nseq (dblock ?_))
      refine dloopM (τ := Int × Int × (List Bool) × (List ApiLink)) (σ := Fz × Option Addr × Nat × Nat × Option Nat × Blk × Option Addr × Nat × Nat) (fun s160732 (φ160736, a160735, n160735, c160735, ob160735, blk160735, a160733, n160733, c160733) => [(1, .pointer (some ⟨b90280, 0, none⟩)), (2, .pointer (some ⟨b90284, 0, none⟩)), (3, .int .i64 (w64 (1 + (w64 (Int.tmod p90275.Bridges 6))))), (4, .int .i64 (w64 (2 + (w64 (Int.tmod p90275.Stations 5))))), (5, .pointer (some ⟨b90288, 0, none⟩)), (9, .int .i64 s160732.1)]) (fun s160732 (φ160736, a160735, n160735, c160735, ob160735, blk160735, a160733, n160733, c160733) hh => St φ160736 lo hh ((ob160735, blk160735) :: (none, .dead) :: (none, .dead) :: (none, .dead) :: (none, .dead) :: (some b90288, .cells [.int .i64 s160732.2.1, .slice a160733 n160733 c160733, .slice a160735 n160735 c160735] 29 .exact) :: (some b90284, .cells [.int .i64 0, .slice none 0 0, .slice none 0 0] 29 .exact) :: (some b90280, .cells [.int .u8 p90275.Bridges, .int .u8 p90275.Stations, .slice a90276 n90276 c90276, .slice a90277 n90277 c90277, .slice a90278 n90278 c90278, .slice a90279 n90279 c90279] 24 .exact) :: own) ∧ Fz.le φ160315 φ160736 ∧ OSl eApiLink φ160736 75 ob160735 blk160735 (.slice a160735 n160735 c160735) s160732.2.2.2 ∧ RSl eBool φ160736 (.slice a160733 n160733 c160733) s160732.2.2.1) (0, s160311.1, s160311.2.1, s160311.2.2) (φ160315, a160314, n160314, c160314, ob160314, blk160314, a160312, n160312, c160312) (sub_cons rfl (sub_cons rfl (sub_cons rfl (sub_cons rfl (sub_cons rfl (sub_cons rfl sub_nil)))))) ⟨(St.pick X160317 (.keep _ (.none _ (.none _ (.none _ (.none _ (.skip _ (.skip _ (.skip _ (.keep _ (.keep _ (.keep _ (.refl _))))))))))))), (Fz.le_refl _), O160314, H160312⟩ ?_
      rintro n160942 ih160941 s160732 ⟨φ160736, a160735, n160735, c160735, ob160735, blk160735, a160733, n160733, c160733⟩ t0 h160944 ⟨X160943, g160737, O160735, H160733⟩
      refine dseq (dseq (dreg ?_))
      refine lpure (v := .int .i64 s160732.1) rfl (p_move rfl) rfl rfl ?_
      refine lpure (v := .int .i64 (w64 (2 + (w64 (Int.tmod p90275.Stations 5))))) rfl (p_move rfl) rfl rfl ?_
      refine lpure (v := .bool (decide (s160732.1 < (w64 (2 + (w64 (Int.tmod p90275.Stations 5))))))) rfl (p_lt rfl) rfl rfl ?_
      refine lend (nseq ?_)
      refine dcond rfl rfl (fun k160945 => ?_) (fun k160945 => ?_)
      · refine dskip (nseq (dseq (dblock (dseq (dreg ?_)))))
        refine lpure (v := .pointer (some ⟨b90280, 3, none⟩)) rfl (p_fa fo_24_3 rfl) rfl rfl ?_
        refine lread (v := .slice a90277 n90277 c90277) rfl (q_load wd_22 rfl) (St.ld X160943 (j := 7) rfl rfl) rfl ?_
        refine lpure (v := .int .i64 s160732.1) rfl (p_move rfl) rfl rfl ?_
        refine lpure (v := .int .i64 (w64 (2 * s160732.1))) rfl (p_mul rfl) rfl rfl ?_
        refine lpure (v := .int .i64 (w64 ((w64 (2 * s160732.1)) + 1))) rfl (p_add rfl) rfl rfl ?_
        refine lcall rfl rfl ca_35 rfl rfl (f35_ok X160943 (p90275.Homes) ((w64 ((w64 (2 * s160732.1)) + 1))) (H90277.mono ((((g146825.trans g153998).trans g159382).trans g160316).trans g160737))) rfl (fun e160946 v160947 h160948 hq160949 => ?_)
        cases hq160949
        refine lpure (v := .int .i64 (Int.tmod e160946 3)) rfl (p_rem rfl) rfl rfl ?_
        refine lpure (v := .bool (decide (0 < (Int.tmod e160946 3)))) rfl (p_gt rfl) rfl rfl ?_
        refine lend (nseq ?_)
        refine djoinM (τ := Int × (List Bool) × (List ApiLink)) (σ := Fz × Option Addr × Nat × Nat × Option Nat × Blk × Option Addr × Nat × Nat) (fun s160969 (φ160973, a160972, n160972, c160972, ob160972, blk160972, a160970, n160970, c160970) => [(1, .pointer (some ⟨b90280, 0, none⟩)), (2, .pointer (some ⟨b90284, 0, none⟩)), (3, .int .i64 (w64 (1 + (w64 (Int.tmod p90275.Bridges 6))))), (4, .int .i64 (w64 (2 + (w64 (Int.tmod p90275.Stations 5))))), (5, .pointer (some ⟨b90288, 0, none⟩)), (9, .int .i64 s160732.1)]) (fun s160969 (φ160973, a160972, n160972, c160972, ob160972, blk160972, a160970, n160970, c160970) hh => St φ160973 lo hh ((ob160972, blk160972) :: (none, .dead) :: (none, .dead) :: (none, .dead) :: (none, .dead) :: (none, .dead) :: (some b90288, .cells [.int .i64 s160969.1, .slice a160970 n160970 c160970, .slice a160972 n160972 c160972] 29 .exact) :: (some b90284, .cells [.int .i64 0, .slice none 0 0, .slice none 0 0] 29 .exact) :: (some b90280, .cells [.int .u8 p90275.Bridges, .int .u8 p90275.Stations, .slice a90276 n90276 c90276, .slice a90277 n90277 c90277, .slice a90278 n90278 c90278, .slice a90279 n90279 c90279] 24 .exact) :: own) ∧ Fz.le φ160736 φ160973 ∧ OSl eApiLink φ160973 75 ob160972 blk160972 (.slice a160972 n160972 c160972) s160969.2.2 ∧ RSl eBool φ160973 (.slice a160970 n160970 c160970) s160969.2.1) ?_ ?_
        · rintro s160969 ⟨φ160973, a160972, n160972, c160972, ob160972, blk160972, a160970, n160970, c160970⟩ t0 h160976 ⟨X160975, g160974, O160972, H160970⟩
          refine nblock (nseq (dreg ?_))
          refine lpure (v := .int .i64 s160732.1) rfl (p_move rfl) rfl rfl ?_
          refine lpure (v := .int .i64 (w64 (s160732.1 + 1))) rfl (p_add rfl) rfl rfl ?_
          refine lpure (v := .int .i64 (w64 (s160732.1 + 1))) rfl (p_assign rfl) rfl rfl ?_
          refine lend ?_
          exact kbackM ih160941 ((w64 (s160732.1 + 1)), s160969.1, s160969.2.1, s160969.2.2) (φ160973, a160972, n160972, c160972, ob160972, blk160972, a160970, n160970, c160970) (sub_cons rfl (sub_cons rfl (sub_cons rfl (sub_cons rfl (sub_cons rfl (sub_cons rfl sub_nil)))))) ⟨(St.pick X160975 (.keep _ (.none _ (.none _ (.none _ (.none _ (.skip _ (.skip _ (.skip _ (.skip _ (.skip _ (.keep _ (.keep _ (.keep _ (.refl _))))))))))))))), (g160737.trans g160974), O160972, H160970⟩
        intro j160977 J160978
        refine dcond rfl rfl (fun k160950 => ?_) (fun k160950 => ?_)
        · refine dgo_start (n := 15) rfl (by kernel_rfl) ?_
          refine gload (v := .agg #[.int .u8 p90275.Bridges, .int .u8 p90275.Stations, .slice a90276 n90276 c90276, .slice a90277 n90277 c90277, .slice a90278 n90278 c90278, .slice a90279 n90279 c90279]) rfl (q_load wd_24 rfl) (St.ld X160943 (j := 7) rfl rfl) rfl ?_
          refine gload (v := .agg #[.int .i64 s160732.2.1, .slice a160733 n160733 c160733, .slice a160735 n160735 c160735]) rfl (q_load wd_29 rfl) (St.ld X160943 (j := 5) rfl rfl) rfl ?_
          refine gpure (v := .int .i64 (w64 (1 + (w64 (Int.tmod p90275.Bridges 6))))) rfl (p_move rfl) (lo_t rfl rfl) rfl rfl ?_
          refine gpure (v := .int .i64 s160732.1) rfl (p_move rfl) (lo_t rfl rfl) rfl rfl ?_
          refine gpure (v := .int .i64 (w64 ((w64 (1 + (w64 (Int.tmod p90275.Bridges 6)))) + s160732.1))) rfl (p_add rfl) (lo_t rfl (lo_t rfl rfl)) rfl rfl ?_
          refine gpure (v := .pointer (some ⟨b90280, 3, none⟩)) rfl (p_fa fo_24_3 rfl) (lo_t (lo_own X160943 (j := 7) (o := 0) (s := none) (f := 0) rfl) rfl) rfl rfl ?_
          refine gload (v := .slice a90277 n90277 c90277) rfl (q_load wd_22 rfl) (St.ld X160943 (j := 7) rfl rfl) rfl ?_
          refine gpure (v := .int .i64 s160732.1) rfl (p_move rfl) (lo_t rfl rfl) rfl rfl ?_
          refine gpure (v := .int .i64 (w64 (2 * s160732.1))) rfl (p_mul rfl) (lo_c (lo_t rfl rfl)) rfl rfl ?_
          refine gpure (v := .int .i64 (w64 ((w64 (2 * s160732.1)) + 1))) rfl (p_add rfl) (lo_t rfl (lo_c rfl)) rfl rfl ?_
          refine gwait rfl (still_call rfl rfl ca_35 rfl) rfl ?_
          refine gpure (v := .int .i64 (w64 (1 + (w64 (Int.tmod p90275.Bridges 6))))) rfl (p_move rfl) (lo_t rfl rfl) rfl rfl ?_
          refine dgo_skip ?_
          refine dgo_skip ?_
          refine dgo_skip ?_
          refine gcall (m := 14) [false, true, true] (rk_cons (q_load wd_22 rfl) (St.ld X160943 (j := 7) rfl rfl) (same_self 20 rfl) (rk_cons (q_load wd_29 rfl) (St.ld X160943 (j := 5) rfl rfl) (same_self 20 rfl) (rk_cons (q_load wd_24 rfl) (St.ld X160943 (j := 7) rfl rfl) (same_self 20 rfl) rk_nil))) rfl rfl rfl rfl rfl ca_35 rfl rfl (f35_ok X160943 (p90275.Homes) ((w64 ((w64 (2 * s160732.1)) + 1))) (H90277.mono ((((g146825.trans g153998).trans g159382).trans g160316).trans g160737))) rfl (fun e160979 v160980 h160981 hq160982 => ?_)
          cases hq160982
          refine dgo_skip ?_
          refine dgo_skip ?_
          refine dgo_skip ?_
          refine dgo_skip ?_
          refine dgo_skip ?_
          refine dgo_skip ?_
          refine dgo_skip ?_
          refine dgo_skip ?_
          refine dgo_skip ?_
          refine dgo_skip ?_
          refine dgo_skip ?_
          refine dgo_skip ?_
          refine Sim.mustM fun k160983 => ?_
          refine gpure (v := .int .i64 (Int.tmod e160979 (w64 (1 + (w64 (Int.tmod p90275.Bridges 6)))))) rfl (p_rem rfl) (lo_t rfl (lo_t rfl rfl)) (rem_ok (of_decide_eq_true k160983)) rfl ?_
          refine gwait rfl (still_call rfl rfl ca_34 rfl) rfl ?_
          refine dgo_skip ?_
          refine gcall (m := 13) [false, false] (rk_cons (q_load wd_29 rfl) (St.ld X160943 (j := 5) rfl rfl) (same_self 20 rfl) (rk_cons (q_load wd_24 rfl) (St.ld X160943 (j := 7) rfl rfl) (same_self 20 rfl) rk_nil)) rfl rfl rfl rfl rfl ca_34 rfl rfl (f34_ok X160943 p90275 ((ApiTopo.mk s160732.2.1 s160732.2.2.1 s160732.2.2.2)) ((w64 ((w64 (1 + (w64 (Int.tmod p90275.Bridges 6)))) + s160732.1))) ((Int.tmod e160979 (w64 (1 + (w64 (Int.tmod p90275.Bridges 6)))))) (H90276.mono ((((g146825.trans g153998).trans g159382).trans g160316).trans g160737)) (H90277.mono ((((g146825.trans g153998).trans g159382).trans g160316).trans g160737)) (H90278.mono ((((g146825.trans g153998).trans g159382).trans g160316).trans g160737)) (H90279.mono ((((g146825.trans g153998).trans g159382).trans g160316).trans g160737)) H160733 O160735) rfl ?_
          rintro e160984 _ h160986 ⟨φ160988, a160991, n160991, c160991, a160992, n160992, c160992, ob160992, blk160992, g160989, X160990, rfl, H160991, O160992⟩
          refine dgo_skip ?_
          refine dgo_skip ?_
          refine dgo_skip ?_
          refine dgo_skip ?_
          refine dgo_skip ?_
          refine dgo_skip ?_
          refine dgo_skip ?_
          refine dgo_skip ?_
          refine dgo_skip ?_
          refine dgo_skip ?_
          refine dgo_skip ?_
          refine dgo_skip ?_
          refine dgo_skip ?_
          refine dgo_skip ?_
          refine gwait rfl (still_store rfl rfl rfl) rfl ?_
          obtain ⟨h160994, hst160996, X160995⟩ := St.st X160990 (j := 5) (o := 0) (n := 3) (x := .agg #[.int .i64 e160984.Nodes, .slice a160991 n160991 c160991, .slice a160992 n160992 c160992]) rfl rfl rfl rfl rfl rfl
          refine gact0 (m := 12) [] rk_nil rfl rfl rfl rfl (h_store ts_29 rfl) hst160996 ?_
          refine dgo_skip ?_
          refine dgo_skip ?_
          refine dgo_skip ?_
          refine dgo_skip ?_
          refine dgo_skip ?_
          refine dgo_skip ?_
          refine dgo_skip ?_
          refine dgo_skip ?_
          refine dgo_skip ?_
          refine dgo_skip ?_
          refine dgo_skip ?_
          refine dgo_skip ?_
          refine dgo_skip ?_
          refine dgo_skip ?_
          refine dgo_skip ?_
          refine gend rk_nil ?_
          exact jmpM J160978 (e160984.Nodes, e160984.Station, e160984.Links) (φ160988, a160992, n160992, c160992, ob160992, blk160992, a160991, n160991, c160991) (sub_cons rfl (sub_cons rfl (sub_cons rfl (sub_cons rfl (sub_cons rfl (sub_cons rfl sub_nil)))))) ⟨(St.pick X160995 (.keep _ (.none _ (.none _ (.none _ (.none _ (.none _ (.skip _ (.skip _ (.skip _ (.skip _ (.keep _ (.keep _ (.keep _ (.refl _))))))))))))))), g160989, O160992, H160991⟩
        refine dskip ?_
        exact jmpM J160978 (s160732.2.1, s160732.2.2.1, s160732.2.2.2) (φ160736, a160735, n160735, c160735, ob160735, blk160735, a160733, n160733, c160733) (sub_cons rfl (sub_cons rfl (sub_cons rfl (sub_cons rfl (sub_cons rfl (sub_cons rfl sub_nil)))))) ⟨(St.pick X160943 (.keep _ (.none _ (.none _ (.none _ (.none _ (.none _ (.skip _ (.skip _ (.skip _ (.skip _ (.keep _ (.keep _ (.keep _ (.refl _))))))))))))))), (Fz.le_refl _), O160735, H160733⟩
      refine dexit (eseq (eloop (xblock (nseq (dseq (dseq (dreg ?_)))))))
      refine lpure (v := .int .i64 0) rfl (p_assign rfl) rfl rfl ?_
      refine lend (nseq (dblock ?_))
      refine dloopM (τ := Int × Int × (List Bool) × (List ApiLink)) (σ := Fz × Option Addr × Nat × Nat × Option Nat × Blk × Option Addr × Nat × Nat) (fun s161070 (φ161074, a161073, n161073, c161073, ob161073, blk161073, a161071, n161071, c161071) => [(1, .pointer (some ⟨b90280, 0, none⟩)), (2, .pointer (some ⟨b90284, 0, none⟩)), (3, .int .i64 (w64 (1 + (w64 (Int.tmod p90275.Bridges 6))))), (5, .pointer (some ⟨b90288, 0, none⟩)), (10, .int .i64 s161070.1)]) (fun s161070 (φ161074, a161073, n161073, c161073, ob161073, blk161073, a161071, n161071, c161071) hh => St φ161074 lo hh ((ob161073, blk161073) :: (none, .dead) :: (none, .dead) :: (none, .dead) :: (none, .dead) :: (none, .dead) :: (some b90288, .cells [.int .i64 s161070.2.1, .slice a161071 n161071 c161071, .slice a161073 n161073 c161073] 29 .exact) :: (some b90284, .cells [.int .i64 0, .slice none 0 0, .slice none 0 0] 29 .exact) :: (some b90280, .cells [.int .u8 p90275.Bridges, .int .u8 p90275.Stations, .slice a90276 n90276 c90276, .slice a90277 n90277 c90277, .slice a90278 n90278 c90278, .slice a90279 n90279 c90279] 24 .exact) :: own) ∧ Fz.le φ160736 φ161074 ∧ OSl eApiLink φ161074 75 ob161073 blk161073 (.slice a161073 n161073 c161073) s161070.2.2.2 ∧ RSl eBool φ161074 (.slice a161071 n161071 c161071) s161070.2.2.1) (0, s160732.2.1, s160732.2.2.1, s160732.2.2.2) (φ160736, a160735, n160735, c160735, ob160735, blk160735, a160733, n160733, c160733) (sub_cons rfl (sub_cons rfl (sub_cons rfl (sub_cons rfl (sub_cons rfl sub_nil))))) ⟨(St.pick X160943 (.keep _ (.none _ (.none _ (.none _ (.none _ (.none _ (.skip _ (.skip _ (.skip _ (.skip _ (.keep _ (.keep _ (.keep _ (.refl _))))))))))))))), (Fz.le_refl _), O160735, H160733⟩ ?_
      rintro n161111 ih161110 s161070 ⟨φ161074, a161073, n161073, c161073, ob161073, blk161073, a161071, n161071, c161071⟩ t0 h161113 ⟨X161112, g161075, O161073, H161071⟩
      refine dseq (dseq (dreg ?_))
      refine lpure (v := .int .i64 s161070.1) rfl (p_move rfl) rfl rfl ?_
      refine lpure (v := .int .i64 (w64 (s161070.1 + 1))) rfl (p_add rfl) rfl rfl ?_
      refine lpure (v := .pointer (some ⟨b90280, 2, none⟩)) rfl (p_fa fo_24_2 rfl) rfl rfl ?_
      refine lread (v := .slice a90276 n90276 c90276) rfl (q_load wd_22 rfl) (St.ld X161112 (j := 8) rfl rfl) rfl ?_
      refine lpure (v := .int .i64 (p90275.Chords.length : Int)) rfl (p_len rfl rfl rfl un_22 rfl) (RSl.lenC (H90276.mono (((((g146825.trans g153998).trans g159382).trans g160316).trans g160737).trans g161075))) rfl ?_
      refine lpure (v := .bool (decide ((w64 (s161070.1 + 1)) < (p90275.Chords.length : Int)))) rfl (p_lt rfl) rfl rfl ?_
      refine lpure (v := .bool (decide ((w64 (s161070.1 + 1)) < (p90275.Chords.length : Int)))) rfl (p_move rfl) rfl rfl ?_
      refine lsh (τ := Bool) (σ := Unit) (fun s161115 (_ : Unit) => [(1, .pointer (some ⟨b90280, 0, none⟩)), (2, .pointer (some ⟨b90284, 0, none⟩)), (3, .int .i64 (w64 (1 + (w64 (Int.tmod p90275.Bridges 6))))), (5, .pointer (some ⟨b90288, 0, none⟩)), (10, .int .i64 s161070.1), (117, .bool s161115)]) (fun s161115 (_ : Unit) hh => St φ161074 lo hh ((ob161073, blk161073) :: (none, .dead) :: (none, .dead) :: (none, .dead) :: (none, .dead) :: (none, .dead) :: (some b90288, .cells [.int .i64 s161070.2.1, .slice a161071 n161071 c161071, .slice a161073 n161073 c161073] 29 .exact) :: (some b90284, .cells [.int .i64 0, .slice none 0 0, .slice none 0 0] 29 .exact) :: (some b90280, .cells [.int .u8 p90275.Bridges, .int .u8 p90275.Stations, .slice a90276 n90276 c90276, .slice a90277 n90277 c90277, .slice a90278 n90278 c90278, .slice a90279 n90279 c90279] 24 .exact) :: own)) 3 ?_ ?_
      · rintro s161115 _ t0 h161117 X161116
        refine lend (nseq ?_)
        refine dcond rfl rfl (fun k161118 => ?_) (fun k161118 => ?_)
        · refine dskip (nseq (dseq (dblock ?_)))
          refine dgo_start (n := 21) rfl (by kernel_rfl) ?_
          refine gload (v := .agg #[.int .u8 p90275.Bridges, .int .u8 p90275.Stations, .slice a90276 n90276 c90276, .slice a90277 n90277 c90277, .slice a90278 n90278 c90278, .slice a90279 n90279 c90279]) rfl (q_load wd_24 rfl) (St.ld X161116 (j := 8) rfl rfl) rfl ?_
          refine gload (v := .agg #[.int .i64 s161070.2.1, .slice a161071 n161071 c161071, .slice a161073 n161073 c161073]) rfl (q_load wd_29 rfl) (St.ld X161116 (j := 6) rfl rfl) rfl ?_
          refine gpure (v := .pointer (some ⟨b90280, 2, none⟩)) rfl (p_fa fo_24_2 rfl) (lo_t (lo_own X161116 (j := 8) (o := 0) (s := none) (f := 0) rfl) rfl) rfl rfl ?_
          refine gload (v := .slice a90276 n90276 c90276) rfl (q_load wd_22 rfl) (St.ld X161116 (j := 8) rfl rfl) rfl ?_
          refine gpure (v := .int .i64 s161070.1) rfl (p_move rfl) (lo_t rfl rfl) rfl rfl ?_
          refine Sim.bindM fun e161119 he161120 => ?_
          obtain ⟨p161121, cs161121, hp161121, hF161121, hR161121⟩ := RSl.ia (H90276.mono (((((g146825.trans g153998).trans g159382).trans g160316).trans g160737).trans g161075)) he161120 (kd := .i64) (n := 1) rfl
          have hR161121 : _ = [(.int .u8 e161119 : Value)] := hR161121
          subst hR161121
          refine gpure (v := p161121) rfl (p_ia rs_22 rfl) (lo_t (lo_sl X161116 (H90276.mono (((((g146825.trans g153998).trans g159382).trans g160316).trans g160737).trans g161075))) (lo_t rfl rfl)) hp161121 rfl ?_
          refine gload (v := .int .u8 e161119) rfl (q_load wd_5 rfl) (FP.ld X161116 hF161121) rfl ?_
          refine gpure (v := .int .i64 (w64 e161119)) rfl (p_conv un_5 un_3 rfl) (lo_t rfl rfl) rfl rfl ?_
          refine gpure (v := .int .i64 (w64 (1 + (w64 (Int.tmod p90275.Bridges 6))))) rfl (p_move rfl) (lo_t rfl rfl) rfl rfl ?_
          refine Sim.mustM fun k161122 => ?_
          refine gpure (v := .int .i64 (Int.tmod (w64 e161119) (w64 (1 + (w64 (Int.tmod p90275.Bridges 6)))))) rfl (p_rem rfl) (lo_t rfl (lo_t rfl rfl)) (rem_ok (of_decide_eq_true k161122)) rfl ?_
          refine gpure (v := .pointer (some ⟨b90280, 2, none⟩)) rfl (p_fa fo_24_2 rfl) (lo_t (lo_own X161116 (j := 8) (o := 0) (s := none) (f := 0) rfl) rfl) rfl rfl ?_
          refine gload (v := .slice a90276 n90276 c90276) rfl (q_load wd_22 rfl) (St.ld X161116 (j := 8) rfl rfl) rfl ?_
          refine gpure (v := .int .i64 s161070.1) rfl (p_move rfl) (lo_t rfl rfl) rfl rfl ?_
          refine gpure (v := .int .i64 (w64 (s161070.1 + 1))) rfl (p_add rfl) (lo_t rfl (lo_c rfl)) rfl rfl ?_
          refine Sim.bindM fun e161123 he161124 => ?_
          obtain ⟨p161125, cs161125, hp161125, hF161125, hR161125⟩ := RSl.ia (H90276.mono (((((g146825.trans g153998).trans g159382).trans g160316).trans g160737).trans g161075)) he161124 (kd := .i64) (n := 1) rfl
          have hR161125 : _ = [(.int .u8 e161123 : Value)] := hR161125
          subst hR161125
          refine gpure (v := p161125) rfl (p_ia rs_22 rfl) (lo_t (lo_sl X161116 (H90276.mono (((((g146825.trans g153998).trans g159382).trans g160316).trans g160737).trans g161075))) (lo_t rfl rfl)) hp161125 rfl ?_
          refine gload (v := .int .u8 e161123) rfl (q_load wd_5 rfl) (FP.ld X161116 hF161125) rfl ?_
          refine gpure (v := .int .i64 (w64 e161123)) rfl (p_conv un_5 un_3 rfl) (lo_t rfl rfl) rfl rfl ?_
          refine gpure (v := .int .i64 (w64 (1 + (w64 (Int.tmod p90275.Bridges 6))))) rfl (p_move rfl) (lo_t rfl rfl) rfl rfl ?_
          refine Sim.mustM fun k161126 => ?_
          refine gpure (v := .int .i64 (Int.tmod (w64 e161123) (w64 (1 + (w64 (Int.tmod p90275.Bridges 6)))))) rfl (p_rem rfl) (lo_t rfl (lo_t rfl rfl)) (rem_ok (of_decide_eq_true k161126)) rfl ?_
          refine gwait rfl (still_call rfl rfl ca_34 rfl) rfl ?_
          refine dgo_skip ?_
          refine gcall (m := 20) [false, false, false, false, false, false] (rk_cons (q_load wd_5 rfl) (FP.ld X161116 hF161125) (same_self 20 rfl) (rk_cons (q_load wd_22 rfl) (St.ld X161116 (j := 8) rfl rfl) (same_self 20 rfl) (rk_cons (q_load wd_5 rfl) (FP.ld X161116 hF161121) (same_self 20 rfl) (rk_cons (q_load wd_22 rfl) (St.ld X161116 (j := 8) rfl rfl) (same_self 20 rfl) (rk_cons (q_load wd_29 rfl) (St.ld X161116 (j := 6) rfl rfl) (same_self 20 rfl) (rk_cons (q_load wd_24 rfl) (St.ld X161116 (j := 8) rfl rfl) (same_self 20 rfl) rk_nil)))))) rfl rfl rfl rfl rfl ca_34 rfl rfl (f34_ok X161116 p90275 ((ApiTopo.mk s161070.2.1 s161070.2.2.1 s161070.2.2.2)) ((Int.tmod (w64 e161119) (w64 (1 + (w64 (Int.tmod p90275.Bridges 6)))))) ((Int.tmod (w64 e161123) (w64 (1 + (w64 (Int.tmod p90275.Bridges 6)))))) (H90276.mono (((((g146825.trans g153998).trans g159382).trans g160316).trans g160737).trans g161075)) (H90277.mono (((((g146825.trans g153998).trans g159382).trans g160316).trans g160737).trans g161075)) (H90278.mono (((((g146825.trans g153998).trans g159382).trans g160316).trans g160737).trans g161075)) (H90279.mono (((((g146825.trans g153998).trans g159382).trans g160316).trans g160737).trans g161075)) H161071 O161073) rfl ?_
          rintro e161127 _ h161129 ⟨φ161131, a161134, n161134, c161134, a161135, n161135, c161135, ob161135, blk161135, g161132, X161133, rfl, H161134, O161135⟩
          refine dgo_skip ?_
          refine dgo_skip ?_
          refine dgo_skip ?_
          refine dgo_skip ?_
          refine dgo_skip ?_
          refine dgo_skip ?_
          refine dgo_skip ?_
          refine dgo_skip ?_
          refine dgo_skip ?_
          refine dgo_skip ?_
          refine dgo_skip ?_
          refine dgo_skip ?_
          refine dgo_skip ?_
          refine dgo_skip ?_
          refine dgo_skip ?_
          refine dgo_skip ?_
          refine dgo_skip ?_
          refine dgo_skip ?_
          refine dgo_skip ?_
          refine dgo_skip ?_
          refine gwait rfl (still_store rfl rfl rfl) rfl ?_
          obtain ⟨h161137, hst161139, X161138⟩ := St.st X161133 (j := 6) (o := 0) (n := 3) (x := .agg #[.int .i64 e161127.Nodes, .slice a161134 n161134 c161134, .slice a161135 n161135 c161135]) rfl rfl rfl rfl rfl rfl
          refine gact0 (m := 19) [] rk_nil rfl rfl rfl rfl (h_store ts_29 rfl) hst161139 ?_
          refine dgo_skip ?_
          refine dgo_skip ?_
          refine dgo_skip ?_
          refine dgo_skip ?_
          refine dgo_skip ?_
          refine dgo_skip ?_
          refine dgo_skip ?_
          refine dgo_skip ?_
          refine dgo_skip ?_
          refine dgo_skip ?_
          refine dgo_skip ?_
          refine dgo_skip ?_
          refine dgo_skip ?_
          refine dgo_skip ?_
          refine dgo_skip ?_
          refine dgo_skip ?_
          refine dgo_skip ?_
          refine dgo_skip ?_
          refine dgo_skip ?_
          refine dgo_skip ?_
          refine dgo_skip ?_
          refine gend rk_nil ?_
          refine nblock (nseq (dreg ?_))
          refine lpure (v := .int .i64 s161070.1) rfl (p_move rfl) rfl rfl ?_
          refine lpure (v := .int .i64 (w64 (s161070.1 + 2))) rfl (p_add rfl) rfl rfl ?_
          refine lpure (v := .int .i64 (w64 (s161070.1 + 2))) rfl (p_assign rfl) rfl rfl ?_
          refine lend ?_
          exact kbackM ih161110 ((w64 (s161070.1 + 2)), e161127.Nodes, e161127.Station, e161127.Links) (φ161131, a161135, n161135, c161135, ob161135, blk161135, a161134, n161134, c161134) (sub_cons rfl (sub_cons rfl (sub_cons rfl (sub_cons rfl (sub_cons rfl sub_nil))))) ⟨(St.pick X161138 (.keep _ (.none _ (.none _ (.none _ (.none _ (.none _ (.skip _ (.skip _ (.skip _ (.skip _ (.skip _ (.keep _ (.keep _ (.keep _ (.refl _)))))))))))))))), (g161075.trans g161132), O161135, H161134⟩
        refine dexit (eseq (eloop (xblock (nseq (dseq (dreg ?_))))))
        refine lread (v := .agg #[.int .i64 s161070.2.1, .slice a161071 n161071 c161071, .slice a161073 n161073 c161073]) rfl (q_load wd_29 rfl) (St.ld X161116 (j := 6) rfl rfl) rfl ?_
        refine lstore rfl ts_29 rfl rfl (j := 7) rfl rfl rfl rfl rfl rfl X161116 (fun h161140 X161141 => ?_)
        refine lend (nseq (dret ?_))
        exact kopen_r (res_1 (resC wd_29 (St.ld X161141 (j := 7) rfl rfl))) ⟨φ161074, a161071, n161071, c161071, a161073, n161073, c161073, ob161073, blk161073, (((((g146825.trans g153998).trans g159382).trans g160316).trans g160737).trans g161075), St.pick X161141 (.keep _ (.skip _ (.skip _ (.skip _ (.skip _ (.skip _ (.skip _ (.skip _ (.skip _ (.refl _)))))))))), rfl, H161071, O161073⟩
      intro j161142 J161143
      refine lcase (i := 114) (show _ = Value.bool (decide ((w64 (s161070.1 + 1)) < (p90275.Chords.length : Int))) from rfl) (fun k161144 => ?_) (fun k161144 => ?_)
      · refine lpure (v := .int .i64 s161070.1) rfl (p_move rfl) rfl rfl ?_
        refine lpure (v := .bool (decide (s161070.1 < 12))) rfl (p_lt rfl) rfl rfl ?_
        refine lpure (v := .bool (decide (s161070.1 < 12))) rfl (p_pick rfl) rfl rfl ?_
        refine Sim.of_eq (congrArg j161142 (show ((decide ((w64 (s161070.1 + 1)) < (p90275.Chords.length : Int))) && (decide (s161070.1 < 12))) = (decide (s161070.1 < 12)) from by rw [k161144] <;> rfl)) ?_
        exact ljmpM J161143 (decide (s161070.1 < 12)) () (sub_cons rfl (sub_cons rfl (sub_cons rfl (sub_cons rfl (sub_cons rfl (sub_cons rfl sub_nil)))))) (St.pick X161112 (.keep _ (.none _ (.none _ (.none _ (.none _ (.none _ (.skip _ (.skip _ (.skip _ (.skip _ (.skip _ (.keep _ (.keep _ (.keep _ (.refl _))))))))))))))))
      refine lskip rfl rfl ?_
      refine lskip rfl rfl ?_
      refine lpure (v := .bool false) rfl (p_pick rfl) rfl rfl ?_
      refine Sim.of_eq (congrArg j161142 (show ((decide ((w64 (s161070.1 + 1)) < (p90275.Chords.length : Int))) && (decide (s161070.1 < 12))) = false from by rw [k161144] <;> rfl)) ?_
      exact ljmpM J161143 false () (sub_cons rfl (sub_cons rfl (sub_cons rfl (sub_cons rfl (sub_cons rfl (sub_cons rfl sub_nil)))))) (St.pick X161112 (.keep _ (.none _ (.none _ (.none _ (.none _ (.none _ (.skip _ (.skip _ (.skip _ (.skip _ (.skip _ (.keep _ (.keep _ (.keep _ (.refl _))))))))))))))))
    intro j160319 J160320
    refine dcond rfl rfl (fun k160298 => ?_) (fun k160298 => ?_)
    · refine dreg ?_
      refine lread (v := .agg #[.int .u8 p90275.Bridges, .int .u8 p90275.Stations, .slice a90276 n90276 c90276, .slice a90277 n90277 c90277, .slice a90278 n90278 c90278, .slice a90279 n90279 c90279]) rfl (q_load wd_24 rfl) (St.ld X160296 (j := 5) rfl rfl) rfl ?_
      refine lread (v := .agg #[.int .i64 s159377.2.1, .slice a159378 n159378 c159378, .slice a159380 n159380 c159380]) rfl (q_load wd_29 rfl) (St.ld X160296 (j := 3) rfl rfl) rfl ?_
      refine lpure (v := .int .i64 (w64 (1 + (w64 (Int.tmod p90275.Bridges 6))))) rfl (p_move rfl) rfl rfl ?_
      refine lpure (v := .int .i64 (w64 ((w64 (1 + (w64 (Int.tmod p90275.Bridges 6)))) - 1))) rfl (p_sub rfl) rfl rfl ?_
      refine lcall rfl rfl ca_34 rfl rfl (f34_ok X160296 p90275 ((ApiTopo.mk s159377.2.1 s159377.2.2.1 s159377.2.2.2)) ((w64 ((w64 (1 + (w64 (Int.tmod p90275.Bridges 6)))) - 1))) 0 (H90276.mono ((g146825.trans g153998).trans g159382)) (H90277.mono ((g146825.trans g153998).trans g159382)) (H90278.mono ((g146825.trans g153998).trans g159382)) (H90279.mono ((g146825.trans g153998).trans g159382)) H159378 O159380) rfl ?_
      rintro e161145 _ h161147 ⟨φ161149, a161152, n161152, c161152, a161153, n161153, c161153, ob161153, blk161153, g161150, X161151, rfl, H161152, O161153⟩
      refine lstore rfl ts_29 rfl rfl (j := 3) rfl rfl rfl rfl rfl rfl X161151 (fun h161155 X161156 => ?_)
      refine lend ?_
      exact jmpM J160320 (e161145.Nodes, e161145.Station, e161145.Links) (φ161149, a161153, n161153, c161153, ob161153, blk161153, a161152, n161152, c161152) (sub_cons rfl (sub_cons rfl (sub_cons rfl (sub_cons rfl (sub_cons rfl sub_nil))))) ⟨(St.pick X161156 (.keep _ (.none _ (.none _ (.none _ (.skip _ (.skip _ (.keep _ (.keep _ (.keep _ (.refl _))))))))))), g161150, O161153, H161152⟩
    refine dskip ?_
    exact jmpM J160320 (s159377.2.1, s159377.2.2.1, s159377.2.2.2) (φ159381, a159380, n159380, c159380, ob159380, blk159380, a159378, n159378, c159378) (sub_cons rfl (sub_cons rfl (sub_cons rfl (sub_cons rfl (sub_cons rfl sub_nil))))) ⟨(St.pick X160296 (.keep _ (.none _ (.none _ (.none _ (.skip _ (.skip _ (.keep _ (.keep _ (.keep _ (.refl _))))))))))), (Fz.le_refl _), O159380, H159378⟩
  intro j161157 J161158
  refine lcase (i := 70) (show _ = Value.bool (decide (2 < (w64 (1 + (w64 (Int.tmod p90275.Bridges 6)))))) from rfl) (fun k161159 => ?_) (fun k161159 => ?_)
  · refine lpure (v := .pointer (some ⟨b90280, 0, none⟩)) rfl (p_fa fo_24_0 rfl) rfl rfl ?_
    refine lread (v := .int .u8 p90275.Bridges) rfl (q_load wd_5 rfl) (St.ld X160273 (j := 5) rfl rfl) rfl ?_
    refine lpure (v := .int .u8 (Int.tmod p90275.Bridges 2)) rfl (p_rem rfl) rfl rfl ?_
    refine lpure (v := .bool (decide ((Int.tmod p90275.Bridges 2) = 0))) rfl (p_eq rfl) rfl rfl ?_
    refine lpure (v := .bool (decide ((Int.tmod p90275.Bridges 2) = 0))) rfl (p_pick rfl) rfl rfl ?_
    refine Sim.of_eq (congrArg j161157 (show ((decide (2 < (w64 (1 + (w64 (Int.tmod p90275.Bridges 6)))))) && (decide ((Int.tmod p90275.Bridges 2) = 0))) = (decide ((Int.tmod p90275.Bridges 2) = 0)) from by rw [k161159] <;> rfl)) ?_
    exact ljmpM J161158 (decide ((Int.tmod p90275.Bridges 2) = 0)) () (sub_cons rfl (sub_cons rfl (sub_cons rfl (sub_cons rfl (sub_cons rfl (sub_cons rfl sub_nil)))))) (St.pick X160273 (.keep _ (.none _ (.none _ (.skip _ (.skip _ (.keep _ (.keep _ (.keep _ (.refl _))))))))))
  refine lskip rfl rfl ?_
  refine lskip rfl rfl ?_
  refine lskip rfl rfl ?_
  refine lskip rfl rfl ?_
  refine lpure (v := .bool false) rfl (p_pick rfl) rfl rfl ?_
  refine Sim.of_eq (congrArg j161157 (show ((decide (2 < (w64 (1 + (w64 (Int.tmod p90275.Bridges 6)))))) && (decide ((Int.tmod p90275.Bridges 2) = 0))) = false from by rw [k161159] <;> rfl)) ?_
  exact ljmpM J161158 false () (sub_cons rfl (sub_cons rfl (sub_cons rfl (sub_cons rfl (sub_cons rfl (sub_cons rfl sub_nil)))))) (St.pick X160273 (.keep _ (.none _ (.none _ (.skip _ (.skip _ (.keep _ (.keep _ (.keep _ (.refl _))))))))))
/-! isochron/isochronref16.From -/
theorem f96_ok {n : Nat} {φ : Fz} {lo : Nat} {h : Heap} {own : OwnL}  {a161207 : Option Addr} {n161207 c161207 : Nat} {a161208 : Option Addr} {n161208 c161208 : Nat} (X : St φ lo h (own)) (p161206 : ApiTopo) (p161209 : Int) (H161207 : RSl eBool φ (.slice a161207 n161207 c161207) p161206.Station) (H161208 : RSl eApiLink φ (.slice a161208 n161208 c161208) p161206.Links) : Sim ((recN Try.prog LL cutF (n + 1)).call 96 #[(.agg #[.int .i64 p161206.Nodes, .slice a161207 n161207 c161207, .slice a161208 n161208 c161208]), (.int .i64 p161209)] h) (m_isochronref16_From p161206 p161209) (fun (d : Int) p => p = (.int .i64 d, h)) := by
  refine fcut Try.func96 rfl rfl rfl rfl X ?_
  intro h0 X0
  refine dseq (dreg ?_)
  refine lbox rfl rfl rfl rfl rfl X0 (fun b161210 h161212 X161213 => ?_)
  refine lpure (v := .int .i64 0) rfl (p_assign rfl) rfl rfl ?_
  refine lend (nseq (dseq (dreg ?_)))
  refine lpure (v := .pointer (some ⟨b161210, 2, none⟩)) rfl (p_fa fo_29_2 rfl) rfl rfl ?_
  refine lread (v := .slice a161208 n161208 c161208) rfl (q_load wd_27 rfl) (St.ld X161213 (j := 0) rfl rfl) rfl ?_
  refine lpure (v := .int .i64 p161209) rfl (p_move rfl) rfl rfl ?_
  refine lpure (v := .int .i64 (w64 (Int.tdiv p161209 2))) rfl (p_quo rfl) rfl rfl ?_
  refine Sim.bindM fun e161214 he161215 => ?_
  obtain ⟨p161216, cs161216, hp161216, hF161216, hR161216⟩ := RSl.ia H161208 he161215 (kd := .i64) (n := 4) rfl
  obtain rfl := eApiLink_el hR161216
  refine lpure (v := p161216) rfl (p_ia rs_27 rfl) hp161216 rfl ?_
  refine lread (v := .agg #[.int .i64 e161214.A, .int .i64 e161214.B, .int .i64 e161214.Per, .int .i64 e161214.Delay]) rfl (q_load wd_75 rfl) (FP.ldw X161213 hF161216 rfl rfl) rfl ?_
  refine lalloc rfl tz_75 rfl rfl rfl X161213 (fun b161217 h161219 X161220 => ?_)
  refine lstore rfl ts_75 rfl rfl (j := 0) rfl rfl rfl rfl rfl rfl X161220 (fun h161221 X161222 => ?_)
  refine lend (nseq (dseq (dseq (dreg ?_))))
  refine lpure (v := .int .i64 p161209) rfl (p_move rfl) rfl rfl ?_
  refine lpure (v := .int .i64 (Int.tmod p161209 2)) rfl (p_rem rfl) rfl rfl ?_
  refine lpure (v := .bool (decide ((Int.tmod p161209 2) = 1))) rfl (p_eq rfl) rfl rfl ?_
  refine lend (nseq ?_)
  refine dcond rfl rfl (fun k161223 => ?_) (fun k161223 => ?_)
  · refine dseq (dreg ?_)
    refine lpure (v := .pointer (some ⟨b161217, 1, none⟩)) rfl (p_fa fo_75_1 rfl) rfl rfl ?_
    refine lread (v := .int .i64 e161214.B) rfl (q_load wd_3 rfl) (St.ld X161222 (j := 0) rfl rfl) rfl ?_
    refine lpure (v := .int .i64 e161214.B) rfl (p_assign rfl) rfl rfl ?_
    refine lend (nseq (dret (rseq ?_)))
    exact kcut_r (res_1 resT) X161222 rfl rfl
  refine dskip (nseq (dseq (dreg ?_)))
  refine lpure (v := .pointer (some ⟨b161217, 0, none⟩)) rfl (p_fa fo_75_0 rfl) rfl rfl ?_
  refine lread (v := .int .i64 e161214.A) rfl (q_load wd_3 rfl) (St.ld X161222 (j := 0) rfl rfl) rfl ?_
  refine lpure (v := .int .i64 e161214.A) rfl (p_assign rfl) rfl rfl ?_
  refine lend (nseq (dret ?_))
  exact kcut_r (res_1 resT) X161222 rfl rfl
/-! isochron/isochronref16.Ports -/
theorem f49_ok {n : Nat} {φ : Fz} {lo : Nat} {h : Heap} {own : OwnL}  {a161316 : Option Addr} {n161316 c161316 : Nat} {a161317 : Option Addr} {n161317 c161317 : Nat} (X : St φ lo h (own)) (p161315 : ApiTopo) (p161318 : Int) (H161316 : RSl eBool φ (.slice a161316 n161316 c161316) p161315.Station) (H161317 : RSl eApiLink φ (.slice a161317 n161317 c161317) p161315.Links) : Sim ((recN Try.prog LL cutF (n + 2)).call 49 #[(.agg #[.int .i64 p161315.Nodes, .slice a161316 n161316 c161316, .slice a161317 n161317 c161317]), (.int .i64 p161318)] h) (m_isochronref16_Ports p161315 p161318) (fun (d : (List Int)) p => ∃ φ2 : Fz, ∃ a161418 : Option Addr, ∃ n161418 : Nat, ∃ c161418 : Nat, ∃ ob161418 : Option Nat, ∃ blk161418 : Blk, Fz.le φ φ2 ∧ St φ2 lo p.2 ((ob161418, blk161418) :: own) ∧ p.1 = .slice a161418 n161418 c161418 ∧ OSl (eInt .i64) φ2 3 ob161418 blk161418 (.slice a161418 n161418 c161418) d) := by
  refine fopen Try.func49 rfl rfl rfl rfl ?_
  refine dseq (dreg ?_)
  refine lbox rfl rfl rfl rfl rfl X (fun b161319 h161321 X161322 => ?_)
  refine lpure (v := .slice none 0 0) rfl (p_assign rfl) rfl rfl ?_
  refine lend (nseq (dseq (dreg ?_)))
  refine lpure (v := .slice none 0 0) rfl (p_assign rfl) rfl rfl ?_
  refine lend (nseq (dseq (dseq (dreg ?_))))
  refine lpure (v := .int .i64 0) rfl (p_assign rfl) rfl rfl ?_
  refine lend (nseq (dblock ?_))
  refine dloopM (τ := (List Int) × Int) (σ := Option Addr × Nat × Nat × Option Nat × Blk) (fun s161372 (a161374, n161374, c161374, ob161374, blk161374) => [(1, .int .i64 p161318), (2, .pointer (some ⟨b161319, 0, none⟩)), (5, .slice a161374 n161374 c161374), (6, .int .i64 s161372.2)]) (fun s161372 (a161374, n161374, c161374, ob161374, blk161374) hh => St φ lo hh ((ob161374, blk161374) :: (some b161319, .cells [.int .i64 p161315.Nodes, .slice a161316 n161316 c161316, .slice a161317 n161317 c161317] 29 .exact) :: own) ∧ OSl (eInt .i64) φ 3 ob161374 blk161374 (.slice a161374 n161374 c161374) s161372.1) ([], 0) (none, 0, 0, none, .dead) (sub_cons rfl (sub_cons rfl (sub_cons rfl (sub_cons rfl sub_nil)))) ⟨(St.pick X161322 (.none _ (.keep _ (.refl _)))), OSl.nil⟩ ?_
  rintro n161397 ih161396 s161372 ⟨a161374, n161374, c161374, ob161374, blk161374⟩ t0 h161399 ⟨X161398, O161374⟩
  refine dseq (dseq (dreg ?_))
  refine lpure (v := .int .i64 s161372.2) rfl (p_move rfl) rfl rfl ?_
  refine lpure (v := .pointer (some ⟨b161319, 2, none⟩)) rfl (p_fa fo_29_2 rfl) rfl rfl ?_
  refine lread (v := .slice a161317 n161317 c161317) rfl (q_load wd_27 rfl) (St.ld X161398 (j := 1) rfl rfl) rfl ?_
  refine lpure (v := .int .i64 (p161315.Links.length : Int)) rfl (p_len rfl rfl rfl un_27 rfl) (RSl.lenC H161317) rfl ?_
  refine lpure (v := .int .i64 (w64 (2 * (p161315.Links.length : Int)))) rfl (p_mul rfl) rfl rfl ?_
  refine lpure (v := .bool (decide (s161372.2 < (w64 (2 * (p161315.Links.length : Int)))))) rfl (p_lt rfl) rfl rfl ?_
  refine lend (nseq ?_)
  refine dcond rfl rfl (fun k161400 => ?_) (fun k161400 => ?_)
  · refine dskip (nseq (dseq (dblock (dseq (dreg ?_)))))
    refine lread (v := .agg #[.int .i64 p161315.Nodes, .slice a161316 n161316 c161316, .slice a161317 n161317 c161317]) rfl (q_load wd_29 rfl) (St.ld X161398 (j := 1) rfl rfl) rfl ?_
    refine lpure (v := .int .i64 s161372.2) rfl (p_move rfl) rfl rfl ?_
    refine lcall rfl rfl ca_96 rfl rfl (f96_ok X161398 p161315 (s161372.2) H161316 H161317) rfl (fun e161401 v161402 h161403 hq161404 => ?_)
    cases hq161404
    refine lpure (v := .int .i64 p161318) rfl (p_move rfl) rfl rfl ?_
    refine lpure (v := .bool (decide (e161401 = p161318))) rfl (p_eq rfl) rfl rfl ?_
    refine lend (nseq ?_)
    refine djoinM (τ := (List Int)) (σ := Option Addr × Nat × Nat × Option Nat × Blk) (fun s161409 (a161410, n161410, c161410, ob161410, blk161410) => [(1, .int .i64 p161318), (2, .pointer (some ⟨b161319, 0, none⟩)), (5, .slice a161410 n161410 c161410), (6, .int .i64 s161372.2)]) (fun s161409 (a161410, n161410, c161410, ob161410, blk161410) hh => St φ lo hh ((ob161410, blk161410) :: (some b161319, .cells [.int .i64 p161315.Nodes, .slice a161316 n161316 c161316, .slice a161317 n161317 c161317] 29 .exact) :: own) ∧ OSl (eInt .i64) φ 3 ob161410 blk161410 (.slice a161410 n161410 c161410) s161409) ?_ ?_
    · rintro s161409 ⟨a161410, n161410, c161410, ob161410, blk161410⟩ t0 h161412 ⟨X161411, O161410⟩
      refine nblock (nseq (dreg ?_))
      refine lpure (v := .int .i64 s161372.2) rfl (p_move rfl) rfl rfl ?_
      refine lpure (v := .int .i64 (w64 (s161372.2 + 1))) rfl (p_add rfl) rfl rfl ?_
      refine lpure (v := .int .i64 (w64 (s161372.2 + 1))) rfl (p_assign rfl) rfl rfl ?_
      refine lend ?_
      exact kbackM ih161396 (s161409, (w64 (s161372.2 + 1))) (a161410, n161410, c161410, ob161410, blk161410) (sub_cons rfl (sub_cons rfl (sub_cons rfl (sub_cons rfl sub_nil)))) ⟨X161411, O161410⟩
    intro j161413 J161414
    refine dcond rfl rfl (fun k161405 => ?_) (fun k161405 => ?_)
    · refine dreg ?_
      refine lpure (v := .slice a161374 n161374 c161374) rfl (p_move rfl) rfl rfl ?_
      refine lpure (v := .int .i64 s161372.2) rfl (p_move rfl) rfl rfl ?_
      obtain ⟨h161415, b161415, hv161415, X161415, O161415⟩ := OSl.lay (E := (eInt .i64)) (φ := φ) (cs := [.int .i64 s161372.2]) (l := [s161372.2]) (len := 1) (parts := [(0, .int .i64 s161372.2)]) un_33 ts_3 rfl rfl rfl tz_3 rfl rfl (show RowD (eInt .i64) φ [.int .i64 s161372.2] [s161372.2] from ⟨[.int .i64 s161372.2], _, rfl, rfl, rfl⟩) rfl rfl X161398
      refine lheap rfl (h_buildSlice rfl) hv161415 rfl ?_
      obtain ⟨ws161417, hw161417⟩ := OSl.read O161415 X161415 (k := 0) rfl (n := 1) rfl
      refine Sim.mustM fun k161417 => ?_
      obtain ⟨h161417, a161417, c161417, ob161417, blk161417, hv161417, X161417, O161417⟩ := OSl.append O161374 X161415 (j := 1) rfl hw161417 k161417 (ts := #[33, 33]) rfl un_33 (argOk_of ax_33_33) ts_3 rfl rfl tb_3 rfl tz_3 rfl
      refine lheap rfl (h_builtin rfl rfl) hv161417 rfl ?_
      refine lpure (v := .slice a161417 (s161372.1.length + ([s161372.2]).length) c161417) rfl (p_assign rfl) rfl rfl ?_
      refine lend ?_
      exact jmpM J161414 (s161372.1 ++ ([s161372.2])) (a161417, (s161372.1.length + ([s161372.2]).length), c161417, ob161417, blk161417) (sub_cons rfl (sub_cons rfl (sub_cons rfl (sub_cons rfl sub_nil)))) ⟨(St.pick X161417 (.skip _ (.keep _ (.keep _ (.refl _))))), O161417⟩
    refine dskip ?_
    exact jmpM J161414 s161372.1 (a161374, n161374, c161374, ob161374, blk161374) (sub_cons rfl (sub_cons rfl (sub_cons rfl (sub_cons rfl sub_nil)))) ⟨X161398, O161374⟩
  refine dexit (eseq (eloop (xblock (nseq (dseq (dreg ?_))))))
  refine lpure (v := .slice a161374 n161374 c161374) rfl (p_move rfl) rfl rfl ?_
  refine lpure (v := .slice a161374 n161374 c161374) rfl (p_assign rfl) rfl rfl ?_
  refine lend (nseq (dret ?_))
  exact kopen_r (res_1 resT) ⟨φ, a161374, n161374, c161374, ob161374, blk161374, (Fz.le_refl _), St.pick X161398 (.keep _ (.skip _ (.refl _))), rfl, O161374⟩
/-! isochron/isochronref16.To -/
theorem f51_ok {n : Nat} {φ : Fz} {lo : Nat} {h : Heap} {own : OwnL}  {a161434 : Option Addr} {n161434 c161434 : Nat} {a161435 : Option Addr} {n161435 c161435 : Nat} (X : St φ lo h (own)) (p161433 : ApiTopo) (p161436 : Int) (H161434 : RSl eBool φ (.slice a161434 n161434 c161434) p161433.Station) (H161435 : RSl eApiLink φ (.slice a161435 n161435 c161435) p161433.Links) : Sim ((recN Try.prog LL cutF (n + 1)).call 51 #[(.agg #[.int .i64 p161433.Nodes, .slice a161434 n161434 c161434, .slice a161435 n161435 c161435]), (.int .i64 p161436)] h) (m_isochronref16_To p161433 p161436) (fun (d : Int) p => p = (.int .i64 d, h)) := by
  refine fcut Try.func51 rfl rfl rfl rfl X ?_
  intro h0 X0
  refine dseq (dreg ?_)
  refine lbox rfl rfl rfl rfl rfl X0 (fun b161437 h161439 X161440 => ?_)
  refine lpure (v := .int .i64 0) rfl (p_assign rfl) rfl rfl ?_
  refine lend (nseq (dseq (dreg ?_)))
  refine lpure (v := .pointer (some ⟨b161437, 2, none⟩)) rfl (p_fa fo_29_2 rfl) rfl rfl ?_
  refine lread (v := .slice a161435 n161435 c161435) rfl (q_load wd_27 rfl) (St.ld X161440 (j := 0) rfl rfl) rfl ?_
  refine lpure (v := .int .i64 p161436) rfl (p_move rfl) rfl rfl ?_
  refine lpure (v := .int .i64 (w64 (Int.tdiv p161436 2))) rfl (p_quo rfl) rfl rfl ?_
  refine Sim.bindM fun e161441 he161442 => ?_
  obtain ⟨p161443, cs161443, hp161443, hF161443, hR161443⟩ := RSl.ia H161435 he161442 (kd := .i64) (n := 4) rfl
  obtain rfl := eApiLink_el hR161443
  refine lpure (v := p161443) rfl (p_ia rs_27 rfl) hp161443 rfl ?_
  refine lread (v := .agg #[.int .i64 e161441.A, .int .i64 e161441.B, .int .i64 e161441.Per, .int .i64 e161441.Delay]) rfl (q_load wd_75 rfl) (FP.ldw X161440 hF161443 rfl rfl) rfl ?_
  refine lalloc rfl tz_75 rfl rfl rfl X161440 (fun b161444 h161446 X161447 => ?_)
  refine lstore rfl ts_75 rfl rfl (j := 0) rfl rfl rfl rfl rfl rfl X161447 (fun h161448 X161449 => ?_)
  refine lend (nseq (dseq (dseq (dreg ?_))))
  refine lpure (v := .int .i64 p161436) rfl (p_move rfl) rfl rfl ?_
  refine lpure (v := .int .i64 (Int.tmod p161436 2)) rfl (p_rem rfl) rfl rfl ?_
  refine lpure (v := .bool (decide ((Int.tmod p161436 2) = 1))) rfl (p_eq rfl) rfl rfl ?_
  refine lend (nseq ?_)
  refine dcond rfl rfl (fun k161450 => ?_) (fun k161450 => ?_)
  · refine dseq (dreg ?_)
    refine lpure (v := .pointer (some ⟨b161444, 0, none⟩)) rfl (p_fa fo_75_0 rfl) rfl rfl ?_
    refine lread (v := .int .i64 e161441.A) rfl (q_load wd_3 rfl) (St.ld X161449 (j := 0) rfl rfl) rfl ?_
    refine lpure (v := .int .i64 e161441.A) rfl (p_assign rfl) rfl rfl ?_
    refine lend (nseq (dret (rseq ?_)))
    exact kcut_r (res_1 resT) X161449 rfl rfl
  refine dskip (nseq (dseq (dreg ?_)))
  refine lpure (v := .pointer (some ⟨b161444, 1, none⟩)) rfl (p_fa fo_75_1 rfl) rfl rfl ?_
  refine lread (v := .int .i64 e161441.B) rfl (q_load wd_3 rfl) (St.ld X161449 (j := 0) rfl rfl) rfl ?_
  refine lpure (v := .int .i64 e161441.B) rfl (p_assign rfl) rfl rfl ?_
  refine lend (nseq (dret ?_))
  exact kcut_r (res_1 resT) X161449 rfl rfl
/-! isochron/isochronref16.In -/
theorem f50_ok {n : Nat} {φ : Fz} {lo : Nat} {h : Heap} {own : OwnL}  {a161452 : Option Addr} {n161452 c161452 : Nat} (X : St φ lo h (own)) (p161451 : (List Int)) (p161453 : Int) (H161452 : RSl (eInt .i64) φ (.slice a161452 n161452 c161452) p161451) : Sim ((recN Try.prog LL cutF (n + 1)).call 50 #[(.slice a161452 n161452 c161452), (.int .i64 p161453)] h) (m_isochronref16_In p161451 p161453) (fun (d : Bool) p => p = (.bool d, h)) := by
  refine fcut Try.func50 rfl rfl rfl rfl X ?_
  intro h0 X0
  refine dseq (dreg ?_)
  refine lpure (v := .bool false) rfl (p_assign rfl) rfl rfl ?_
  refine lend (nseq (dseq (dseq (dreg ?_))))
  refine lpure (v := .int .i64 0) rfl (p_assign rfl) rfl rfl ?_
  refine lend (nseq (dblock ?_))
  refine dloopM (τ := Int) (σ := Unit) (fun s161470 (_ : Unit) => [(0, .slice a161452 n161452 c161452), (1, .int .i64 p161453), (5, .int .i64 s161470)]) (fun s161470 (_ : Unit) hh => St φ h.n hh ([])) 0 () (sub_cons rfl (sub_cons rfl (sub_cons rfl sub_nil))) X0 ?_
  rintro n161480 ih161479 s161470 _ t0 h161482 X161481
  refine dseq (dseq (dreg ?_))
  refine lpure (v := .int .i64 s161470) rfl (p_move rfl) rfl rfl ?_
  refine lpure (v := .slice a161452 n161452 c161452) rfl (p_move rfl) rfl rfl ?_
  refine lpure (v := .int .i64 (p161451.length : Int)) rfl (p_len rfl rfl rfl un_33 rfl) (RSl.lenC H161452) rfl ?_
  refine lpure (v := .bool (decide (s161470 < (p161451.length : Int)))) rfl (p_lt rfl) rfl rfl ?_
  refine lend (nseq ?_)
  refine dcond rfl rfl (fun k161483 => ?_) (fun k161483 => ?_)
  · refine dskip (nseq (dseq (dblock (dseq (dreg ?_)))))
    refine lpure (v := .slice a161452 n161452 c161452) rfl (p_move rfl) rfl rfl ?_
    refine lpure (v := .int .i64 s161470) rfl (p_move rfl) rfl rfl ?_
    refine Sim.bindM fun e161484 he161485 => ?_
    obtain ⟨p161486, cs161486, hp161486, hF161486, hR161486⟩ := RSl.ia H161452 he161485 (kd := .i64) (n := 1) rfl
    have hR161486 : _ = [(.int .i64 e161484 : Value)] := hR161486
    subst hR161486
    refine lpure (v := p161486) rfl (p_ia rs_33 rfl) hp161486 rfl ?_
    refine lread (v := .int .i64 e161484) rfl (q_load wd_3 rfl) (FP.ld X161481 hF161486) rfl ?_
    refine lpure (v := .int .i64 p161453) rfl (p_move rfl) rfl rfl ?_
    refine lpure (v := .bool (decide (e161484 = p161453))) rfl (p_eq rfl) rfl rfl ?_
    refine lend (nseq ?_)
    refine dcond rfl rfl (fun k161487 => ?_) (fun k161487 => ?_)
    · refine dseq (dreg ?_)
      refine lpure (v := .bool true) rfl (p_assign rfl) rfl rfl ?_
      refine lend (nseq (dret (rblock (rseq (rloop (rblock (rseq ?_)))))))
      exact kcut_r (res_1 resT) X161481 rfl rfl
    refine dskip (nblock (nseq (dreg ?_)))
    refine lpure (v := .int .i64 s161470) rfl (p_move rfl) rfl rfl ?_
    refine lpure (v := .int .i64 (w64 (s161470 + 1))) rfl (p_add rfl) rfl rfl ?_
    refine lpure (v := .int .i64 (w64 (s161470 + 1))) rfl (p_assign rfl) rfl rfl ?_
    refine lend ?_
    exact kbackM ih161479 (w64 (s161470 + 1)) () (sub_cons rfl (sub_cons rfl (sub_cons rfl sub_nil))) X161481
  refine dexit (eseq (eloop (xblock (nseq (dseq (dreg ?_))))))
  refine lpure (v := .bool false) rfl (p_assign rfl) rfl rfl ?_
  refine lend (nseq (dret ?_))
  exact kcut_r (res_1 resT) X161481 rfl rfl
/-! isochron/isochronref21.Some -/
theorem f17_ok {n : Nat} {φ : Fz} {lo : Nat} {h : Heap} {own : OwnL}  {a162430 : Option Addr} {n162430 c162430 : Nat} {a162431 : Option Addr} {n162431 c162431 : Nat} (X : St φ lo h (own)) (p162429 : ApiTopo) (p162432 : Int) (p162433 : Int) (H162430 : RSl eBool φ (.slice a162430 n162430 c162430) p162429.Station) (H162431 : RSl eApiLink φ (.slice a162431 n162431 c162431) p162429.Links) : Sim ((recN Try.prog LL cutF (n + 3)).call 17 #[(.agg #[.int .i64 p162429.Nodes, .slice a162430 n162430 c162430, .slice a162431 n162431 c162431]), (.int .u8 p162432), (.int .u8 p162433)] h) (m_isochronref21_Some p162429 p162432 p162433) (fun (d : (List Int)) p => ∃ φ2 : Fz, ∃ a163398 : Option Addr, ∃ n163398 : Nat, ∃ c163398 : Nat, ∃ ob163398 : Option Nat, ∃ blk163398 : Blk, Fz.le φ φ2 ∧ St φ2 lo p.2 ((ob163398, blk163398) :: own) ∧ p.1 = .slice a163398 n163398 c163398 ∧ OSl (eInt .i64) φ2 3 ob163398 blk163398 (.slice a163398 n163398 c163398) d) := by
  refine fopen Try.func17 rfl rfl rfl rfl ?_
  refine dseq (dreg ?_)
  refine lbox rfl rfl rfl rfl rfl X (fun b162434 h162436 X162437 => ?_)
  refine lpure (v := .slice none 0 0) rfl (p_assign rfl) rfl rfl ?_
  refine lend (nseq (dseq (dreg ?_)))
  refine lpure (v := .int .u8 p162432) rfl (p_move rfl) rfl rfl ?_
  refine lpure (v := .int .i64 (w64 p162432)) rfl (p_conv un_5 un_3 rfl) rfl rfl ?_
  refine lpure (v := .pointer (some ⟨b162434, 0, none⟩)) rfl (p_fa fo_29_0 rfl) rfl rfl ?_
  refine lread (v := .int .i64 p162429.Nodes) rfl (q_load wd_3 rfl) (St.ld X162437 (j := 0) rfl rfl) rfl ?_
  refine Sim.mustM fun k162438 => ?_
  refine lpure (v := .int .i64 (Int.tmod (w64 p162432) p162429.Nodes)) rfl (p_rem rfl) (rem_ok (of_decide_eq_true k162438)) rfl ?_
  refine lpure (v := .int .i64 (Int.tmod (w64 p162432) p162429.Nodes)) rfl (p_assign rfl) rfl rfl ?_
  refine lend (nseq (dseq (dreg ?_)))
  refine lpure (v := .int .i64 (Int.tmod (w64 p162432) p162429.Nodes)) rfl (p_move rfl) rfl rfl ?_
  obtain ⟨h162439, b162439, hv162439, X162439, O162439⟩ := OSl.lay (E := (eInt .i64)) (φ := φ) (cs := [.int .i64 (Int.tmod (w64 p162432) p162429.Nodes)]) (l := [(Int.tmod (w64 p162432) p162429.Nodes)]) (len := 1) (parts := [(0, .int .i64 (Int.tmod (w64 p162432) p162429.Nodes))]) un_33 ts_3 rfl rfl rfl tz_3 rfl rfl (show RowD (eInt .i64) φ [.int .i64 (Int.tmod (w64 p162432) p162429.Nodes)] [(Int.tmod (w64 p162432) p162429.Nodes)] from ⟨[.int .i64 (Int.tmod (w64 p162432) p162429.Nodes)], _, rfl, rfl, rfl⟩) rfl rfl X162437
  refine lheap rfl (h_buildSlice rfl) hv162439 rfl ?_
  refine lpure (v := .slice (some ⟨b162439, 0, none⟩) 1 1) rfl (p_assign rfl) rfl rfl ?_
  refine lend (nseq (dseq (dreg ?_)))
  refine lpure (v := .slice none 0 0) rfl (p_assign rfl) rfl rfl ?_
  refine lend (nseq (dseq (dblock ?_)))
  refine dloopM (τ := Int × (List Int) × (List Int)) (σ := Fz × Option Addr × Nat × Nat × Option Nat × Blk × Option Addr × Nat × Nat × Option Nat × Blk) (fun s162913 (φ162917, a162914, n162914, c162914, ob162914, blk162914, a162916, n162916, c162916, ob162916, blk162916) => [(2, .int .u8 p162433), (3, .pointer (some ⟨b162434, 0, none⟩)), (7, .int .i64 s162913.1), (8, .slice a162914 n162914 c162914), (9, .slice a162916 n162916 c162916)]) (fun s162913 (φ162917, a162914, n162914, c162914, ob162914, blk162914, a162916, n162916, c162916, ob162916, blk162916) hh => St φ162917 lo hh ((ob162916, blk162916) :: (ob162914, blk162914) :: (some b162434, .cells [.int .i64 p162429.Nodes, .slice a162430 n162430 c162430, .slice a162431 n162431 c162431] 29 .exact) :: own) ∧ Fz.le φ φ162917 ∧ OSl (eInt .i64) φ162917 3 ob162914 blk162914 (.slice a162914 n162914 c162914) s162913.2.1 ∧ OSl (eInt .i64) φ162917 3 ob162916 blk162916 (.slice a162916 n162916 c162916) s162913.2.2) ((Int.tmod (w64 p162432) p162429.Nodes), [(Int.tmod (w64 p162432) p162429.Nodes)], []) (φ, (some ⟨b162439, 0, none⟩), 1, 1, some b162439, (.cells [.int .i64 (Int.tmod (w64 p162432) p162429.Nodes)] 3 .exact), none, 0, 0, none, .dead) (sub_cons rfl (sub_cons rfl (sub_cons rfl (sub_cons rfl (sub_cons rfl sub_nil))))) ⟨(St.pick X162439 (.none _ (.keep _ (.keep _ (.refl _))))), (Fz.le_refl _), O162439, OSl.nil⟩ ?_
  rintro n163159 ih163158 s162913 ⟨φ162917, a162914, n162914, c162914, ob162914, blk162914, a162916, n162916, c162916, ob162916, blk162916⟩ t0 h163161 ⟨X163160, g162918, O162914, O162916⟩
  refine dseq (dseq (dreg ?_))
  refine lpure (v := .slice a162916 n162916 c162916) rfl (p_move rfl) rfl rfl ?_
  refine lpure (v := .int .i64 (s162913.2.2.length : Int)) rfl (p_len rfl rfl rfl un_42 rfl) (OSl.len O162916) rfl ?_
  refine lpure (v := .bool (decide ((s162913.2.2.length : Int) < 8))) rfl (p_lt rfl) rfl rfl ?_
  refine lpure (v := .bool (decide ((s162913.2.2.length : Int) < 8))) rfl (p_move rfl) rfl rfl ?_
  refine ljoinM (τ := Bool) (σ := Unit) (fun s163168 (_ : Unit) => [(2, .int .u8 p162433), (3, .pointer (some ⟨b162434, 0, none⟩)), (7, .int .i64 s162913.1), (8, .slice a162914 n162914 c162914), (9, .slice a162916 n162916 c162916), (36, .bool s163168)]) (fun s163168 (_ : Unit) hh => St φ162917 lo hh ((ob162916, blk162916) :: (ob162914, blk162914) :: (some b162434, .cells [.int .i64 p162429.Nodes, .slice a162430 n162430 c162430, .slice a162431 n162431 c162431] 29 .exact) :: own)) 12 ?_ ?_
  · rintro s163168 _ t0 h163170 X163169
    refine lend (nseq ?_)
    refine dcond rfl rfl (fun k163171 => ?_) (fun k163171 => ?_)
    · refine dskip (nseq (dblock (dseq (dreg ?_))))
      refine lpure (v := .slice none 0 0) rfl (p_assign rfl) rfl rfl ?_
      refine lend (nseq (dseq (dreg ?_)))
      refine lread (v := .agg #[.int .i64 p162429.Nodes, .slice a162430 n162430 c162430, .slice a162431 n162431 c162431]) rfl (q_load wd_29 rfl) (St.ld X163169 (j := 2) rfl rfl) rfl ?_
      refine lpure (v := .int .i64 s162913.1) rfl (p_move rfl) rfl rfl ?_
      refine lcall rfl rfl ca_49 rfl rfl (f49_ok X163169 p162429 (s162913.1) (H162430.mono g162918) (H162431.mono g162918)) rfl ?_
      rintro e163172 _ h163174 ⟨φ163176, a163179, n163179, c163179, ob163179, blk163179, g163177, X163178, rfl, O163179⟩
      refine lpure (v := .slice a163179 n163179 c163179) rfl (p_assign rfl) rfl rfl ?_
      refine lend (nseq (dseq (dseq (dreg ?_))))
      refine lpure (v := .int .i64 0) rfl (p_assign rfl) rfl rfl ?_
      refine lend (nseq (dblock ?_))
      refine dloopM (τ := (List Int) × (List Int) × Int) (σ := Option Addr × Nat × Nat × Option Nat × Blk × Blk) (fun s163280 (a163282, n163282, c163282, ob163282, blk163282, blk163283) => [(2, .int .u8 p162433), (3, .pointer (some ⟨b162434, 0, none⟩)), (8, .slice a162914 n162914 c162914), (9, .slice a162916 n162916 c162916), (10, .slice a163282 n163282 c163282), (11, .slice a163179 n163179 c163179), (12, .int .i64 s163280.2.2)]) (fun s163280 (a163282, n163282, c163282, ob163282, blk163282, blk163283) hh => St φ163176 lo hh ((ob163282, blk163282) :: (ob163179, blk163283) :: (ob162916, blk162916) :: (ob162914, blk162914) :: (some b162434, .cells [.int .i64 p162429.Nodes, .slice a162430 n162430 c162430, .slice a162431 n162431 c162431] 29 .exact) :: own) ∧ OSl (eInt .i64) φ163176 3 ob163282 blk163282 (.slice a163282 n163282 c163282) s163280.1 ∧ OSl (eInt .i64) φ163176 3 ob163179 blk163283 (.slice a163179 n163179 c163179) s163280.2.1) ([], e163172, 0) (none, 0, 0, none, .dead, blk163179) (sub_cons rfl (sub_cons rfl (sub_cons rfl (sub_cons rfl (sub_cons rfl (sub_cons rfl (sub_cons rfl sub_nil))))))) ⟨(St.pick X163178 (.none _ (.keep _ (.keep _ (.keep _ (.keep _ (.refl _))))))), OSl.nil, O163179⟩ ?_
      rintro n163338 ih163337 s163280 ⟨a163282, n163282, c163282, ob163282, blk163282, blk163283⟩ t0 h163340 ⟨X163339, O163282, O163283⟩
      refine dseq (dseq (dreg ?_))
      refine lpure (v := .int .i64 s163280.2.2) rfl (p_move rfl) rfl rfl ?_
      refine lpure (v := .slice a163179 n163179 c163179) rfl (p_move rfl) rfl rfl ?_
      refine lpure (v := .int .i64 (s163280.2.1.length : Int)) rfl (p_len rfl rfl rfl un_33 rfl) (OSl.len O163283) rfl ?_
      refine lpure (v := .bool (decide (s163280.2.2 < (s163280.2.1.length : Int)))) rfl (p_lt rfl) rfl rfl ?_
      refine lend (nseq ?_)
      refine dcond rfl rfl (fun k163341 => ?_) (fun k163341 => ?_)
      · refine dskip (nseq (dseq (dblock (dseq ?_))))
        refine ddraw 0 0 0 (by kernel_rfl) ?_
        refine spure (v := .slice a162914 n162914 c162914) rfl (p_move rfl) (lo_t (lo_osl X163339 (j := 3) rfl (O162914.mono g163177)) rfl) rfl rfl ?_
        refine sload (v := .agg #[.int .i64 p162429.Nodes, .slice a162430 n162430 c162430, .slice a162431 n162431 c162431]) rfl rfl (q_load wd_29 rfl) (St.ld X163339 (j := 4) rfl rfl) (same_self 20 rfl) rfl ?_
        refine spure (v := .slice a163179 n163179 c163179) rfl (p_move rfl) (lo_t (lo_osl X163339 (j := 1) rfl O163283) rfl) rfl rfl ?_
        refine spure (v := .int .i64 s163280.2.2) rfl (p_move rfl) (lo_t rfl rfl) rfl rfl ?_
        refine Sim.bindM fun e163342 he163343 => ?_
        obtain ⟨b163344, vs163344, m163344, off163344, cs163344, rfl, rfl, hp163344, hc163344, hR163344, hl163344, hm163344, hs163344⟩ := OSl.ia O163283 he163343 (kd := .i64) (n := 1) rfl
        have hR163344 : _ = [(.int .i64 e163342 : Value)] := hR163344
        subst hR163344
        refine spure (v := .pointer (some ⟨b163344, off163344, none⟩)) rfl (p_ia rs_33 rfl) (lo_t (lo_osl X163339 (j := 1) rfl O163283) (lo_t rfl rfl)) hp163344 rfl ?_
        refine sload (v := .int .i64 e163342) rfl rfl (q_load wd_3 rfl) (St.ld X163339 (j := 1) rfl (rdE1 hc163344 (k := 0) rfl rfl)) (same_self 20 rfl) rfl ?_
        refine scall (en := fun d => (.int .i64 d)) rfl rfl ca_51 rfl rfl (f51_ok X163339 p162429 e163342 (H162430.mono (g162918.trans g163177)) (H162431.mono (g162918.trans g163177))) rfl (fun e163345 => ?_)
        obtain ⟨φ163349, g163350, X163351, H163352⟩ := OSl.freeze X163339 (j := 3) rfl (O162914.mono g163177)
        refine scall (en := fun d => (.bool d)) rfl rfl ca_50 rfl rfl (f50_ok X163351 (s162913.2.1) e163345 H163352) rfl (fun e163353 => ?_)
        refine spure (v := .bool (!e163353)) rfl (p_not rfl) (lo_t rfl rfl) rfl rfl ?_
        refine send ?_
        refine nseq ?_
        refine djoinM (τ := (List Int)) (σ := Option Addr × Nat × Nat × Option Nat × Blk) (fun s163364 (a163365, n163365, c163365, ob163365, blk163365) => [(2, .int .u8 p162433), (3, .pointer (some ⟨b162434, 0, none⟩)), (8, .slice a162914 n162914 c162914), (9, .slice a162916 n162916 c162916), (10, .slice a163365 n163365 c163365), (11, .slice a163179 n163179 c163179), (12, .int .i64 s163280.2.2)]) (fun s163364 (a163365, n163365, c163365, ob163365, blk163365) hh => St φ163176 lo hh ((ob163365, blk163365) :: (some b163344, .cells vs163344 3 m163344) :: (ob162916, blk162916) :: (ob162914, blk162914) :: (some b162434, .cells [.int .i64 p162429.Nodes, .slice a162430 n162430 c162430, .slice a162431 n162431 c162431] 29 .exact) :: own) ∧ OSl (eInt .i64) φ163176 3 ob163365 blk163365 (.slice a163365 n163365 c163365) s163364) ?_ ?_
        · rintro s163364 ⟨a163365, n163365, c163365, ob163365, blk163365⟩ t0 h163367 ⟨X163366, O163365⟩
          refine nblock (nseq (dreg ?_))
          refine lpure (v := .int .i64 s163280.2.2) rfl (p_move rfl) rfl rfl ?_
          refine lpure (v := .int .i64 (w64 (s163280.2.2 + 1))) rfl (p_add rfl) rfl rfl ?_
          refine lpure (v := .int .i64 (w64 (s163280.2.2 + 1))) rfl (p_assign rfl) rfl rfl ?_
          refine lend ?_
          exact kbackM ih163337 (s163364, s163280.2.1, (w64 (s163280.2.2 + 1))) (a163365, n163365, c163365, ob163365, blk163365, (.cells vs163344 3 m163344)) (sub_cons rfl (sub_cons rfl (sub_cons rfl (sub_cons rfl (sub_cons rfl (sub_cons rfl (sub_cons rfl sub_nil))))))) ⟨X163366, O163365, O163283⟩
        intro j163368 J163369
        refine dcond rfl rfl (fun k163357 => ?_) (fun k163357 => ?_)
        · refine dreg ?_
          refine lpure (v := .slice a163282 n163282 c163282) rfl (p_move rfl) rfl rfl ?_
          refine lpure (v := .slice a163179 n163179 c163179) rfl (p_move rfl) rfl rfl ?_
          refine lpure (v := .int .i64 s163280.2.2) rfl (p_move rfl) rfl rfl ?_
          refine Sim.bindM fun e163370 he163371 => ?_
          obtain ⟨off163372, cs163372, hp163372, hc163372, hR163372, hl163372, hm163372, hs163372⟩ := OSl.iaC O163283 he163371 (kd := .i64) (n := 1) rfl
          have hR163372 : _ = [(.int .i64 e163370 : Value)] := hR163372
          subst hR163372
          refine lpure (v := .pointer (some ⟨b163344, off163372, none⟩)) rfl (p_ia rs_33 rfl) hp163372 rfl ?_
          refine lread (v := .int .i64 e163370) rfl (q_load wd_3 rfl) (St.ld X163339 (j := 1) rfl (rdE1 hc163372 (k := 0) rfl rfl)) rfl ?_
          obtain ⟨h163373, b163373, hv163373, X163373, O163373⟩ := OSl.lay (E := (eInt .i64)) (φ := φ163176) (cs := [.int .i64 e163370]) (l := [e163370]) (len := 1) (parts := [(0, .int .i64 e163370)]) un_33 ts_3 rfl rfl rfl tz_3 rfl rfl (show RowD (eInt .i64) φ163176 [.int .i64 e163370] [e163370] from ⟨[.int .i64 e163370], _, rfl, rfl, rfl⟩) rfl rfl X163339
          refine lheap rfl (h_buildSlice rfl) hv163373 rfl ?_
          obtain ⟨ws163375, hw163375⟩ := OSl.read O163373 X163373 (k := 0) rfl (n := 1) rfl
          refine Sim.mustM fun k163375 => ?_
          obtain ⟨h163375, a163375, c163375, ob163375, blk163375, hv163375, X163375, O163375⟩ := OSl.append O163282 X163373 (j := 1) rfl hw163375 k163375 (ts := #[33, 33]) rfl un_33 (argOk_of ax_33_33) ts_3 rfl rfl tb_3 rfl tz_3 rfl
          refine lheap rfl (h_builtin rfl rfl) hv163375 rfl ?_
          refine lpure (v := .slice a163375 (s163280.1.length + ([e163370]).length) c163375) rfl (p_assign rfl) rfl rfl ?_
          refine lend ?_
          exact jmpM J163369 (s163280.1 ++ ([e163370])) (a163375, (s163280.1.length + ([e163370]).length), c163375, ob163375, blk163375) (sub_cons rfl (sub_cons rfl (sub_cons rfl (sub_cons rfl (sub_cons rfl (sub_cons rfl (sub_cons rfl sub_nil))))))) ⟨(St.pick X163375 (.skip _ (.keep _ (.keep _ (.keep _ (.keep _ (.keep _ (.refl _)))))))), O163375⟩
        refine dskip ?_
        exact jmpM J163369 s163280.1 (a163282, n163282, c163282, ob163282, blk163282) (sub_cons rfl (sub_cons rfl (sub_cons rfl (sub_cons rfl (sub_cons rfl (sub_cons rfl (sub_cons rfl sub_nil))))))) ⟨X163339, O163282⟩
      refine dexit (eseq (eloop (xblock (nseq (dseq (dseq (dreg ?_)))))))
      refine lpure (v := .slice a163282 n163282 c163282) rfl (p_move rfl) rfl rfl ?_
      refine lpure (v := .int .i64 (s163280.1.length : Int)) rfl (p_len rfl rfl rfl un_33 rfl) (OSl.len O163282) rfl ?_
      refine lpure (v := .bool (decide ((s163280.1.length : Int) = 0))) rfl (p_eq rfl) rfl rfl ?_
      refine lend (nseq ?_)
      refine dcond rfl rfl (fun k163376 => ?_) (fun k163376 => ?_)
      · refine dseq (dreg ?_)
        refine lpure (v := .slice a162916 n162916 c162916) rfl (p_move rfl) rfl rfl ?_
        refine lpure (v := .slice a162916 n162916 c162916) rfl (p_assign rfl) rfl rfl ?_
        refine lend (nseq (dret (rseq (rblock (rloop (rblock (rseq ?_)))))))
        exact kopen_r (res_1 resT) ⟨φ163176, a162916, n162916, c162916, ob162916, blk162916, (g162918.trans g163177), St.pick (St.front X163339 (j := 2) rfl) (.keep _ (.skip _ (.skip _ (.skip _ (.skip _ (.refl _)))))), rfl, (O162916.mono g163177)⟩
      refine dskip (nseq (dseq (dreg ?_)))
      refine lpure (v := .slice a163282 n163282 c163282) rfl (p_move rfl) rfl rfl ?_
      refine lpure (v := .int .u8 p162433) rfl (p_move rfl) rfl rfl ?_
      refine lpure (v := .int .i64 (w64 p162433)) rfl (p_conv un_5 un_3 rfl) rfl rfl ?_
      refine lpure (v := .slice a162916 n162916 c162916) rfl (p_move rfl) rfl rfl ?_
      refine lpure (v := .int .i64 (s162913.2.2.length : Int)) rfl (p_len rfl rfl rfl un_42 rfl) (OSl.len (O162916.mono g163177)) rfl ?_
      refine lpure (v := .int .i64 (w64 (3 * (s162913.2.2.length : Int)))) rfl (p_mul rfl) rfl rfl ?_
      refine lpure (v := .int .i64 (w64 ((w64 p162433) + (w64 (3 * (s162913.2.2.length : Int)))))) rfl (p_add rfl) rfl rfl ?_
      refine lpure (v := .slice a163282 n163282 c163282) rfl (p_move rfl) rfl rfl ?_
      refine lpure (v := .int .i64 (s163280.1.length : Int)) rfl (p_len rfl rfl rfl un_33 rfl) (OSl.len O163282) rfl ?_
      refine Sim.mustM fun k163377 => ?_
      refine lpure (v := .int .i64 (Int.tmod (w64 ((w64 p162433) + (w64 (3 * (s162913.2.2.length : Int))))) (s163280.1.length : Int))) rfl (p_rem rfl) (rem_ok (of_decide_eq_true k163377)) rfl ?_
      refine Sim.bindM fun e163378 he163379 => ?_
      obtain ⟨b163380, vs163380, m163380, off163380, cs163380, rfl, rfl, hp163380, hc163380, hR163380, hl163380, hm163380, hs163380⟩ := OSl.ia O163282 he163379 (kd := .i64) (n := 1) rfl
      have hR163380 : _ = [(.int .i64 e163378 : Value)] := hR163380
      subst hR163380
      refine lpure (v := .pointer (some ⟨b163380, off163380, none⟩)) rfl (p_ia rs_33 rfl) hp163380 rfl ?_
      refine lread (v := .int .i64 e163378) rfl (q_load wd_3 rfl) (St.ld X163339 (j := 0) rfl (rdE1 hc163380 (k := 0) rfl rfl)) rfl ?_
      refine lpure (v := .int .i64 e163378) rfl (p_assign rfl) rfl rfl ?_
      refine lend (nseq (dseq (dreg ?_)))
      refine lpure (v := .slice a162916 n162916 c162916) rfl (p_move rfl) rfl rfl ?_
      refine lpure (v := .int .i64 e163378) rfl (p_move rfl) rfl rfl ?_
      obtain ⟨h163381, b163381, hv163381, X163381, O163381⟩ := OSl.lay (E := (eInt .i64)) (φ := φ163176) (cs := [.int .i64 e163378]) (l := [e163378]) (len := 1) (parts := [(0, .int .i64 e163378)]) un_42 ts_3 rfl rfl rfl tz_3 rfl rfl (show RowD (eInt .i64) φ163176 [.int .i64 e163378] [e163378] from ⟨[.int .i64 e163378], _, rfl, rfl, rfl⟩) rfl rfl X163339
      refine lheap rfl (h_buildSlice rfl) hv163381 rfl ?_
      obtain ⟨ws163383, hw163383⟩ := OSl.read O163381 X163381 (k := 0) rfl (n := 1) rfl
      refine Sim.mustM fun k163383 => ?_
      obtain ⟨h163383, a163383, c163383, ob163383, blk163383, hv163383, X163383, O163383⟩ := OSl.append (O162916.mono g163177) X163381 (j := 3) rfl hw163383 k163383 (ts := #[42, 42]) rfl un_42 (argOk_of ax_42_42) ts_3 rfl rfl tb_3 rfl tz_3 rfl
      refine lheap rfl (h_builtin rfl rfl) hv163383 rfl ?_
      refine lpure (v := .slice a163383 (s162913.2.2.length + ([e163378]).length) c163383) rfl (p_assign rfl) rfl rfl ?_
      refine lend (nseq (dseq (dreg ?_)))
      refine lread (v := .agg #[.int .i64 p162429.Nodes, .slice a162430 n162430 c162430, .slice a162431 n162431 c162431]) rfl (q_load wd_29 rfl) (St.ld X163383 (j := 5) rfl rfl) rfl ?_
      refine lpure (v := .int .i64 e163378) rfl (p_move rfl) rfl rfl ?_
      refine lcall rfl rfl ca_51 rfl rfl (f51_ok X163383 p162429 e163378 (H162430.mono (g162918.trans g163177)) (H162431.mono (g162918.trans g163177))) rfl (fun e163384 v163385 h163386 hq163387 => ?_)
      cases hq163387
      refine lpure (v := .int .i64 e163384) rfl (p_assign rfl) rfl rfl ?_
      refine lend (nseq (dreg ?_))
      refine lpure (v := .slice a162914 n162914 c162914) rfl (p_move rfl) rfl rfl ?_
      refine lpure (v := .int .i64 e163384) rfl (p_move rfl) rfl rfl ?_
      obtain ⟨h163388, b163388, hv163388, X163388, O163388⟩ := OSl.lay (E := (eInt .i64)) (φ := φ163176) (cs := [.int .i64 e163384]) (l := [e163384]) (len := 1) (parts := [(0, .int .i64 e163384)]) un_33 ts_3 rfl rfl rfl tz_3 rfl rfl (show RowD (eInt .i64) φ163176 [.int .i64 e163384] [e163384] from ⟨[.int .i64 e163384], _, rfl, rfl, rfl⟩) rfl rfl X163383
      refine lheap rfl (h_buildSlice rfl) hv163388 rfl ?_
      obtain ⟨ws163390, hw163390⟩ := OSl.read O163388 X163388 (k := 0) rfl (n := 1) rfl
      refine Sim.mustM fun k163390 => ?_
      obtain ⟨h163390, a163390, c163390, ob163390, blk163390, hv163390, X163390, O163390⟩ := OSl.append (O162914.mono g163177) X163388 (j := 5) rfl hw163390 k163390 (ts := #[33, 33]) rfl un_33 (argOk_of ax_33_33) ts_3 rfl rfl tb_3 rfl tz_3 rfl
      refine lheap rfl (h_builtin rfl rfl) hv163390 rfl ?_
      refine lpure (v := .slice a163390 (s162913.2.1.length + ([e163384]).length) c163390) rfl (p_assign rfl) rfl rfl ?_
      refine lend (nblock ?_)
      exact kbackM ih163158 (e163384, (s162913.2.1 ++ ([e163384])), (s162913.2.2 ++ ([e163378]))) (φ163176, a163390, (s162913.2.1.length + ([e163384]).length), c163390, ob163390, blk163390, a163383, (s162913.2.2.length + ([e163378]).length), c163383, ob163383, blk163383) (sub_cons rfl (sub_cons rfl (sub_cons rfl (sub_cons rfl (sub_cons rfl sub_nil))))) ⟨(St.pick X163390 (.skip _ (.skip _ (.skip _ (.skip _ (.keep _ (.keep _ (.keep _ (.refl _))))))))), (g162918.trans g163177), O163390, O163383⟩
    refine dexit (eseq (eloop (xblock (nseq (dseq (dreg ?_))))))
    refine lpure (v := .slice a162916 n162916 c162916) rfl (p_move rfl) rfl rfl ?_
    refine lpure (v := .slice a162916 n162916 c162916) rfl (p_assign rfl) rfl rfl ?_
    refine lend (nseq (dret ?_))
    exact kopen_r (res_1 resT) ⟨φ162917, a162916, n162916, c162916, ob162916, blk162916, g162918, St.pick X163169 (.keep _ (.skip _ (.skip _ (.refl _)))), rfl, O162916⟩
  intro j163391 J163392
  refine lif (i := 24) (show _ = Value.bool (decide ((s162913.2.2.length : Int) < 8)) from rfl) (fun k163393 => ?_) (fun k163393 => ?_)
  · refine lpure (v := .slice a162916 n162916 c162916) rfl (p_move rfl) rfl rfl ?_
    refine lpure (v := .int .i64 (s162913.2.2.length : Int)) rfl (p_len rfl rfl rfl un_42 rfl) (OSl.len O162916) rfl ?_
    refine lpure (v := .bool (decide ((s162913.2.2.length : Int) = 0))) rfl (p_eq rfl) rfl rfl ?_
    refine lpure (v := .bool (decide ((s162913.2.2.length : Int) = 0))) rfl (p_move rfl) rfl rfl ?_
    refine lif (i := 28) (show _ = Value.bool (decide ((s162913.2.2.length : Int) = 0)) from rfl) (fun k163394 => ?_) (fun k163394 => ?_)
    · refine lskip rfl rfl ?_
      refine lskip rfl rfl ?_
      refine lskip rfl rfl ?_
      refine lskip rfl rfl ?_
      refine lskip rfl rfl ?_
      refine lskip rfl rfl ?_
      refine lpure (v := .bool true) rfl (p_pick rfl) rfl rfl ?_
      refine lpure (v := .bool true) rfl (p_pick rfl) rfl rfl ?_
      exact ljmpM J163392 true () (sub_cons rfl (sub_cons rfl (sub_cons rfl (sub_cons rfl (sub_cons rfl (sub_cons rfl sub_nil)))))) X163160
    refine lpure (v := .pointer (some ⟨b162434, 1, none⟩)) rfl (p_fa fo_29_1 rfl) rfl rfl ?_
    refine lread (v := .slice a162430 n162430 c162430) rfl (q_load wd_26 rfl) (St.ld X163160 (j := 2) rfl rfl) rfl ?_
    refine lpure (v := .int .i64 s162913.1) rfl (p_move rfl) rfl rfl ?_
    refine Sim.bindM fun e163395 he163396 => ?_
    obtain ⟨p163397, cs163397, hp163397, hF163397, hR163397⟩ := RSl.ia (H162430.mono g162918) he163396 (kd := .i64) (n := 1) rfl
    have hR163397 : _ = [(.bool e163395 : Value)] := hR163397
    subst hR163397
    refine lpure (v := p163397) rfl (p_ia rs_26 rfl) hp163397 rfl ?_
    refine lread (v := .bool e163395) rfl (q_load wd_4 rfl) (FP.ld X163160 hF163397) rfl ?_
    refine lpure (v := .bool (!e163395)) rfl (p_not rfl) rfl rfl ?_
    refine lpure (v := .bool (!e163395)) rfl (p_pick rfl) rfl rfl ?_
    refine lpure (v := .bool (!e163395)) rfl (p_pick rfl) rfl rfl ?_
    exact ljmpM J163392 (!e163395) () (sub_cons rfl (sub_cons rfl (sub_cons rfl (sub_cons rfl (sub_cons rfl (sub_cons rfl sub_nil)))))) X163160
  refine lskip rfl rfl ?_
  refine lskip rfl rfl ?_
  refine lskip rfl rfl ?_
  refine lskip rfl rfl ?_
  refine lskip rfl rfl ?_
  refine lskip rfl rfl ?_
  refine lskip rfl rfl ?_
  refine lskip rfl rfl ?_
  refine lskip rfl rfl ?_
  refine lskip rfl rfl ?_
  refine lskip rfl rfl ?_
  refine lpure (v := .bool false) rfl (p_pick rfl) rfl rfl ?_
  exact ljmpM J163392 false () (sub_cons rfl (sub_cons rfl (sub_cons rfl (sub_cons rfl (sub_cons rfl (sub_cons rfl sub_nil)))))) X163160
/-! slices.Reverse[[]int,int] -/
theorem f26_ok {n : Nat} {φ : Fz} {lo : Nat} {h : Heap} {own : OwnL}  {a163601 : Option Addr} {n163601 c163601 : Nat} {ob163603 : Option Nat} {blk163604 : Blk} (X : St φ lo h ((ob163603, blk163604) :: own)) (p163600 : (List Int)) (O163605 : OSl (eInt .i64) φ 3 ob163603 blk163604 (.slice a163601 n163601 c163601) p163600) : Sim ((recN Try.prog LL cutF (n + 1)).call 26 #[(.slice a163601 n163601 c163601)] h) (m_slices_Reverse_int_int p163600) (fun (d : (List Int)) p => ∃ φ2 : Fz, ∃ blk163698 : Blk, Fz.le φ φ2 ∧ St φ2 lo p.2 ((ob163603, blk163698) :: own) ∧ p.1 = .tuple #[] ∧ OSl (eInt .i64) φ2 3 ob163603 blk163698 (.slice a163601 n163601 c163601) d) := by
  refine fopen Try.func26 rfl rfl rfl rfl ?_
  refine dseq (dreg ?_)
  refine lpure (v := .slice a163601 n163601 c163601) rfl (p_move rfl) rfl rfl ?_
  refine lpure (v := .int .i64 (p163600.length : Int)) rfl (p_len rfl rfl rfl un_33 rfl) (OSl.len O163605) rfl ?_
  refine lpure (v := .int .i64 (w64 ((p163600.length : Int) - 1))) rfl (p_sub rfl) rfl rfl ?_
  refine lpure (v := .int .i64 0) rfl (p_assign rfl) rfl rfl ?_
  refine lpure (v := .int .i64 (w64 ((p163600.length : Int) - 1))) rfl (p_assign rfl) rfl rfl ?_
  refine lend (nseq (dblock ?_))
  refine dloopM (τ := (List Int) × Int × Int) (σ := Blk) (fun s163651 blk163652 => [(0, .slice a163601 n163601 c163601), (2, .int .i64 s163651.2.1), (3, .int .i64 s163651.2.2)]) (fun s163651 blk163652 hh => St φ lo hh ((ob163603, blk163652) :: own) ∧ OSl (eInt .i64) φ 3 ob163603 blk163652 (.slice a163601 n163601 c163601) s163651.1) (p163600, 0, (w64 ((p163600.length : Int) - 1))) blk163604 (sub_cons rfl (sub_cons rfl (sub_cons rfl sub_nil))) ⟨X, O163605⟩ ?_
  rintro n163676 ih163675 s163651 blk163652 t0 h163678 ⟨X163677, O163652⟩
  refine dseq (dseq (dreg ?_))
  refine lpure (v := .int .i64 s163651.2.1) rfl (p_move rfl) rfl rfl ?_
  refine lpure (v := .int .i64 s163651.2.2) rfl (p_move rfl) rfl rfl ?_
  refine lpure (v := .bool (decide (s163651.2.1 < s163651.2.2))) rfl (p_lt rfl) rfl rfl ?_
  refine lend (nseq ?_)
  refine dcond rfl rfl (fun k163679 => ?_) (fun k163679 => ?_)
  · refine dskip (nseq (dseq (dblock ?_)))
    refine ddraw 40960 40960 0 (by kernel_rfl) ?_
    refine spure (v := .slice a163601 n163601 c163601) rfl (p_move rfl) (lo_t (lo_osl X163677 (j := 0) rfl O163652) rfl) rfl rfl ?_
    refine spure (v := .int .i64 s163651.2.1) rfl (p_move rfl) (lo_t rfl rfl) rfl rfl ?_
    refine spure (v := .slice a163601 n163601 c163601) rfl (p_move rfl) (lo_t (lo_osl X163677 (j := 0) rfl O163652) rfl) rfl rfl ?_
    refine spure (v := .int .i64 s163651.2.2) rfl (p_move rfl) (lo_t rfl rfl) rfl rfl ?_
    refine spure (v := .slice a163601 n163601 c163601) rfl (p_move rfl) (lo_t (lo_osl X163677 (j := 0) rfl O163652) rfl) rfl rfl ?_
    refine spure (v := .int .i64 s163651.2.2) rfl (p_move rfl) (lo_t rfl rfl) rfl rfl ?_
    refine Sim.bindM fun e163680 he163681 => ?_
    obtain ⟨b163682, vs163682, m163682, off163682, cs163682, rfl, rfl, hp163682, hc163682, hR163682, hl163682, hm163682, hs163682⟩ := OSl.ia O163652 he163681 (kd := .i64) (n := 1) rfl
    have hR163682 : _ = [(.int .i64 e163680 : Value)] := hR163682
    subst hR163682
    refine spure (v := .pointer (some ⟨b163682, off163682, none⟩)) rfl (p_ia rs_33 rfl) (lo_t (lo_osl X163677 (j := 0) rfl O163652) (lo_t rfl rfl)) hp163682 rfl ?_
    refine sload (v := .int .i64 e163680) rfl rfl (q_load wd_3 rfl) (St.ld X163677 (j := 0) rfl (rdE1 hc163682 (k := 0) rfl rfl)) (same_self 20 rfl) rfl ?_
    refine spure (v := .slice a163601 n163601 c163601) rfl (p_move rfl) (lo_t (lo_osl X163677 (j := 0) rfl O163652) rfl) rfl rfl ?_
    refine spure (v := .int .i64 s163651.2.1) rfl (p_move rfl) (lo_t rfl rfl) rfl rfl ?_
    refine Sim.bindM fun e163683 he163684 => ?_
    obtain ⟨off163685, cs163685, hp163685, hc163685, hR163685, hl163685, hm163685, hs163685⟩ := OSl.iaC O163652 he163684 (kd := .i64) (n := 1) rfl
    have hR163685 : _ = [(.int .i64 e163683 : Value)] := hR163685
    subst hR163685
    refine spure (v := .pointer (some ⟨b163682, off163685, none⟩)) rfl (p_ia rs_33 rfl) (lo_t (lo_osl X163677 (j := 0) rfl O163652) (lo_t rfl rfl)) hp163685 rfl ?_
    refine sload (v := .int .i64 e163683) rfl rfl (q_load wd_3 rfl) (St.ld X163677 (j := 0) rfl (rdE1 hc163685 (k := 0) rfl rfl)) (same_self 20 rfl) rfl ?_
    refine Sim.bindM fun e163686 he163687 => ?_
    obtain ⟨off163688, cs163688, hp163688, hc163688, hR163688, hl163688, hm163688, hs163688⟩ := OSl.iaC O163652 he163687 (kd := .i64) (n := 1) rfl
    have hR163688 : _ = [(.int .i64 e163686 : Value)] := hR163688
    subst hR163688
    refine spure (v := .pointer (some ⟨b163682, off163688, none⟩)) rfl (p_ia rs_33 rfl) (lo_t (lo_osl X163677 (j := 0) rfl O163652) (lo_t rfl rfl)) hp163688 rfl ?_
    have O163691 := hs163688 [.int .i64 e163680] (e163680) rfl
    refine sstore rfl rfl ts_3 rfl rfl (j := 0) rfl hm163688 rfl rfl (ble_iff.2 hl163688) rfl X163677 (fun h163689 X163690 => ?_)
    refine Sim.bindM fun e163692 he163693 => ?_
    obtain ⟨off163694, cs163694, hp163694, hc163694, hR163694, hl163694, hm163694, hs163694⟩ := OSl.iaC O163691 he163693 (kd := .i64) (n := 1) rfl
    have hR163694 : _ = [(.int .i64 e163692 : Value)] := hR163694
    subst hR163694
    refine spure (v := .pointer (some ⟨b163682, off163694, none⟩)) rfl (p_ia rs_33 rfl) (lo_t (lo_osl X163690 (j := 0) rfl O163691) (lo_t rfl rfl)) hp163694 rfl ?_
    have O163697 := hs163694 [.int .i64 e163683] (e163683) rfl
    refine sstore rfl rfl ts_3 rfl rfl (j := 0) rfl hm163694 rfl rfl (ble_iff.2 hl163694) rfl X163690 (fun h163695 X163696 => ?_)
    refine send ?_
    refine nblock (nseq (dreg ?_))
    refine lpure (v := .int .i64 s163651.2.1) rfl (p_move rfl) rfl rfl ?_
    refine lpure (v := .int .i64 (w64 (s163651.2.1 + 1))) rfl (p_add rfl) rfl rfl ?_
    refine lpure (v := .int .i64 s163651.2.2) rfl (p_move rfl) rfl rfl ?_
    refine lpure (v := .int .i64 (w64 (s163651.2.2 - 1))) rfl (p_sub rfl) rfl rfl ?_
    refine lpure (v := .int .i64 (w64 (s163651.2.1 + 1))) rfl (p_assign rfl) rfl rfl ?_
    refine lpure (v := .int .i64 (w64 (s163651.2.2 - 1))) rfl (p_assign rfl) rfl rfl ?_
    refine lend ?_
    exact kbackM ih163675 (((s163651.1.set (s163651.2.1).toNat e163680).set (s163651.2.2).toNat e163683), (w64 (s163651.2.1 + 1)), (w64 (s163651.2.2 - 1))) ((.cells (setAt (setAt vs163682 off163688 [.int .i64 e163680]) off163694 [.int .i64 e163683]) 3 m163682)) (sub_cons rfl (sub_cons rfl (sub_cons rfl sub_nil))) ⟨X163696, O163697⟩
  refine dexit (eseq (eloop (xblock ?_)))
  exact kopen_n res_0 ⟨φ, blk163652, (Fz.le_refl _), St.pick X163677 (.keep _ (.refl _)), rfl, O163652⟩
/-! isochron/isochronlaw21.RouteTurns -/
theorem f6_ok {n : Nat} {φ : Fz} {lo : Nat} {h : Heap} {own : OwnL}  {a2 : Option Addr} {n2 c2 : Nat} {a3 : Option Addr} {n3 c3 : Nat} {a4 : Option Addr} {n4 c4 : Nat} {a5 : Option Addr} {n5 c5 : Nat} (X : St φ lo h (own)) (p1 : Isochronref16Draft) (p6 : Int) (p7 : Int) (H2 : RSl (eInt .u8) φ (.slice a2 n2 c2) p1.Chords) (H3 : RSl (eInt .u8) φ (.slice a3 n3 c3) p1.Homes) (H4 : RSl (eInt .u8) φ (.slice a4 n4 c4) p1.Pers) (H5 : RSl (eInt .u8) φ (.slice a5 n5 c5) p1.Delays) : Sim ((recN Try.prog LL cutF (n + 19)).call 6 #[(.agg #[.int .u8 p1.Bridges, .int .u8 p1.Stations, .slice a2 n2 c2, .slice a3 n3 c3, .slice a4 n4 c4, .slice a5 n5 c5]), (.int .u8 p6), (.int .u8 p7)] h) (m_isochronlaw21_RouteTurns p1 p6 p7) (fun (d : Bool) p => p = (.bool d, h)) := by
  refine fcut Try.func6 rfl rfl rfl rfl X ?_
  intro h0 X0
  refine dseq (dreg ?_)
  refine lbox rfl rfl rfl rfl rfl X0 (fun b8 h10 X11 => ?_)
  refine lpure (v := .bool false) rfl (p_assign rfl) rfl rfl ?_
  refine lend (nseq (dseq (dseq (dreg ?_))))
  refine lcall rfl rfl ca_16 rfl rfl (f16_ok X11) rfl (fun e18878 v18879 h18880 hq18881 => ?_)
  cases hq18881
  refine lpure (v := .bool (!e18878)) rfl (p_not rfl) rfl rfl ?_
  refine lend (nseq ?_)
  refine dcond rfl rfl (fun k18882 => ?_) (fun k18882 => ?_)
  · refine dseq (dreg ?_)
    refine lpure (v := .bool false) rfl (p_assign rfl) rfl rfl ?_
    refine lend (nseq (dret (rseq ?_)))
    exact kcut_r (res_1 resT) X11 rfl rfl
  refine dskip (nseq (dseq (dreg ?_)))
  refine lread (v := .agg #[.int .u8 p1.Bridges, .int .u8 p1.Stations, .slice a2 n2 c2, .slice a3 n3 c3, .slice a4 n4 c4, .slice a5 n5 c5]) rfl (q_load wd_24 rfl) (St.ld X11 (j := 0) rfl rfl) rfl ?_
  refine lcall rfl rfl ca_8 rfl rfl (f8_ok X11 p1 H2 H3 H4 H5) rfl ?_
  rintro e161163 _ h161165 ⟨φ161167, a161170, n161170, c161170, a161171, n161171, c161171, ob161171, blk161171, g161168, X161169, rfl, H161170, O161171⟩
  refine lalloc rfl tz_29 rfl rfl rfl X161169 (fun b161173 h161175 X161176 => ?_)
  refine lstore rfl ts_29 rfl rfl (j := 0) rfl rfl rfl rfl rfl rfl X161176 (fun h161177 X161178 => ?_)
  refine lend (nseq (dseq (dreg ?_)))
  refine lread (v := .agg #[.int .i64 e161163.Nodes, .slice a161170 n161170 c161170, .slice a161171 n161171 c161171]) rfl (q_load wd_29 rfl) (St.ld X161178 (j := 0) rfl rfl) rfl ?_
  refine lpure (v := .int .u8 p6) rfl (p_move rfl) rfl rfl ?_
  refine lpure (v := .int .u8 p7) rfl (p_move rfl) rfl rfl ?_
  obtain ⟨φ163400, g163401, X163402, H163403⟩ := OSl.freeze X161178 (j := 1) rfl O161171
  refine lcall rfl rfl ca_17 rfl rfl (f17_ok X163402 e161163 p6 p7 (H161170.mono g163401) H163403) rfl ?_
  rintro e163404 _ h163406 ⟨φ163408, a163411, n163411, c163411, ob163411, blk163411, g163409, X163410, rfl, O163411⟩
  refine lpure (v := .slice a163411 n163411 c163411) rfl (p_assign rfl) rfl rfl ?_
  refine lend (nseq (dseq (dreg ?_)))
  refine lread (v := .agg #[.int .i64 e161163.Nodes, .slice a161170 n161170 c161170, .slice a161171 n161171 c161171]) rfl (q_load wd_29 rfl) (St.ld X163410 (j := 1) rfl rfl) rfl ?_
  refine lpure (v := .slice a163411 n163411 c163411) rfl (p_move rfl) rfl rfl ?_
  obtain ⟨φ163413, g163414, X163415, H163416⟩ := OSl.freeze X163410 (j := 0) rfl O163411
  refine lcall rfl rfl ca_23 rfl rfl (f23_ok X163415 e161163 e163404 (H161170.mono ((g163401.trans g163409).trans g163414)) (H163403.mono (g163409.trans g163414)) H163416) rfl ?_
  rintro e163417 _ h163419 ⟨φ163421, a163424, n163424, c163424, ob163424, blk163424, g163422, X163423, rfl, O163424⟩
  refine lpure (v := .tuple #[.slice a163424 n163424 c163424, .int .i64 e163417.2]) rfl (p_move rfl) rfl rfl ?_
  refine lpure (v := .slice a163424 n163424 c163424) rfl (p_extract rfl) rfl rfl ?_
  refine lpure (v := .int .i64 e163417.2) rfl (p_extract rfl) rfl rfl ?_
  refine lpure (v := .slice a163424 n163424 c163424) rfl (p_assign rfl) rfl rfl ?_
  refine lpure (v := .int .i64 e163417.2) rfl (p_assign rfl) rfl rfl ?_
  refine lend (nseq (dseq (dreg ?_)))
  refine lread (v := .agg #[.int .i64 e161163.Nodes, .slice a161170 n161170 c161170, .slice a161171 n161171 c161171]) rfl (q_load wd_29 rfl) (St.ld X163423 (j := 2) rfl rfl) rfl ?_
  refine lpure (v := .slice a163424 n163424 c163424) rfl (p_move rfl) rfl rfl ?_
  obtain ⟨φ163426, g163427, X163428, H163429⟩ := OSl.freeze X163423 (j := 0) rfl O163424
  refine lcall rfl rfl ca_23 rfl rfl (f23_ok X163428 e161163 (e163417.1) (H161170.mono ((((g163401.trans g163409).trans g163414).trans g163422).trans g163427)) (H163403.mono (((g163409.trans g163414).trans g163422).trans g163427)) H163429) rfl ?_
  rintro e163430 _ h163432 ⟨φ163434, a163437, n163437, c163437, ob163437, blk163437, g163435, X163436, rfl, O163437⟩
  refine lpure (v := .tuple #[.slice a163437 n163437 c163437, .int .i64 e163430.2]) rfl (p_move rfl) rfl rfl ?_
  refine lpure (v := .slice a163437 n163437 c163437) rfl (p_extract rfl) rfl rfl ?_
  refine lpure (v := .int .i64 e163430.2) rfl (p_extract rfl) rfl rfl ?_
  refine lpure (v := .slice a163437 n163437 c163437) rfl (p_assign rfl) rfl rfl ?_
  refine lpure (v := .int .i64 e163430.2) rfl (p_assign rfl) rfl rfl ?_
  refine lend (nseq (dseq (dreg ?_)))
  refine lread (v := .agg #[.int .i64 e161163.Nodes, .slice a161170 n161170 c161170, .slice a161171 n161171 c161171]) rfl (q_load wd_29 rfl) (St.ld X163436 (j := 3) rfl rfl) rfl ?_
  refine lpure (v := .slice a163411 n163411 c163411) rfl (p_move rfl) rfl rfl ?_
  refine lcall rfl rfl ca_24 rfl rfl (f24_ok X163436 e161163 e163404 (H161170.mono (((((g163401.trans g163409).trans g163414).trans g163422).trans g163427).trans g163435)) (H163403.mono ((((g163409.trans g163414).trans g163422).trans g163427).trans g163435)) (H163416.mono ((g163422.trans g163427).trans g163435))) rfl ?_
  rintro e163439 _ h163441 ⟨φ163443, a163446, n163446, c163446, ob163446, blk163446, g163444, X163445, rfl, O163446⟩
  refine lpure (v := .tuple #[.slice a163446 n163446 c163446, .int .i64 e163439.2]) rfl (p_move rfl) rfl rfl ?_
  refine lpure (v := .slice a163446 n163446 c163446) rfl (p_extract rfl) rfl rfl ?_
  refine lpure (v := .int .i64 e163439.2) rfl (p_extract rfl) rfl rfl ?_
  refine lpure (v := .slice a163446 n163446 c163446) rfl (p_assign rfl) rfl rfl ?_
  refine lpure (v := .int .i64 e163439.2) rfl (p_assign rfl) rfl rfl ?_
  refine lend (nseq (dseq (dreg ?_)))
  refine lread (v := .agg #[.int .i64 e161163.Nodes, .slice a161170 n161170 c161170, .slice a161171 n161171 c161171]) rfl (q_load wd_29 rfl) (St.ld X163445 (j := 4) rfl rfl) rfl ?_
  refine lpure (v := .slice a163424 n163424 c163424) rfl (p_move rfl) rfl rfl ?_
  refine lcall rfl rfl ca_24 rfl rfl (f24_ok X163445 e161163 (e163417.1) (H161170.mono ((((((g163401.trans g163409).trans g163414).trans g163422).trans g163427).trans g163435).trans g163444)) (H163403.mono (((((g163409.trans g163414).trans g163422).trans g163427).trans g163435).trans g163444)) (H163429.mono (g163435.trans g163444))) rfl ?_
  rintro e163448 _ h163450 ⟨φ163452, a163455, n163455, c163455, ob163455, blk163455, g163453, X163454, rfl, O163455⟩
  refine lpure (v := .tuple #[.slice a163455 n163455 c163455, .int .i64 e163448.2]) rfl (p_move rfl) rfl rfl ?_
  refine lpure (v := .slice a163455 n163455 c163455) rfl (p_extract rfl) rfl rfl ?_
  refine lpure (v := .int .i64 e163448.2) rfl (p_extract rfl) rfl rfl ?_
  refine lpure (v := .slice a163455 n163455 c163455) rfl (p_assign rfl) rfl rfl ?_
  refine lpure (v := .int .i64 e163448.2) rfl (p_assign rfl) rfl rfl ?_
  refine lend (nseq (dseq (dseq (dreg ?_))))
  refine lpure (v := .int .i64 e163417.2) rfl (p_move rfl) rfl rfl ?_
  refine lpure (v := .bool (decide (e163417.2 ≠ 0))) rfl (p_ne rfl) rfl rfl ?_
  refine lpure (v := .bool (decide (e163417.2 ≠ 0))) rfl (p_move rfl) rfl rfl ?_
  refine lsh (τ := Bool) (σ := Unit) (fun s163458 (_ : Unit) => [(7, .pointer (some ⟨b161173, 0, none⟩)), (8, .slice a163411 n163411 c163411), (9, .slice a163424 n163424 c163424), (11, .slice a163437 n163437 c163437), (13, .slice a163446 n163446 c163446), (14, .int .i64 e163439.2), (15, .slice a163455 n163455 c163455), (16, .int .i64 e163448.2), (61, .bool s163458)]) (fun s163458 (_ : Unit) hh => St φ163452 h.n hh ([(ob163455, blk163455), (ob163446, blk163446), (ob163437, blk163437), (none, .dead), (none, .dead), (some b161173, .cells [.int .i64 e161163.Nodes, .slice a161170 n161170 c161170, .slice a161171 n161171 c161171] 29 .exact), (none, .dead), (some b8, .cells [.int .u8 p1.Bridges, .int .u8 p1.Stations, .slice a2 n2 c2, .slice a3 n3 c3, .slice a4 n4 c4, .slice a5 n5 c5] 24 .exact)])) 3 ?_ ?_
  · rintro s163458 _ t0 h163460 X163459
    refine lpure (v := .bool s163458) rfl (p_move rfl) rfl rfl ?_
    refine lsh (τ := Bool) (σ := Unit) (fun s163462 (_ : Unit) => [(7, .pointer (some ⟨b161173, 0, none⟩)), (8, .slice a163411 n163411 c163411), (9, .slice a163424 n163424 c163424), (11, .slice a163437 n163437 c163437), (13, .slice a163446 n163446 c163446), (15, .slice a163455 n163455 c163455), (16, .int .i64 e163448.2), (65, .bool s163462)]) (fun s163462 (_ : Unit) hh => St φ163452 h.n hh ([(ob163455, blk163455), (ob163446, blk163446), (ob163437, blk163437), (none, .dead), (none, .dead), (some b161173, .cells [.int .i64 e161163.Nodes, .slice a161170 n161170 c161170, .slice a161171 n161171 c161171] 29 .exact), (none, .dead), (some b8, .cells [.int .u8 p1.Bridges, .int .u8 p1.Stations, .slice a2 n2 c2, .slice a3 n3 c3, .slice a4 n4 c4, .slice a5 n5 c5] 24 .exact)])) 3 ?_ ?_
    · rintro s163462 _ t0 h163464 X163463
      refine lpure (v := .bool s163462) rfl (p_move rfl) rfl rfl ?_
      refine lsh (τ := Bool) (σ := Unit) (fun s163466 (_ : Unit) => [(7, .pointer (some ⟨b161173, 0, none⟩)), (8, .slice a163411 n163411 c163411), (9, .slice a163424 n163424 c163424), (11, .slice a163437 n163437 c163437), (13, .slice a163446 n163446 c163446), (15, .slice a163455 n163455 c163455), (69, .bool s163466)]) (fun s163466 (_ : Unit) hh => St φ163452 h.n hh ([(ob163455, blk163455), (ob163446, blk163446), (ob163437, blk163437), (none, .dead), (none, .dead), (some b161173, .cells [.int .i64 e161163.Nodes, .slice a161170 n161170 c161170, .slice a161171 n161171 c161171] 29 .exact), (none, .dead), (some b8, .cells [.int .u8 p1.Bridges, .int .u8 p1.Stations, .slice a2 n2 c2, .slice a3 n3 c3, .slice a4 n4 c4, .slice a5 n5 c5] 24 .exact)])) 3 ?_ ?_
      · rintro s163466 _ t0 h163468 X163467
        refine lpure (v := .bool s163466) rfl (p_move rfl) rfl rfl ?_
        refine ljoinM (τ := Bool) (σ := Unit) (fun s163479 (_ : Unit) => [(7, .pointer (some ⟨b161173, 0, none⟩)), (8, .slice a163411 n163411 c163411), (9, .slice a163424 n163424 c163424), (13, .slice a163446 n163446 c163446), (15, .slice a163455 n163455 c163455), (75, .bool s163479)]) (fun s163479 (_ : Unit) hh => St φ163452 h.n hh ([(ob163455, blk163455), (ob163446, blk163446), (ob163437, blk163437), (none, .dead), (none, .dead), (some b161173, .cells [.int .i64 e161163.Nodes, .slice a161170 n161170 c161170, .slice a161171 n161171 c161171] 29 .exact), (none, .dead), (some b8, .cells [.int .u8 p1.Bridges, .int .u8 p1.Stations, .slice a2 n2 c2, .slice a3 n3 c3, .slice a4 n4 c4, .slice a5 n5 c5] 24 .exact)])) 5 ?_ ?_
        · rintro s163479 _ t0 h163481 X163480
          refine lpure (v := .bool s163479) rfl (p_move rfl) rfl rfl ?_
          refine lsh (τ := Bool) (σ := Unit) (fun s163483 (_ : Unit) => [(7, .pointer (some ⟨b161173, 0, none⟩)), (8, .slice a163411 n163411 c163411), (9, .slice a163424 n163424 c163424), (13, .slice a163446 n163446 c163446), (15, .slice a163455 n163455 c163455), (83, .bool s163483)]) (fun s163483 (_ : Unit) hh => St φ163452 h.n hh ([(ob163455, blk163455), (ob163446, blk163446), (ob163437, blk163437), (none, .dead), (none, .dead), (some b161173, .cells [.int .i64 e161163.Nodes, .slice a161170 n161170 c161170, .slice a161171 n161171 c161171] 29 .exact), (none, .dead), (some b8, .cells [.int .u8 p1.Bridges, .int .u8 p1.Stations, .slice a2 n2 c2, .slice a3 n3 c3, .slice a4 n4 c4, .slice a5 n5 c5] 24 .exact)])) 7 ?_ ?_
          · rintro s163483 _ t0 h163485 X163484
            refine lend (nseq ?_)
            refine dcond rfl rfl (fun k163486 => ?_) (fun k163486 => ?_)
            · refine dseq (dreg ?_)
              refine lpure (v := .bool false) rfl (p_assign rfl) rfl rfl ?_
              refine lend (nseq (dret (rseq ?_)))
              exact kcut_r (res_1 resT) X163484 rfl rfl
            refine dskip (nseq (dseq (dreg ?_)))
            refine lpure (v := .slice a163455 n163455 c163455) rfl (p_move rfl) rfl rfl ?_
            refine lcall rfl rfl ca_26 rfl rfl (f26_ok X163484 (e163448.1) O163455) rfl ?_
            rintro e163699 _ h163701 ⟨φ163703, blk163706, g163704, X163705, rfl, O163706⟩
            refine lend (nseq (dseq (dreg ?_)))
            refine lread (v := .agg #[.int .i64 e161163.Nodes, .slice a161170 n161170 c161170, .slice a161171 n161171 c161171]) rfl (q_load wd_29 rfl) (St.ld X163705 (j := 5) rfl rfl) rfl ?_
            refine lpure (v := .slice a163411 n163411 c163411) rfl (p_move rfl) rfl rfl ?_
            refine lcall rfl rfl ca_19 rfl rfl (f19_ok X163705 e161163 e163404 84 (H161170.mono ((((((((g163401.trans g163409).trans g163414).trans g163422).trans g163427).trans g163435).trans g163444).trans g163453).trans g163704)) (H163403.mono (((((((g163409.trans g163414).trans g163422).trans g163427).trans g163435).trans g163444).trans g163453).trans g163704)) (H163416.mono (((((g163422.trans g163427).trans g163435).trans g163444).trans g163453).trans g163704))) rfl (fun e163707 v163708 h163709 hq163710 => ?_)
            cases hq163710
            refine lpure (v := .tuple #[.int .i64 e163707.1, .int .i64 e163707.2]) rfl (p_move rfl) rfl rfl ?_
            refine lpure (v := .int .i64 e163707.1) rfl (p_extract rfl) rfl rfl ?_
            refine lpure (v := .int .i64 e163707.2) rfl (p_extract rfl) rfl rfl ?_
            refine lpure (v := .int .i64 e163707.1) rfl (p_assign rfl) rfl rfl ?_
            refine lpure (v := .int .i64 e163707.2) rfl (p_assign rfl) rfl rfl ?_
            refine lend (nseq (dseq (dreg ?_)))
            refine lread (v := .agg #[.int .i64 e161163.Nodes, .slice a161170 n161170 c161170, .slice a161171 n161171 c161171]) rfl (q_load wd_29 rfl) (St.ld X163705 (j := 5) rfl rfl) rfl ?_
            refine lpure (v := .slice a163424 n163424 c163424) rfl (p_move rfl) rfl rfl ?_
            refine lcall rfl rfl ca_19 rfl rfl (f19_ok X163705 e161163 (e163417.1) 84 (H161170.mono ((((((((g163401.trans g163409).trans g163414).trans g163422).trans g163427).trans g163435).trans g163444).trans g163453).trans g163704)) (H163403.mono (((((((g163409.trans g163414).trans g163422).trans g163427).trans g163435).trans g163444).trans g163453).trans g163704)) (H163429.mono (((g163435.trans g163444).trans g163453).trans g163704))) rfl (fun e163711 v163712 h163713 hq163714 => ?_)
            cases hq163714
            refine lpure (v := .tuple #[.int .i64 e163711.1, .int .i64 e163711.2]) rfl (p_move rfl) rfl rfl ?_
            refine lpure (v := .int .i64 e163711.1) rfl (p_extract rfl) rfl rfl ?_
            refine lpure (v := .int .i64 e163711.2) rfl (p_extract rfl) rfl rfl ?_
            refine lpure (v := .int .i64 e163711.1) rfl (p_assign rfl) rfl rfl ?_
            refine lpure (v := .int .i64 e163711.2) rfl (p_assign rfl) rfl rfl ?_
            refine lend (nseq (dseq (dreg ?_)))
            refine lread (v := .agg #[.int .i64 e161163.Nodes, .slice a161170 n161170 c161170, .slice a161171 n161171 c161171]) rfl (q_load wd_29 rfl) (St.ld X163705 (j := 5) rfl rfl) rfl ?_
            refine lpure (v := .slice a163411 n163411 c163411) rfl (p_move rfl) rfl rfl ?_
            obtain ⟨h163715, b163715, hv163715, X163715, O163715⟩ := OSl.lay (E := (eSl (eInt .i64))) (φ := φ163703) (cs := [.slice a163411 n163411 c163411]) (l := [e163404]) (len := 1) (parts := [(0, .slice a163411 n163411 c163411)]) un_59 ts_42 rfl rfl rfl tz_42 rfl rfl (show RowD (eSl (eInt .i64)) φ163703 [.slice a163411 n163411 c163411] [e163404] from ⟨[.slice a163411 n163411 c163411], _, rfl, ⟨_, _, _, rfl, (H163416.mono (((((g163422.trans g163427).trans g163435).trans g163444).trans g163453).trans g163704))⟩, rfl⟩) rfl rfl X163705
            refine lheap rfl (h_buildSlice rfl) hv163715 rfl ?_
            obtain ⟨φ163717, g163718, X163719, H163720⟩ := OSl.freeze X163715 (j := 0) rfl O163715
            refine lcall rfl rfl ca_27 rfl rfl (f27_ok X163719 e161163 ([e163404]) (H161170.mono (((((((((g163401.trans g163409).trans g163414).trans g163422).trans g163427).trans g163435).trans g163444).trans g163453).trans g163704).trans g163718)) (H163403.mono ((((((((g163409.trans g163414).trans g163422).trans g163427).trans g163435).trans g163444).trans g163453).trans g163704).trans g163718)) H163720) rfl ?_
            rintro e163721 _ h163723 ⟨φ163725, a163728, n163728, c163728, ob163728, blk163728, g163726, X163727, rfl, O163728⟩
            refine lpure (v := .tuple #[.slice a163728 n163728 c163728, .bool e163721.2.1, .int .i64 e163721.2.2]) rfl (p_move rfl) rfl rfl ?_
            refine lpure (v := .slice a163728 n163728 c163728) rfl (p_extract rfl) rfl rfl ?_
            refine lpure (v := .bool e163721.2.1) rfl (p_extract rfl) rfl rfl ?_
            refine lpure (v := .int .i64 e163721.2.2) rfl (p_extract rfl) rfl rfl ?_
            refine lpure (v := .slice a163728 n163728 c163728) rfl (p_assign rfl) rfl rfl ?_
            refine lpure (v := .bool e163721.2.1) rfl (p_assign rfl) rfl rfl ?_
            refine lpure (v := .int .i64 e163721.2.2) rfl (p_assign rfl) rfl rfl ?_
            refine lend (nseq (dseq (dreg ?_)))
            refine lpure (v := .slice a163446 n163446 c163446) rfl (p_move rfl) rfl rfl ?_
            refine lpure (v := .slice a163455 n163455 c163455) rfl (p_move rfl) rfl rfl ?_
            obtain ⟨φ163730, g163731, X163732, H163733⟩ := OSl.freeze X163727 (j := 3) rfl (O163446.mono (((g163453.trans g163704).trans g163718).trans g163726))
            obtain ⟨φ163734, g163735, X163736, H163737⟩ := OSl.freeze X163732 (j := 2) rfl (O163706.mono ((g163718.trans g163726).trans g163731))
            refine lcall rfl rfl ca_28 rfl rfl (f28_ok X163736 (e163439.1) e163699 (H163733.mono g163735) H163737) rfl (fun e163738 v163739 h163740 hq163741 => ?_)
            cases hq163741
            refine lpure (v := .bool e163738) rfl (p_move rfl) rfl rfl ?_
            refine lsh (τ := Bool) (σ := Unit) (fun s163743 (_ : Unit) => [(8, .slice a163411 n163411 c163411), (17, .int .i64 e163707.1), (19, .int .i64 e163711.1), (20, .int .i64 e163711.2), (21, .slice a163728 n163728 c163728), (22, .bool e163721.2.1), (23, .int .i64 e163721.2.2), (112, .bool s163743)]) (fun s163743 (_ : Unit) hh => St φ163725 h.n hh ([(ob163728, blk163728), (none, .dead), (ob163455, blk163706), (ob163446, blk163446), (ob163437, blk163437), (none, .dead), (none, .dead), (some b161173, .cells [.int .i64 e161163.Nodes, .slice a161170 n161170 c161170, .slice a161171 n161171 c161171] 29 .exact), (none, .dead), (some b8, .cells [.int .u8 p1.Bridges, .int .u8 p1.Stations, .slice a2 n2 c2, .slice a3 n3 c3, .slice a4 n4 c4, .slice a5 n5 c5] 24 .exact)])) 3 ?_ ?_
            · rintro s163743 _ t0 h163745 X163744
              refine lpure (v := .bool s163743) rfl (p_move rfl) rfl rfl ?_
              refine lsh (τ := Bool) (σ := Unit) (fun s163747 (_ : Unit) => [(8, .slice a163411 n163411 c163411), (17, .int .i64 e163707.1), (19, .int .i64 e163711.1), (21, .slice a163728 n163728 c163728), (22, .bool e163721.2.1), (23, .int .i64 e163721.2.2), (116, .bool s163747)]) (fun s163747 (_ : Unit) hh => St φ163725 h.n hh ([(ob163728, blk163728), (none, .dead), (ob163455, blk163706), (ob163446, blk163446), (ob163437, blk163437), (none, .dead), (none, .dead), (some b161173, .cells [.int .i64 e161163.Nodes, .slice a161170 n161170 c161170, .slice a161171 n161171 c161171] 29 .exact), (none, .dead), (some b8, .cells [.int .u8 p1.Bridges, .int .u8 p1.Stations, .slice a2 n2 c2, .slice a3 n3 c3, .slice a4 n4 c4, .slice a5 n5 c5] 24 .exact)])) 3 ?_ ?_
              · rintro s163747 _ t0 h163749 X163748
                refine lpure (v := .bool s163747) rfl (p_move rfl) rfl rfl ?_
                refine lsh (τ := Bool) (σ := Unit) (fun s163751 (_ : Unit) => [(8, .slice a163411 n163411 c163411), (21, .slice a163728 n163728 c163728), (22, .bool e163721.2.1), (23, .int .i64 e163721.2.2), (121, .bool s163751)]) (fun s163751 (_ : Unit) hh => St φ163725 h.n hh ([(ob163728, blk163728), (none, .dead), (ob163455, blk163706), (ob163446, blk163446), (ob163437, blk163437), (none, .dead), (none, .dead), (some b161173, .cells [.int .i64 e161163.Nodes, .slice a161170 n161170 c161170, .slice a161171 n161171 c161171] 29 .exact), (none, .dead), (some b8, .cells [.int .u8 p1.Bridges, .int .u8 p1.Stations, .slice a2 n2 c2, .slice a3 n3 c3, .slice a4 n4 c4, .slice a5 n5 c5] 24 .exact)])) 4 ?_ ?_
                · rintro s163751 _ t0 h163753 X163752
                  refine lpure (v := .bool s163751) rfl (p_move rfl) rfl rfl ?_
                  refine lsh (τ := Bool) (σ := Unit) (fun s163755 (_ : Unit) => [(8, .slice a163411 n163411 c163411), (21, .slice a163728 n163728 c163728), (22, .bool e163721.2.1), (125, .bool s163755)]) (fun s163755 (_ : Unit) hh => St φ163725 h.n hh ([(ob163728, blk163728), (none, .dead), (ob163455, blk163706), (ob163446, blk163446), (ob163437, blk163437), (none, .dead), (none, .dead), (some b161173, .cells [.int .i64 e161163.Nodes, .slice a161170 n161170 c161170, .slice a161171 n161171 c161171] 29 .exact), (none, .dead), (some b8, .cells [.int .u8 p1.Bridges, .int .u8 p1.Stations, .slice a2 n2 c2, .slice a3 n3 c3, .slice a4 n4 c4, .slice a5 n5 c5] 24 .exact)])) 3 ?_ ?_
                  · rintro s163755 _ t0 h163757 X163756
                    refine lpure (v := .bool s163755) rfl (p_move rfl) rfl rfl ?_
                    refine lsh (τ := Bool) (σ := Unit) (fun s163759 (_ : Unit) => [(8, .slice a163411 n163411 c163411), (21, .slice a163728 n163728 c163728), (128, .bool s163759)]) (fun s163759 (_ : Unit) hh => St φ163725 h.n hh ([(ob163728, blk163728), (none, .dead), (ob163455, blk163706), (ob163446, blk163446), (ob163437, blk163437), (none, .dead), (none, .dead), (some b161173, .cells [.int .i64 e161163.Nodes, .slice a161170 n161170 c161170, .slice a161171 n161171 c161171] 29 .exact), (none, .dead), (some b8, .cells [.int .u8 p1.Bridges, .int .u8 p1.Stations, .slice a2 n2 c2, .slice a3 n3 c3, .slice a4 n4 c4, .slice a5 n5 c5] 24 .exact)])) 2 ?_ ?_
                    · rintro s163759 _ t0 h163761 X163760
                      refine lpure (v := .bool s163759) rfl (p_move rfl) rfl rfl ?_
                      refine lsh (τ := Bool) (σ := Unit) (fun s163763 (_ : Unit) => [(135, .bool s163763)]) (fun s163763 (_ : Unit) hh => St φ163725 h.n hh ([(ob163728, blk163728), (none, .dead), (ob163455, blk163706), (ob163446, blk163446), (ob163437, blk163437), (none, .dead), (none, .dead), (some b161173, .cells [.int .i64 e161163.Nodes, .slice a161170 n161170 c161170, .slice a161171 n161171 c161171] 29 .exact), (none, .dead), (some b8, .cells [.int .u8 p1.Bridges, .int .u8 p1.Stations, .slice a2 n2 c2, .slice a3 n3 c3, .slice a4 n4 c4, .slice a5 n5 c5] 24 .exact)])) 6 ?_ ?_
                      · rintro s163763 _ t0 h163765 X163764
                        refine lpure (v := .bool s163763) rfl (p_assign rfl) rfl rfl ?_
                        refine lend (nseq (dret ?_))
                        exact kcut_r (res_1 resT) X163764 rfl rfl
                      intro j163766 J163767
                      refine lcase (i := 129) (show _ = Value.bool s163759 from rfl) (fun k163768 => ?_) (fun k163768 => ?_)
                      · refine lpure (v := .slice a163728 n163728 c163728) rfl (p_move rfl) rfl rfl ?_
                        refine lpure (v := .int .i64 (e163721.1.length : Int)) rfl (p_len rfl rfl rfl un_33 rfl) (OSl.len O163728) rfl ?_
                        refine lpure (v := .slice a163411 n163411 c163411) rfl (p_move rfl) rfl rfl ?_
                        refine lpure (v := .int .i64 (e163404.length : Int)) rfl (p_len rfl rfl rfl un_42 rfl) (RSl.lenC (H163416.mono (((((((g163422.trans g163427).trans g163435).trans g163444).trans g163453).trans g163704).trans g163718).trans g163726))) rfl ?_
                        refine lpure (v := .bool (decide ((e163721.1.length : Int) = (e163404.length : Int)))) rfl (p_eq rfl) rfl rfl ?_
                        refine lpure (v := .bool (decide ((e163721.1.length : Int) = (e163404.length : Int)))) rfl (p_pick rfl) rfl rfl ?_
                        refine Sim.of_eq (congrArg j163766 (show (s163759 && (decide ((e163721.1.length : Int) = (e163404.length : Int)))) = (decide ((e163721.1.length : Int) = (e163404.length : Int))) from by rw [k163768] <;> rfl)) ?_
                        exact ljmpM J163767 (decide ((e163721.1.length : Int) = (e163404.length : Int))) () (sub_cons rfl sub_nil) (St.pick X163760 (.keep _ (.none _ (.skip _ (.keep _ (.keep _ (.keep _ (.none _ (.none _ (.skip _ (.skip _ (.keep _ (.none _ (.skip _ (.keep _ (.nil _))))))))))))))))
                      refine lskip rfl rfl ?_
                      refine lskip rfl rfl ?_
                      refine lskip rfl rfl ?_
                      refine lskip rfl rfl ?_
                      refine lskip rfl rfl ?_
                      refine lpure (v := .bool false) rfl (p_pick rfl) rfl rfl ?_
                      refine Sim.of_eq (congrArg j163766 (show (s163759 && (decide ((e163721.1.length : Int) = (e163404.length : Int)))) = false from by rw [k163768] <;> rfl)) ?_
                      exact ljmpM J163767 false () (sub_cons rfl sub_nil) (St.pick X163760 (.keep _ (.none _ (.skip _ (.keep _ (.keep _ (.keep _ (.none _ (.none _ (.skip _ (.skip _ (.keep _ (.none _ (.skip _ (.keep _ (.nil _))))))))))))))))
                    intro j163769 J163770
                    refine lcase (i := 126) (show _ = Value.bool s163755 from rfl) (fun k163771 => ?_) (fun k163771 => ?_)
                    · refine lpure (v := .bool e163721.2.1) rfl (p_move rfl) rfl rfl ?_
                      refine lpure (v := .bool e163721.2.1) rfl (p_pick rfl) rfl rfl ?_
                      refine Sim.of_eq (congrArg j163769 (show (s163755 && e163721.2.1) = e163721.2.1 from by rw [k163771] <;> rfl)) ?_
                      exact ljmpM J163770 e163721.2.1 () (sub_cons rfl (sub_cons rfl (sub_cons rfl sub_nil))) (St.pick X163756 (.keep _ (.none _ (.skip _ (.keep _ (.keep _ (.keep _ (.none _ (.none _ (.skip _ (.skip _ (.keep _ (.none _ (.skip _ (.keep _ (.nil _))))))))))))))))
                    refine lskip rfl rfl ?_
                    refine lpure (v := .bool false) rfl (p_pick rfl) rfl rfl ?_
                    refine Sim.of_eq (congrArg j163769 (show (s163755 && e163721.2.1) = false from by rw [k163771] <;> rfl)) ?_
                    exact ljmpM J163770 false () (sub_cons rfl (sub_cons rfl (sub_cons rfl sub_nil))) (St.pick X163756 (.keep _ (.none _ (.skip _ (.keep _ (.keep _ (.keep _ (.none _ (.none _ (.skip _ (.skip _ (.keep _ (.none _ (.skip _ (.keep _ (.nil _))))))))))))))))
                  intro j163772 J163773
                  refine lcase (i := 122) (show _ = Value.bool s163751 from rfl) (fun k163774 => ?_) (fun k163774 => ?_)
                  · refine lpure (v := .int .i64 e163721.2.2) rfl (p_move rfl) rfl rfl ?_
                    refine lpure (v := .bool (decide (e163721.2.2 = 0))) rfl (p_eq rfl) rfl rfl ?_
                    refine lpure (v := .bool (decide (e163721.2.2 = 0))) rfl (p_pick rfl) rfl rfl ?_
                    refine Sim.of_eq (congrArg j163772 (show (s163751 && (decide (e163721.2.2 = 0))) = (decide (e163721.2.2 = 0)) from by rw [k163774] <;> rfl)) ?_
                    exact ljmpM J163773 (decide (e163721.2.2 = 0)) () (sub_cons rfl (sub_cons rfl (sub_cons rfl (sub_cons rfl sub_nil)))) (St.pick X163752 (.keep _ (.none _ (.skip _ (.keep _ (.keep _ (.keep _ (.none _ (.none _ (.skip _ (.skip _ (.keep _ (.none _ (.skip _ (.keep _ (.nil _))))))))))))))))
                  refine lskip rfl rfl ?_
                  refine lskip rfl rfl ?_
                  refine lpure (v := .bool false) rfl (p_pick rfl) rfl rfl ?_
                  refine Sim.of_eq (congrArg j163772 (show (s163751 && (decide (e163721.2.2 = 0))) = false from by rw [k163774] <;> rfl)) ?_
                  exact ljmpM J163773 false () (sub_cons rfl (sub_cons rfl (sub_cons rfl (sub_cons rfl sub_nil)))) (St.pick X163752 (.keep _ (.none _ (.skip _ (.keep _ (.keep _ (.keep _ (.none _ (.none _ (.skip _ (.skip _ (.keep _ (.none _ (.skip _ (.keep _ (.nil _))))))))))))))))
                intro j163775 J163776
                refine lcase (i := 117) (show _ = Value.bool s163747 from rfl) (fun k163777 => ?_) (fun k163777 => ?_)
                · refine lpure (v := .int .i64 e163707.1) rfl (p_move rfl) rfl rfl ?_
                  refine lpure (v := .int .i64 e163711.1) rfl (p_move rfl) rfl rfl ?_
                  refine lpure (v := .bool (decide (e163707.1 = e163711.1))) rfl (p_eq rfl) rfl rfl ?_
                  refine lpure (v := .bool (decide (e163707.1 = e163711.1))) rfl (p_pick rfl) rfl rfl ?_
                  refine Sim.of_eq (congrArg j163775 (show (s163747 && (decide (e163707.1 = e163711.1))) = (decide (e163707.1 = e163711.1)) from by rw [k163777] <;> rfl)) ?_
                  exact ljmpM J163776 (decide (e163707.1 = e163711.1)) () (sub_cons rfl (sub_cons rfl (sub_cons rfl (sub_cons rfl (sub_cons rfl sub_nil))))) (St.pick X163748 (.keep _ (.none _ (.skip _ (.keep _ (.keep _ (.keep _ (.none _ (.none _ (.skip _ (.skip _ (.keep _ (.none _ (.skip _ (.keep _ (.nil _))))))))))))))))
                refine lskip rfl rfl ?_
                refine lskip rfl rfl ?_
                refine lskip rfl rfl ?_
                refine lpure (v := .bool false) rfl (p_pick rfl) rfl rfl ?_
                refine Sim.of_eq (congrArg j163775 (show (s163747 && (decide (e163707.1 = e163711.1))) = false from by rw [k163777] <;> rfl)) ?_
                exact ljmpM J163776 false () (sub_cons rfl (sub_cons rfl (sub_cons rfl (sub_cons rfl (sub_cons rfl sub_nil))))) (St.pick X163748 (.keep _ (.none _ (.skip _ (.keep _ (.keep _ (.keep _ (.none _ (.none _ (.skip _ (.skip _ (.keep _ (.none _ (.skip _ (.keep _ (.nil _))))))))))))))))
              intro j163778 J163779
              refine lcase (i := 113) (show _ = Value.bool s163743 from rfl) (fun k163780 => ?_) (fun k163780 => ?_)
              · refine lpure (v := .int .i64 e163711.2) rfl (p_move rfl) rfl rfl ?_
                refine lpure (v := .bool (decide (e163711.2 = 0))) rfl (p_eq rfl) rfl rfl ?_
                refine lpure (v := .bool (decide (e163711.2 = 0))) rfl (p_pick rfl) rfl rfl ?_
                refine Sim.of_eq (congrArg j163778 (show (s163743 && (decide (e163711.2 = 0))) = (decide (e163711.2 = 0)) from by rw [k163780] <;> rfl)) ?_
                exact ljmpM J163779 (decide (e163711.2 = 0)) () (sub_cons rfl (sub_cons rfl (sub_cons rfl (sub_cons rfl (sub_cons rfl (sub_cons rfl (sub_cons rfl sub_nil))))))) (St.pick X163744 (.keep _ (.none _ (.skip _ (.keep _ (.keep _ (.keep _ (.none _ (.none _ (.skip _ (.skip _ (.keep _ (.none _ (.skip _ (.keep _ (.nil _))))))))))))))))
              refine lskip rfl rfl ?_
              refine lskip rfl rfl ?_
              refine lpure (v := .bool false) rfl (p_pick rfl) rfl rfl ?_
              refine Sim.of_eq (congrArg j163778 (show (s163743 && (decide (e163711.2 = 0))) = false from by rw [k163780] <;> rfl)) ?_
              exact ljmpM J163779 false () (sub_cons rfl (sub_cons rfl (sub_cons rfl (sub_cons rfl (sub_cons rfl (sub_cons rfl (sub_cons rfl sub_nil))))))) (St.pick X163744 (.keep _ (.none _ (.skip _ (.keep _ (.keep _ (.keep _ (.none _ (.none _ (.skip _ (.skip _ (.keep _ (.none _ (.skip _ (.keep _ (.nil _))))))))))))))))
            intro j163781 J163782
            refine lcase (i := 109) (show _ = Value.bool e163738 from rfl) (fun k163783 => ?_) (fun k163783 => ?_)
            · refine lpure (v := .int .i64 e163707.2) rfl (p_move rfl) rfl rfl ?_
              refine lpure (v := .bool (decide (e163707.2 = 0))) rfl (p_eq rfl) rfl rfl ?_
              refine lpure (v := .bool (decide (e163707.2 = 0))) rfl (p_pick rfl) rfl rfl ?_
              refine Sim.of_eq (congrArg j163781 (show (e163738 && (decide (e163707.2 = 0))) = (decide (e163707.2 = 0)) from by rw [k163783] <;> rfl)) ?_
              exact ljmpM J163782 (decide (e163707.2 = 0)) () (sub_cons rfl (sub_cons rfl (sub_cons rfl (sub_cons rfl (sub_cons rfl (sub_cons rfl (sub_cons rfl (sub_cons rfl sub_nil)))))))) (St.pick X163727 (.keep _ (.none _ (.skip _ (.keep _ (.keep _ (.keep _ (.none _ (.none _ (.skip _ (.skip _ (.keep _ (.none _ (.skip _ (.keep _ (.nil _))))))))))))))))
            refine lskip rfl rfl ?_
            refine lskip rfl rfl ?_
            refine lpure (v := .bool false) rfl (p_pick rfl) rfl rfl ?_
            refine Sim.of_eq (congrArg j163781 (show (e163738 && (decide (e163707.2 = 0))) = false from by rw [k163783] <;> rfl)) ?_
            exact ljmpM J163782 false () (sub_cons rfl (sub_cons rfl (sub_cons rfl (sub_cons rfl (sub_cons rfl (sub_cons rfl (sub_cons rfl (sub_cons rfl sub_nil)))))))) (St.pick X163727 (.keep _ (.none _ (.skip _ (.keep _ (.keep _ (.keep _ (.none _ (.none _ (.skip _ (.skip _ (.keep _ (.none _ (.skip _ (.keep _ (.nil _))))))))))))))))
          intro j163784 J163785
          refine lcase (i := 76) (show _ = Value.bool s163479 from rfl) (fun k163786 => ?_) (fun k163786 => ?_)
          · refine lskip rfl rfl ?_
            refine lskip rfl rfl ?_
            refine lskip rfl rfl ?_
            refine lskip rfl rfl ?_
            refine lskip rfl rfl ?_
            refine lskip rfl rfl ?_
            refine lpure (v := .bool true) rfl (p_pick rfl) rfl rfl ?_
            refine Sim.of_eq (congrArg j163784 (show (s163479 || (decide ((e163439.1.length : Int) ≠ (w64 ((e163404.length : Int) + 1))))) = true from by rw [k163786] <;> rfl)) ?_
            exact ljmpM J163785 true () (sub_cons rfl (sub_cons rfl (sub_cons rfl (sub_cons rfl (sub_cons rfl (sub_cons rfl sub_nil)))))) (St.pick X163480 (.keep _ (.keep _ (.keep _ (.none _ (.none _ (.skip _ (.skip _ (.keep _ (.none _ (.skip _ (.keep _ (.nil _)))))))))))))
          refine lpure (v := .slice a163446 n163446 c163446) rfl (p_move rfl) rfl rfl ?_
          refine lpure (v := .int .i64 (e163439.1.length : Int)) rfl (p_len rfl rfl rfl un_33 rfl) (OSl.len (O163446.mono g163453)) rfl ?_
          refine lpure (v := .slice a163411 n163411 c163411) rfl (p_move rfl) rfl rfl ?_
          refine lpure (v := .int .i64 (e163404.length : Int)) rfl (p_len rfl rfl rfl un_42 rfl) (RSl.lenC (H163416.mono ((((g163422.trans g163427).trans g163435).trans g163444).trans g163453))) rfl ?_
          refine lpure (v := .int .i64 (w64 ((e163404.length : Int) + 1))) rfl (p_add rfl) rfl rfl ?_
          refine lpure (v := .bool (decide ((e163439.1.length : Int) ≠ (w64 ((e163404.length : Int) + 1))))) rfl (p_ne rfl) rfl rfl ?_
          refine lpure (v := .bool (decide ((e163439.1.length : Int) ≠ (w64 ((e163404.length : Int) + 1))))) rfl (p_pick rfl) rfl rfl ?_
          refine Sim.of_eq (congrArg j163784 (show (s163479 || (decide ((e163439.1.length : Int) ≠ (w64 ((e163404.length : Int) + 1))))) = (decide ((e163439.1.length : Int) ≠ (w64 ((e163404.length : Int) + 1)))) from by rw [k163786] <;> rfl)) ?_
          exact ljmpM J163785 (decide ((e163439.1.length : Int) ≠ (w64 ((e163404.length : Int) + 1)))) () (sub_cons rfl (sub_cons rfl (sub_cons rfl (sub_cons rfl (sub_cons rfl (sub_cons rfl sub_nil)))))) (St.pick X163480 (.keep _ (.keep _ (.keep _ (.none _ (.none _ (.skip _ (.skip _ (.keep _ (.none _ (.skip _ (.keep _ (.nil _)))))))))))))
        intro j163787 J163788
        refine lif (i := 70) (show _ = Value.bool s163466 from rfl) (fun k163789 => ?_) (fun k163789 => ?_)
        · refine lskip rfl rfl ?_
          refine lskip rfl rfl ?_
          refine lskip rfl rfl ?_
          refine lskip rfl rfl ?_
          refine lpure (v := .bool true) rfl (p_pick rfl) rfl rfl ?_
          exact ljmpM J163788 true () (sub_cons rfl (sub_cons rfl (sub_cons rfl (sub_cons rfl (sub_cons rfl (sub_cons rfl sub_nil)))))) (St.pick X163467 (.keep _ (.keep _ (.keep _ (.none _ (.none _ (.skip _ (.skip _ (.keep _ (.none _ (.skip _ (.keep _ (.nil _)))))))))))))
        refine lpure (v := .slice a163437 n163437 c163437) rfl (p_move rfl) rfl rfl ?_
        refine lpure (v := .slice a163411 n163411 c163411) rfl (p_move rfl) rfl rfl ?_
        obtain ⟨φ163790, g163791, X163792, H163793⟩ := OSl.freeze X163467 (j := 2) rfl (O163437.mono (g163444.trans g163453))
        refine lcall rfl rfl ca_25 rfl rfl (f25_ok X163792 (e163430.1) e163404 H163793 (H163416.mono (((((g163422.trans g163427).trans g163435).trans g163444).trans g163453).trans g163791))) rfl (fun e163794 v163795 h163796 hq163797 => ?_)
        cases hq163797
        refine lpure (v := .bool (!e163794)) rfl (p_not rfl) rfl rfl ?_
        refine lpure (v := .bool (!e163794)) rfl (p_pick rfl) rfl rfl ?_
        exact ljmpM J163788 (!e163794) () (sub_cons rfl (sub_cons rfl (sub_cons rfl (sub_cons rfl (sub_cons rfl (sub_cons rfl sub_nil)))))) (St.pick X163467 (.keep _ (.keep _ (.keep _ (.none _ (.none _ (.skip _ (.skip _ (.keep _ (.none _ (.skip _ (.keep _ (.nil _)))))))))))))
      intro j163798 J163799
      refine lcase (i := 66) (show _ = Value.bool s163462 from rfl) (fun k163800 => ?_) (fun k163800 => ?_)
      · refine lskip rfl rfl ?_
        refine lskip rfl rfl ?_
        refine lpure (v := .bool true) rfl (p_pick rfl) rfl rfl ?_
        refine Sim.of_eq (congrArg j163798 (show (s163462 || (decide (e163448.2 ≠ 0))) = true from by rw [k163800] <;> rfl)) ?_
        exact ljmpM J163799 true () (sub_cons rfl (sub_cons rfl (sub_cons rfl (sub_cons rfl (sub_cons rfl (sub_cons rfl (sub_cons rfl sub_nil))))))) (St.pick X163463 (.keep _ (.keep _ (.keep _ (.none _ (.none _ (.skip _ (.skip _ (.keep _ (.none _ (.skip _ (.keep _ (.nil _)))))))))))))
      refine lpure (v := .int .i64 e163448.2) rfl (p_move rfl) rfl rfl ?_
      refine lpure (v := .bool (decide (e163448.2 ≠ 0))) rfl (p_ne rfl) rfl rfl ?_
      refine lpure (v := .bool (decide (e163448.2 ≠ 0))) rfl (p_pick rfl) rfl rfl ?_
      refine Sim.of_eq (congrArg j163798 (show (s163462 || (decide (e163448.2 ≠ 0))) = (decide (e163448.2 ≠ 0)) from by rw [k163800] <;> rfl)) ?_
      exact ljmpM J163799 (decide (e163448.2 ≠ 0)) () (sub_cons rfl (sub_cons rfl (sub_cons rfl (sub_cons rfl (sub_cons rfl (sub_cons rfl (sub_cons rfl sub_nil))))))) (St.pick X163463 (.keep _ (.keep _ (.keep _ (.none _ (.none _ (.skip _ (.skip _ (.keep _ (.none _ (.skip _ (.keep _ (.nil _)))))))))))))
    intro j163801 J163802
    refine lcase (i := 62) (show _ = Value.bool s163458 from rfl) (fun k163803 => ?_) (fun k163803 => ?_)
    · refine lskip rfl rfl ?_
      refine lskip rfl rfl ?_
      refine lpure (v := .bool true) rfl (p_pick rfl) rfl rfl ?_
      refine Sim.of_eq (congrArg j163801 (show (s163458 || (decide (e163439.2 ≠ 0))) = true from by rw [k163803] <;> rfl)) ?_
      exact ljmpM J163802 true () (sub_cons rfl (sub_cons rfl (sub_cons rfl (sub_cons rfl (sub_cons rfl (sub_cons rfl (sub_cons rfl (sub_cons rfl sub_nil)))))))) (St.pick X163459 (.keep _ (.keep _ (.keep _ (.none _ (.none _ (.skip _ (.skip _ (.keep _ (.none _ (.skip _ (.keep _ (.nil _)))))))))))))
    refine lpure (v := .int .i64 e163439.2) rfl (p_move rfl) rfl rfl ?_
    refine lpure (v := .bool (decide (e163439.2 ≠ 0))) rfl (p_ne rfl) rfl rfl ?_
    refine lpure (v := .bool (decide (e163439.2 ≠ 0))) rfl (p_pick rfl) rfl rfl ?_
    refine Sim.of_eq (congrArg j163801 (show (s163458 || (decide (e163439.2 ≠ 0))) = (decide (e163439.2 ≠ 0)) from by rw [k163803] <;> rfl)) ?_
    exact ljmpM J163802 (decide (e163439.2 ≠ 0)) () (sub_cons rfl (sub_cons rfl (sub_cons rfl (sub_cons rfl (sub_cons rfl (sub_cons rfl (sub_cons rfl (sub_cons rfl sub_nil)))))))) (St.pick X163459 (.keep _ (.keep _ (.keep _ (.none _ (.none _ (.skip _ (.skip _ (.keep _ (.none _ (.skip _ (.keep _ (.nil _)))))))))))))
  intro j163804 J163805
  refine lcase (i := 58) (show _ = Value.bool (decide (e163417.2 ≠ 0)) from rfl) (fun k163806 => ?_) (fun k163806 => ?_)
  · refine lskip rfl rfl ?_
    refine lskip rfl rfl ?_
    refine lpure (v := .bool true) rfl (p_pick rfl) rfl rfl ?_
    refine Sim.of_eq (congrArg j163804 (show ((decide (e163417.2 ≠ 0)) || (decide (e163430.2 ≠ 0))) = true from by rw [k163806] <;> rfl)) ?_
    exact ljmpM J163805 true () (sub_cons rfl (sub_cons rfl (sub_cons rfl (sub_cons rfl (sub_cons rfl (sub_cons rfl (sub_cons rfl (sub_cons rfl (sub_cons rfl sub_nil))))))))) (St.pick X163454 (.keep _ (.keep _ (.keep _ (.none _ (.none _ (.skip _ (.skip _ (.keep _ (.none _ (.skip _ (.keep _ (.nil _)))))))))))))
  refine lpure (v := .int .i64 e163430.2) rfl (p_move rfl) rfl rfl ?_
  refine lpure (v := .bool (decide (e163430.2 ≠ 0))) rfl (p_ne rfl) rfl rfl ?_
  refine lpure (v := .bool (decide (e163430.2 ≠ 0))) rfl (p_pick rfl) rfl rfl ?_
  refine Sim.of_eq (congrArg j163804 (show ((decide (e163417.2 ≠ 0)) || (decide (e163430.2 ≠ 0))) = (decide (e163430.2 ≠ 0)) from by rw [k163806] <;> rfl)) ?_
  exact ljmpM J163805 (decide (e163430.2 ≠ 0)) () (sub_cons rfl (sub_cons rfl (sub_cons rfl (sub_cons rfl (sub_cons rfl (sub_cons rfl (sub_cons rfl (sub_cons rfl (sub_cons rfl sub_nil))))))))) (St.pick X163454 (.keep _ (.keep _ (.keep _ (.none _ (.none _ (.skip _ (.skip _ (.keep _ (.none _ (.skip _ (.keep _ (.nil _)))))))))))))
end Go.AM
