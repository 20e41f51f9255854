/- Printed: functions of the given program as functions over plain data, and that the machine does what they say; no claim of its own; no condition. -/
import Derived.Test.YtlkddekecegfdaaGpOk2
set_option maxRecDepth 100000
set_option maxHeartbeats 4000000
set_option linter.unusedVariables false
set_option linter.unusedSimpArgs false
namespace Go.AM
open Go Go.Proofs

/-! (isochron/isochronref16.Draft).Topo -/
theorem f8_ok {n : Nat} {φ : Fz} {lo : Nat} {h : Heap} {own : OwnL}  {a90278 : Option Addr} {n90278 c90278 : Nat} {a90279 : Option Addr} {n90279 c90279 : Nat} {a90280 : Option Addr} {n90280 c90280 : Nat} {a90281 : Option Addr} {n90281 c90281 : Nat} (X : St φ lo h (own)) (p90277 : Isochronref16Draft) (H90278 : RSl (eInt .u8) φ (.slice a90278 n90278 c90278) p90277.Chords) (H90279 : RSl (eInt .u8) φ (.slice a90279 n90279 c90279) p90277.Homes) (H90280 : RSl (eInt .u8) φ (.slice a90280 n90280 c90280) p90277.Pers) (H90281 : RSl (eInt .u8) φ (.slice a90281 n90281 c90281) p90277.Delays) : Sim ((recN Try.prog LL cutF (n + 4)).call 8 #[(.agg #[.int .u8 p90277.Bridges, .int .u8 p90277.Stations, .slice a90278 n90278 c90278, .slice a90279 n90279 c90279, .slice a90280 n90280 c90280, .slice a90281 n90281 c90281])] h) (m_isochronref16_Draft_Topo p90277) (fun (d : ApiTopo) p => ∃ φ2 : Fz, ∃ a161162 : Option Addr, ∃ n161162 : Nat, ∃ c161162 : Nat, ∃ a161163 : Option Addr, ∃ n161163 : Nat, ∃ c161163 : Nat, ∃ ob161163 : Option Nat, ∃ blk161163 : Blk, Fz.le φ φ2 ∧ St φ2 lo p.2 ((ob161163, blk161163) :: own) ∧ p.1 = .agg #[.int .i64 d.Nodes, .slice a161162 n161162 c161162, .slice a161163 n161163 c161163] ∧ RSl eBool φ2 (.slice a161162 n161162 c161162) d.Station ∧ OSl eApiLink φ2 75 ob161163 blk161163 (.slice a161163 n161163 c161163) d.Links) := by
  refine fopen Try.func8 rfl rfl rfl rfl ?_
  refine dseq (dreg ?_)
  refine lbox rfl rfl rfl rfl rfl X (fun b90282 h90284 X90285 => ?_)
  refine lalloc rfl tz_29 rfl rfl rfl X90285 (fun b90286 h90288 X90289 => ?_)
  refine lend (nseq (dseq (dreg ?_)))
  refine lpure (v := .pointer (some ⟨b90282, 0, none⟩)) rfl (p_fa fo_24_0 rfl) rfl rfl ?_
  refine lread (v := .int .u8 p90277.Bridges) rfl (q_load wd_5 rfl) (St.ld X90289 (j := 1) rfl rfl) rfl ?_
  refine lpure (v := .int .u8 (Int.tmod p90277.Bridges 6)) rfl (p_rem rfl) rfl rfl ?_
  refine lpure (v := .int .i64 (w64 (Int.tmod p90277.Bridges 6))) rfl (p_conv un_5 un_3 rfl) rfl rfl ?_
  refine lpure (v := .int .i64 (w64 (1 + (w64 (Int.tmod p90277.Bridges 6))))) rfl (p_add rfl) rfl rfl ?_
  refine lpure (v := .int .i64 (w64 (1 + (w64 (Int.tmod p90277.Bridges 6))))) rfl (p_assign rfl) rfl rfl ?_
  refine lend (nseq (dseq (dreg ?_)))
  refine lpure (v := .pointer (some ⟨b90282, 1, none⟩)) rfl (p_fa fo_24_1 rfl) rfl rfl ?_
  refine lread (v := .int .u8 p90277.Stations) rfl (q_load wd_5 rfl) (St.ld X90289 (j := 1) rfl rfl) rfl ?_
  refine lpure (v := .int .u8 (Int.tmod p90277.Stations 5)) rfl (p_rem rfl) rfl rfl ?_
  refine lpure (v := .int .i64 (w64 (Int.tmod p90277.Stations 5))) rfl (p_conv un_5 un_3 rfl) rfl rfl ?_
  refine lpure (v := .int .i64 (w64 (2 + (w64 (Int.tmod p90277.Stations 5))))) rfl (p_add rfl) rfl rfl ?_
  refine lpure (v := .int .i64 (w64 (2 + (w64 (Int.tmod p90277.Stations 5))))) rfl (p_assign rfl) rfl rfl ?_
  refine lend (nseq (dseq (dreg ?_)))
  refine lpure (v := .int .i64 (w64 (1 + (w64 (Int.tmod p90277.Bridges 6))))) rfl (p_move rfl) rfl rfl ?_
  refine lpure (v := .int .i64 (w64 (2 + (w64 (Int.tmod p90277.Stations 5))))) rfl (p_move rfl) rfl rfl ?_
  refine lpure (v := .int .i64 (w64 ((w64 (1 + (w64 (Int.tmod p90277.Bridges 6)))) + (w64 (2 + (w64 (Int.tmod p90277.Stations 5))))))) rfl (p_add rfl) rfl rfl ?_
  refine lpure (v := .agg #[.int .i64 (w64 ((w64 (1 + (w64 (Int.tmod p90277.Bridges 6)))) + (w64 (2 + (w64 (Int.tmod p90277.Stations 5)))))), .slice none 0 0, .slice none 0 0]) rfl (p_build rfl) (build_st' tz_29 pl_29 rfl) rfl ?_
  refine lalloc rfl tz_29 rfl rfl rfl X90289 (fun b90290 h90292 X90293 => ?_)
  refine lstore rfl ts_29 rfl rfl (j := 0) rfl rfl rfl rfl rfl rfl X90293 (fun h90294 X90295 => ?_)
  refine lend (nseq (dseq (dseq (dreg ?_))))
  refine lpure (v := .int .i64 0) rfl (p_assign rfl) rfl rfl ?_
  refine lend (nseq (dblock ?_))
  refine dloopM (τ := Int × (List Bool)) (σ := Option Addr × Nat × Nat × Option Nat × Blk) (fun s123480 (a123482, n123482, c123482, ob123482, blk123482) => [(1, .pointer (some ⟨b90282, 0, none⟩)), (2, .pointer (some ⟨b90286, 0, none⟩)), (3, .int .i64 (w64 (1 + (w64 (Int.tmod p90277.Bridges 6))))), (4, .int .i64 (w64 (2 + (w64 (Int.tmod p90277.Stations 5))))), (5, .pointer (some ⟨b90290, 0, none⟩)), (6, .int .i64 s123480.1)]) (fun s123480 (a123482, n123482, c123482, ob123482, blk123482) hh => St φ lo hh ((ob123482, blk123482) :: (some b90290, .cells [.int .i64 (w64 ((w64 (1 + (w64 (Int.tmod p90277.Bridges 6)))) + (w64 (2 + (w64 (Int.tmod p90277.Stations 5)))))), .slice a123482 n123482 c123482, .slice none 0 0] 29 .exact) :: (some b90286, .cells [.int .i64 0, .slice none 0 0, .slice none 0 0] 29 .exact) :: (some b90282, .cells [.int .u8 p90277.Bridges, .int .u8 p90277.Stations, .slice a90278 n90278 c90278, .slice a90279 n90279 c90279, .slice a90280 n90280 c90280, .slice a90281 n90281 c90281] 24 .exact) :: own) ∧ OSl eBool φ 4 ob123482 blk123482 (.slice a123482 n123482 c123482) s123480.2) (0, []) (none, 0, 0, none, .dead) (sub_cons rfl (sub_cons rfl (sub_cons rfl (sub_cons rfl (sub_cons rfl (sub_cons rfl sub_nil)))))) ⟨(St.pick X90295 (.none _ (.keep _ (.keep _ (.keep _ (.refl _)))))), OSl.nil⟩ ?_
  rintro n142323 ih142322 s123480 ⟨a123482, n123482, c123482, ob123482, blk123482⟩ t0 h142325 ⟨X142324, O123482⟩
  refine dseq (dseq (dreg ?_))
  refine lpure (v := .int .i64 s123480.1) rfl (p_move rfl) rfl rfl ?_
  refine lpure (v := .pointer (some ⟨b90290, 0, none⟩)) rfl (p_fa fo_29_0 rfl) rfl rfl ?_
  refine lread (v := .int .i64 (w64 ((w64 (1 + (w64 (Int.tmod p90277.Bridges 6)))) + (w64 (2 + (w64 (Int.tmod p90277.Stations 5))))))) rfl (q_load wd_3 rfl) (St.ld X142324 (j := 1) rfl rfl) rfl ?_
  refine lpure (v := .bool (decide (s123480.1 < (w64 ((w64 (1 + (w64 (Int.tmod p90277.Bridges 6)))) + (w64 (2 + (w64 (Int.tmod p90277.Stations 5))))))))) rfl (p_lt rfl) rfl rfl ?_
  refine lend (nseq ?_)
  refine dcond rfl rfl (fun k142326 => ?_) (fun k142326 => ?_)
  · refine dskip (nseq (dseq (dblock (dreg ?_))))
    refine lpure (v := .pointer (some ⟨b90290, 1, none⟩)) rfl (p_fa fo_29_1 rfl) rfl rfl ?_
    refine lread (v := .slice a123482 n123482 c123482) rfl (q_load wd_26 rfl) (St.ld X142324 (j := 1) rfl rfl) rfl ?_
    refine lpure (v := .int .i64 s123480.1) rfl (p_move rfl) rfl rfl ?_
    refine lpure (v := .int .i64 (w64 (1 + (w64 (Int.tmod p90277.Bridges 6))))) rfl (p_move rfl) rfl rfl ?_
    refine lpure (v := .bool (decide ((w64 (1 + (w64 (Int.tmod p90277.Bridges 6)))) ≤ s123480.1))) rfl (p_ge rfl) rfl rfl ?_
    obtain ⟨h142327, b142327, hv142327, X142327, O142327⟩ := OSl.lay (E := eBool) (φ := φ) (cs := [.bool (decide ((w64 (1 + (w64 (Int.tmod p90277.Bridges 6)))) ≤ s123480.1))]) (l := [(decide ((w64 (1 + (w64 (Int.tmod p90277.Bridges 6)))) ≤ s123480.1))]) (len := 1) (parts := [(0, .bool (decide ((w64 (1 + (w64 (Int.tmod p90277.Bridges 6)))) ≤ s123480.1)))]) un_26 ts_4 rfl rfl rfl tz_4 rfl rfl (show RowD eBool φ [.bool (decide ((w64 (1 + (w64 (Int.tmod p90277.Bridges 6)))) ≤ s123480.1))] [(decide ((w64 (1 + (w64 (Int.tmod p90277.Bridges 6)))) ≤ s123480.1))] from ⟨[.bool (decide ((w64 (1 + (w64 (Int.tmod p90277.Bridges 6)))) ≤ s123480.1))], _, rfl, rfl, rfl⟩) rfl rfl X142324
    refine lheap rfl (h_buildSlice rfl) hv142327 rfl ?_
    obtain ⟨ws142329, hw142329⟩ := OSl.read O142327 X142327 (k := 0) rfl (n := 1) rfl
    refine Sim.mustM fun k142329 => ?_
    obtain ⟨h142329, a142329, c142329, ob142329, blk142329, hv142329, X142329, O142329⟩ := OSl.append O123482 X142327 (j := 1) rfl hw142329 k142329 (ts := #[26, 26]) rfl un_26 (argOk_of ax_26_26) ts_4 rfl rfl tb_4 rfl tz_4 rfl
    refine lheap rfl (h_builtin rfl rfl) hv142329 rfl ?_
    refine lpure (v := .pointer (some ⟨b90290, 1, none⟩)) rfl (p_fa fo_29_1 rfl) rfl rfl ?_
    refine lstore rfl ts_26 rfl rfl (j := 2) rfl rfl rfl rfl rfl rfl X142329 (fun h142330 X142331 => ?_)
    refine lend (nblock (nseq (dreg ?_)))
    refine lpure (v := .int .i64 s123480.1) rfl (p_move rfl) rfl rfl ?_
    refine lpure (v := .int .i64 (w64 (s123480.1 + 1))) rfl (p_add rfl) rfl rfl ?_
    refine lpure (v := .int .i64 (w64 (s123480.1 + 1))) rfl (p_assign rfl) rfl rfl ?_
    refine lend ?_
    exact kbackM ih142322 ((w64 (s123480.1 + 1)), (s123480.2 ++ ([(decide ((w64 (1 + (w64 (Int.tmod p90277.Bridges 6)))) ≤ s123480.1))]))) (a142329, (s123480.2.length + ([(decide ((w64 (1 + (w64 (Int.tmod p90277.Bridges 6)))) ≤ s123480.1))]).length), c142329, ob142329, blk142329) (sub_cons rfl (sub_cons rfl (sub_cons rfl (sub_cons rfl (sub_cons rfl (sub_cons rfl sub_nil)))))) ⟨(St.pick X142331 (.skip _ (.keep _ (.keep _ (.keep _ (.keep _ (.refl _))))))), O142329⟩
  refine dexit (eseq (eloop (xblock (nseq (dseq (dseq (dreg ?_)))))))
  refine lpure (v := .int .i64 1) rfl (p_assign rfl) rfl rfl ?_
  refine lend (nseq (dblock ?_))
  obtain ⟨φ146826, g146827, X146828, H146829⟩ := OSl.freeze X142324 (j := 0) rfl O123482
  refine dloopM (τ := Int × Int × (List Bool) × (List ApiLink)) (σ := Fz × Option Addr × Nat × Nat × Option Nat × Blk × Option Addr × Nat × Nat) (fun s153995 (φ153999, a153998, n153998, c153998, ob153998, blk153998, a153996, n153996, c153996) => [(1, .pointer (some ⟨b90282, 0, none⟩)), (2, .pointer (some ⟨b90286, 0, none⟩)), (3, .int .i64 (w64 (1 + (w64 (Int.tmod p90277.Bridges 6))))), (4, .int .i64 (w64 (2 + (w64 (Int.tmod p90277.Stations 5))))), (5, .pointer (some ⟨b90290, 0, none⟩)), (7, .int .i64 s153995.1)]) (fun s153995 (φ153999, a153998, n153998, c153998, ob153998, blk153998, a153996, n153996, c153996) hh => St φ153999 lo hh ((ob153998, blk153998) :: (none, .dead) :: (some b90290, .cells [.int .i64 s153995.2.1, .slice a153996 n153996 c153996, .slice a153998 n153998 c153998] 29 .exact) :: (some b90286, .cells [.int .i64 0, .slice none 0 0, .slice none 0 0] 29 .exact) :: (some b90282, .cells [.int .u8 p90277.Bridges, .int .u8 p90277.Stations, .slice a90278 n90278 c90278, .slice a90279 n90279 c90279, .slice a90280 n90280 c90280, .slice a90281 n90281 c90281] 24 .exact) :: own) ∧ Fz.le φ146826 φ153999 ∧ OSl eApiLink φ153999 75 ob153998 blk153998 (.slice a153998 n153998 c153998) s153995.2.2.2 ∧ RSl eBool φ153999 (.slice a153996 n153996 c153996) s153995.2.2.1) (1, (w64 ((w64 (1 + (w64 (Int.tmod p90277.Bridges 6)))) + (w64 (2 + (w64 (Int.tmod p90277.Stations 5)))))), s123480.2, []) (φ146826, none, 0, 0, none, .dead, a123482, n123482, c123482) (sub_cons rfl (sub_cons rfl (sub_cons rfl (sub_cons rfl (sub_cons rfl (sub_cons rfl sub_nil)))))) ⟨(St.pick X146828 (.none _ (.none _ (.skip _ (.keep _ (.keep _ (.keep _ (.refl _)))))))), (Fz.le_refl _), OSl.nil, H146829⟩ ?_
  rintro n157582 ih157581 s153995 ⟨φ153999, a153998, n153998, c153998, ob153998, blk153998, a153996, n153996, c153996⟩ t0 h157584 ⟨X157583, g154000, O153998, H153996⟩
  refine dseq (dseq (dreg ?_))
  refine lpure (v := .int .i64 s153995.1) rfl (p_move rfl) rfl rfl ?_
  refine lpure (v := .int .i64 (w64 (1 + (w64 (Int.tmod p90277.Bridges 6))))) rfl (p_move rfl) rfl rfl ?_
  refine lpure (v := .bool (decide (s153995.1 < (w64 (1 + (w64 (Int.tmod p90277.Bridges 6))))))) rfl (p_lt rfl) rfl rfl ?_
  refine lend (nseq ?_)
  refine dcond rfl rfl (fun k157585 => ?_) (fun k157585 => ?_)
  · refine dskip (nseq (dseq (dblock (dreg ?_))))
    refine lread (v := .agg #[.int .u8 p90277.Bridges, .int .u8 p90277.Stations, .slice a90278 n90278 c90278, .slice a90279 n90279 c90279, .slice a90280 n90280 c90280, .slice a90281 n90281 c90281]) rfl (q_load wd_24 rfl) (St.ld X157583 (j := 4) rfl rfl) rfl ?_
    refine lread (v := .agg #[.int .i64 s153995.2.1, .slice a153996 n153996 c153996, .slice a153998 n153998 c153998]) rfl (q_load wd_29 rfl) (St.ld X157583 (j := 2) rfl rfl) rfl ?_
    refine lpure (v := .int .i64 s153995.1) rfl (p_move rfl) rfl rfl ?_
    refine lpure (v := .int .i64 (w64 (s153995.1 - 1))) rfl (p_sub rfl) rfl rfl ?_
    refine lpure (v := .int .i64 s153995.1) rfl (p_move rfl) rfl rfl ?_
    refine lcall rfl rfl ca_34 rfl rfl (f34_ok X157583 p90277 ((ApiTopo.mk s153995.2.1 s153995.2.2.1 s153995.2.2.2)) ((w64 (s153995.1 - 1))) (s153995.1) (H90278.mono (g146827.trans g154000)) (H90279.mono (g146827.trans g154000)) (H90280.mono (g146827.trans g154000)) (H90281.mono (g146827.trans g154000)) H153996 O153998) rfl ?_
    rintro e157586 _ h157588 ⟨φ157590, a157593, n157593, c157593, a157594, n157594, c157594, ob157594, blk157594, g157591, X157592, rfl, H157593, O157594⟩
    refine lstore rfl ts_29 rfl rfl (j := 2) rfl rfl rfl rfl rfl rfl X157592 (fun h157596 X157597 => ?_)
    refine lend (nblock (nseq (dreg ?_)))
    refine lpure (v := .int .i64 s153995.1) rfl (p_move rfl) rfl rfl ?_
    refine lpure (v := .int .i64 (w64 (s153995.1 + 1))) rfl (p_add rfl) rfl rfl ?_
    refine lpure (v := .int .i64 (w64 (s153995.1 + 1))) rfl (p_assign rfl) rfl rfl ?_
    refine lend ?_
    exact kbackM ih157581 ((w64 (s153995.1 + 1)), e157586.Nodes, e157586.Station, e157586.Links) (φ157590, a157594, n157594, c157594, ob157594, blk157594, a157593, n157593, c157593) (sub_cons rfl (sub_cons rfl (sub_cons rfl (sub_cons rfl (sub_cons rfl (sub_cons rfl sub_nil)))))) ⟨(St.pick X157597 (.keep _ (.none _ (.skip _ (.keep _ (.keep _ (.keep _ (.refl _)))))))), (g154000.trans g157591), O157594, H157593⟩
  refine dexit (eseq (eloop (xblock (nseq (dseq (dseq (dreg ?_)))))))
  refine lpure (v := .int .i64 0) rfl (p_assign rfl) rfl rfl ?_
  refine lend (nseq (dblock ?_))
  refine dloopM (τ := Int × Int × (List Bool) × (List ApiLink)) (σ := Fz × Option Addr × Nat × Nat × Option Nat × Blk × Option Addr × Nat × Nat) (fun s159379 (φ159383, a159382, n159382, c159382, ob159382, blk159382, a159380, n159380, c159380) => [(1, .pointer (some ⟨b90282, 0, none⟩)), (2, .pointer (some ⟨b90286, 0, none⟩)), (3, .int .i64 (w64 (1 + (w64 (Int.tmod p90277.Bridges 6))))), (4, .int .i64 (w64 (2 + (w64 (Int.tmod p90277.Stations 5))))), (5, .pointer (some ⟨b90290, 0, none⟩)), (8, .int .i64 s159379.1)]) (fun s159379 (φ159383, a159382, n159382, c159382, ob159382, blk159382, a159380, n159380, c159380) hh => St φ159383 lo hh ((ob159382, blk159382) :: (none, .dead) :: (none, .dead) :: (some b90290, .cells [.int .i64 s159379.2.1, .slice a159380 n159380 c159380, .slice a159382 n159382 c159382] 29 .exact) :: (some b90286, .cells [.int .i64 0, .slice none 0 0, .slice none 0 0] 29 .exact) :: (some b90282, .cells [.int .u8 p90277.Bridges, .int .u8 p90277.Stations, .slice a90278 n90278 c90278, .slice a90279 n90279 c90279, .slice a90280 n90280 c90280, .slice a90281 n90281 c90281] 24 .exact) :: own) ∧ Fz.le φ153999 φ159383 ∧ OSl eApiLink φ159383 75 ob159382 blk159382 (.slice a159382 n159382 c159382) s159379.2.2.2 ∧ RSl eBool φ159383 (.slice a159380 n159380 c159380) s159379.2.2.1) (0, s153995.2.1, s153995.2.2.1, s153995.2.2.2) (φ153999, a153998, n153998, c153998, ob153998, blk153998, a153996, n153996, c153996) (sub_cons rfl (sub_cons rfl (sub_cons rfl (sub_cons rfl (sub_cons rfl (sub_cons rfl sub_nil)))))) ⟨(St.pick X157583 (.keep _ (.none _ (.none _ (.skip _ (.keep _ (.keep _ (.keep _ (.refl _))))))))), (Fz.le_refl _), O153998, H153996⟩ ?_
  rintro n160274 ih160273 s159379 ⟨φ159383, a159382, n159382, c159382, ob159382, blk159382, a159380, n159380, c159380⟩ t0 h160276 ⟨X160275, g159384, O159382, H159380⟩
  refine dseq (dseq (dreg ?_))
  refine lpure (v := .int .i64 s159379.1) rfl (p_move rfl) rfl rfl ?_
  refine lpure (v := .int .i64 (w64 (2 + (w64 (Int.tmod p90277.Stations 5))))) rfl (p_move rfl) rfl rfl ?_
  refine lpure (v := .bool (decide (s159379.1 < (w64 (2 + (w64 (Int.tmod p90277.Stations 5))))))) rfl (p_lt rfl) rfl rfl ?_
  refine lend (nseq ?_)
  refine dcond rfl rfl (fun k160277 => ?_) (fun k160277 => ?_)
  · refine dskip (nseq (dseq (dblock ?_)))
    refine dgo_start (n := 14) rfl (by kernel_rfl) ?_
    refine gload (v := .agg #[.int .u8 p90277.Bridges, .int .u8 p90277.Stations, .slice a90278 n90278 c90278, .slice a90279 n90279 c90279, .slice a90280 n90280 c90280, .slice a90281 n90281 c90281]) rfl (q_load wd_24 rfl) (St.ld X160275 (j := 5) rfl rfl) rfl ?_
    refine gload (v := .agg #[.int .i64 s159379.2.1, .slice a159380 n159380 c159380, .slice a159382 n159382 c159382]) rfl (q_load wd_29 rfl) (St.ld X160275 (j := 3) rfl rfl) rfl ?_
    refine gpure (v := .int .i64 (w64 (1 + (w64 (Int.tmod p90277.Bridges 6))))) rfl (p_move rfl) (lo_t rfl rfl) rfl rfl ?_
    refine gpure (v := .int .i64 s159379.1) rfl (p_move rfl) (lo_t rfl rfl) rfl rfl ?_
    refine gpure (v := .int .i64 (w64 ((w64 (1 + (w64 (Int.tmod p90277.Bridges 6)))) + s159379.1))) rfl (p_add rfl) (lo_t rfl (lo_t rfl rfl)) rfl rfl ?_
    refine gpure (v := .pointer (some ⟨b90282, 3, none⟩)) rfl (p_fa fo_24_3 rfl) (lo_t (lo_own X160275 (j := 5) (o := 0) (s := none) (f := 0) rfl) rfl) rfl rfl ?_
    refine gload (v := .slice a90279 n90279 c90279) rfl (q_load wd_22 rfl) (St.ld X160275 (j := 5) rfl rfl) rfl ?_
    refine gpure (v := .int .i64 s159379.1) rfl (p_move rfl) (lo_t rfl rfl) rfl rfl ?_
    refine gpure (v := .int .i64 (w64 (2 * s159379.1))) rfl (p_mul rfl) (lo_c (lo_t rfl rfl)) rfl rfl ?_
    refine gwait rfl (still_call rfl rfl ca_35 rfl) rfl ?_
    refine gpure (v := .int .i64 (w64 (1 + (w64 (Int.tmod p90277.Bridges 6))))) rfl (p_move rfl) (lo_t rfl rfl) rfl rfl ?_
    refine dgo_skip ?_
    refine dgo_skip ?_
    refine dgo_skip ?_
    refine gcall (m := 13) [false, true, true] (rk_cons (q_load wd_22 rfl) (St.ld X160275 (j := 5) rfl rfl) (same_self 20 rfl) (rk_cons (q_load wd_29 rfl) (St.ld X160275 (j := 3) rfl rfl) (same_self 20 rfl) (rk_cons (q_load wd_24 rfl) (St.ld X160275 (j := 5) rfl rfl) (same_self 20 rfl) rk_nil))) rfl rfl rfl rfl rfl ca_35 rfl rfl (f35_ok X160275 (p90277.Homes) ((w64 (2 * s159379.1))) (H90279.mono ((g146827.trans g154000).trans g159384))) rfl (fun e160278 v160279 h160280 hq160281 => ?_)
    cases hq160281
    refine dgo_skip ?_
    refine dgo_skip ?_
    refine dgo_skip ?_
    refine dgo_skip ?_
    refine dgo_skip ?_
    refine dgo_skip ?_
    refine dgo_skip ?_
    refine dgo_skip ?_
    refine dgo_skip ?_
    refine dgo_skip ?_
    refine dgo_skip ?_
    refine Sim.mustM fun k160282 => ?_
    refine gpure (v := .int .i64 (Int.tmod e160278 (w64 (1 + (w64 (Int.tmod p90277.Bridges 6)))))) rfl (p_rem rfl) (lo_t rfl (lo_t rfl rfl)) (rem_ok (of_decide_eq_true k160282)) rfl ?_
    refine gwait rfl (still_call rfl rfl ca_34 rfl) rfl ?_
    refine dgo_skip ?_
    refine gcall (m := 12) [false, false] (rk_cons (q_load wd_29 rfl) (St.ld X160275 (j := 3) rfl rfl) (same_self 20 rfl) (rk_cons (q_load wd_24 rfl) (St.ld X160275 (j := 5) rfl rfl) (same_self 20 rfl) rk_nil)) rfl rfl rfl rfl rfl ca_34 rfl rfl (f34_ok X160275 p90277 ((ApiTopo.mk s159379.2.1 s159379.2.2.1 s159379.2.2.2)) ((w64 ((w64 (1 + (w64 (Int.tmod p90277.Bridges 6)))) + s159379.1))) ((Int.tmod e160278 (w64 (1 + (w64 (Int.tmod p90277.Bridges 6)))))) (H90278.mono ((g146827.trans g154000).trans g159384)) (H90279.mono ((g146827.trans g154000).trans g159384)) (H90280.mono ((g146827.trans g154000).trans g159384)) (H90281.mono ((g146827.trans g154000).trans g159384)) H159380 O159382) rfl ?_
    rintro e160283 _ h160285 ⟨φ160287, a160290, n160290, c160290, a160291, n160291, c160291, ob160291, blk160291, g160288, X160289, rfl, H160290, O160291⟩
    refine dgo_skip ?_
    refine dgo_skip ?_
    refine dgo_skip ?_
    refine dgo_skip ?_
    refine dgo_skip ?_
    refine dgo_skip ?_
    refine dgo_skip ?_
    refine dgo_skip ?_
    refine dgo_skip ?_
    refine dgo_skip ?_
    refine dgo_skip ?_
    refine dgo_skip ?_
    refine dgo_skip ?_
    refine gwait rfl (still_store rfl rfl rfl) rfl ?_
    obtain ⟨h160293, hst160295, X160294⟩ := St.st X160289 (j := 3) (o := 0) (n := 3) (x := .agg #[.int .i64 e160283.Nodes, .slice a160290 n160290 c160290, .slice a160291 n160291 c160291]) rfl rfl rfl rfl rfl rfl
    refine gact0 (m := 11) [] rk_nil rfl rfl rfl rfl (h_store ts_29 rfl) hst160295 ?_
    refine dgo_skip ?_
    refine dgo_skip ?_
    refine dgo_skip ?_
    refine dgo_skip ?_
    refine dgo_skip ?_
    refine dgo_skip ?_
    refine dgo_skip ?_
    refine dgo_skip ?_
    refine dgo_skip ?_
    refine dgo_skip ?_
    refine dgo_skip ?_
    refine dgo_skip ?_
    refine dgo_skip ?_
    refine dgo_skip ?_
    refine gend rk_nil ?_
    refine nblock (nseq (dreg ?_))
    refine lpure (v := .int .i64 s159379.1) rfl (p_move rfl) rfl rfl ?_
    refine lpure (v := .int .i64 (w64 (s159379.1 + 1))) rfl (p_add rfl) rfl rfl ?_
    refine lpure (v := .int .i64 (w64 (s159379.1 + 1))) rfl (p_assign rfl) rfl rfl ?_
    refine lend ?_
    exact kbackM ih160273 ((w64 (s159379.1 + 1)), e160283.Nodes, e160283.Station, e160283.Links) (φ160287, a160291, n160291, c160291, ob160291, blk160291, a160290, n160290, c160290) (sub_cons rfl (sub_cons rfl (sub_cons rfl (sub_cons rfl (sub_cons rfl (sub_cons rfl sub_nil)))))) ⟨(St.pick X160294 (.keep _ (.none _ (.none _ (.skip _ (.skip _ (.keep _ (.keep _ (.keep _ (.refl _)))))))))), (g159384.trans g160288), O160291, H160290⟩
  refine dexit (eseq (eloop (xblock (nseq (dseq (dseq (dreg ?_)))))))
  refine lpure (v := .int .i64 (w64 (1 + (w64 (Int.tmod p90277.Bridges 6))))) rfl (p_move rfl) rfl rfl ?_
  refine lpure (v := .bool (decide (2 < (w64 (1 + (w64 (Int.tmod p90277.Bridges 6))))))) rfl (p_gt rfl) rfl rfl ?_
  refine lpure (v := .bool (decide (2 < (w64 (1 + (w64 (Int.tmod p90277.Bridges 6))))))) rfl (p_move rfl) rfl rfl ?_
  refine lsh (τ := Bool) (σ := Unit) (fun s160297 (_ : Unit) => [(1, .pointer (some ⟨b90282, 0, none⟩)), (2, .pointer (some ⟨b90286, 0, none⟩)), (3, .int .i64 (w64 (1 + (w64 (Int.tmod p90277.Bridges 6))))), (4, .int .i64 (w64 (2 + (w64 (Int.tmod p90277.Stations 5))))), (5, .pointer (some ⟨b90290, 0, none⟩)), (75, .bool s160297)]) (fun s160297 (_ : Unit) hh => St φ159383 lo hh ((ob159382, blk159382) :: (none, .dead) :: (none, .dead) :: (some b90290, .cells [.int .i64 s159379.2.1, .slice a159380 n159380 c159380, .slice a159382 n159382 c159382] 29 .exact) :: (some b90286, .cells [.int .i64 0, .slice none 0 0, .slice none 0 0] 29 .exact) :: (some b90282, .cells [.int .u8 p90277.Bridges, .int .u8 p90277.Stations, .slice a90278 n90278 c90278, .slice a90279 n90279 c90279, .slice a90280 n90280 c90280, .slice a90281 n90281 c90281] 24 .exact) :: own)) 5 ?_ ?_
  · rintro s160297 _ t0 h160299 X160298
    refine lend (nseq ?_)
    refine djoinM (τ := Int × (List Bool) × (List ApiLink)) (σ := Fz × Option Addr × Nat × Nat × Option Nat × Blk × Option Addr × Nat × Nat) (fun s160313 (φ160317, a160316, n160316, c160316, ob160316, blk160316, a160314, n160314, c160314) => [(1, .pointer (some ⟨b90282, 0, none⟩)), (2, .pointer (some ⟨b90286, 0, none⟩)), (3, .int .i64 (w64 (1 + (w64 (Int.tmod p90277.Bridges 6))))), (4, .int .i64 (w64 (2 + (w64 (Int.tmod p90277.Stations 5))))), (5, .pointer (some ⟨b90290, 0, none⟩))]) (fun s160313 (φ160317, a160316, n160316, c160316, ob160316, blk160316, a160314, n160314, c160314) hh => St φ160317 lo hh ((ob160316, blk160316) :: (none, .dead) :: (none, .dead) :: (none, .dead) :: (some b90290, .cells [.int .i64 s160313.1, .slice a160314 n160314 c160314, .slice a160316 n160316 c160316] 29 .exact) :: (some b90286, .cells [.int .i64 0, .slice none 0 0, .slice none 0 0] 29 .exact) :: (some b90282, .cells [.int .u8 p90277.Bridges, .int .u8 p90277.Stations, .slice a90278 n90278 c90278, .slice a90279 n90279 c90279, .slice a90280 n90280 c90280, .slice a90281 n90281 c90281] 24 .exact) :: own) ∧ Fz.le φ159383 φ160317 ∧ OSl eApiLink φ160317 75 ob160316 blk160316 (.slice a160316 n160316 c160316) s160313.2.2 ∧ RSl eBool φ160317 (.slice a160314 n160314 c160314) s160313.2.1) ?_ ?_
    · rintro s160313 ⟨φ160317, a160316, n160316, c160316, ob160316, blk160316, a160314, n160314, c160314⟩ t0 h160320 ⟨X160319, g160318, O160316, H160314⟩
      refine nseq (dseq (dseq (dreg ?_)))
      refine lpure (v := .int .i64 0) rfl (p_assign rfl) rfl rfl ?_
      refine lend (nseq (dblock ?_))
      refine dloopM (τ := Int × Int × (List Bool) × (List ApiLink)) (σ := Fz × Option Addr × Nat × Nat × Option Nat × Blk × Option Addr × Nat × Nat) (fun s160734 (φ160738, a160737, n160737, c160737, ob160737, blk160737, a160735, n160735, c160735) => [(1, .pointer (some ⟨b90282, 0, none⟩)), (2, .pointer (some ⟨b90286, 0, none⟩)), (3, .int .i64 (w64 (1 + (w64 (Int.tmod p90277.Bridges 6))))), (4, .int .i64 (w64 (2 + (w64 (Int.tmod p90277.Stations 5))))), (5, .pointer (some ⟨b90290, 0, none⟩)), (9, .int .i64 s160734.1)]) (fun s160734 (φ160738, a160737, n160737, c160737, ob160737, blk160737, a160735, n160735, c160735) hh => St φ160738 lo hh ((ob160737, blk160737) :: (none, .dead) :: (none, .dead) :: (none, .dead) :: (none, .dead) :: (some b90290, .cells [.int .i64 s160734.2.1, .slice a160735 n160735 c160735, .slice a160737 n160737 c160737] 29 .exact) :: (some b90286, .cells [.int .i64 0, .slice none 0 0, .slice none 0 0] 29 .exact) :: (some b90282, .cells [.int .u8 p90277.Bridges, .int .u8 p90277.Stations, .slice a90278 n90278 c90278, .slice a90279 n90279 c90279, .slice a90280 n90280 c90280, .slice a90281 n90281 c90281] 24 .exact) :: own) ∧ Fz.le φ160317 φ160738 ∧ OSl eApiLink φ160738 75 ob160737 blk160737 (.slice a160737 n160737 c160737) s160734.2.2.2 ∧ RSl eBool φ160738 (.slice a160735 n160735 c160735) s160734.2.2.1) (0, s160313.1, s160313.2.1, s160313.2.2) (φ160317, a160316, n160316, c160316, ob160316, blk160316, a160314, n160314, c160314) (sub_cons rfl (sub_cons rfl (sub_cons rfl (sub_cons rfl (sub_cons rfl (sub_cons rfl sub_nil)))))) ⟨(St.pick X160319 (.keep _ (.none _ (.none _ (.none _ (.none _ (.skip _ (.skip _ (.skip _ (.keep _ (.keep _ (.keep _ (.refl _))))))))))))), (Fz.le_refl _), O160316, H160314⟩ ?_
      rintro n160944 ih160943 s160734 ⟨φ160738, a160737, n160737, c160737, ob160737, blk160737, a160735, n160735, c160735⟩ t0 h160946 ⟨X160945, g160739, O160737, H160735⟩
      refine dseq (dseq (dreg ?_))
      refine lpure (v := .int .i64 s160734.1) rfl (p_move rfl) rfl rfl ?_
      refine lpure (v := .int .i64 (w64 (2 + (w64 (Int.tmod p90277.Stations 5))))) rfl (p_move rfl) rfl rfl ?_
      refine lpure (v := .bool (decide (s160734.1 < (w64 (2 + (w64 (Int.tmod p90277.Stations 5))))))) rfl (p_lt rfl) rfl rfl ?_
      refine lend (nseq ?_)
      refine dcond rfl rfl (fun k160947 => ?_) (fun k160947 => ?_)
      · refine dskip (nseq (dseq (dblock (dseq (dreg ?_)))))
        refine lpure (v := .pointer (some ⟨b90282, 3, none⟩)) rfl (p_fa fo_24_3 rfl) rfl rfl ?_
        refine lread (v := .slice a90279 n90279 c90279) rfl (q_load wd_22 rfl) (St.ld X160945 (j := 7) rfl rfl) rfl ?_
        refine lpure (v := .int .i64 s160734.1) rfl (p_move rfl) rfl rfl ?_
        refine lpure (v := .int .i64 (w64 (2 * s160734.1))) rfl (p_mul rfl) rfl rfl ?_
        refine lpure (v := .int .i64 (w64 ((w64 (2 * s160734.1)) + 1))) rfl (p_add rfl) rfl rfl ?_
        refine lcall rfl rfl ca_35 rfl rfl (f35_ok X160945 (p90277.Homes) ((w64 ((w64 (2 * s160734.1)) + 1))) (H90279.mono ((((g146827.trans g154000).trans g159384).trans g160318).trans g160739))) rfl (fun e160948 v160949 h160950 hq160951 => ?_)
        cases hq160951
        refine lpure (v := .int .i64 (Int.tmod e160948 3)) rfl (p_rem rfl) rfl rfl ?_
        refine lpure (v := .bool (decide (0 < (Int.tmod e160948 3)))) rfl (p_gt rfl) rfl rfl ?_
        refine lend (nseq ?_)
        refine djoinM (τ := Int × (List Bool) × (List ApiLink)) (σ := Fz × Option Addr × Nat × Nat × Option Nat × Blk × Option Addr × Nat × Nat) (fun s160971 (φ160975, a160974, n160974, c160974, ob160974, blk160974, a160972, n160972, c160972) => [(1, .pointer (some ⟨b90282, 0, none⟩)), (2, .pointer (some ⟨b90286, 0, none⟩)), (3, .int .i64 (w64 (1 + (w64 (Int.tmod p90277.Bridges 6))))), (4, .int .i64 (w64 (2 + (w64 (Int.tmod p90277.Stations 5))))), (5, .pointer (some ⟨b90290, 0, none⟩)), (9, .int .i64 s160734.1)]) (fun s160971 (φ160975, a160974, n160974, c160974, ob160974, blk160974, a160972, n160972, c160972) hh => St φ160975 lo hh ((ob160974, blk160974) :: (none, .dead) :: (none, .dead) :: (none, .dead) :: (none, .dead) :: (none, .dead) :: (some b90290, .cells [.int .i64 s160971.1, .slice a160972 n160972 c160972, .slice a160974 n160974 c160974] 29 .exact) :: (some b90286, .cells [.int .i64 0, .slice none 0 0, .slice none 0 0] 29 .exact) :: (some b90282, .cells [.int .u8 p90277.Bridges, .int .u8 p90277.Stations, .slice a90278 n90278 c90278, .slice a90279 n90279 c90279, .slice a90280 n90280 c90280, .slice a90281 n90281 c90281] 24 .exact) :: own) ∧ Fz.le φ160738 φ160975 ∧ OSl eApiLink φ160975 75 ob160974 blk160974 (.slice a160974 n160974 c160974) s160971.2.2 ∧ RSl eBool φ160975 (.slice a160972 n160972 c160972) s160971.2.1) ?_ ?_
        · rintro s160971 ⟨φ160975, a160974, n160974, c160974, ob160974, blk160974, a160972, n160972, c160972⟩ t0 h160978 ⟨X160977, g160976, O160974, H160972⟩
          refine nblock (nseq (dreg ?_))
          refine lpure (v := .int .i64 s160734.1) rfl (p_move rfl) rfl rfl ?_
          refine lpure (v := .int .i64 (w64 (s160734.1 + 1))) rfl (p_add rfl) rfl rfl ?_
          refine lpure (v := .int .i64 (w64 (s160734.1 + 1))) rfl (p_assign rfl) rfl rfl ?_
          refine lend ?_
          exact kbackM ih160943 ((w64 (s160734.1 + 1)), s160971.1, s160971.2.1, s160971.2.2) (φ160975, a160974, n160974, c160974, ob160974, blk160974, a160972, n160972, c160972) (sub_cons rfl (sub_cons rfl (sub_cons rfl (sub_cons rfl (sub_cons rfl (sub_cons rfl sub_nil)))))) ⟨(St.pick X160977 (.keep _ (.none _ (.none _ (.none _ (.none _ (.skip _ (.skip _ (.skip _ (.skip _ (.skip _ (.keep _ (.keep _ (.keep _ (.refl _))))))))))))))), (g160739.trans g160976), O160974, H160972⟩
        intro j160979 J160980
        refine dcond rfl rfl (fun k160952 => ?_) (fun k160952 => ?_)
        · refine dgo_start (n := 15) rfl (by kernel_rfl) ?_
          refine gload (v := .agg #[.int .u8 p90277.Bridges, .int .u8 p90277.Stations, .slice a90278 n90278 c90278, .slice a90279 n90279 c90279, .slice a90280 n90280 c90280, .slice a90281 n90281 c90281]) rfl (q_load wd_24 rfl) (St.ld X160945 (j := 7) rfl rfl) rfl ?_
          refine gload (v := .agg #[.int .i64 s160734.2.1, .slice a160735 n160735 c160735, .slice a160737 n160737 c160737]) rfl (q_load wd_29 rfl) (St.ld X160945 (j := 5) rfl rfl) rfl ?_
          refine gpure (v := .int .i64 (w64 (1 + (w64 (Int.tmod p90277.Bridges 6))))) rfl (p_move rfl) (lo_t rfl rfl) rfl rfl ?_
          refine gpure (v := .int .i64 s160734.1) rfl (p_move rfl) (lo_t rfl rfl) rfl rfl ?_
          refine gpure (v := .int .i64 (w64 ((w64 (1 + (w64 (Int.tmod p90277.Bridges 6)))) + s160734.1))) rfl (p_add rfl) (lo_t rfl (lo_t rfl rfl)) rfl rfl ?_
          refine gpure (v := .pointer (some ⟨b90282, 3, none⟩)) rfl (p_fa fo_24_3 rfl) (lo_t (lo_own X160945 (j := 7) (o := 0) (s := none) (f := 0) rfl) rfl) rfl rfl ?_
          refine gload (v := .slice a90279 n90279 c90279) rfl (q_load wd_22 rfl) (St.ld X160945 (j := 7) rfl rfl) rfl ?_
          refine gpure (v := .int .i64 s160734.1) rfl (p_move rfl) (lo_t rfl rfl) rfl rfl ?_
          refine gpure (v := .int .i64 (w64 (2 * s160734.1))) rfl (p_mul rfl) (lo_c (lo_t rfl rfl)) rfl rfl ?_
          refine gpure (v := .int .i64 (w64 ((w64 (2 * s160734.1)) + 1))) rfl (p_add rfl) (lo_t rfl (lo_c rfl)) rfl rfl ?_
          refine gwait rfl (still_call rfl rfl ca_35 rfl) rfl ?_
          refine gpure (v := .int .i64 (w64 (1 + (w64 (Int.tmod p90277.Bridges 6))))) rfl (p_move rfl) (lo_t rfl rfl) rfl rfl ?_
          refine dgo_skip ?_
          refine dgo_skip ?_
          refine dgo_skip ?_
          refine gcall (m := 14) [false, true, true] (rk_cons (q_load wd_22 rfl) (St.ld X160945 (j := 7) rfl rfl) (same_self 20 rfl) (rk_cons (q_load wd_29 rfl) (St.ld X160945 (j := 5) rfl rfl) (same_self 20 rfl) (rk_cons (q_load wd_24 rfl) (St.ld X160945 (j := 7) rfl rfl) (same_self 20 rfl) rk_nil))) rfl rfl rfl rfl rfl ca_35 rfl rfl (f35_ok X160945 (p90277.Homes) ((w64 ((w64 (2 * s160734.1)) + 1))) (H90279.mono ((((g146827.trans g154000).trans g159384).trans g160318).trans g160739))) rfl (fun e160981 v160982 h160983 hq160984 => ?_)
          cases hq160984
          refine dgo_skip ?_
          refine dgo_skip ?_
          refine dgo_skip ?_
          refine dgo_skip ?_
          refine dgo_skip ?_
          refine dgo_skip ?_
          refine dgo_skip ?_
          refine dgo_skip ?_
          refine dgo_skip ?_
          refine dgo_skip ?_
          refine dgo_skip ?_
          refine dgo_skip ?_
          refine Sim.mustM fun k160985 => ?_
          refine gpure (v := .int .i64 (Int.tmod e160981 (w64 (1 + (w64 (Int.tmod p90277.Bridges 6)))))) rfl (p_rem rfl) (lo_t rfl (lo_t rfl rfl)) (rem_ok (of_decide_eq_true k160985)) rfl ?_
          refine gwait rfl (still_call rfl rfl ca_34 rfl) rfl ?_
          refine dgo_skip ?_
          refine gcall (m := 13) [false, false] (rk_cons (q_load wd_29 rfl) (St.ld X160945 (j := 5) rfl rfl) (same_self 20 rfl) (rk_cons (q_load wd_24 rfl) (St.ld X160945 (j := 7) rfl rfl) (same_self 20 rfl) rk_nil)) rfl rfl rfl rfl rfl ca_34 rfl rfl (f34_ok X160945 p90277 ((ApiTopo.mk s160734.2.1 s160734.2.2.1 s160734.2.2.2)) ((w64 ((w64 (1 + (w64 (Int.tmod p90277.Bridges 6)))) + s160734.1))) ((Int.tmod e160981 (w64 (1 + (w64 (Int.tmod p90277.Bridges 6)))))) (H90278.mono ((((g146827.trans g154000).trans g159384).trans g160318).trans g160739)) (H90279.mono ((((g146827.trans g154000).trans g159384).trans g160318).trans g160739)) (H90280.mono ((((g146827.trans g154000).trans g159384).trans g160318).trans g160739)) (H90281.mono ((((g146827.trans g154000).trans g159384).trans g160318).trans g160739)) H160735 O160737) rfl ?_
          rintro e160986 _ h160988 ⟨φ160990, a160993, n160993, c160993, a160994, n160994, c160994, ob160994, blk160994, g160991, X160992, rfl, H160993, O160994⟩
          refine dgo_skip ?_
          refine dgo_skip ?_
          refine dgo_skip ?_
          refine dgo_skip ?_
          refine dgo_skip ?_
          refine dgo_skip ?_
          refine dgo_skip ?_
          refine dgo_skip ?_
          refine dgo_skip ?_
          refine dgo_skip ?_
          refine dgo_skip ?_
          refine dgo_skip ?_
          refine dgo_skip ?_
          refine dgo_skip ?_
          refine gwait rfl (still_store rfl rfl rfl) rfl ?_
          obtain ⟨h160996, hst160998, X160997⟩ := St.st X160992 (j := 5) (o := 0) (n := 3) (x := .agg #[.int .i64 e160986.Nodes, .slice a160993 n160993 c160993, .slice a160994 n160994 c160994]) rfl rfl rfl rfl rfl rfl
          refine gact0 (m := 12) [] rk_nil rfl rfl rfl rfl (h_store ts_29 rfl) hst160998 ?_
          refine dgo_skip ?_
          refine dgo_skip ?_
          refine dgo_skip ?_
          refine dgo_skip ?_
          refine dgo_skip ?_
          refine dgo_skip ?_
          refine dgo_skip ?_
          refine dgo_skip ?_
          refine dgo_skip ?_
          refine dgo_skip ?_
          refine dgo_skip ?_
          refine dgo_skip ?_
          refine dgo_skip ?_
          refine dgo_skip ?_
          refine dgo_skip ?_
          refine gend rk_nil ?_
          exact jmpM J160980 (e160986.Nodes, e160986.Station, e160986.Links) (φ160990, a160994, n160994, c160994, ob160994, blk160994, a160993, n160993, c160993) (sub_cons rfl (sub_cons rfl (sub_cons rfl (sub_cons rfl (sub_cons rfl (sub_cons rfl sub_nil)))))) ⟨(St.pick X160997 (.keep _ (.none _ (.none _ (.none _ (.none _ (.none _ (.skip _ (.skip _ (.skip _ (.skip _ (.keep _ (.keep _ (.keep _ (.refl _))))))))))))))), g160991, O160994, H160993⟩
        refine dskip ?_
        exact jmpM J160980 (s160734.2.1, s160734.2.2.1, s160734.2.2.2) (φ160738, a160737, n160737, c160737, ob160737, blk160737, a160735, n160735, c160735) (sub_cons rfl (sub_cons rfl (sub_cons rfl (sub_cons rfl (sub_cons rfl (sub_cons rfl sub_nil)))))) ⟨(St.pick X160945 (.keep _ (.none _ (.none _ (.none _ (.none _ (.none _ (.skip _ (.skip _ (.skip _ (.skip _ (.keep _ (.keep _ (.keep _ (.refl _))))))))))))))), (Fz.le_refl _), O160737, H160735⟩
      refine dexit (eseq (eloop (xblock (nseq (dseq (dseq (dreg ?_)))))))
      refine lpure (v := .int .i64 0) rfl (p_assign rfl) rfl rfl ?_
      refine lend (nseq (dblock ?_))
      refine dloopM (τ := Int × Int × (List Bool) × (List ApiLink)) (σ := Fz × Option Addr × Nat × Nat × Option Nat × Blk × Option Addr × Nat × Nat) (fun s161072 (φ161076, a161075, n161075, c161075, ob161075, blk161075, a161073, n161073, c161073) => [(1, .pointer (some ⟨b90282, 0, none⟩)), (2, .pointer (some ⟨b90286, 0, none⟩)), (3, .int .i64 (w64 (1 + (w64 (Int.tmod p90277.Bridges 6))))), (5, .pointer (some ⟨b90290, 0, none⟩)), (10, .int .i64 s161072.1)]) (fun s161072 (φ161076, a161075, n161075, c161075, ob161075, blk161075, a161073, n161073, c161073) hh => St φ161076 lo hh ((ob161075, blk161075) :: (none, .dead) :: (none, .dead) :: (none, .dead) :: (none, .dead) :: (none, .dead) :: (some b90290, .cells [.int .i64 s161072.2.1, .slice a161073 n161073 c161073, .slice a161075 n161075 c161075] 29 .exact) :: (some b90286, .cells [.int .i64 0, .slice none 0 0, .slice none 0 0] 29 .exact) :: (some b90282, .cells [.int .u8 p90277.Bridges, .int .u8 p90277.Stations, .slice a90278 n90278 c90278, .slice a90279 n90279 c90279, .slice a90280 n90280 c90280, .slice a90281 n90281 c90281] 24 .exact) :: own) ∧ Fz.le φ160738 φ161076 ∧ OSl eApiLink φ161076 75 ob161075 blk161075 (.slice a161075 n161075 c161075) s161072.2.2.2 ∧ RSl eBool φ161076 (.slice a161073 n161073 c161073) s161072.2.2.1) (0, s160734.2.1, s160734.2.2.1, s160734.2.2.2) (φ160738, a160737, n160737, c160737, ob160737, blk160737, a160735, n160735, c160735) (sub_cons rfl (sub_cons rfl (sub_cons rfl (sub_cons rfl (sub_cons rfl sub_nil))))) ⟨(St.pick X160945 (.keep _ (.none _ (.none _ (.none _ (.none _ (.none _ (.skip _ (.skip _ (.skip _ (.skip _ (.keep _ (.keep _ (.keep _ (.refl _))))))))))))))), (Fz.le_refl _), O160737, H160735⟩ ?_
      rintro n161113 ih161112 s161072 ⟨φ161076, a161075, n161075, c161075, ob161075, blk161075, a161073, n161073, c161073⟩ t0 h161115 ⟨X161114, g161077, O161075, H161073⟩
      refine dseq (dseq (dreg ?_))
      refine lpure (v := .int .i64 s161072.1) rfl (p_move rfl) rfl rfl ?_
      refine lpure (v := .int .i64 (w64 (s161072.1 + 1))) rfl (p_add rfl) rfl rfl ?_
      refine lpure (v := .pointer (some ⟨b90282, 2, none⟩)) rfl (p_fa fo_24_2 rfl) rfl rfl ?_
      refine lread (v := .slice a90278 n90278 c90278) rfl (q_load wd_22 rfl) (St.ld X161114 (j := 8) rfl rfl) rfl ?_
      refine lpure (v := .int .i64 (p90277.Chords.length : Int)) rfl (p_len rfl rfl rfl un_22 rfl) (RSl.lenC (H90278.mono (((((g146827.trans g154000).trans g159384).trans g160318).trans g160739).trans g161077))) rfl ?_
      refine lpure (v := .bool (decide ((w64 (s161072.1 + 1)) < (p90277.Chords.length : Int)))) rfl (p_lt rfl) rfl rfl ?_
      refine lpure (v := .bool (decide ((w64 (s161072.1 + 1)) < (p90277.Chords.length : Int)))) rfl (p_move rfl) rfl rfl ?_
      refine lsh (τ := Bool) (σ := Unit) (fun s161117 (_ : Unit) => [(1, .pointer (some ⟨b90282, 0, none⟩)), (2, .pointer (some ⟨b90286, 0, none⟩)), (3, .int .i64 (w64 (1 + (w64 (Int.tmod p90277.Bridges 6))))), (5, .pointer (some ⟨b90290, 0, none⟩)), (10, .int .i64 s161072.1), (117, .bool s161117)]) (fun s161117 (_ : Unit) hh => St φ161076 lo hh ((ob161075, blk161075) :: (none, .dead) :: (none, .dead) :: (none, .dead) :: (none, .dead) :: (none, .dead) :: (some b90290, .cells [.int .i64 s161072.2.1, .slice a161073 n161073 c161073, .slice a161075 n161075 c161075] 29 .exact) :: (some b90286, .cells [.int .i64 0, .slice none 0 0, .slice none 0 0] 29 .exact) :: (some b90282, .cells [.int .u8 p90277.Bridges, .int .u8 p90277.Stations, .slice a90278 n90278 c90278, .slice a90279 n90279 c90279, .slice a90280 n90280 c90280, .slice a90281 n90281 c90281] 24 .exact) :: own)) 3 ?_ ?_
      · rintro s161117 _ t0 h161119 X161118
        refine lend (nseq ?_)
        refine dcond rfl rfl (fun k161120 => ?_) (fun k161120 => ?_)
        · refine dskip (nseq (dseq (dblock ?_)))
          refine dgo_start (n := 21) rfl (by kernel_rfl) ?_
          refine gload (v := .agg #[.int .u8 p90277.Bridges, .int .u8 p90277.Stations, .slice a90278 n90278 c90278, .slice a90279 n90279 c90279, .slice a90280 n90280 c90280, .slice a90281 n90281 c90281]) rfl (q_load wd_24 rfl) (St.ld X161118 (j := 8) rfl rfl) rfl ?_
          refine gload (v := .agg #[.int .i64 s161072.2.1, .slice a161073 n161073 c161073, .slice a161075 n161075 c161075]) rfl (q_load wd_29 rfl) (St.ld X161118 (j := 6) rfl rfl) rfl ?_
          refine gpure (v := .pointer (some ⟨b90282, 2, none⟩)) rfl (p_fa fo_24_2 rfl) (lo_t (lo_own X161118 (j := 8) (o := 0) (s := none) (f := 0) rfl) rfl) rfl rfl ?_
          refine gload (v := .slice a90278 n90278 c90278) rfl (q_load wd_22 rfl) (St.ld X161118 (j := 8) rfl rfl) rfl ?_
          refine gpure (v := .int .i64 s161072.1) rfl (p_move rfl) (lo_t rfl rfl) rfl rfl ?_
          refine Sim.bindM fun e161121 he161122 => ?_
          obtain ⟨p161123, cs161123, hp161123, hF161123, hR161123⟩ := RSl.ia (H90278.mono (((((g146827.trans g154000).trans g159384).trans g160318).trans g160739).trans g161077)) he161122 (kd := .i64) (n := 1) rfl
          have hR161123 : _ = [(.int .u8 e161121 : Value)] := hR161123
          subst hR161123
          refine gpure (v := p161123) rfl (p_ia rs_22 rfl) (lo_t (lo_sl X161118 (H90278.mono (((((g146827.trans g154000).trans g159384).trans g160318).trans g160739).trans g161077))) (lo_t rfl rfl)) hp161123 rfl ?_
          refine gload (v := .int .u8 e161121) rfl (q_load wd_5 rfl) (FP.ld X161118 hF161123) rfl ?_
          refine gpure (v := .int .i64 (w64 e161121)) rfl (p_conv un_5 un_3 rfl) (lo_t rfl rfl) rfl rfl ?_
          refine gpure (v := .int .i64 (w64 (1 + (w64 (Int.tmod p90277.Bridges 6))))) rfl (p_move rfl) (lo_t rfl rfl) rfl rfl ?_
          refine Sim.mustM fun k161124 => ?_
          refine gpure (v := .int .i64 (Int.tmod (w64 e161121) (w64 (1 + (w64 (Int.tmod p90277.Bridges 6)))))) rfl (p_rem rfl) (lo_t rfl (lo_t rfl rfl)) (rem_ok (of_decide_eq_true k161124)) rfl ?_
          refine gpure (v := .pointer (some ⟨b90282, 2, none⟩)) rfl (p_fa fo_24_2 rfl) (lo_t (lo_own X161118 (j := 8) (o := 0) (s := none) (f := 0) rfl) rfl) rfl rfl ?_
          refine gload (v := .slice a90278 n90278 c90278) rfl (q_load wd_22 rfl) (St.ld X161118 (j := 8) rfl rfl) rfl ?_
          refine gpure (v := .int .i64 s161072.1) rfl (p_move rfl) (lo_t rfl rfl) rfl rfl ?_
          refine gpure (v := .int .i64 (w64 (s161072.1 + 1))) rfl (p_add rfl) (lo_t rfl (lo_c rfl)) rfl rfl ?_
          refine Sim.bindM fun e161125 he161126 => ?_
          obtain ⟨p161127, cs161127, hp161127, hF161127, hR161127⟩ := RSl.ia (H90278.mono (((((g146827.trans g154000).trans g159384).trans g160318).trans g160739).trans g161077)) he161126 (kd := .i64) (n := 1) rfl
          have hR161127 : _ = [(.int .u8 e161125 : Value)] := hR161127
          subst hR161127
          refine gpure (v := p161127) rfl (p_ia rs_22 rfl) (lo_t (lo_sl X161118 (H90278.mono (((((g146827.trans g154000).trans g159384).trans g160318).trans g160739).trans g161077))) (lo_t rfl rfl)) hp161127 rfl ?_
          refine gload (v := .int .u8 e161125) rfl (q_load wd_5 rfl) (FP.ld X161118 hF161127) rfl ?_
          refine gpure (v := .int .i64 (w64 e161125)) rfl (p_conv un_5 un_3 rfl) (lo_t rfl rfl) rfl rfl ?_
          refine gpure (v := .int .i64 (w64 (1 + (w64 (Int.tmod p90277.Bridges 6))))) rfl (p_move rfl) (lo_t rfl rfl) rfl rfl ?_
          refine Sim.mustM fun k161128 => ?_
          refine gpure (v := .int .i64 (Int.tmod (w64 e161125) (w64 (1 + (w64 (Int.tmod p90277.Bridges 6)))))) rfl (p_rem rfl) (lo_t rfl (lo_t rfl rfl)) (rem_ok (of_decide_eq_true k161128)) rfl ?_
          refine gwait rfl (still_call rfl rfl ca_34 rfl) rfl ?_
          refine dgo_skip ?_
          refine gcall (m := 20) [false, false, false, false, false, false] (rk_cons (q_load wd_5 rfl) (FP.ld X161118 hF161127) (same_self 20 rfl) (rk_cons (q_load wd_22 rfl) (St.ld X161118 (j := 8) rfl rfl) (same_self 20 rfl) (rk_cons (q_load wd_5 rfl) (FP.ld X161118 hF161123) (same_self 20 rfl) (rk_cons (q_load wd_22 rfl) (St.ld X161118 (j := 8) rfl rfl) (same_self 20 rfl) (rk_cons (q_load wd_29 rfl) (St.ld X161118 (j := 6) rfl rfl) (same_self 20 rfl) (rk_cons (q_load wd_24 rfl) (St.ld X161118 (j := 8) rfl rfl) (same_self 20 rfl) rk_nil)))))) rfl rfl rfl rfl rfl ca_34 rfl rfl (f34_ok X161118 p90277 ((ApiTopo.mk s161072.2.1 s161072.2.2.1 s161072.2.2.2)) ((Int.tmod (w64 e161121) (w64 (1 + (w64 (Int.tmod p90277.Bridges 6)))))) ((Int.tmod (w64 e161125) (w64 (1 + (w64 (Int.tmod p90277.Bridges 6)))))) (H90278.mono (((((g146827.trans g154000).trans g159384).trans g160318).trans g160739).trans g161077)) (H90279.mono (((((g146827.trans g154000).trans g159384).trans g160318).trans g160739).trans g161077)) (H90280.mono (((((g146827.trans g154000).trans g159384).trans g160318).trans g160739).trans g161077)) (H90281.mono (((((g146827.trans g154000).trans g159384).trans g160318).trans g160739).trans g161077)) H161073 O161075) rfl ?_
          rintro e161129 _ h161131 ⟨φ161133, a161136, n161136, c161136, a161137, n161137, c161137, ob161137, blk161137, g161134, X161135, rfl, H161136, O161137⟩
          refine dgo_skip ?_
          refine dgo_skip ?_
          refine dgo_skip ?_
          refine dgo_skip ?_
          refine dgo_skip ?_
          refine dgo_skip ?_
          refine dgo_skip ?_
          refine dgo_skip ?_
          refine dgo_skip ?_
          refine dgo_skip ?_
          refine dgo_skip ?_
          refine dgo_skip ?_
          refine dgo_skip ?_
          refine dgo_skip ?_
          refine dgo_skip ?_
          refine dgo_skip ?_
          refine dgo_skip ?_
          refine dgo_skip ?_
          refine dgo_skip ?_
          refine dgo_skip ?_
          refine gwait rfl (still_store rfl rfl rfl) rfl ?_
          obtain ⟨h161139, hst161141, X161140⟩ := St.st X161135 (j := 6) (o := 0) (n := 3) (x := .agg #[.int .i64 e161129.Nodes, .slice a161136 n161136 c161136, .slice a161137 n161137 c161137]) rfl rfl rfl rfl rfl rfl
          refine gact0 (m := 19) [] rk_nil rfl rfl rfl rfl (h_store ts_29 rfl) hst161141 ?_
          refine dgo_skip ?_
          refine dgo_skip ?_
          refine dgo_skip ?_
          refine dgo_skip ?_
          refine dgo_skip ?_
          refine dgo_skip ?_
          refine dgo_skip ?_
          refine dgo_skip ?_
          refine dgo_skip ?_
          refine dgo_skip ?_
          refine dgo_skip ?_
          refine dgo_skip ?_
          refine dgo_skip ?_
          refine dgo_skip ?_
          refine dgo_skip ?_
          refine dgo_skip ?_
          refine dgo_skip ?_
          refine dgo_skip ?_
          refine dgo_skip ?_
          refine dgo_skip ?_
          refine dgo_skip ?_
          refine gend rk_nil ?_
          refine nblock (nseq (dreg ?_))
          refine lpure (v := .int .i64 s161072.1) rfl (p_move rfl) rfl rfl ?_
          refine lpure (v := .int .i64 (w64 (s161072.1 + 2))) rfl (p_add rfl) rfl rfl ?_
          refine lpure (v := .int .i64 (w64 (s161072.1 + 2))) rfl (p_assign rfl) rfl rfl ?_
          refine lend ?_
          exact kbackM ih161112 ((w64 (s161072.1 + 2)), e161129.Nodes, e161129.Station, e161129.Links) (φ161133, a161137, n161137, c161137, ob161137, blk161137, a161136, n161136, c161136) (sub_cons rfl (sub_cons rfl (sub_cons rfl (sub_cons rfl (sub_cons rfl sub_nil))))) ⟨(St.pick X161140 (.keep _ (.none _ (.none _ (.none _ (.none _ (.none _ (.skip _ (.skip _ (.skip _ (.skip _ (.skip _ (.keep _ (.keep _ (.keep _ (.refl _)))))))))))))))), (g161077.trans g161134), O161137, H161136⟩
        refine dexit (eseq (eloop (xblock (nseq (dseq (dreg ?_))))))
        refine lread (v := .agg #[.int .i64 s161072.2.1, .slice a161073 n161073 c161073, .slice a161075 n161075 c161075]) rfl (q_load wd_29 rfl) (St.ld X161118 (j := 6) rfl rfl) rfl ?_
        refine lstore rfl ts_29 rfl rfl (j := 7) rfl rfl rfl rfl rfl rfl X161118 (fun h161142 X161143 => ?_)
        refine lend (nseq (dret ?_))
        exact kopen_r (res_1 (resC wd_29 (St.ld X161143 (j := 7) rfl rfl))) ⟨φ161076, a161073, n161073, c161073, a161075, n161075, c161075, ob161075, blk161075, (((((g146827.trans g154000).trans g159384).trans g160318).trans g160739).trans g161077), St.pick X161143 (.keep _ (.skip _ (.skip _ (.skip _ (.skip _ (.skip _ (.skip _ (.skip _ (.skip _ (.refl _)))))))))), rfl, H161073, O161075⟩
      intro j161144 J161145
      refine lcase (i := 114) (show _ = Value.bool (decide ((w64 (s161072.1 + 1)) < (p90277.Chords.length : Int))) from rfl) (fun k161146 => ?_) (fun k161146 => ?_)
      · refine lpure (v := .int .i64 s161072.1) rfl (p_move rfl) rfl rfl ?_
        refine lpure (v := .bool (decide (s161072.1 < 12))) rfl (p_lt rfl) rfl rfl ?_
        refine lpure (v := .bool (decide (s161072.1 < 12))) rfl (p_pick rfl) rfl rfl ?_
        refine Sim.of_eq (congrArg j161144 (show ((decide ((w64 (s161072.1 + 1)) < (p90277.Chords.length : Int))) && (decide (s161072.1 < 12))) = (decide (s161072.1 < 12)) from by rw [k161146] <;> rfl)) ?_
        exact ljmpM J161145 (decide (s161072.1 < 12)) () (sub_cons rfl (sub_cons rfl (sub_cons rfl (sub_cons rfl (sub_cons rfl (sub_cons rfl sub_nil)))))) (St.pick X161114 (.keep _ (.none _ (.none _ (.none _ (.none _ (.none _ (.skip _ (.skip _ (.skip _ (.skip _ (.skip _ (.keep _ (.keep _ (.keep _ (.refl _))))))))))))))))
      refine lskip rfl rfl ?_
      refine lskip rfl rfl ?_
      refine lpure (v := .bool false) rfl (p_pick rfl) rfl rfl ?_
      refine Sim.of_eq (congrArg j161144 (show ((decide ((w64 (s161072.1 + 1)) < (p90277.Chords.length : Int))) && (decide (s161072.1 < 12))) = false from by rw [k161146] <;> rfl)) ?_
      exact ljmpM J161145 false () (sub_cons rfl (sub_cons rfl (sub_cons rfl (sub_cons rfl (sub_cons rfl (sub_cons rfl sub_nil)))))) (St.pick X161114 (.keep _ (.none _ (.none _ (.none _ (.none _ (.none _ (.skip _ (.skip _ (.skip _ (.skip _ (.skip _ (.keep _ (.keep _ (.keep _ (.refl _))))))))))))))))
    intro j160321 J160322
    refine dcond rfl rfl (fun k160300 => ?_) (fun k160300 => ?_)
    · refine dreg ?_
      refine lread (v := .agg #[.int .u8 p90277.Bridges, .int .u8 p90277.Stations, .slice a90278 n90278 c90278, .slice a90279 n90279 c90279, .slice a90280 n90280 c90280, .slice a90281 n90281 c90281]) rfl (q_load wd_24 rfl) (St.ld X160298 (j := 5) rfl rfl) rfl ?_
      refine lread (v := .agg #[.int .i64 s159379.2.1, .slice a159380 n159380 c159380, .slice a159382 n159382 c159382]) rfl (q_load wd_29 rfl) (St.ld X160298 (j := 3) rfl rfl) rfl ?_
      refine lpure (v := .int .i64 (w64 (1 + (w64 (Int.tmod p90277.Bridges 6))))) rfl (p_move rfl) rfl rfl ?_
      refine lpure (v := .int .i64 (w64 ((w64 (1 + (w64 (Int.tmod p90277.Bridges 6)))) - 1))) rfl (p_sub rfl) rfl rfl ?_
      refine lcall rfl rfl ca_34 rfl rfl (f34_ok X160298 p90277 ((ApiTopo.mk s159379.2.1 s159379.2.2.1 s159379.2.2.2)) ((w64 ((w64 (1 + (w64 (Int.tmod p90277.Bridges 6)))) - 1))) 0 (H90278.mono ((g146827.trans g154000).trans g159384)) (H90279.mono ((g146827.trans g154000).trans g159384)) (H90280.mono ((g146827.trans g154000).trans g159384)) (H90281.mono ((g146827.trans g154000).trans g159384)) H159380 O159382) rfl ?_
      rintro e161147 _ h161149 ⟨φ161151, a161154, n161154, c161154, a161155, n161155, c161155, ob161155, blk161155, g161152, X161153, rfl, H161154, O161155⟩
      refine lstore rfl ts_29 rfl rfl (j := 3) rfl rfl rfl rfl rfl rfl X161153 (fun h161157 X161158 => ?_)
      refine lend ?_
      exact jmpM J160322 (e161147.Nodes, e161147.Station, e161147.Links) (φ161151, a161155, n161155, c161155, ob161155, blk161155, a161154, n161154, c161154) (sub_cons rfl (sub_cons rfl (sub_cons rfl (sub_cons rfl (sub_cons rfl sub_nil))))) ⟨(St.pick X161158 (.keep _ (.none _ (.none _ (.none _ (.skip _ (.skip _ (.keep _ (.keep _ (.keep _ (.refl _))))))))))), g161152, O161155, H161154⟩
    refine dskip ?_
    exact jmpM J160322 (s159379.2.1, s159379.2.2.1, s159379.2.2.2) (φ159383, a159382, n159382, c159382, ob159382, blk159382, a159380, n159380, c159380) (sub_cons rfl (sub_cons rfl (sub_cons rfl (sub_cons rfl (sub_cons rfl sub_nil))))) ⟨(St.pick X160298 (.keep _ (.none _ (.none _ (.none _ (.skip _ (.skip _ (.keep _ (.keep _ (.keep _ (.refl _))))))))))), (Fz.le_refl _), O159382, H159380⟩
  intro j161159 J161160
  refine lcase (i := 70) (show _ = Value.bool (decide (2 < (w64 (1 + (w64 (Int.tmod p90277.Bridges 6)))))) from rfl) (fun k161161 => ?_) (fun k161161 => ?_)
  · refine lpure (v := .pointer (some ⟨b90282, 0, none⟩)) rfl (p_fa fo_24_0 rfl) rfl rfl ?_
    refine lread (v := .int .u8 p90277.Bridges) rfl (q_load wd_5 rfl) (St.ld X160275 (j := 5) rfl rfl) rfl ?_
    refine lpure (v := .int .u8 (Int.tmod p90277.Bridges 2)) rfl (p_rem rfl) rfl rfl ?_
    refine lpure (v := .bool (decide ((Int.tmod p90277.Bridges 2) = 0))) rfl (p_eq rfl) rfl rfl ?_
    refine lpure (v := .bool (decide ((Int.tmod p90277.Bridges 2) = 0))) rfl (p_pick rfl) rfl rfl ?_
    refine Sim.of_eq (congrArg j161159 (show ((decide (2 < (w64 (1 + (w64 (Int.tmod p90277.Bridges 6)))))) && (decide ((Int.tmod p90277.Bridges 2) = 0))) = (decide ((Int.tmod p90277.Bridges 2) = 0)) from by rw [k161161] <;> rfl)) ?_
    exact ljmpM J161160 (decide ((Int.tmod p90277.Bridges 2) = 0)) () (sub_cons rfl (sub_cons rfl (sub_cons rfl (sub_cons rfl (sub_cons rfl (sub_cons rfl sub_nil)))))) (St.pick X160275 (.keep _ (.none _ (.none _ (.skip _ (.skip _ (.keep _ (.keep _ (.keep _ (.refl _))))))))))
  refine lskip rfl rfl ?_
  refine lskip rfl rfl ?_
  refine lskip rfl rfl ?_
  refine lskip rfl rfl ?_
  refine lpure (v := .bool false) rfl (p_pick rfl) rfl rfl ?_
  refine Sim.of_eq (congrArg j161159 (show ((decide (2 < (w64 (1 + (w64 (Int.tmod p90277.Bridges 6)))))) && (decide ((Int.tmod p90277.Bridges 2) = 0))) = false from by rw [k161161] <;> rfl)) ?_
  exact ljmpM J161160 false () (sub_cons rfl (sub_cons rfl (sub_cons rfl (sub_cons rfl (sub_cons rfl (sub_cons rfl sub_nil)))))) (St.pick X160275 (.keep _ (.none _ (.none _ (.skip _ (.skip _ (.keep _ (.keep _ (.keep _ (.refl _))))))))))
/-! isochron/isochronref16.From -/
theorem f96_ok {n : Nat} {φ : Fz} {lo : Nat} {h : Heap} {own : OwnL}  {a161209 : Option Addr} {n161209 c161209 : Nat} {a161210 : Option Addr} {n161210 c161210 : Nat} (X : St φ lo h (own)) (p161208 : ApiTopo) (p161211 : Int) (H161209 : RSl eBool φ (.slice a161209 n161209 c161209) p161208.Station) (H161210 : RSl eApiLink φ (.slice a161210 n161210 c161210) p161208.Links) : Sim ((recN Try.prog LL cutF (n + 1)).call 96 #[(.agg #[.int .i64 p161208.Nodes, .slice a161209 n161209 c161209, .slice a161210 n161210 c161210]), (.int .i64 p161211)] h) (m_isochronref16_From p161208 p161211) (fun (d : Int) p => p = (.int .i64 d, h)) := by
  refine fcut Try.func96 rfl rfl rfl rfl X ?_
  intro h0 X0
  refine dseq (dreg ?_)
  refine lbox rfl rfl rfl rfl rfl X0 (fun b161212 h161214 X161215 => ?_)
  refine lpure (v := .int .i64 0) rfl (p_assign rfl) rfl rfl ?_
  refine lend (nseq (dseq (dreg ?_)))
  refine lpure (v := .pointer (some ⟨b161212, 2, none⟩)) rfl (p_fa fo_29_2 rfl) rfl rfl ?_
  refine lread (v := .slice a161210 n161210 c161210) rfl (q_load wd_27 rfl) (St.ld X161215 (j := 0) rfl rfl) rfl ?_
  refine lpure (v := .int .i64 p161211) rfl (p_move rfl) rfl rfl ?_
  refine lpure (v := .int .i64 (w64 (Int.tdiv p161211 2))) rfl (p_quo rfl) rfl rfl ?_
  refine Sim.bindM fun e161216 he161217 => ?_
  obtain ⟨p161218, cs161218, hp161218, hF161218, hR161218⟩ := RSl.ia H161210 he161217 (kd := .i64) (n := 4) rfl
  obtain rfl := eApiLink_el hR161218
  refine lpure (v := p161218) rfl (p_ia rs_27 rfl) hp161218 rfl ?_
  refine lread (v := .agg #[.int .i64 e161216.A, .int .i64 e161216.B, .int .i64 e161216.Per, .int .i64 e161216.Delay]) rfl (q_load wd_75 rfl) (FP.ldw X161215 hF161218 rfl rfl) rfl ?_
  refine lalloc rfl tz_75 rfl rfl rfl X161215 (fun b161219 h161221 X161222 => ?_)
  refine lstore rfl ts_75 rfl rfl (j := 0) rfl rfl rfl rfl rfl rfl X161222 (fun h161223 X161224 => ?_)
  refine lend (nseq (dseq (dseq (dreg ?_))))
  refine lpure (v := .int .i64 p161211) rfl (p_move rfl) rfl rfl ?_
  refine lpure (v := .int .i64 (Int.tmod p161211 2)) rfl (p_rem rfl) rfl rfl ?_
  refine lpure (v := .bool (decide ((Int.tmod p161211 2) = 1))) rfl (p_eq rfl) rfl rfl ?_
  refine lend (nseq ?_)
  refine dcond rfl rfl (fun k161225 => ?_) (fun k161225 => ?_)
  · refine dseq (dreg ?_)
    refine lpure (v := .pointer (some ⟨b161219, 1, none⟩)) rfl (p_fa fo_75_1 rfl) rfl rfl ?_
    refine lread (v := .int .i64 e161216.B) rfl (q_load wd_3 rfl) (St.ld X161224 (j := 0) rfl rfl) rfl ?_
    refine lpure (v := .int .i64 e161216.B) rfl (p_assign rfl) rfl rfl ?_
    refine lend (nseq (dret (rseq ?_)))
    exact kcut_r (res_1 resT) X161224 rfl rfl
  refine dskip (nseq (dseq (dreg ?_)))
  refine lpure (v := .pointer (some ⟨b161219, 0, none⟩)) rfl (p_fa fo_75_0 rfl) rfl rfl ?_
  refine lread (v := .int .i64 e161216.A) rfl (q_load wd_3 rfl) (St.ld X161224 (j := 0) rfl rfl) rfl ?_
  refine lpure (v := .int .i64 e161216.A) rfl (p_assign rfl) rfl rfl ?_
  refine lend (nseq (dret ?_))
  exact kcut_r (res_1 resT) X161224 rfl rfl
/-! isochron/isochronref16.Ports -/
theorem f49_ok {n : Nat} {φ : Fz} {lo : Nat} {h : Heap} {own : OwnL}  {a161318 : Option Addr} {n161318 c161318 : Nat} {a161319 : Option Addr} {n161319 c161319 : Nat} (X : St φ lo h (own)) (p161317 : ApiTopo) (p161320 : Int) (H161318 : RSl eBool φ (.slice a161318 n161318 c161318) p161317.Station) (H161319 : RSl eApiLink φ (.slice a161319 n161319 c161319) p161317.Links) : Sim ((recN Try.prog LL cutF (n + 2)).call 49 #[(.agg #[.int .i64 p161317.Nodes, .slice a161318 n161318 c161318, .slice a161319 n161319 c161319]), (.int .i64 p161320)] h) (m_isochronref16_Ports p161317 p161320) (fun (d : (List Int)) p => ∃ φ2 : Fz, ∃ a161420 : Option Addr, ∃ n161420 : Nat, ∃ c161420 : Nat, ∃ ob161420 : Option Nat, ∃ blk161420 : Blk, Fz.le φ φ2 ∧ St φ2 lo p.2 ((ob161420, blk161420) :: own) ∧ p.1 = .slice a161420 n161420 c161420 ∧ OSl (eInt .i64) φ2 3 ob161420 blk161420 (.slice a161420 n161420 c161420) d) := by
  refine fopen Try.func49 rfl rfl rfl rfl ?_
  refine dseq (dreg ?_)
  refine lbox rfl rfl rfl rfl rfl X (fun b161321 h161323 X161324 => ?_)
  refine lpure (v := .slice none 0 0) rfl (p_assign rfl) rfl rfl ?_
  refine lend (nseq (dseq (dreg ?_)))
  refine lpure (v := .slice none 0 0) rfl (p_assign rfl) rfl rfl ?_
  refine lend (nseq (dseq (dseq (dreg ?_))))
  refine lpure (v := .int .i64 0) rfl (p_assign rfl) rfl rfl ?_
  refine lend (nseq (dblock ?_))
  refine dloopM (τ := (List Int) × Int) (σ := Option Addr × Nat × Nat × Option Nat × Blk) (fun s161374 (a161376, n161376, c161376, ob161376, blk161376) => [(1, .int .i64 p161320), (2, .pointer (some ⟨b161321, 0, none⟩)), (5, .slice a161376 n161376 c161376), (6, .int .i64 s161374.2)]) (fun s161374 (a161376, n161376, c161376, ob161376, blk161376) hh => St φ lo hh ((ob161376, blk161376) :: (some b161321, .cells [.int .i64 p161317.Nodes, .slice a161318 n161318 c161318, .slice a161319 n161319 c161319] 29 .exact) :: own) ∧ OSl (eInt .i64) φ 3 ob161376 blk161376 (.slice a161376 n161376 c161376) s161374.1) ([], 0) (none, 0, 0, none, .dead) (sub_cons rfl (sub_cons rfl (sub_cons rfl (sub_cons rfl sub_nil)))) ⟨(St.pick X161324 (.none _ (.keep _ (.refl _)))), OSl.nil⟩ ?_
  rintro n161399 ih161398 s161374 ⟨a161376, n161376, c161376, ob161376, blk161376⟩ t0 h161401 ⟨X161400, O161376⟩
  refine dseq (dseq (dreg ?_))
  refine lpure (v := .int .i64 s161374.2) rfl (p_move rfl) rfl rfl ?_
  refine lpure (v := .pointer (some ⟨b161321, 2, none⟩)) rfl (p_fa fo_29_2 rfl) rfl rfl ?_
  refine lread (v := .slice a161319 n161319 c161319) rfl (q_load wd_27 rfl) (St.ld X161400 (j := 1) rfl rfl) rfl ?_
  refine lpure (v := .int .i64 (p161317.Links.length : Int)) rfl (p_len rfl rfl rfl un_27 rfl) (RSl.lenC H161319) rfl ?_
  refine lpure (v := .int .i64 (w64 (2 * (p161317.Links.length : Int)))) rfl (p_mul rfl) rfl rfl ?_
  refine lpure (v := .bool (decide (s161374.2 < (w64 (2 * (p161317.Links.length : Int)))))) rfl (p_lt rfl) rfl rfl ?_
  refine lend (nseq ?_)
  refine dcond rfl rfl (fun k161402 => ?_) (fun k161402 => ?_)
  · refine dskip (nseq (dseq (dblock (dseq (dreg ?_)))))
    refine lread (v := .agg #[.int .i64 p161317.Nodes, .slice a161318 n161318 c161318, .slice a161319 n161319 c161319]) rfl (q_load wd_29 rfl) (St.ld X161400 (j := 1) rfl rfl) rfl ?_
    refine lpure (v := .int .i64 s161374.2) rfl (p_move rfl) rfl rfl ?_
    refine lcall rfl rfl ca_96 rfl rfl (f96_ok X161400 p161317 (s161374.2) H161318 H161319) rfl (fun e161403 v161404 h161405 hq161406 => ?_)
    cases hq161406
    refine lpure (v := .int .i64 p161320) rfl (p_move rfl) rfl rfl ?_
    refine lpure (v := .bool (decide (e161403 = p161320))) rfl (p_eq rfl) rfl rfl ?_
    refine lend (nseq ?_)
    refine djoinM (τ := (List Int)) (σ := Option Addr × Nat × Nat × Option Nat × Blk) (fun s161411 (a161412, n161412, c161412, ob161412, blk161412) => [(1, .int .i64 p161320), (2, .pointer (some ⟨b161321, 0, none⟩)), (5, .slice a161412 n161412 c161412), (6, .int .i64 s161374.2)]) (fun s161411 (a161412, n161412, c161412, ob161412, blk161412) hh => St φ lo hh ((ob161412, blk161412) :: (some b161321, .cells [.int .i64 p161317.Nodes, .slice a161318 n161318 c161318, .slice a161319 n161319 c161319] 29 .exact) :: own) ∧ OSl (eInt .i64) φ 3 ob161412 blk161412 (.slice a161412 n161412 c161412) s161411) ?_ ?_
    · rintro s161411 ⟨a161412, n161412, c161412, ob161412, blk161412⟩ t0 h161414 ⟨X161413, O161412⟩
      refine nblock (nseq (dreg ?_))
      refine lpure (v := .int .i64 s161374.2) rfl (p_move rfl) rfl rfl ?_
      refine lpure (v := .int .i64 (w64 (s161374.2 + 1))) rfl (p_add rfl) rfl rfl ?_
      refine lpure (v := .int .i64 (w64 (s161374.2 + 1))) rfl (p_assign rfl) rfl rfl ?_
      refine lend ?_
      exact kbackM ih161398 (s161411, (w64 (s161374.2 + 1))) (a161412, n161412, c161412, ob161412, blk161412) (sub_cons rfl (sub_cons rfl (sub_cons rfl (sub_cons rfl sub_nil)))) ⟨X161413, O161412⟩
    intro j161415 J161416
    refine dcond rfl rfl (fun k161407 => ?_) (fun k161407 => ?_)
    · refine dreg ?_
      refine lpure (v := .slice a161376 n161376 c161376) rfl (p_move rfl) rfl rfl ?_
      refine lpure (v := .int .i64 s161374.2) rfl (p_move rfl) rfl rfl ?_
      obtain ⟨h161417, b161417, hv161417, X161417, O161417⟩ := OSl.lay (E := (eInt .i64)) (φ := φ) (cs := [.int .i64 s161374.2]) (l := [s161374.2]) (len := 1) (parts := [(0, .int .i64 s161374.2)]) un_33 ts_3 rfl rfl rfl tz_3 rfl rfl (show RowD (eInt .i64) φ [.int .i64 s161374.2] [s161374.2] from ⟨[.int .i64 s161374.2], _, rfl, rfl, rfl⟩) rfl rfl X161400
      refine lheap rfl (h_buildSlice rfl) hv161417 rfl ?_
      obtain ⟨ws161419, hw161419⟩ := OSl.read O161417 X161417 (k := 0) rfl (n := 1) rfl
      refine Sim.mustM fun k161419 => ?_
      obtain ⟨h161419, a161419, c161419, ob161419, blk161419, hv161419, X161419, O161419⟩ := OSl.append O161376 X161417 (j := 1) rfl hw161419 k161419 (ts := #[33, 33]) rfl un_33 (argOk_of ax_33_33) ts_3 rfl rfl tb_3 rfl tz_3 rfl
      refine lheap rfl (h_builtin rfl rfl) hv161419 rfl ?_
      refine lpure (v := .slice a161419 (s161374.1.length + ([s161374.2]).length) c161419) rfl (p_assign rfl) rfl rfl ?_
      refine lend ?_
      exact jmpM J161416 (s161374.1 ++ ([s161374.2])) (a161419, (s161374.1.length + ([s161374.2]).length), c161419, ob161419, blk161419) (sub_cons rfl (sub_cons rfl (sub_cons rfl (sub_cons rfl sub_nil)))) ⟨(St.pick X161419 (.skip _ (.keep _ (.keep _ (.refl _))))), O161419⟩
    refine dskip ?_
    exact jmpM J161416 s161374.1 (a161376, n161376, c161376, ob161376, blk161376) (sub_cons rfl (sub_cons rfl (sub_cons rfl (sub_cons rfl sub_nil)))) ⟨X161400, O161376⟩
  refine dexit (eseq (eloop (xblock (nseq (dseq (dreg ?_))))))
  refine lpure (v := .slice a161376 n161376 c161376) rfl (p_move rfl) rfl rfl ?_
  refine lpure (v := .slice a161376 n161376 c161376) rfl (p_assign rfl) rfl rfl ?_
  refine lend (nseq (dret ?_))
  exact kopen_r (res_1 resT) ⟨φ, a161376, n161376, c161376, ob161376, blk161376, (Fz.le_refl _), St.pick X161400 (.keep _ (.skip _ (.refl _))), rfl, O161376⟩
/-! isochron/isochronref16.To -/
theorem f51_ok {n : Nat} {φ : Fz} {lo : Nat} {h : Heap} {own : OwnL}  {a161436 : Option Addr} {n161436 c161436 : Nat} {a161437 : Option Addr} {n161437 c161437 : Nat} (X : St φ lo h (own)) (p161435 : ApiTopo) (p161438 : Int) (H161436 : RSl eBool φ (.slice a161436 n161436 c161436) p161435.Station) (H161437 : RSl eApiLink φ (.slice a161437 n161437 c161437) p161435.Links) : Sim ((recN Try.prog LL cutF (n + 1)).call 51 #[(.agg #[.int .i64 p161435.Nodes, .slice a161436 n161436 c161436, .slice a161437 n161437 c161437]), (.int .i64 p161438)] h) (m_isochronref16_To p161435 p161438) (fun (d : Int) p => p = (.int .i64 d, h)) := by
  refine fcut Try.func51 rfl rfl rfl rfl X ?_
  intro h0 X0
  refine dseq (dreg ?_)
  refine lbox rfl rfl rfl rfl rfl X0 (fun b161439 h161441 X161442 => ?_)
  refine lpure (v := .int .i64 0) rfl (p_assign rfl) rfl rfl ?_
  refine lend (nseq (dseq (dreg ?_)))
  refine lpure (v := .pointer (some ⟨b161439, 2, none⟩)) rfl (p_fa fo_29_2 rfl) rfl rfl ?_
  refine lread (v := .slice a161437 n161437 c161437) rfl (q_load wd_27 rfl) (St.ld X161442 (j := 0) rfl rfl) rfl ?_
  refine lpure (v := .int .i64 p161438) rfl (p_move rfl) rfl rfl ?_
  refine lpure (v := .int .i64 (w64 (Int.tdiv p161438 2))) rfl (p_quo rfl) rfl rfl ?_
  refine Sim.bindM fun e161443 he161444 => ?_
  obtain ⟨p161445, cs161445, hp161445, hF161445, hR161445⟩ := RSl.ia H161437 he161444 (kd := .i64) (n := 4) rfl
  obtain rfl := eApiLink_el hR161445
  refine lpure (v := p161445) rfl (p_ia rs_27 rfl) hp161445 rfl ?_
  refine lread (v := .agg #[.int .i64 e161443.A, .int .i64 e161443.B, .int .i64 e161443.Per, .int .i64 e161443.Delay]) rfl (q_load wd_75 rfl) (FP.ldw X161442 hF161445 rfl rfl) rfl ?_
  refine lalloc rfl tz_75 rfl rfl rfl X161442 (fun b161446 h161448 X161449 => ?_)
  refine lstore rfl ts_75 rfl rfl (j := 0) rfl rfl rfl rfl rfl rfl X161449 (fun h161450 X161451 => ?_)
  refine lend (nseq (dseq (dseq (dreg ?_))))
  refine lpure (v := .int .i64 p161438) rfl (p_move rfl) rfl rfl ?_
  refine lpure (v := .int .i64 (Int.tmod p161438 2)) rfl (p_rem rfl) rfl rfl ?_
  refine lpure (v := .bool (decide ((Int.tmod p161438 2) = 1))) rfl (p_eq rfl) rfl rfl ?_
  refine lend (nseq ?_)
  refine dcond rfl rfl (fun k161452 => ?_) (fun k161452 => ?_)
  · refine dseq (dreg ?_)
    refine lpure (v := .pointer (some ⟨b161446, 0, none⟩)) rfl (p_fa fo_75_0 rfl) rfl rfl ?_
    refine lread (v := .int .i64 e161443.A) rfl (q_load wd_3 rfl) (St.ld X161451 (j := 0) rfl rfl) rfl ?_
    refine lpure (v := .int .i64 e161443.A) rfl (p_assign rfl) rfl rfl ?_
    refine lend (nseq (dret (rseq ?_)))
    exact kcut_r (res_1 resT) X161451 rfl rfl
  refine dskip (nseq (dseq (dreg ?_)))
  refine lpure (v := .pointer (some ⟨b161446, 1, none⟩)) rfl (p_fa fo_75_1 rfl) rfl rfl ?_
  refine lread (v := .int .i64 e161443.B) rfl (q_load wd_3 rfl) (St.ld X161451 (j := 0) rfl rfl) rfl ?_
  refine lpure (v := .int .i64 e161443.B) rfl (p_assign rfl) rfl rfl ?_
  refine lend (nseq (dret ?_))
  exact kcut_r (res_1 resT) X161451 rfl rfl
/-! isochron/isochronref16.In -/
theorem f50_ok {n : Nat} {φ : Fz} {lo : Nat} {h : Heap} {own : OwnL}  {a161454 : Option Addr} {n161454 c161454 : Nat} (X : St φ lo h (own)) (p161453 : (List Int)) (p161455 : Int) (H161454 : RSl (eInt .i64) φ (.slice a161454 n161454 c161454) p161453) : Sim ((recN Try.prog LL cutF (n + 1)).call 50 #[(.slice a161454 n161454 c161454), (.int .i64 p161455)] h) (m_isochronref16_In p161453 p161455) (fun (d : Bool) p => p = (.bool d, h)) := by
  refine fcut Try.func50 rfl rfl rfl rfl X ?_
  intro h0 X0
  refine dseq (dreg ?_)
  refine lpure (v := .bool false) rfl (p_assign rfl) rfl rfl ?_
  refine lend (nseq (dseq (dseq (dreg ?_))))
  refine lpure (v := .int .i64 0) rfl (p_assign rfl) rfl rfl ?_
  refine lend (nseq (dblock ?_))
  refine dloopM (τ := Int) (σ := Unit) (fun s161472 (_ : Unit) => [(0, .slice a161454 n161454 c161454), (1, .int .i64 p161455), (5, .int .i64 s161472)]) (fun s161472 (_ : Unit) hh => St φ h.n hh ([])) 0 () (sub_cons rfl (sub_cons rfl (sub_cons rfl sub_nil))) X0 ?_
  rintro n161482 ih161481 s161472 _ t0 h161484 X161483
  refine dseq (dseq (dreg ?_))
  refine lpure (v := .int .i64 s161472) rfl (p_move rfl) rfl rfl ?_
  refine lpure (v := .slice a161454 n161454 c161454) rfl (p_move rfl) rfl rfl ?_
  refine lpure (v := .int .i64 (p161453.length : Int)) rfl (p_len rfl rfl rfl un_33 rfl) (RSl.lenC H161454) rfl ?_
  refine lpure (v := .bool (decide (s161472 < (p161453.length : Int)))) rfl (p_lt rfl) rfl rfl ?_
  refine lend (nseq ?_)
  refine dcond rfl rfl (fun k161485 => ?_) (fun k161485 => ?_)
  · refine dskip (nseq (dseq (dblock (dseq (dreg ?_)))))
    refine lpure (v := .slice a161454 n161454 c161454) rfl (p_move rfl) rfl rfl ?_
    refine lpure (v := .int .i64 s161472) rfl (p_move rfl) rfl rfl ?_
    refine Sim.bindM fun e161486 he161487 => ?_
    obtain ⟨p161488, cs161488, hp161488, hF161488, hR161488⟩ := RSl.ia H161454 he161487 (kd := .i64) (n := 1) rfl
    have hR161488 : _ = [(.int .i64 e161486 : Value)] := hR161488
    subst hR161488
    refine lpure (v := p161488) rfl (p_ia rs_33 rfl) hp161488 rfl ?_
    refine lread (v := .int .i64 e161486) rfl (q_load wd_3 rfl) (FP.ld X161483 hF161488) rfl ?_
    refine lpure (v := .int .i64 p161455) rfl (p_move rfl) rfl rfl ?_
    refine lpure (v := .bool (decide (e161486 = p161455))) rfl (p_eq rfl) rfl rfl ?_
    refine lend (nseq ?_)
    refine dcond rfl rfl (fun k161489 => ?_) (fun k161489 => ?_)
    · refine dseq (dreg ?_)
      refine lpure (v := .bool true) rfl (p_assign rfl) rfl rfl ?_
      refine lend (nseq (dret (rblock (rseq (rloop (rblock (rseq ?_)))))))
      exact kcut_r (res_1 resT) X161483 rfl rfl
    refine dskip (nblock (nseq (dreg ?_)))
    refine lpure (v := .int .i64 s161472) rfl (p_move rfl) rfl rfl ?_
    refine lpure (v := .int .i64 (w64 (s161472 + 1))) rfl (p_add rfl) rfl rfl ?_
    refine lpure (v := .int .i64 (w64 (s161472 + 1))) rfl (p_assign rfl) rfl rfl ?_
    refine lend ?_
    exact kbackM ih161481 (w64 (s161472 + 1)) () (sub_cons rfl (sub_cons rfl (sub_cons rfl sub_nil))) X161483
  refine dexit (eseq (eloop (xblock (nseq (dseq (dreg ?_))))))
  refine lpure (v := .bool false) rfl (p_assign rfl) rfl rfl ?_
  refine lend (nseq (dret ?_))
  exact kcut_r (res_1 resT) X161483 rfl rfl
/-! isochron/isochronref21.Some -/
theorem f17_ok {n : Nat} {φ : Fz} {lo : Nat} {h : Heap} {own : OwnL}  {a162432 : Option Addr} {n162432 c162432 : Nat} {a162433 : Option Addr} {n162433 c162433 : Nat} (X : St φ lo h (own)) (p162431 : ApiTopo) (p162434 : Int) (p162435 : Int) (H162432 : RSl eBool φ (.slice a162432 n162432 c162432) p162431.Station) (H162433 : RSl eApiLink φ (.slice a162433 n162433 c162433) p162431.Links) : Sim ((recN Try.prog LL cutF (n + 3)).call 17 #[(.agg #[.int .i64 p162431.Nodes, .slice a162432 n162432 c162432, .slice a162433 n162433 c162433]), (.int .u8 p162434), (.int .u8 p162435)] h) (m_isochronref21_Some p162431 p162434 p162435) (fun (d : (List Int)) p => ∃ φ2 : Fz, ∃ a163400 : Option Addr, ∃ n163400 : Nat, ∃ c163400 : Nat, ∃ ob163400 : Option Nat, ∃ blk163400 : Blk, Fz.le φ φ2 ∧ St φ2 lo p.2 ((ob163400, blk163400) :: own) ∧ p.1 = .slice a163400 n163400 c163400 ∧ OSl (eInt .i64) φ2 3 ob163400 blk163400 (.slice a163400 n163400 c163400) d) := by
  refine fopen Try.func17 rfl rfl rfl rfl ?_
  refine dseq (dreg ?_)
  refine lbox rfl rfl rfl rfl rfl X (fun b162436 h162438 X162439 => ?_)
  refine lpure (v := .slice none 0 0) rfl (p_assign rfl) rfl rfl ?_
  refine lend (nseq (dseq (dreg ?_)))
  refine lpure (v := .int .u8 p162434) rfl (p_move rfl) rfl rfl ?_
  refine lpure (v := .int .i64 (w64 p162434)) rfl (p_conv un_5 un_3 rfl) rfl rfl ?_
  refine lpure (v := .pointer (some ⟨b162436, 0, none⟩)) rfl (p_fa fo_29_0 rfl) rfl rfl ?_
  refine lread (v := .int .i64 p162431.Nodes) rfl (q_load wd_3 rfl) (St.ld X162439 (j := 0) rfl rfl) rfl ?_
  refine Sim.mustM fun k162440 => ?_
  refine lpure (v := .int .i64 (Int.tmod (w64 p162434) p162431.Nodes)) rfl (p_rem rfl) (rem_ok (of_decide_eq_true k162440)) rfl ?_
  refine lpure (v := .int .i64 (Int.tmod (w64 p162434) p162431.Nodes)) rfl (p_assign rfl) rfl rfl ?_
  refine lend (nseq (dseq (dreg ?_)))
  refine lpure (v := .int .i64 (Int.tmod (w64 p162434) p162431.Nodes)) rfl (p_move rfl) rfl rfl ?_
  obtain ⟨h162441, b162441, hv162441, X162441, O162441⟩ := OSl.lay (E := (eInt .i64)) (φ := φ) (cs := [.int .i64 (Int.tmod (w64 p162434) p162431.Nodes)]) (l := [(Int.tmod (w64 p162434) p162431.Nodes)]) (len := 1) (parts := [(0, .int .i64 (Int.tmod (w64 p162434) p162431.Nodes))]) un_33 ts_3 rfl rfl rfl tz_3 rfl rfl (show RowD (eInt .i64) φ [.int .i64 (Int.tmod (w64 p162434) p162431.Nodes)] [(Int.tmod (w64 p162434) p162431.Nodes)] from ⟨[.int .i64 (Int.tmod (w64 p162434) p162431.Nodes)], _, rfl, rfl, rfl⟩) rfl rfl X162439
  refine lheap rfl (h_buildSlice rfl) hv162441 rfl ?_
  refine lpure (v := .slice (some ⟨b162441, 0, none⟩) 1 1) rfl (p_assign rfl) rfl rfl ?_
  refine lend (nseq (dseq (dreg ?_)))
  refine lpure (v := .slice none 0 0) rfl (p_assign rfl) rfl rfl ?_
  refine lend (nseq (dseq (dblock ?_)))
  refine dloopM (τ := Int × (List Int) × (List Int)) (σ := Fz × Option Addr × Nat × Nat × Option Nat × Blk × Option Addr × Nat × Nat × Option Nat × Blk) (fun s162915 (φ162919, a162916, n162916, c162916, ob162916, blk162916, a162918, n162918, c162918, ob162918, blk162918) => [(2, .int .u8 p162435), (3, .pointer (some ⟨b162436, 0, none⟩)), (7, .int .i64 s162915.1), (8, .slice a162916 n162916 c162916), (9, .slice a162918 n162918 c162918)]) (fun s162915 (φ162919, a162916, n162916, c162916, ob162916, blk162916, a162918, n162918, c162918, ob162918, blk162918) hh => St φ162919 lo hh ((ob162918, blk162918) :: (ob162916, blk162916) :: (some b162436, .cells [.int .i64 p162431.Nodes, .slice a162432 n162432 c162432, .slice a162433 n162433 c162433] 29 .exact) :: own) ∧ Fz.le φ φ162919 ∧ OSl (eInt .i64) φ162919 3 ob162916 blk162916 (.slice a162916 n162916 c162916) s162915.2.1 ∧ OSl (eInt .i64) φ162919 3 ob162918 blk162918 (.slice a162918 n162918 c162918) s162915.2.2) ((Int.tmod (w64 p162434) p162431.Nodes), [(Int.tmod (w64 p162434) p162431.Nodes)], []) (φ, (some ⟨b162441, 0, none⟩), 1, 1, some b162441, (.cells [.int .i64 (Int.tmod (w64 p162434) p162431.Nodes)] 3 .exact), none, 0, 0, none, .dead) (sub_cons rfl (sub_cons rfl (sub_cons rfl (sub_cons rfl (sub_cons rfl sub_nil))))) ⟨(St.pick X162441 (.none _ (.keep _ (.keep _ (.refl _))))), (Fz.le_refl _), O162441, OSl.nil⟩ ?_
  rintro n163161 ih163160 s162915 ⟨φ162919, a162916, n162916, c162916, ob162916, blk162916, a162918, n162918, c162918, ob162918, blk162918⟩ t0 h163163 ⟨X163162, g162920, O162916, O162918⟩
  refine dseq (dseq (dreg ?_))
  refine lpure (v := .slice a162918 n162918 c162918) rfl (p_move rfl) rfl rfl ?_
  refine lpure (v := .int .i64 (s162915.2.2.length : Int)) rfl (p_len rfl rfl rfl un_42 rfl) (OSl.len O162918) rfl ?_
  refine lpure (v := .bool (decide ((s162915.2.2.length : Int) < 8))) rfl (p_lt rfl) rfl rfl ?_
  refine lpure (v := .bool (decide ((s162915.2.2.length : Int) < 8))) rfl (p_move rfl) rfl rfl ?_
  refine ljoinM (τ := Bool) (σ := Unit) (fun s163170 (_ : Unit) => [(2, .int .u8 p162435), (3, .pointer (some ⟨b162436, 0, none⟩)), (7, .int .i64 s162915.1), (8, .slice a162916 n162916 c162916), (9, .slice a162918 n162918 c162918), (36, .bool s163170)]) (fun s163170 (_ : Unit) hh => St φ162919 lo hh ((ob162918, blk162918) :: (ob162916, blk162916) :: (some b162436, .cells [.int .i64 p162431.Nodes, .slice a162432 n162432 c162432, .slice a162433 n162433 c162433] 29 .exact) :: own)) 12 ?_ ?_
  · rintro s163170 _ t0 h163172 X163171
    refine lend (nseq ?_)
    refine dcond rfl rfl (fun k163173 => ?_) (fun k163173 => ?_)
    · refine dskip (nseq (dblock (dseq (dreg ?_))))
      refine lpure (v := .slice none 0 0) rfl (p_assign rfl) rfl rfl ?_
      refine lend (nseq (dseq (dreg ?_)))
      refine lread (v := .agg #[.int .i64 p162431.Nodes, .slice a162432 n162432 c162432, .slice a162433 n162433 c162433]) rfl (q_load wd_29 rfl) (St.ld X163171 (j := 2) rfl rfl) rfl ?_
      refine lpure (v := .int .i64 s162915.1) rfl (p_move rfl) rfl rfl ?_
      refine lcall rfl rfl ca_49 rfl rfl (f49_ok X163171 p162431 (s162915.1) (H162432.mono g162920) (H162433.mono g162920)) rfl ?_
      rintro e163174 _ h163176 ⟨φ163178, a163181, n163181, c163181, ob163181, blk163181, g163179, X163180, rfl, O163181⟩
      refine lpure (v := .slice a163181 n163181 c163181) rfl (p_assign rfl) rfl rfl ?_
      refine lend (nseq (dseq (dseq (dreg ?_))))
      refine lpure (v := .int .i64 0) rfl (p_assign rfl) rfl rfl ?_
      refine lend (nseq (dblock ?_))
      refine dloopM (τ := (List Int) × (List Int) × Int) (σ := Option Addr × Nat × Nat × Option Nat × Blk × Blk) (fun s163282 (a163284, n163284, c163284, ob163284, blk163284, blk163285) => [(2, .int .u8 p162435), (3, .pointer (some ⟨b162436, 0, none⟩)), (8, .slice a162916 n162916 c162916), (9, .slice a162918 n162918 c162918), (10, .slice a163284 n163284 c163284), (11, .slice a163181 n163181 c163181), (12, .int .i64 s163282.2.2)]) (fun s163282 (a163284, n163284, c163284, ob163284, blk163284, blk163285) hh => St φ163178 lo hh ((ob163284, blk163284) :: (ob163181, blk163285) :: (ob162918, blk162918) :: (ob162916, blk162916) :: (some b162436, .cells [.int .i64 p162431.Nodes, .slice a162432 n162432 c162432, .slice a162433 n162433 c162433] 29 .exact) :: own) ∧ OSl (eInt .i64) φ163178 3 ob163284 blk163284 (.slice a163284 n163284 c163284) s163282.1 ∧ OSl (eInt .i64) φ163178 3 ob163181 blk163285 (.slice a163181 n163181 c163181) s163282.2.1) ([], e163174, 0) (none, 0, 0, none, .dead, blk163181) (sub_cons rfl (sub_cons rfl (sub_cons rfl (sub_cons rfl (sub_cons rfl (sub_cons rfl (sub_cons rfl sub_nil))))))) ⟨(St.pick X163180 (.none _ (.keep _ (.keep _ (.keep _ (.keep _ (.refl _))))))), OSl.nil, O163181⟩ ?_
      rintro n163340 ih163339 s163282 ⟨a163284, n163284, c163284, ob163284, blk163284, blk163285⟩ t0 h163342 ⟨X163341, O163284, O163285⟩
      refine dseq (dseq (dreg ?_))
      refine lpure (v := .int .i64 s163282.2.2) rfl (p_move rfl) rfl rfl ?_
      refine lpure (v := .slice a163181 n163181 c163181) rfl (p_move rfl) rfl rfl ?_
      refine lpure (v := .int .i64 (s163282.2.1.length : Int)) rfl (p_len rfl rfl rfl un_33 rfl) (OSl.len O163285) rfl ?_
      refine lpure (v := .bool (decide (s163282.2.2 < (s163282.2.1.length : Int)))) rfl (p_lt rfl) rfl rfl ?_
      refine lend (nseq ?_)
      refine dcond rfl rfl (fun k163343 => ?_) (fun k163343 => ?_)
      · refine dskip (nseq (dseq (dblock (dseq ?_))))
        refine ddraw 0 0 0 (by kernel_rfl) ?_
        refine spure (v := .slice a162916 n162916 c162916) rfl (p_move rfl) (lo_t (lo_osl X163341 (j := 3) rfl (O162916.mono g163179)) rfl) rfl rfl ?_
        refine sload (v := .agg #[.int .i64 p162431.Nodes, .slice a162432 n162432 c162432, .slice a162433 n162433 c162433]) rfl rfl (q_load wd_29 rfl) (St.ld X163341 (j := 4) rfl rfl) (same_self 20 rfl) rfl ?_
        refine spure (v := .slice a163181 n163181 c163181) rfl (p_move rfl) (lo_t (lo_osl X163341 (j := 1) rfl O163285) rfl) rfl rfl ?_
        refine spure (v := .int .i64 s163282.2.2) rfl (p_move rfl) (lo_t rfl rfl) rfl rfl ?_
        refine Sim.bindM fun e163344 he163345 => ?_
        obtain ⟨b163346, vs163346, m163346, off163346, cs163346, rfl, rfl, hp163346, hc163346, hR163346, hl163346, hm163346, hs163346⟩ := OSl.ia O163285 he163345 (kd := .i64) (n := 1) rfl
        have hR163346 : _ = [(.int .i64 e163344 : Value)] := hR163346
        subst hR163346
        refine spure (v := .pointer (some ⟨b163346, off163346, none⟩)) rfl (p_ia rs_33 rfl) (lo_t (lo_osl X163341 (j := 1) rfl O163285) (lo_t rfl rfl)) hp163346 rfl ?_
        refine sload (v := .int .i64 e163344) rfl rfl (q_load wd_3 rfl) (St.ld X163341 (j := 1) rfl (rdE1 hc163346 (k := 0) rfl rfl)) (same_self 20 rfl) rfl ?_
        refine scall (en := fun d => (.int .i64 d)) rfl rfl ca_51 rfl rfl (f51_ok X163341 p162431 e163344 (H162432.mono (g162920.trans g163179)) (H162433.mono (g162920.trans g163179))) rfl (fun e163347 => ?_)
        obtain ⟨φ163351, g163352, X163353, H163354⟩ := OSl.freeze X163341 (j := 3) rfl (O162916.mono g163179)
        refine scall (en := fun d => (.bool d)) rfl rfl ca_50 rfl rfl (f50_ok X163353 (s162915.2.1) e163347 H163354) rfl (fun e163355 => ?_)
        refine spure (v := .bool (!e163355)) rfl (p_not rfl) (lo_t rfl rfl) rfl rfl ?_
        refine send ?_
        refine nseq ?_
        refine djoinM (τ := (List Int)) (σ := Option Addr × Nat × Nat × Option Nat × Blk) (fun s163366 (a163367, n163367, c163367, ob163367, blk163367) => [(2, .int .u8 p162435), (3, .pointer (some ⟨b162436, 0, none⟩)), (8, .slice a162916 n162916 c162916), (9, .slice a162918 n162918 c162918), (10, .slice a163367 n163367 c163367), (11, .slice a163181 n163181 c163181), (12, .int .i64 s163282.2.2)]) (fun s163366 (a163367, n163367, c163367, ob163367, blk163367) hh => St φ163178 lo hh ((ob163367, blk163367) :: (some b163346, .cells vs163346 3 m163346) :: (ob162918, blk162918) :: (ob162916, blk162916) :: (some b162436, .cells [.int .i64 p162431.Nodes, .slice a162432 n162432 c162432, .slice a162433 n162433 c162433] 29 .exact) :: own) ∧ OSl (eInt .i64) φ163178 3 ob163367 blk163367 (.slice a163367 n163367 c163367) s163366) ?_ ?_
        · rintro s163366 ⟨a163367, n163367, c163367, ob163367, blk163367⟩ t0 h163369 ⟨X163368, O163367⟩
          refine nblock (nseq (dreg ?_))
          refine lpure (v := .int .i64 s163282.2.2) rfl (p_move rfl) rfl rfl ?_
          refine lpure (v := .int .i64 (w64 (s163282.2.2 + 1))) rfl (p_add rfl) rfl rfl ?_
          refine lpure (v := .int .i64 (w64 (s163282.2.2 + 1))) rfl (p_assign rfl) rfl rfl ?_
          refine lend ?_
          exact kbackM ih163339 (s163366, s163282.2.1, (w64 (s163282.2.2 + 1))) (a163367, n163367, c163367, ob163367, blk163367, (.cells vs163346 3 m163346)) (sub_cons rfl (sub_cons rfl (sub_cons rfl (sub_cons rfl (sub_cons rfl (sub_cons rfl (sub_cons rfl sub_nil))))))) ⟨X163368, O163367, O163285⟩
        intro j163370 J163371
        refine dcond rfl rfl (fun k163359 => ?_) (fun k163359 => ?_)
        · refine dreg ?_
          refine lpure (v := .slice a163284 n163284 c163284) rfl (p_move rfl) rfl rfl ?_
          refine lpure (v := .slice a163181 n163181 c163181) rfl (p_move rfl) rfl rfl ?_
          refine lpure (v := .int .i64 s163282.2.2) rfl (p_move rfl) rfl rfl ?_
          refine Sim.bindM fun e163372 he163373 => ?_
          obtain ⟨off163374, cs163374, hp163374, hc163374, hR163374, hl163374, hm163374, hs163374⟩ := OSl.iaC O163285 he163373 (kd := .i64) (n := 1) rfl
          have hR163374 : _ = [(.int .i64 e163372 : Value)] := hR163374
          subst hR163374
          refine lpure (v := .pointer (some ⟨b163346, off163374, none⟩)) rfl (p_ia rs_33 rfl) hp163374 rfl ?_
          refine lread (v := .int .i64 e163372) rfl (q_load wd_3 rfl) (St.ld X163341 (j := 1) rfl (rdE1 hc163374 (k := 0) rfl rfl)) rfl ?_
          obtain ⟨h163375, b163375, hv163375, X163375, O163375⟩ := OSl.lay (E := (eInt .i64)) (φ := φ163178) (cs := [.int .i64 e163372]) (l := [e163372]) (len := 1) (parts := [(0, .int .i64 e163372)]) un_33 ts_3 rfl rfl rfl tz_3 rfl rfl (show RowD (eInt .i64) φ163178 [.int .i64 e163372] [e163372] from ⟨[.int .i64 e163372], _, rfl, rfl, rfl⟩) rfl rfl X163341
          refine lheap rfl (h_buildSlice rfl) hv163375 rfl ?_
          obtain ⟨ws163377, hw163377⟩ := OSl.read O163375 X163375 (k := 0) rfl (n := 1) rfl
          refine Sim.mustM fun k163377 => ?_
          obtain ⟨h163377, a163377, c163377, ob163377, blk163377, hv163377, X163377, O163377⟩ := OSl.append O163284 X163375 (j := 1) rfl hw163377 k163377 (ts := #[33, 33]) rfl un_33 (argOk_of ax_33_33) ts_3 rfl rfl tb_3 rfl tz_3 rfl
          refine lheap rfl (h_builtin rfl rfl) hv163377 rfl ?_
          refine lpure (v := .slice a163377 (s163282.1.length + ([e163372]).length) c163377) rfl (p_assign rfl) rfl rfl ?_
          refine lend ?_
          exact jmpM J163371 (s163282.1 ++ ([e163372])) (a163377, (s163282.1.length + ([e163372]).length), c163377, ob163377, blk163377) (sub_cons rfl (sub_cons rfl (sub_cons rfl (sub_cons rfl (sub_cons rfl (sub_cons rfl (sub_cons rfl sub_nil))))))) ⟨(St.pick X163377 (.skip _ (.keep _ (.keep _ (.keep _ (.keep _ (.keep _ (.refl _)))))))), O163377⟩
        refine dskip ?_
        exact jmpM J163371 s163282.1 (a163284, n163284, c163284, ob163284, blk163284) (sub_cons rfl (sub_cons rfl (sub_cons rfl (sub_cons rfl (sub_cons rfl (sub_cons rfl (sub_cons rfl sub_nil))))))) ⟨X163341, O163284⟩
      refine dexit (eseq (eloop (xblock (nseq (dseq (dseq (dreg ?_)))))))
      refine lpure (v := .slice a163284 n163284 c163284) rfl (p_move rfl) rfl rfl ?_
      refine lpure (v := .int .i64 (s163282.1.length : Int)) rfl (p_len rfl rfl rfl un_33 rfl) (OSl.len O163284) rfl ?_
      refine lpure (v := .bool (decide ((s163282.1.length : Int) = 0))) rfl (p_eq rfl) rfl rfl ?_
      refine lend (nseq ?_)
      refine dcond rfl rfl (fun k163378 => ?_) (fun k163378 => ?_)
      · refine dseq (dreg ?_)
        refine lpure (v := .slice a162918 n162918 c162918) rfl (p_move rfl) rfl rfl ?_
        refine lpure (v := .slice a162918 n162918 c162918) rfl (p_assign rfl) rfl rfl ?_
        refine lend (nseq (dret (rseq (rblock (rloop (rblock (rseq ?_)))))))
        exact kopen_r (res_1 resT) ⟨φ163178, a162918, n162918, c162918, ob162918, blk162918, (g162920.trans g163179), St.pick (St.front X163341 (j := 2) rfl) (.keep _ (.skip _ (.skip _ (.skip _ (.skip _ (.refl _)))))), rfl, (O162918.mono g163179)⟩
      refine dskip (nseq (dseq (dreg ?_)))
      refine lpure (v := .slice a163284 n163284 c163284) rfl (p_move rfl) rfl rfl ?_
      refine lpure (v := .int .u8 p162435) rfl (p_move rfl) rfl rfl ?_
      refine lpure (v := .int .i64 (w64 p162435)) rfl (p_conv un_5 un_3 rfl) rfl rfl ?_
      refine lpure (v := .slice a162918 n162918 c162918) rfl (p_move rfl) rfl rfl ?_
      refine lpure (v := .int .i64 (s162915.2.2.length : Int)) rfl (p_len rfl rfl rfl un_42 rfl) (OSl.len (O162918.mono g163179)) rfl ?_
      refine lpure (v := .int .i64 (w64 (3 * (s162915.2.2.length : Int)))) rfl (p_mul rfl) rfl rfl ?_
      refine lpure (v := .int .i64 (w64 ((w64 p162435) + (w64 (3 * (s162915.2.2.length : Int)))))) rfl (p_add rfl) rfl rfl ?_
      refine lpure (v := .slice a163284 n163284 c163284) rfl (p_move rfl) rfl rfl ?_
      refine lpure (v := .int .i64 (s163282.1.length : Int)) rfl (p_len rfl rfl rfl un_33 rfl) (OSl.len O163284) rfl ?_
      refine Sim.mustM fun k163379 => ?_
      refine lpure (v := .int .i64 (Int.tmod (w64 ((w64 p162435) + (w64 (3 * (s162915.2.2.length : Int))))) (s163282.1.length : Int))) rfl (p_rem rfl) (rem_ok (of_decide_eq_true k163379)) rfl ?_
      refine Sim.bindM fun e163380 he163381 => ?_
      obtain ⟨b163382, vs163382, m163382, off163382, cs163382, rfl, rfl, hp163382, hc163382, hR163382, hl163382, hm163382, hs163382⟩ := OSl.ia O163284 he163381 (kd := .i64) (n := 1) rfl
      have hR163382 : _ = [(.int .i64 e163380 : Value)] := hR163382
      subst hR163382
      refine lpure (v := .pointer (some ⟨b163382, off163382, none⟩)) rfl (p_ia rs_33 rfl) hp163382 rfl ?_
      refine lread (v := .int .i64 e163380) rfl (q_load wd_3 rfl) (St.ld X163341 (j := 0) rfl (rdE1 hc163382 (k := 0) rfl rfl)) rfl ?_
      refine lpure (v := .int .i64 e163380) rfl (p_assign rfl) rfl rfl ?_
      refine lend (nseq (dseq (dreg ?_)))
      refine lpure (v := .slice a162918 n162918 c162918) rfl (p_move rfl) rfl rfl ?_
      refine lpure (v := .int .i64 e163380) rfl (p_move rfl) rfl rfl ?_
      obtain ⟨h163383, b163383, hv163383, X163383, O163383⟩ := OSl.lay (E := (eInt .i64)) (φ := φ163178) (cs := [.int .i64 e163380]) (l := [e163380]) (len := 1) (parts := [(0, .int .i64 e163380)]) un_42 ts_3 rfl rfl rfl tz_3 rfl rfl (show RowD (eInt .i64) φ163178 [.int .i64 e163380] [e163380] from ⟨[.int .i64 e163380], _, rfl, rfl, rfl⟩) rfl rfl X163341
      refine lheap rfl (h_buildSlice rfl) hv163383 rfl ?_
      obtain ⟨ws163385, hw163385⟩ := OSl.read O163383 X163383 (k := 0) rfl (n := 1) rfl
      refine Sim.mustM fun k163385 => ?_
      obtain ⟨h163385, a163385, c163385, ob163385, blk163385, hv163385, X163385, O163385⟩ := OSl.append (O162918.mono g163179) X163383 (j := 3) rfl hw163385 k163385 (ts := #[42, 42]) rfl un_42 (argOk_of ax_42_42) ts_3 rfl rfl tb_3 rfl tz_3 rfl
      refine lheap rfl (h_builtin rfl rfl) hv163385 rfl ?_
      refine lpure (v := .slice a163385 (s162915.2.2.length + ([e163380]).length) c163385) rfl (p_assign rfl) rfl rfl ?_
      refine lend (nseq (dseq (dreg ?_)))
      refine lread (v := .agg #[.int .i64 p162431.Nodes, .slice a162432 n162432 c162432, .slice a162433 n162433 c162433]) rfl (q_load wd_29 rfl) (St.ld X163385 (j := 5) rfl rfl) rfl ?_
      refine lpure (v := .int .i64 e163380) rfl (p_move rfl) rfl rfl ?_
      refine lcall rfl rfl ca_51 rfl rfl (f51_ok X163385 p162431 e163380 (H162432.mono (g162920.trans g163179)) (H162433.mono (g162920.trans g163179))) rfl (fun e163386 v163387 h163388 hq163389 => ?_)
      cases hq163389
      refine lpure (v := .int .i64 e163386) rfl (p_assign rfl) rfl rfl ?_
      refine lend (nseq (dreg ?_))
      refine lpure (v := .slice a162916 n162916 c162916) rfl (p_move rfl) rfl rfl ?_
      refine lpure (v := .int .i64 e163386) rfl (p_move rfl) rfl rfl ?_
      obtain ⟨h163390, b163390, hv163390, X163390, O163390⟩ := OSl.lay (E := (eInt .i64)) (φ := φ163178) (cs := [.int .i64 e163386]) (l := [e163386]) (len := 1) (parts := [(0, .int .i64 e163386)]) un_33 ts_3 rfl rfl rfl tz_3 rfl rfl (show RowD (eInt .i64) φ163178 [.int .i64 e163386] [e163386] from ⟨[.int .i64 e163386], _, rfl, rfl, rfl⟩) rfl rfl X163385
      refine lheap rfl (h_buildSlice rfl) hv163390 rfl ?_
      obtain ⟨ws163392, hw163392⟩ := OSl.read O163390 X163390 (k := 0) rfl (n := 1) rfl
      refine Sim.mustM fun k163392 => ?_
      obtain ⟨h163392, a163392, c163392, ob163392, blk163392, hv163392, X163392, O163392⟩ := OSl.append (O162916.mono g163179) X163390 (j := 5) rfl hw163392 k163392 (ts := #[33, 33]) rfl un_33 (argOk_of ax_33_33) ts_3 rfl rfl tb_3 rfl tz_3 rfl
      refine lheap rfl (h_builtin rfl rfl) hv163392 rfl ?_
      refine lpure (v := .slice a163392 (s162915.2.1.length + ([e163386]).length) c163392) rfl (p_assign rfl) rfl rfl ?_
      refine lend (nblock ?_)
      exact kbackM ih163160 (e163386, (s162915.2.1 ++ ([e163386])), (s162915.2.2 ++ ([e163380]))) (φ163178, a163392, (s162915.2.1.length + ([e163386]).length), c163392, ob163392, blk163392, a163385, (s162915.2.2.length + ([e163380]).length), c163385, ob163385, blk163385) (sub_cons rfl (sub_cons rfl (sub_cons rfl (sub_cons rfl (sub_cons rfl sub_nil))))) ⟨(St.pick X163392 (.skip _ (.skip _ (.skip _ (.skip _ (.keep _ (.keep _ (.keep _ (.refl _))))))))), (g162920.trans g163179), O163392, O163385⟩
    refine dexit (eseq (eloop (xblock (nseq (dseq (dreg ?_))))))
    refine lpure (v := .slice a162918 n162918 c162918) rfl (p_move rfl) rfl rfl ?_
    refine lpure (v := .slice a162918 n162918 c162918) rfl (p_assign rfl) rfl rfl ?_
    refine lend (nseq (dret ?_))
    exact kopen_r (res_1 resT) ⟨φ162919, a162918, n162918, c162918, ob162918, blk162918, g162920, St.pick X163171 (.keep _ (.skip _ (.skip _ (.refl _)))), rfl, O162918⟩
  intro j163393 J163394
  refine lif (i := 24) (show _ = Value.bool (decide ((s162915.2.2.length : Int) < 8)) from rfl) (fun k163395 => ?_) (fun k163395 => ?_)
  · refine lpure (v := .slice a162918 n162918 c162918) rfl (p_move rfl) rfl rfl ?_
    refine lpure (v := .int .i64 (s162915.2.2.length : Int)) rfl (p_len rfl rfl rfl un_42 rfl) (OSl.len O162918) rfl ?_
    refine lpure (v := .bool (decide ((s162915.2.2.length : Int) = 0))) rfl (p_eq rfl) rfl rfl ?_
    refine lpure (v := .bool (decide ((s162915.2.2.length : Int) = 0))) rfl (p_move rfl) rfl rfl ?_
    refine lif (i := 28) (show _ = Value.bool (decide ((s162915.2.2.length : Int) = 0)) from rfl) (fun k163396 => ?_) (fun k163396 => ?_)
    · refine lskip rfl rfl ?_
      refine lskip rfl rfl ?_
      refine lskip rfl rfl ?_
      refine lskip rfl rfl ?_
      refine lskip rfl rfl ?_
      refine lskip rfl rfl ?_
      refine lpure (v := .bool true) rfl (p_pick rfl) rfl rfl ?_
      refine lpure (v := .bool true) rfl (p_pick rfl) rfl rfl ?_
      exact ljmpM J163394 true () (sub_cons rfl (sub_cons rfl (sub_cons rfl (sub_cons rfl (sub_cons rfl (sub_cons rfl sub_nil)))))) X163162
    refine lpure (v := .pointer (some ⟨b162436, 1, none⟩)) rfl (p_fa fo_29_1 rfl) rfl rfl ?_
    refine lread (v := .slice a162432 n162432 c162432) rfl (q_load wd_26 rfl) (St.ld X163162 (j := 2) rfl rfl) rfl ?_
    refine lpure (v := .int .i64 s162915.1) rfl (p_move rfl) rfl rfl ?_
    refine Sim.bindM fun e163397 he163398 => ?_
    obtain ⟨p163399, cs163399, hp163399, hF163399, hR163399⟩ := RSl.ia (H162432.mono g162920) he163398 (kd := .i64) (n := 1) rfl
    have hR163399 : _ = [(.bool e163397 : Value)] := hR163399
    subst hR163399
    refine lpure (v := p163399) rfl (p_ia rs_26 rfl) hp163399 rfl ?_
    refine lread (v := .bool e163397) rfl (q_load wd_4 rfl) (FP.ld X163162 hF163399) rfl ?_
    refine lpure (v := .bool (!e163397)) rfl (p_not rfl) rfl rfl ?_
    refine lpure (v := .bool (!e163397)) rfl (p_pick rfl) rfl rfl ?_
    refine lpure (v := .bool (!e163397)) rfl (p_pick rfl) rfl rfl ?_
    exact ljmpM J163394 (!e163397) () (sub_cons rfl (sub_cons rfl (sub_cons rfl (sub_cons rfl (sub_cons rfl (sub_cons rfl sub_nil)))))) X163162
  refine lskip rfl rfl ?_
  refine lskip rfl rfl ?_
  refine lskip rfl rfl ?_
  refine lskip rfl rfl ?_
  refine lskip rfl rfl ?_
  refine lskip rfl rfl ?_
  refine lskip rfl rfl ?_
  refine lskip rfl rfl ?_
  refine lskip rfl rfl ?_
  refine lskip rfl rfl ?_
  refine lskip rfl rfl ?_
  refine lpure (v := .bool false) rfl (p_pick rfl) rfl rfl ?_
  exact ljmpM J163394 false () (sub_cons rfl (sub_cons rfl (sub_cons rfl (sub_cons rfl (sub_cons rfl (sub_cons rfl sub_nil)))))) X163162
/-! isochron/isochronlaw21.RouteParts -/
theorem f4_ok {n : Nat} {φ : Fz} {lo : Nat} {h : Heap} {own : OwnL}  {a2 : Option Addr} {n2 c2 : Nat} {a3 : Option Addr} {n3 c3 : Nat} {a4 : Option Addr} {n4 c4 : Nat} {a5 : Option Addr} {n5 c5 : Nat} (X : St φ lo h (own)) (p1 : Isochronref16Draft) (p6 : Int) (p7 : Int) (p8 : Int) (p9 : Int) (H2 : RSl (eInt .u8) φ (.slice a2 n2 c2) p1.Chords) (H3 : RSl (eInt .u8) φ (.slice a3 n3 c3) p1.Homes) (H4 : RSl (eInt .u8) φ (.slice a4 n4 c4) p1.Pers) (H5 : RSl (eInt .u8) φ (.slice a5 n5 c5) p1.Delays) : Sim ((recN Try.prog LL cutF (n + 19)).call 4 #[(.agg #[.int .u8 p1.Bridges, .int .u8 p1.Stations, .slice a2 n2 c2, .slice a3 n3 c3, .slice a4 n4 c4, .slice a5 n5 c5]), (.int .u8 p6), (.int .u8 p7), (.int .u8 p8), (.int .u16 p9)] h) (m_isochronlaw21_RouteParts p1 p6 p7 p8 p9) (fun (d : Bool) p => p = (.bool d, h)) := by
  refine fcut Try.func4 rfl rfl rfl rfl X ?_
  intro h0 X0
  refine dseq (dreg ?_)
  refine lbox rfl rfl rfl rfl rfl X0 (fun b10 h12 X13 => ?_)
  refine lpure (v := .bool false) rfl (p_assign rfl) rfl rfl ?_
  refine lend (nseq (dseq (dseq (dreg ?_))))
  refine lcall rfl rfl ca_16 rfl rfl (f16_ok X13) rfl (fun e18880 v18881 h18882 hq18883 => ?_)
  cases hq18883
  refine lpure (v := .bool (!e18880)) rfl (p_not rfl) rfl rfl ?_
  refine lend (nseq ?_)
  refine dcond rfl rfl (fun k18884 => ?_) (fun k18884 => ?_)
  · refine dseq (dreg ?_)
    refine lpure (v := .bool false) rfl (p_assign rfl) rfl rfl ?_
    refine lend (nseq (dret (rseq ?_)))
    exact kcut_r (res_1 resT) X13 rfl rfl
  refine dskip (nseq (dseq (dreg ?_)))
  refine lread (v := .agg #[.int .u8 p1.Bridges, .int .u8 p1.Stations, .slice a2 n2 c2, .slice a3 n3 c3, .slice a4 n4 c4, .slice a5 n5 c5]) rfl (q_load wd_24 rfl) (St.ld X13 (j := 0) rfl rfl) rfl ?_
  refine lcall rfl rfl ca_8 rfl rfl (f8_ok X13 p1 H2 H3 H4 H5) rfl ?_
  rintro e161165 _ h161167 ⟨φ161169, a161172, n161172, c161172, a161173, n161173, c161173, ob161173, blk161173, g161170, X161171, rfl, H161172, O161173⟩
  refine lalloc rfl tz_29 rfl rfl rfl X161171 (fun b161175 h161177 X161178 => ?_)
  refine lstore rfl ts_29 rfl rfl (j := 0) rfl rfl rfl rfl rfl rfl X161178 (fun h161179 X161180 => ?_)
  refine lend (nseq (dseq (dreg ?_)))
  refine lread (v := .agg #[.int .i64 e161165.Nodes, .slice a161172 n161172 c161172, .slice a161173 n161173 c161173]) rfl (q_load wd_29 rfl) (St.ld X161180 (j := 0) rfl rfl) rfl ?_
  refine lpure (v := .int .u8 p6) rfl (p_move rfl) rfl rfl ?_
  refine lpure (v := .int .u8 p7) rfl (p_move rfl) rfl rfl ?_
  obtain ⟨φ163402, g163403, X163404, H163405⟩ := OSl.freeze X161180 (j := 1) rfl O161173
  refine lcall rfl rfl ca_17 rfl rfl (f17_ok X163404 e161165 p6 p7 (H161172.mono g163403) H163405) rfl ?_
  rintro e163406 _ h163408 ⟨φ163410, a163413, n163413, c163413, ob163413, blk163413, g163411, X163412, rfl, O163413⟩
  refine lpure (v := .slice a163413 n163413 c163413) rfl (p_assign rfl) rfl rfl ?_
  refine lend (nseq (dseq (dseq (dreg ?_))))
  refine lread (v := .agg #[.int .i64 e161165.Nodes, .slice a161172 n161172 c161172, .slice a161173 n161173 c161173]) rfl (q_load wd_29 rfl) (St.ld X163412 (j := 1) rfl rfl) rfl ?_
  refine lpure (v := .slice a163413 n163413 c163413) rfl (p_move rfl) rfl rfl ?_
  obtain ⟨φ163415, g163416, X163417, H163418⟩ := OSl.freeze X163412 (j := 0) rfl O163413
  refine lcall rfl rfl ca_18 rfl rfl (f18_ok X163417 e161165 e163406 (H161172.mono ((g163403.trans g163411).trans g163416)) (H163405.mono (g163411.trans g163416)) H163418) rfl (fun e163419 v163420 h163421 hq163422 => ?_)
  cases hq163422
  refine lpure (v := .bool (decide (e163419 ≠ 0))) rfl (p_ne rfl) rfl rfl ?_
  refine lend (nseq ?_)
  refine dcond rfl rfl (fun k163423 => ?_) (fun k163423 => ?_)
  · refine dseq (dreg ?_)
    refine lpure (v := .bool false) rfl (p_assign rfl) rfl rfl ?_
    refine lend (nseq (dret (rseq ?_)))
    exact kcut_r (res_1 resT) X163412 rfl rfl
  refine dskip (nseq (dseq (dreg ?_)))
  refine lpure (v := .int .u8 p8) rfl (p_move rfl) rfl rfl ?_
  refine lpure (v := .int .i64 (w64 p8)) rfl (p_conv un_5 un_3 rfl) rfl rfl ?_
  refine lpure (v := .slice a163413 n163413 c163413) rfl (p_move rfl) rfl rfl ?_
  refine lpure (v := .int .i64 (e163406.length : Int)) rfl (p_len rfl rfl rfl un_42 rfl) (OSl.len O163413) rfl ?_
  refine lpure (v := .int .i64 (w64 ((e163406.length : Int) + 1))) rfl (p_add rfl) rfl rfl ?_
  refine Sim.mustM fun k163424 => ?_
  refine lpure (v := .int .i64 (Int.tmod (w64 p8) (w64 ((e163406.length : Int) + 1)))) rfl (p_rem rfl) (rem_ok (of_decide_eq_true k163424)) rfl ?_
  refine lpure (v := .int .i64 (Int.tmod (w64 p8) (w64 ((e163406.length : Int) + 1)))) rfl (p_assign rfl) rfl rfl ?_
  refine lend (nseq (dseq (dseq (dreg ?_))))
  refine lpure (v := .int .i64 (Int.tmod (w64 p8) (w64 ((e163406.length : Int) + 1)))) rfl (p_move rfl) rfl rfl ?_
  refine lpure (v := .bool (decide ((Int.tmod (w64 p8) (w64 ((e163406.length : Int) + 1))) = 0))) rfl (p_eq rfl) rfl rfl ?_
  refine lpure (v := .bool (decide ((Int.tmod (w64 p8) (w64 ((e163406.length : Int) + 1))) = 0))) rfl (p_move rfl) rfl rfl ?_
  refine lsh (τ := Bool) (σ := Unit) (fun s163426 (_ : Unit) => [(4, .int .u16 p9), (11, .pointer (some ⟨b161175, 0, none⟩)), (12, .slice a163413 n163413 c163413), (13, .int .i64 (Int.tmod (w64 p8) (w64 ((e163406.length : Int) + 1)))), (63, .bool s163426)]) (fun s163426 (_ : Unit) hh => St φ163410 h.n hh ([(ob163413, blk163413), (some b161175, .cells [.int .i64 e161165.Nodes, .slice a161172 n161172 c161172, .slice a161173 n161173 c161173] 29 .exact), (none, .dead), (some b10, .cells [.int .u8 p1.Bridges, .int .u8 p1.Stations, .slice a2 n2 c2, .slice a3 n3 c3, .slice a4 n4 c4, .slice a5 n5 c5] 24 .exact)])) 5 ?_ ?_
  · rintro s163426 _ t0 h163428 X163427
    refine lend (nseq ?_)
    refine dcond rfl rfl (fun k163429 => ?_) (fun k163429 => ?_)
    · refine dseq (dreg ?_)
      refine lpure (v := .bool true) rfl (p_assign rfl) rfl rfl ?_
      refine lend (nseq (dret (rseq ?_)))
      exact kcut_r (res_1 resT) X163427 rfl rfl
    refine dskip (nseq (dseq ?_))
    refine ddraw 0 0 0 (by kernel_rfl) ?_
    refine spure (v := .slice a163413 n163413 c163413) rfl (p_move rfl) (lo_t (lo_osl X163427 (j := 0) rfl O163413) rfl) rfl rfl ?_
    refine spure (v := .int .i64 (Int.tmod (w64 p8) (w64 ((e163406.length : Int) + 1)))) rfl (p_move rfl) (lo_t rfl rfl) rfl rfl ?_
    refine spure (v := .int .i64 (Int.tmod (w64 p8) (w64 ((e163406.length : Int) + 1)))) rfl (p_move rfl) (lo_t rfl rfl) rfl rfl ?_
    obtain ⟨φ163430, g163431, X163432, H163433⟩ := OSl.freeze X163427 (j := 0) rfl O163413
    refine Sim.mustM fun k163434 => ?_
    have k163434 := of_decide_eq_true k163434
    obtain ⟨a163434, n163434, c163434, hv163434, H163434, K163434⟩ := RSl.slice3 (mx := .int .i64 (Int.tmod (w64 p8) (w64 ((e163406.length : Int) + 1)))) H163433 un_42 ts_3 rfl bnd_none ⟨.i64, (Int.tmod (w64 p8) (w64 ((e163406.length : Int) + 1))), rfl, by omega, rfl⟩ ⟨.i64, (Int.tmod (w64 p8) (w64 ((e163406.length : Int) + 1))), rfl, by omega, rfl⟩ (by omega) (by omega) (by omega) (by omega) (by unfold unk; omega)
    refine spure rfl (p_slice3 ⟨_, _, _, rfl⟩ rfl (evo_ok rfl) (evo_ok rfl) rfl) (lo_t (lo_sl X163432 H163433) (lo_t rfl (lo_t rfl rfl))) hv163434 rfl ?_
    refine spure (v := .slice a163413 n163413 c163413) rfl (p_move rfl) (lo_t (lo_sl X163432 H163433) rfl) rfl rfl ?_
    refine spure (v := .int .i64 (Int.tmod (w64 p8) (w64 ((e163406.length : Int) + 1)))) rfl (p_move rfl) (lo_t rfl rfl) rfl rfl ?_
    refine Sim.mustM fun k163435 => ?_
    have k163435 := of_decide_eq_true k163435
    refine sslice H163433 X163432 rfl rfl rfl (evo_ok rfl) (evo_ok rfl) rfl rfl rfl un_42 ts_3 rfl (bnd_int (show (0 : Int) ≤ (Int.tmod (w64 p8) (w64 ((e163406.length : Int) + 1))) from by omega)) bnd_none (by omega) (by omega) (l' := (e163406.drop ((Int.tmod (w64 p8) (w64 ((e163406.length : Int) + 1)))).toNat)) (by simp [List.take_length]) (lo_t (lo_sl X163432 H163433) (lo_t rfl rfl)) rfl (fun a163435 n163435 c163435 H163435 => ?_)
    refine spure (v := .slice a163434 n163434 c163434) rfl (p_assign rfl) (lo_t (lo_sl X163432 H163434) rfl) rfl rfl ?_
    refine spure (v := .slice a163435 n163435 c163435) rfl (p_assign rfl) (lo_t (lo_sl X163432 H163435) rfl) rfl rfl ?_
    refine send ?_
    refine nseq (dseq (dreg ?_))
    refine lpure (v := .int .u16 p9) rfl (p_move rfl) rfl rfl ?_
    refine lpure (v := .int .i64 (w64 p9)) rfl (p_conv un_41 un_3 rfl) rfl rfl ?_
    refine lpure (v := .int .i64 (Int.tmod (w64 p9) 1459)) rfl (p_rem rfl) rfl rfl ?_
    refine lpure (v := .int .i64 (w64 (84 + (Int.tmod (w64 p9) 1459)))) rfl (p_add rfl) rfl rfl ?_
    refine lpure (v := .int .i64 (w64 (84 + (Int.tmod (w64 p9) 1459)))) rfl (p_assign rfl) rfl rfl ?_
    refine lend (nseq (dseq (dreg ?_)))
    refine lread (v := .agg #[.int .i64 e161165.Nodes, .slice a161172 n161172 c161172, .slice a161173 n161173 c161173]) rfl (q_load wd_29 rfl) (St.ld X163432 (j := 1) rfl rfl) rfl ?_
    refine lpure (v := .slice a163434 n163434 c163434) rfl (p_move rfl) rfl rfl ?_
    refine lpure (v := .int .i64 (w64 (84 + (Int.tmod (w64 p9) 1459)))) rfl (p_move rfl) rfl rfl ?_
    refine lcall rfl rfl ca_19 rfl rfl (f19_ok X163432 e161165 ((e163406.take ((Int.tmod (w64 p8) (w64 ((e163406.length : Int) + 1)))).toNat)) ((w64 (84 + (Int.tmod (w64 p9) 1459)))) (H161172.mono ((g163403.trans g163411).trans g163431)) (H163405.mono (g163411.trans g163431)) H163434) rfl (fun e163436 v163437 h163438 hq163439 => ?_)
    cases hq163439
    refine lpure (v := .tuple #[.int .i64 e163436.1, .int .i64 e163436.2]) rfl (p_move rfl) rfl rfl ?_
    refine lpure (v := .int .i64 e163436.1) rfl (p_extract rfl) rfl rfl ?_
    refine lpure (v := .int .i64 e163436.2) rfl (p_extract rfl) rfl rfl ?_
    refine lpure (v := .int .i64 e163436.1) rfl (p_assign rfl) rfl rfl ?_
    refine lpure (v := .int .i64 e163436.2) rfl (p_assign rfl) rfl rfl ?_
    refine lend (nseq (dseq (dreg ?_)))
    refine lread (v := .agg #[.int .i64 e161165.Nodes, .slice a161172 n161172 c161172, .slice a161173 n161173 c161173]) rfl (q_load wd_29 rfl) (St.ld X163432 (j := 1) rfl rfl) rfl ?_
    refine lpure (v := .slice a163435 n163435 c163435) rfl (p_move rfl) rfl rfl ?_
    refine lpure (v := .int .i64 (w64 (84 + (Int.tmod (w64 p9) 1459)))) rfl (p_move rfl) rfl rfl ?_
    refine lcall rfl rfl ca_19 rfl rfl (f19_ok X163432 e161165 ((e163406.drop ((Int.tmod (w64 p8) (w64 ((e163406.length : Int) + 1)))).toNat)) ((w64 (84 + (Int.tmod (w64 p9) 1459)))) (H161172.mono ((g163403.trans g163411).trans g163431)) (H163405.mono (g163411.trans g163431)) H163435) rfl (fun e163440 v163441 h163442 hq163443 => ?_)
    cases hq163443
    refine lpure (v := .tuple #[.int .i64 e163440.1, .int .i64 e163440.2]) rfl (p_move rfl) rfl rfl ?_
    refine lpure (v := .int .i64 e163440.1) rfl (p_extract rfl) rfl rfl ?_
    refine lpure (v := .int .i64 e163440.2) rfl (p_extract rfl) rfl rfl ?_
    refine lpure (v := .int .i64 e163440.1) rfl (p_assign rfl) rfl rfl ?_
    refine lpure (v := .int .i64 e163440.2) rfl (p_assign rfl) rfl rfl ?_
    refine lend (nseq (dseq (dreg ?_)))
    refine lread (v := .agg #[.int .i64 e161165.Nodes, .slice a161172 n161172 c161172, .slice a161173 n161173 c161173]) rfl (q_load wd_29 rfl) (St.ld X163432 (j := 1) rfl rfl) rfl ?_
    refine lpure (v := .slice a163413 n163413 c163413) rfl (p_move rfl) rfl rfl ?_
    refine lpure (v := .int .i64 (w64 (84 + (Int.tmod (w64 p9) 1459)))) rfl (p_move rfl) rfl rfl ?_
    refine lcall rfl rfl ca_19 rfl rfl (f19_ok X163432 e161165 e163406 ((w64 (84 + (Int.tmod (w64 p9) 1459)))) (H161172.mono ((g163403.trans g163411).trans g163431)) (H163405.mono (g163411.trans g163431)) H163433) rfl (fun e163444 v163445 h163446 hq163447 => ?_)
    cases hq163447
    refine lpure (v := .tuple #[.int .i64 e163444.1, .int .i64 e163444.2]) rfl (p_move rfl) rfl rfl ?_
    refine lpure (v := .int .i64 e163444.1) rfl (p_extract rfl) rfl rfl ?_
    refine lpure (v := .int .i64 e163444.2) rfl (p_extract rfl) rfl rfl ?_
    refine lpure (v := .int .i64 e163444.1) rfl (p_assign rfl) rfl rfl ?_
    refine lpure (v := .int .i64 e163444.2) rfl (p_assign rfl) rfl rfl ?_
    refine lend (nseq (dseq (dreg ?_)))
    refine lread (v := .agg #[.int .i64 e161165.Nodes, .slice a161172 n161172 c161172, .slice a161173 n161173 c161173]) rfl (q_load wd_29 rfl) (St.ld X163432 (j := 1) rfl rfl) rfl ?_
    refine lpure (v := .slice a163434 n163434 c163434) rfl (p_move rfl) rfl rfl ?_
    refine lcall rfl rfl ca_20 rfl rfl (f20_ok X163432 e161165 ((e163406.take ((Int.tmod (w64 p8) (w64 ((e163406.length : Int) + 1)))).toNat)) (H161172.mono ((g163403.trans g163411).trans g163431)) (H163405.mono (g163411.trans g163431)) H163434) rfl (fun e163448 v163449 h163450 hq163451 => ?_)
    cases hq163451
    refine lpure (v := .tuple #[.int .i64 e163448.1, .int .i64 e163448.2]) rfl (p_move rfl) rfl rfl ?_
    refine lpure (v := .int .i64 e163448.1) rfl (p_extract rfl) rfl rfl ?_
    refine lpure (v := .int .i64 e163448.2) rfl (p_extract rfl) rfl rfl ?_
    refine lpure (v := .int .i64 e163448.1) rfl (p_assign rfl) rfl rfl ?_
    refine lpure (v := .int .i64 e163448.2) rfl (p_assign rfl) rfl rfl ?_
    refine lend (nseq (dseq (dreg ?_)))
    refine lread (v := .agg #[.int .i64 e161165.Nodes, .slice a161172 n161172 c161172, .slice a161173 n161173 c161173]) rfl (q_load wd_29 rfl) (St.ld X163432 (j := 1) rfl rfl) rfl ?_
    refine lpure (v := .slice a163435 n163435 c163435) rfl (p_move rfl) rfl rfl ?_
    refine lcall rfl rfl ca_20 rfl rfl (f20_ok X163432 e161165 ((e163406.drop ((Int.tmod (w64 p8) (w64 ((e163406.length : Int) + 1)))).toNat)) (H161172.mono ((g163403.trans g163411).trans g163431)) (H163405.mono (g163411.trans g163431)) H163435) rfl (fun e163452 v163453 h163454 hq163455 => ?_)
    cases hq163455
    refine lpure (v := .tuple #[.int .i64 e163452.1, .int .i64 e163452.2]) rfl (p_move rfl) rfl rfl ?_
    refine lpure (v := .int .i64 e163452.1) rfl (p_extract rfl) rfl rfl ?_
    refine lpure (v := .int .i64 e163452.2) rfl (p_extract rfl) rfl rfl ?_
    refine lpure (v := .int .i64 e163452.1) rfl (p_assign rfl) rfl rfl ?_
    refine lpure (v := .int .i64 e163452.2) rfl (p_assign rfl) rfl rfl ?_
    refine lend (nseq (dseq (dreg ?_)))
    refine lread (v := .agg #[.int .i64 e161165.Nodes, .slice a161172 n161172 c161172, .slice a161173 n161173 c161173]) rfl (q_load wd_29 rfl) (St.ld X163432 (j := 1) rfl rfl) rfl ?_
    refine lpure (v := .slice a163413 n163413 c163413) rfl (p_move rfl) rfl rfl ?_
    refine lcall rfl rfl ca_20 rfl rfl (f20_ok X163432 e161165 e163406 (H161172.mono ((g163403.trans g163411).trans g163431)) (H163405.mono (g163411.trans g163431)) H163433) rfl (fun e163456 v163457 h163458 hq163459 => ?_)
    cases hq163459
    refine lpure (v := .tuple #[.int .i64 e163456.1, .int .i64 e163456.2]) rfl (p_move rfl) rfl rfl ?_
    refine lpure (v := .int .i64 e163456.1) rfl (p_extract rfl) rfl rfl ?_
    refine lpure (v := .int .i64 e163456.2) rfl (p_extract rfl) rfl rfl ?_
    refine lpure (v := .int .i64 e163456.1) rfl (p_assign rfl) rfl rfl ?_
    refine lpure (v := .int .i64 e163456.2) rfl (p_assign rfl) rfl rfl ?_
    refine lend (nseq (dseq (dreg ?_)))
    refine lread (v := .agg #[.int .i64 e161165.Nodes, .slice a161172 n161172 c161172, .slice a161173 n161173 c161173]) rfl (q_load wd_29 rfl) (St.ld X163432 (j := 1) rfl rfl) rfl ?_
    refine lpure (v := .slice a163434 n163434 c163434) rfl (p_move rfl) rfl rfl ?_
    refine lcall rfl rfl ca_21 rfl rfl (f21_ok X163432 e161165 ((e163406.take ((Int.tmod (w64 p8) (w64 ((e163406.length : Int) + 1)))).toNat)) (H161172.mono ((g163403.trans g163411).trans g163431)) (H163405.mono (g163411.trans g163431)) H163434) rfl (fun e163460 v163461 h163462 hq163463 => ?_)
    cases hq163463
    refine lpure (v := .tuple #[.int .i64 e163460.1, .int .i64 e163460.2.1, .int .i64 e163460.2.2]) rfl (p_move rfl) rfl rfl ?_
    refine lpure (v := .int .i64 e163460.1) rfl (p_extract rfl) rfl rfl ?_
    refine lpure (v := .int .i64 e163460.2.1) rfl (p_extract rfl) rfl rfl ?_
    refine lpure (v := .int .i64 e163460.2.2) rfl (p_extract rfl) rfl rfl ?_
    refine lpure (v := .int .i64 e163460.1) rfl (p_assign rfl) rfl rfl ?_
    refine lpure (v := .int .i64 e163460.2.1) rfl (p_assign rfl) rfl rfl ?_
    refine lpure (v := .int .i64 e163460.2.2) rfl (p_assign rfl) rfl rfl ?_
    refine lend (nseq (dseq (dreg ?_)))
    refine lread (v := .agg #[.int .i64 e161165.Nodes, .slice a161172 n161172 c161172, .slice a161173 n161173 c161173]) rfl (q_load wd_29 rfl) (St.ld X163432 (j := 1) rfl rfl) rfl ?_
    refine lpure (v := .slice a163435 n163435 c163435) rfl (p_move rfl) rfl rfl ?_
    refine lcall rfl rfl ca_21 rfl rfl (f21_ok X163432 e161165 ((e163406.drop ((Int.tmod (w64 p8) (w64 ((e163406.length : Int) + 1)))).toNat)) (H161172.mono ((g163403.trans g163411).trans g163431)) (H163405.mono (g163411.trans g163431)) H163435) rfl (fun e163464 v163465 h163466 hq163467 => ?_)
    cases hq163467
    refine lpure (v := .tuple #[.int .i64 e163464.1, .int .i64 e163464.2.1, .int .i64 e163464.2.2]) rfl (p_move rfl) rfl rfl ?_
    refine lpure (v := .int .i64 e163464.1) rfl (p_extract rfl) rfl rfl ?_
    refine lpure (v := .int .i64 e163464.2.1) rfl (p_extract rfl) rfl rfl ?_
    refine lpure (v := .int .i64 e163464.2.2) rfl (p_extract rfl) rfl rfl ?_
    refine lpure (v := .int .i64 e163464.1) rfl (p_assign rfl) rfl rfl ?_
    refine lpure (v := .int .i64 e163464.2.1) rfl (p_assign rfl) rfl rfl ?_
    refine lpure (v := .int .i64 e163464.2.2) rfl (p_assign rfl) rfl rfl ?_
    refine lend (nseq (dseq (dreg ?_)))
    refine lread (v := .agg #[.int .i64 e161165.Nodes, .slice a161172 n161172 c161172, .slice a161173 n161173 c161173]) rfl (q_load wd_29 rfl) (St.ld X163432 (j := 1) rfl rfl) rfl ?_
    refine lpure (v := .slice a163434 n163434 c163434) rfl (p_move rfl) rfl rfl ?_
    refine lpure (v := .slice a163435 n163435 c163435) rfl (p_move rfl) rfl rfl ?_
    refine lcall rfl rfl ca_22 rfl rfl (f22_ok X163432 e161165 ((e163406.take ((Int.tmod (w64 p8) (w64 ((e163406.length : Int) + 1)))).toNat)) ((e163406.drop ((Int.tmod (w64 p8) (w64 ((e163406.length : Int) + 1)))).toNat)) (H161172.mono ((g163403.trans g163411).trans g163431)) (H163405.mono (g163411.trans g163431)) H163434 H163435) rfl (fun e163468 v163469 h163470 hq163471 => ?_)
    cases hq163471
    refine lpure (v := .tuple #[.bool e163468.1, .int .i64 e163468.2]) rfl (p_move rfl) rfl rfl ?_
    refine lpure (v := .bool e163468.1) rfl (p_extract rfl) rfl rfl ?_
    refine lpure (v := .int .i64 e163468.2) rfl (p_extract rfl) rfl rfl ?_
    refine lpure (v := .bool e163468.1) rfl (p_assign rfl) rfl rfl ?_
    refine lpure (v := .int .i64 e163468.2) rfl (p_assign rfl) rfl rfl ?_
    refine lend (nseq (dseq (dreg ?_)))
    refine lpure (v := .int .i64 e163436.2) rfl (p_move rfl) rfl rfl ?_
    refine lpure (v := .bool (decide (e163436.2 = 0))) rfl (p_eq rfl) rfl rfl ?_
    refine lpure (v := .bool (decide (e163436.2 = 0))) rfl (p_move rfl) rfl rfl ?_
    refine lsh (τ := Bool) (σ := Unit) (fun s163473 (_ : Unit) => [(17, .int .i64 e163436.1), (19, .int .i64 e163440.1), (21, .int .i64 e163444.1), (22, .int .i64 e163444.2), (23, .int .i64 e163448.1), (24, .int .i64 e163448.2), (25, .int .i64 e163452.1), (26, .int .i64 e163452.2), (27, .int .i64 e163456.1), (28, .int .i64 e163456.2), (30, .int .i64 e163460.2.1), (31, .int .i64 e163460.2.2), (32, .int .i64 e163464.1), (34, .int .i64 e163464.2.2), (35, .bool e163468.1), (36, .int .i64 e163468.2), (140, .bool s163473)]) (fun s163473 (_ : Unit) hh => St φ163430 h.n hh ([(none, .dead), (some b161175, .cells [.int .i64 e161165.Nodes, .slice a161172 n161172 c161172, .slice a161173 n161173 c161173] 29 .exact), (none, .dead), (some b10, .cells [.int .u8 p1.Bridges, .int .u8 p1.Stations, .slice a2 n2 c2, .slice a3 n3 c3, .slice a4 n4 c4, .slice a5 n5 c5] 24 .exact)])) 3 ?_ ?_
    · rintro s163473 _ t0 h163475 X163474
      refine lpure (v := .bool s163473) rfl (p_move rfl) rfl rfl ?_
      refine lsh (τ := Bool) (σ := Unit) (fun s163477 (_ : Unit) => [(17, .int .i64 e163436.1), (19, .int .i64 e163440.1), (21, .int .i64 e163444.1), (23, .int .i64 e163448.1), (24, .int .i64 e163448.2), (25, .int .i64 e163452.1), (26, .int .i64 e163452.2), (27, .int .i64 e163456.1), (28, .int .i64 e163456.2), (30, .int .i64 e163460.2.1), (31, .int .i64 e163460.2.2), (32, .int .i64 e163464.1), (34, .int .i64 e163464.2.2), (35, .bool e163468.1), (36, .int .i64 e163468.2), (144, .bool s163477)]) (fun s163477 (_ : Unit) hh => St φ163430 h.n hh ([(none, .dead), (some b161175, .cells [.int .i64 e161165.Nodes, .slice a161172 n161172 c161172, .slice a161173 n161173 c161173] 29 .exact), (none, .dead), (some b10, .cells [.int .u8 p1.Bridges, .int .u8 p1.Stations, .slice a2 n2 c2, .slice a3 n3 c3, .slice a4 n4 c4, .slice a5 n5 c5] 24 .exact)])) 3 ?_ ?_
      · rintro s163477 _ t0 h163479 X163478
        refine lpure (v := .bool s163477) rfl (p_move rfl) rfl rfl ?_
        refine lsh (τ := Bool) (σ := Unit) (fun s163481 (_ : Unit) => [(17, .int .i64 e163436.1), (19, .int .i64 e163440.1), (21, .int .i64 e163444.1), (23, .int .i64 e163448.1), (25, .int .i64 e163452.1), (26, .int .i64 e163452.2), (27, .int .i64 e163456.1), (28, .int .i64 e163456.2), (30, .int .i64 e163460.2.1), (31, .int .i64 e163460.2.2), (32, .int .i64 e163464.1), (34, .int .i64 e163464.2.2), (35, .bool e163468.1), (36, .int .i64 e163468.2), (148, .bool s163481)]) (fun s163481 (_ : Unit) hh => St φ163430 h.n hh ([(none, .dead), (some b161175, .cells [.int .i64 e161165.Nodes, .slice a161172 n161172 c161172, .slice a161173 n161173 c161173] 29 .exact), (none, .dead), (some b10, .cells [.int .u8 p1.Bridges, .int .u8 p1.Stations, .slice a2 n2 c2, .slice a3 n3 c3, .slice a4 n4 c4, .slice a5 n5 c5] 24 .exact)])) 3 ?_ ?_
        · rintro s163481 _ t0 h163483 X163482
          refine lpure (v := .bool s163481) rfl (p_move rfl) rfl rfl ?_
          refine lsh (τ := Bool) (σ := Unit) (fun s163485 (_ : Unit) => [(17, .int .i64 e163436.1), (19, .int .i64 e163440.1), (21, .int .i64 e163444.1), (23, .int .i64 e163448.1), (25, .int .i64 e163452.1), (27, .int .i64 e163456.1), (28, .int .i64 e163456.2), (30, .int .i64 e163460.2.1), (31, .int .i64 e163460.2.2), (32, .int .i64 e163464.1), (34, .int .i64 e163464.2.2), (35, .bool e163468.1), (36, .int .i64 e163468.2), (152, .bool s163485)]) (fun s163485 (_ : Unit) hh => St φ163430 h.n hh ([(none, .dead), (some b161175, .cells [.int .i64 e161165.Nodes, .slice a161172 n161172 c161172, .slice a161173 n161173 c161173] 29 .exact), (none, .dead), (some b10, .cells [.int .u8 p1.Bridges, .int .u8 p1.Stations, .slice a2 n2 c2, .slice a3 n3 c3, .slice a4 n4 c4, .slice a5 n5 c5] 24 .exact)])) 3 ?_ ?_
          · rintro s163485 _ t0 h163487 X163486
            refine lpure (v := .bool s163485) rfl (p_move rfl) rfl rfl ?_
            refine lsh (τ := Bool) (σ := Unit) (fun s163489 (_ : Unit) => [(17, .int .i64 e163436.1), (19, .int .i64 e163440.1), (21, .int .i64 e163444.1), (23, .int .i64 e163448.1), (25, .int .i64 e163452.1), (27, .int .i64 e163456.1), (30, .int .i64 e163460.2.1), (31, .int .i64 e163460.2.2), (32, .int .i64 e163464.1), (34, .int .i64 e163464.2.2), (35, .bool e163468.1), (36, .int .i64 e163468.2), (156, .bool s163489)]) (fun s163489 (_ : Unit) hh => St φ163430 h.n hh ([(none, .dead), (some b161175, .cells [.int .i64 e161165.Nodes, .slice a161172 n161172 c161172, .slice a161173 n161173 c161173] 29 .exact), (none, .dead), (some b10, .cells [.int .u8 p1.Bridges, .int .u8 p1.Stations, .slice a2 n2 c2, .slice a3 n3 c3, .slice a4 n4 c4, .slice a5 n5 c5] 24 .exact)])) 3 ?_ ?_
            · rintro s163489 _ t0 h163491 X163490
              refine lpure (v := .bool s163489) rfl (p_move rfl) rfl rfl ?_
              refine lsh (τ := Bool) (σ := Unit) (fun s163493 (_ : Unit) => [(17, .int .i64 e163436.1), (19, .int .i64 e163440.1), (21, .int .i64 e163444.1), (23, .int .i64 e163448.1), (25, .int .i64 e163452.1), (27, .int .i64 e163456.1), (30, .int .i64 e163460.2.1), (32, .int .i64 e163464.1), (34, .int .i64 e163464.2.2), (35, .bool e163468.1), (36, .int .i64 e163468.2), (160, .bool s163493)]) (fun s163493 (_ : Unit) hh => St φ163430 h.n hh ([(none, .dead), (some b161175, .cells [.int .i64 e161165.Nodes, .slice a161172 n161172 c161172, .slice a161173 n161173 c161173] 29 .exact), (none, .dead), (some b10, .cells [.int .u8 p1.Bridges, .int .u8 p1.Stations, .slice a2 n2 c2, .slice a3 n3 c3, .slice a4 n4 c4, .slice a5 n5 c5] 24 .exact)])) 3 ?_ ?_
              · rintro s163493 _ t0 h163495 X163494
                refine lpure (v := .bool s163493) rfl (p_move rfl) rfl rfl ?_
                refine lsh (τ := Bool) (σ := Unit) (fun s163497 (_ : Unit) => [(17, .int .i64 e163436.1), (19, .int .i64 e163440.1), (21, .int .i64 e163444.1), (23, .int .i64 e163448.1), (25, .int .i64 e163452.1), (27, .int .i64 e163456.1), (30, .int .i64 e163460.2.1), (32, .int .i64 e163464.1), (35, .bool e163468.1), (36, .int .i64 e163468.2), (164, .bool s163497)]) (fun s163497 (_ : Unit) hh => St φ163430 h.n hh ([(none, .dead), (some b161175, .cells [.int .i64 e161165.Nodes, .slice a161172 n161172 c161172, .slice a161173 n161173 c161173] 29 .exact), (none, .dead), (some b10, .cells [.int .u8 p1.Bridges, .int .u8 p1.Stations, .slice a2 n2 c2, .slice a3 n3 c3, .slice a4 n4 c4, .slice a5 n5 c5] 24 .exact)])) 3 ?_ ?_
                · rintro s163497 _ t0 h163499 X163498
                  refine lpure (v := .bool s163497) rfl (p_move rfl) rfl rfl ?_
                  refine lsh (τ := Bool) (σ := Unit) (fun s163501 (_ : Unit) => [(17, .int .i64 e163436.1), (19, .int .i64 e163440.1), (21, .int .i64 e163444.1), (23, .int .i64 e163448.1), (25, .int .i64 e163452.1), (27, .int .i64 e163456.1), (30, .int .i64 e163460.2.1), (32, .int .i64 e163464.1), (35, .bool e163468.1), (168, .bool s163501)]) (fun s163501 (_ : Unit) hh => St φ163430 h.n hh ([(none, .dead), (some b161175, .cells [.int .i64 e161165.Nodes, .slice a161172 n161172 c161172, .slice a161173 n161173 c161173] 29 .exact), (none, .dead), (some b10, .cells [.int .u8 p1.Bridges, .int .u8 p1.Stations, .slice a2 n2 c2, .slice a3 n3 c3, .slice a4 n4 c4, .slice a5 n5 c5] 24 .exact)])) 3 ?_ ?_
                  · rintro s163501 _ t0 h163503 X163502
                    refine lpure (v := .bool s163501) rfl (p_assign rfl) rfl rfl ?_
                    refine lend (nseq (dseq (dreg ?_)))
                    refine lpure (v := .bool s163501) rfl (p_move rfl) rfl rfl ?_
                    refine lpure (v := .bool s163501) rfl (p_move rfl) rfl rfl ?_
                    refine lsh (τ := Bool) (σ := Unit) (fun s163505 (_ : Unit) => [(23, .int .i64 e163448.1), (25, .int .i64 e163452.1), (27, .int .i64 e163456.1), (30, .int .i64 e163460.2.1), (32, .int .i64 e163464.1), (35, .bool e163468.1), (176, .bool s163505)]) (fun s163505 (_ : Unit) hh => St φ163430 h.n hh ([(none, .dead), (some b161175, .cells [.int .i64 e161165.Nodes, .slice a161172 n161172 c161172, .slice a161173 n161173 c161173] 29 .exact), (none, .dead), (some b10, .cells [.int .u8 p1.Bridges, .int .u8 p1.Stations, .slice a2 n2 c2, .slice a3 n3 c3, .slice a4 n4 c4, .slice a5 n5 c5] 24 .exact)])) 6 ?_ ?_
                    · rintro s163505 _ t0 h163507 X163506
                      refine lpure (v := .bool s163505) rfl (p_move rfl) rfl rfl ?_
                      refine lsh (τ := Bool) (σ := Unit) (fun s163509 (_ : Unit) => [(30, .int .i64 e163460.2.1), (32, .int .i64 e163464.1), (35, .bool e163468.1), (183, .bool s163509)]) (fun s163509 (_ : Unit) hh => St φ163430 h.n hh ([(none, .dead), (some b161175, .cells [.int .i64 e161165.Nodes, .slice a161172 n161172 c161172, .slice a161173 n161173 c161173] 29 .exact), (none, .dead), (some b10, .cells [.int .u8 p1.Bridges, .int .u8 p1.Stations, .slice a2 n2 c2, .slice a3 n3 c3, .slice a4 n4 c4, .slice a5 n5 c5] 24 .exact)])) 6 ?_ ?_
                      · rintro s163509 _ t0 h163511 X163510
                        refine lpure (v := .bool s163509) rfl (p_move rfl) rfl rfl ?_
                        refine lsh (τ := Bool) (σ := Unit) (fun s163513 (_ : Unit) => [(35, .bool e163468.1), (188, .bool s163513)]) (fun s163513 (_ : Unit) hh => St φ163430 h.n hh ([(none, .dead), (some b161175, .cells [.int .i64 e161165.Nodes, .slice a161172 n161172 c161172, .slice a161173 n161173 c161173] 29 .exact), (none, .dead), (some b10, .cells [.int .u8 p1.Bridges, .int .u8 p1.Stations, .slice a2 n2 c2, .slice a3 n3 c3, .slice a4 n4 c4, .slice a5 n5 c5] 24 .exact)])) 4 ?_ ?_
                        · rintro s163513 _ t0 h163515 X163514
                          refine lpure (v := .bool s163513) rfl (p_move rfl) rfl rfl ?_
                          refine lsh (τ := Bool) (σ := Unit) (fun s163517 (_ : Unit) => [(191, .bool s163517)]) (fun s163517 (_ : Unit) hh => St φ163430 h.n hh ([(none, .dead), (some b161175, .cells [.int .i64 e161165.Nodes, .slice a161172 n161172 c161172, .slice a161173 n161173 c161173] 29 .exact), (none, .dead), (some b10, .cells [.int .u8 p1.Bridges, .int .u8 p1.Stations, .slice a2 n2 c2, .slice a3 n3 c3, .slice a4 n4 c4, .slice a5 n5 c5] 24 .exact)])) 2 ?_ ?_
                          · rintro s163517 _ t0 h163519 X163518
                            refine lpure (v := .bool s163517) rfl (p_assign rfl) rfl rfl ?_
                            refine lend (nseq (dret ?_))
                            exact kcut_r (res_1 resT) X163518 rfl rfl
                          intro j163520 J163521
                          refine lcase (i := 189) (show _ = Value.bool s163513 from rfl) (fun k163522 => ?_) (fun k163522 => ?_)
                          · refine lpure (v := .bool e163468.1) rfl (p_move rfl) rfl rfl ?_
                            refine lpure (v := .bool e163468.1) rfl (p_pick rfl) rfl rfl ?_
                            refine Sim.of_eq (congrArg j163520 (show (s163513 && e163468.1) = e163468.1 from by rw [k163522] <;> rfl)) ?_
                            exact ljmpM J163521 e163468.1 () (sub_cons rfl sub_nil) (St.pick X163514 (.none _ (.skip _ (.keep _ (.none _ (.skip _ (.keep _ (.nil _))))))))
                          refine lskip rfl rfl ?_
                          refine lpure (v := .bool false) rfl (p_pick rfl) rfl rfl ?_
                          refine Sim.of_eq (congrArg j163520 (show (s163513 && e163468.1) = false from by rw [k163522] <;> rfl)) ?_
                          exact ljmpM J163521 false () (sub_cons rfl sub_nil) (St.pick X163514 (.none _ (.skip _ (.keep _ (.none _ (.skip _ (.keep _ (.nil _))))))))
                        intro j163523 J163524
                        refine lcase (i := 184) (show _ = Value.bool s163509 from rfl) (fun k163525 => ?_) (fun k163525 => ?_)
                        · refine lpure (v := .int .i64 e163460.2.1) rfl (p_move rfl) rfl rfl ?_
                          refine lpure (v := .int .i64 e163464.1) rfl (p_move rfl) rfl rfl ?_
                          refine lpure (v := .bool (decide (e163460.2.1 = e163464.1))) rfl (p_eq rfl) rfl rfl ?_
                          refine lpure (v := .bool (decide (e163460.2.1 = e163464.1))) rfl (p_pick rfl) rfl rfl ?_
                          refine Sim.of_eq (congrArg j163523 (show (s163509 && (decide (e163460.2.1 = e163464.1))) = (decide (e163460.2.1 = e163464.1)) from by rw [k163525] <;> rfl)) ?_
                          exact ljmpM J163524 (decide (e163460.2.1 = e163464.1)) () (sub_cons rfl (sub_cons rfl sub_nil)) (St.pick X163510 (.none _ (.skip _ (.keep _ (.none _ (.skip _ (.keep _ (.nil _))))))))
                        refine lskip rfl rfl ?_
                        refine lskip rfl rfl ?_
                        refine lskip rfl rfl ?_
                        refine lpure (v := .bool false) rfl (p_pick rfl) rfl rfl ?_
                        refine Sim.of_eq (congrArg j163523 (show (s163509 && (decide (e163460.2.1 = e163464.1))) = false from by rw [k163525] <;> rfl)) ?_
                        exact ljmpM J163524 false () (sub_cons rfl (sub_cons rfl sub_nil)) (St.pick X163510 (.none _ (.skip _ (.keep _ (.none _ (.skip _ (.keep _ (.nil _))))))))
                      intro j163526 J163527
                      refine lcase (i := 177) (show _ = Value.bool s163505 from rfl) (fun k163528 => ?_) (fun k163528 => ?_)
                      · refine lpure (v := .int .i64 e163448.1) rfl (p_move rfl) rfl rfl ?_
                        refine lpure (v := .int .i64 e163452.1) rfl (p_move rfl) rfl rfl ?_
                        refine lpure (v := .int .i64 (w64 (e163448.1 + e163452.1))) rfl (p_add rfl) rfl rfl ?_
                        refine lpure (v := .int .i64 e163456.1) rfl (p_move rfl) rfl rfl ?_
                        refine lpure (v := .bool (decide ((w64 (e163448.1 + e163452.1)) = e163456.1))) rfl (p_eq rfl) rfl rfl ?_
                        refine lpure (v := .bool (decide ((w64 (e163448.1 + e163452.1)) = e163456.1))) rfl (p_pick rfl) rfl rfl ?_
                        refine Sim.of_eq (congrArg j163526 (show (s163505 && (decide ((w64 (e163448.1 + e163452.1)) = e163456.1))) = (decide ((w64 (e163448.1 + e163452.1)) = e163456.1)) from by rw [k163528] <;> rfl)) ?_
                        exact ljmpM J163527 (decide ((w64 (e163448.1 + e163452.1)) = e163456.1)) () (sub_cons rfl (sub_cons rfl (sub_cons rfl (sub_cons rfl sub_nil)))) (St.pick X163506 (.none _ (.skip _ (.keep _ (.none _ (.skip _ (.keep _ (.nil _))))))))
                      refine lskip rfl rfl ?_
                      refine lskip rfl rfl ?_
                      refine lskip rfl rfl ?_
                      refine lskip rfl rfl ?_
                      refine lskip rfl rfl ?_
                      refine lpure (v := .bool false) rfl (p_pick rfl) rfl rfl ?_
                      refine Sim.of_eq (congrArg j163526 (show (s163505 && (decide ((w64 (e163448.1 + e163452.1)) = e163456.1))) = false from by rw [k163528] <;> rfl)) ?_
                      exact ljmpM J163527 false () (sub_cons rfl (sub_cons rfl (sub_cons rfl (sub_cons rfl sub_nil)))) (St.pick X163506 (.none _ (.skip _ (.keep _ (.none _ (.skip _ (.keep _ (.nil _))))))))
                    intro j163529 J163530
                    refine lcase (i := 170) (show _ = Value.bool s163501 from rfl) (fun k163531 => ?_) (fun k163531 => ?_)
                    · refine lpure (v := .int .i64 e163436.1) rfl (p_move rfl) rfl rfl ?_
                      refine lpure (v := .int .i64 e163440.1) rfl (p_move rfl) rfl rfl ?_
                      refine lpure (v := .int .i64 (w64 (e163436.1 + e163440.1))) rfl (p_add rfl) rfl rfl ?_
                      refine lpure (v := .int .i64 e163444.1) rfl (p_move rfl) rfl rfl ?_
                      refine lpure (v := .bool (decide ((w64 (e163436.1 + e163440.1)) = e163444.1))) rfl (p_eq rfl) rfl rfl ?_
                      refine lpure (v := .bool (decide ((w64 (e163436.1 + e163440.1)) = e163444.1))) rfl (p_pick rfl) rfl rfl ?_
                      refine Sim.of_eq (congrArg j163529 (show (s163501 && (decide ((w64 (e163436.1 + e163440.1)) = e163444.1))) = (decide ((w64 (e163436.1 + e163440.1)) = e163444.1)) from by rw [k163531] <;> rfl)) ?_
                      exact ljmpM J163530 (decide ((w64 (e163436.1 + e163440.1)) = e163444.1)) () (sub_cons rfl (sub_cons rfl (sub_cons rfl (sub_cons rfl (sub_cons rfl (sub_cons rfl (sub_cons rfl sub_nil))))))) (St.pick X163502 (.none _ (.skip _ (.keep _ (.none _ (.skip _ (.keep _ (.nil _))))))))
                    refine lskip rfl rfl ?_
                    refine lskip rfl rfl ?_
                    refine lskip rfl rfl ?_
                    refine lskip rfl rfl ?_
                    refine lskip rfl rfl ?_
                    refine lpure (v := .bool false) rfl (p_pick rfl) rfl rfl ?_
                    refine Sim.of_eq (congrArg j163529 (show (s163501 && (decide ((w64 (e163436.1 + e163440.1)) = e163444.1))) = false from by rw [k163531] <;> rfl)) ?_
                    exact ljmpM J163530 false () (sub_cons rfl (sub_cons rfl (sub_cons rfl (sub_cons rfl (sub_cons rfl (sub_cons rfl (sub_cons rfl sub_nil))))))) (St.pick X163502 (.none _ (.skip _ (.keep _ (.none _ (.skip _ (.keep _ (.nil _))))))))
                  intro j163532 J163533
                  refine lcase (i := 165) (show _ = Value.bool s163497 from rfl) (fun k163534 => ?_) (fun k163534 => ?_)
                  · refine lpure (v := .int .i64 e163468.2) rfl (p_move rfl) rfl rfl ?_
                    refine lpure (v := .bool (decide (e163468.2 = 0))) rfl (p_eq rfl) rfl rfl ?_
                    refine lpure (v := .bool (decide (e163468.2 = 0))) rfl (p_pick rfl) rfl rfl ?_
                    refine Sim.of_eq (congrArg j163532 (show (s163497 && (decide (e163468.2 = 0))) = (decide (e163468.2 = 0)) from by rw [k163534] <;> rfl)) ?_
                    exact ljmpM J163533 (decide (e163468.2 = 0)) () (sub_cons rfl (sub_cons rfl (sub_cons rfl (sub_cons rfl (sub_cons rfl (sub_cons rfl (sub_cons rfl (sub_cons rfl (sub_cons rfl (sub_cons rfl sub_nil)))))))))) (St.pick X163498 (.none _ (.skip _ (.keep _ (.none _ (.skip _ (.keep _ (.nil _))))))))
                  refine lskip rfl rfl ?_
                  refine lskip rfl rfl ?_
                  refine lpure (v := .bool false) rfl (p_pick rfl) rfl rfl ?_
                  refine Sim.of_eq (congrArg j163532 (show (s163497 && (decide (e163468.2 = 0))) = false from by rw [k163534] <;> rfl)) ?_
                  exact ljmpM J163533 false () (sub_cons rfl (sub_cons rfl (sub_cons rfl (sub_cons rfl (sub_cons rfl (sub_cons rfl (sub_cons rfl (sub_cons rfl (sub_cons rfl (sub_cons rfl sub_nil)))))))))) (St.pick X163498 (.none _ (.skip _ (.keep _ (.none _ (.skip _ (.keep _ (.nil _))))))))
                intro j163535 J163536
                refine lcase (i := 161) (show _ = Value.bool s163493 from rfl) (fun k163537 => ?_) (fun k163537 => ?_)
                · refine lpure (v := .int .i64 e163464.2.2) rfl (p_move rfl) rfl rfl ?_
                  refine lpure (v := .bool (decide (e163464.2.2 = 0))) rfl (p_eq rfl) rfl rfl ?_
                  refine lpure (v := .bool (decide (e163464.2.2 = 0))) rfl (p_pick rfl) rfl rfl ?_
                  refine Sim.of_eq (congrArg j163535 (show (s163493 && (decide (e163464.2.2 = 0))) = (decide (e163464.2.2 = 0)) from by rw [k163537] <;> rfl)) ?_
                  exact ljmpM J163536 (decide (e163464.2.2 = 0)) () (sub_cons rfl (sub_cons rfl (sub_cons rfl (sub_cons rfl (sub_cons rfl (sub_cons rfl (sub_cons rfl (sub_cons rfl (sub_cons rfl (sub_cons rfl (sub_cons rfl sub_nil))))))))))) (St.pick X163494 (.none _ (.skip _ (.keep _ (.none _ (.skip _ (.keep _ (.nil _))))))))
                refine lskip rfl rfl ?_
                refine lskip rfl rfl ?_
                refine lpure (v := .bool false) rfl (p_pick rfl) rfl rfl ?_
                refine Sim.of_eq (congrArg j163535 (show (s163493 && (decide (e163464.2.2 = 0))) = false from by rw [k163537] <;> rfl)) ?_
                exact ljmpM J163536 false () (sub_cons rfl (sub_cons rfl (sub_cons rfl (sub_cons rfl (sub_cons rfl (sub_cons rfl (sub_cons rfl (sub_cons rfl (sub_cons rfl (sub_cons rfl (sub_cons rfl sub_nil))))))))))) (St.pick X163494 (.none _ (.skip _ (.keep _ (.none _ (.skip _ (.keep _ (.nil _))))))))
              intro j163538 J163539
              refine lcase (i := 157) (show _ = Value.bool s163489 from rfl) (fun k163540 => ?_) (fun k163540 => ?_)
              · refine lpure (v := .int .i64 e163460.2.2) rfl (p_move rfl) rfl rfl ?_
                refine lpure (v := .bool (decide (e163460.2.2 = 0))) rfl (p_eq rfl) rfl rfl ?_
                refine lpure (v := .bool (decide (e163460.2.2 = 0))) rfl (p_pick rfl) rfl rfl ?_
                refine Sim.of_eq (congrArg j163538 (show (s163489 && (decide (e163460.2.2 = 0))) = (decide (e163460.2.2 = 0)) from by rw [k163540] <;> rfl)) ?_
                exact ljmpM J163539 (decide (e163460.2.2 = 0)) () (sub_cons rfl (sub_cons rfl (sub_cons rfl (sub_cons rfl (sub_cons rfl (sub_cons rfl (sub_cons rfl (sub_cons rfl (sub_cons rfl (sub_cons rfl (sub_cons rfl (sub_cons rfl sub_nil)))))))))))) (St.pick X163490 (.none _ (.skip _ (.keep _ (.none _ (.skip _ (.keep _ (.nil _))))))))
              refine lskip rfl rfl ?_
              refine lskip rfl rfl ?_
              refine lpure (v := .bool false) rfl (p_pick rfl) rfl rfl ?_
              refine Sim.of_eq (congrArg j163538 (show (s163489 && (decide (e163460.2.2 = 0))) = false from by rw [k163540] <;> rfl)) ?_
              exact ljmpM J163539 false () (sub_cons rfl (sub_cons rfl (sub_cons rfl (sub_cons rfl (sub_cons rfl (sub_cons rfl (sub_cons rfl (sub_cons rfl (sub_cons rfl (sub_cons rfl (sub_cons rfl (sub_cons rfl sub_nil)))))))))))) (St.pick X163490 (.none _ (.skip _ (.keep _ (.none _ (.skip _ (.keep _ (.nil _))))))))
            intro j163541 J163542
            refine lcase (i := 153) (show _ = Value.bool s163485 from rfl) (fun k163543 => ?_) (fun k163543 => ?_)
            · refine lpure (v := .int .i64 e163456.2) rfl (p_move rfl) rfl rfl ?_
              refine lpure (v := .bool (decide (e163456.2 = 0))) rfl (p_eq rfl) rfl rfl ?_
              refine lpure (v := .bool (decide (e163456.2 = 0))) rfl (p_pick rfl) rfl rfl ?_
              refine Sim.of_eq (congrArg j163541 (show (s163485 && (decide (e163456.2 = 0))) = (decide (e163456.2 = 0)) from by rw [k163543] <;> rfl)) ?_
              exact ljmpM J163542 (decide (e163456.2 = 0)) () (sub_cons rfl (sub_cons rfl (sub_cons rfl (sub_cons rfl (sub_cons rfl (sub_cons rfl (sub_cons rfl (sub_cons rfl (sub_cons rfl (sub_cons rfl (sub_cons rfl (sub_cons rfl (sub_cons rfl sub_nil))))))))))))) (St.pick X163486 (.none _ (.skip _ (.keep _ (.none _ (.skip _ (.keep _ (.nil _))))))))
            refine lskip rfl rfl ?_
            refine lskip rfl rfl ?_
            refine lpure (v := .bool false) rfl (p_pick rfl) rfl rfl ?_
            refine Sim.of_eq (congrArg j163541 (show (s163485 && (decide (e163456.2 = 0))) = false from by rw [k163543] <;> rfl)) ?_
            exact ljmpM J163542 false () (sub_cons rfl (sub_cons rfl (sub_cons rfl (sub_cons rfl (sub_cons rfl (sub_cons rfl (sub_cons rfl (sub_cons rfl (sub_cons rfl (sub_cons rfl (sub_cons rfl (sub_cons rfl (sub_cons rfl sub_nil))))))))))))) (St.pick X163486 (.none _ (.skip _ (.keep _ (.none _ (.skip _ (.keep _ (.nil _))))))))
          intro j163544 J163545
          refine lcase (i := 149) (show _ = Value.bool s163481 from rfl) (fun k163546 => ?_) (fun k163546 => ?_)
          · refine lpure (v := .int .i64 e163452.2) rfl (p_move rfl) rfl rfl ?_
            refine lpure (v := .bool (decide (e163452.2 = 0))) rfl (p_eq rfl) rfl rfl ?_
            refine lpure (v := .bool (decide (e163452.2 = 0))) rfl (p_pick rfl) rfl rfl ?_
            refine Sim.of_eq (congrArg j163544 (show (s163481 && (decide (e163452.2 = 0))) = (decide (e163452.2 = 0)) from by rw [k163546] <;> rfl)) ?_
            exact ljmpM J163545 (decide (e163452.2 = 0)) () (sub_cons rfl (sub_cons rfl (sub_cons rfl (sub_cons rfl (sub_cons rfl (sub_cons rfl (sub_cons rfl (sub_cons rfl (sub_cons rfl (sub_cons rfl (sub_cons rfl (sub_cons rfl (sub_cons rfl (sub_cons rfl sub_nil)))))))))))))) (St.pick X163482 (.none _ (.skip _ (.keep _ (.none _ (.skip _ (.keep _ (.nil _))))))))
          refine lskip rfl rfl ?_
          refine lskip rfl rfl ?_
          refine lpure (v := .bool false) rfl (p_pick rfl) rfl rfl ?_
          refine Sim.of_eq (congrArg j163544 (show (s163481 && (decide (e163452.2 = 0))) = false from by rw [k163546] <;> rfl)) ?_
          exact ljmpM J163545 false () (sub_cons rfl (sub_cons rfl (sub_cons rfl (sub_cons rfl (sub_cons rfl (sub_cons rfl (sub_cons rfl (sub_cons rfl (sub_cons rfl (sub_cons rfl (sub_cons rfl (sub_cons rfl (sub_cons rfl (sub_cons rfl sub_nil)))))))))))))) (St.pick X163482 (.none _ (.skip _ (.keep _ (.none _ (.skip _ (.keep _ (.nil _))))))))
        intro j163547 J163548
        refine lcase (i := 145) (show _ = Value.bool s163477 from rfl) (fun k163549 => ?_) (fun k163549 => ?_)
        · refine lpure (v := .int .i64 e163448.2) rfl (p_move rfl) rfl rfl ?_
          refine lpure (v := .bool (decide (e163448.2 = 0))) rfl (p_eq rfl) rfl rfl ?_
          refine lpure (v := .bool (decide (e163448.2 = 0))) rfl (p_pick rfl) rfl rfl ?_
          refine Sim.of_eq (congrArg j163547 (show (s163477 && (decide (e163448.2 = 0))) = (decide (e163448.2 = 0)) from by rw [k163549] <;> rfl)) ?_
          exact ljmpM J163548 (decide (e163448.2 = 0)) () (sub_cons rfl (sub_cons rfl (sub_cons rfl (sub_cons rfl (sub_cons rfl (sub_cons rfl (sub_cons rfl (sub_cons rfl (sub_cons rfl (sub_cons rfl (sub_cons rfl (sub_cons rfl (sub_cons rfl (sub_cons rfl (sub_cons rfl sub_nil))))))))))))))) (St.pick X163478 (.none _ (.skip _ (.keep _ (.none _ (.skip _ (.keep _ (.nil _))))))))
        refine lskip rfl rfl ?_
        refine lskip rfl rfl ?_
        refine lpure (v := .bool false) rfl (p_pick rfl) rfl rfl ?_
        refine Sim.of_eq (congrArg j163547 (show (s163477 && (decide (e163448.2 = 0))) = false from by rw [k163549] <;> rfl)) ?_
        exact ljmpM J163548 false () (sub_cons rfl (sub_cons rfl (sub_cons rfl (sub_cons rfl (sub_cons rfl (sub_cons rfl (sub_cons rfl (sub_cons rfl (sub_cons rfl (sub_cons rfl (sub_cons rfl (sub_cons rfl (sub_cons rfl (sub_cons rfl (sub_cons rfl sub_nil))))))))))))))) (St.pick X163478 (.none _ (.skip _ (.keep _ (.none _ (.skip _ (.keep _ (.nil _))))))))
      intro j163550 J163551
      refine lcase (i := 141) (show _ = Value.bool s163473 from rfl) (fun k163552 => ?_) (fun k163552 => ?_)
      · refine lpure (v := .int .i64 e163444.2) rfl (p_move rfl) rfl rfl ?_
        refine lpure (v := .bool (decide (e163444.2 = 0))) rfl (p_eq rfl) rfl rfl ?_
        refine lpure (v := .bool (decide (e163444.2 = 0))) rfl (p_pick rfl) rfl rfl ?_
        refine Sim.of_eq (congrArg j163550 (show (s163473 && (decide (e163444.2 = 0))) = (decide (e163444.2 = 0)) from by rw [k163552] <;> rfl)) ?_
        exact ljmpM J163551 (decide (e163444.2 = 0)) () (sub_cons rfl (sub_cons rfl (sub_cons rfl (sub_cons rfl (sub_cons rfl (sub_cons rfl (sub_cons rfl (sub_cons rfl (sub_cons rfl (sub_cons rfl (sub_cons rfl (sub_cons rfl (sub_cons rfl (sub_cons rfl (sub_cons rfl (sub_cons rfl sub_nil)))))))))))))))) (St.pick X163474 (.none _ (.skip _ (.keep _ (.none _ (.skip _ (.keep _ (.nil _))))))))
      refine lskip rfl rfl ?_
      refine lskip rfl rfl ?_
      refine lpure (v := .bool false) rfl (p_pick rfl) rfl rfl ?_
      refine Sim.of_eq (congrArg j163550 (show (s163473 && (decide (e163444.2 = 0))) = false from by rw [k163552] <;> rfl)) ?_
      exact ljmpM J163551 false () (sub_cons rfl (sub_cons rfl (sub_cons rfl (sub_cons rfl (sub_cons rfl (sub_cons rfl (sub_cons rfl (sub_cons rfl (sub_cons rfl (sub_cons rfl (sub_cons rfl (sub_cons rfl (sub_cons rfl (sub_cons rfl (sub_cons rfl (sub_cons rfl sub_nil)))))))))))))))) (St.pick X163474 (.none _ (.skip _ (.keep _ (.none _ (.skip _ (.keep _ (.nil _))))))))
    intro j163553 J163554
    refine lcase (i := 137) (show _ = Value.bool (decide (e163436.2 = 0)) from rfl) (fun k163555 => ?_) (fun k163555 => ?_)
    · refine lpure (v := .int .i64 e163440.2) rfl (p_move rfl) rfl rfl ?_
      refine lpure (v := .bool (decide (e163440.2 = 0))) rfl (p_eq rfl) rfl rfl ?_
      refine lpure (v := .bool (decide (e163440.2 = 0))) rfl (p_pick rfl) rfl rfl ?_
      refine Sim.of_eq (congrArg j163553 (show ((decide (e163436.2 = 0)) && (decide (e163440.2 = 0))) = (decide (e163440.2 = 0)) from by rw [k163555] <;> rfl)) ?_
      exact ljmpM J163554 (decide (e163440.2 = 0)) () (sub_cons rfl (sub_cons rfl (sub_cons rfl (sub_cons rfl (sub_cons rfl (sub_cons rfl (sub_cons rfl (sub_cons rfl (sub_cons rfl (sub_cons rfl (sub_cons rfl (sub_cons rfl (sub_cons rfl (sub_cons rfl (sub_cons rfl (sub_cons rfl (sub_cons rfl sub_nil))))))))))))))))) (St.pick X163432 (.none _ (.skip _ (.keep _ (.none _ (.skip _ (.keep _ (.nil _))))))))
    refine lskip rfl rfl ?_
    refine lskip rfl rfl ?_
    refine lpure (v := .bool false) rfl (p_pick rfl) rfl rfl ?_
    refine Sim.of_eq (congrArg j163553 (show ((decide (e163436.2 = 0)) && (decide (e163440.2 = 0))) = false from by rw [k163555] <;> rfl)) ?_
    exact ljmpM J163554 false () (sub_cons rfl (sub_cons rfl (sub_cons rfl (sub_cons rfl (sub_cons rfl (sub_cons rfl (sub_cons rfl (sub_cons rfl (sub_cons rfl (sub_cons rfl (sub_cons rfl (sub_cons rfl (sub_cons rfl (sub_cons rfl (sub_cons rfl (sub_cons rfl (sub_cons rfl sub_nil))))))))))))))))) (St.pick X163432 (.none _ (.skip _ (.keep _ (.none _ (.skip _ (.keep _ (.nil _))))))))
  intro j163556 J163557
  refine lcase (i := 58) (show _ = Value.bool (decide ((Int.tmod (w64 p8) (w64 ((e163406.length : Int) + 1))) = 0)) from rfl) (fun k163558 => ?_) (fun k163558 => ?_)
  · refine lskip rfl rfl ?_
    refine lskip rfl rfl ?_
    refine lskip rfl rfl ?_
    refine lskip rfl rfl ?_
    refine lpure (v := .bool true) rfl (p_pick rfl) rfl rfl ?_
    refine Sim.of_eq (congrArg j163556 (show ((decide ((Int.tmod (w64 p8) (w64 ((e163406.length : Int) + 1))) = 0)) || (decide ((Int.tmod (w64 p8) (w64 ((e163406.length : Int) + 1))) = (e163406.length : Int)))) = true from by rw [k163558] <;> rfl)) ?_
    exact ljmpM J163557 true () (sub_cons rfl (sub_cons rfl (sub_cons rfl (sub_cons rfl (sub_cons rfl sub_nil))))) (St.pick X163412 (.keep _ (.keep _ (.none _ (.skip _ (.keep _ (.nil _)))))))
  refine lpure (v := .int .i64 (Int.tmod (w64 p8) (w64 ((e163406.length : Int) + 1)))) rfl (p_move rfl) rfl rfl ?_
  refine lpure (v := .slice a163413 n163413 c163413) rfl (p_move rfl) rfl rfl ?_
  refine lpure (v := .int .i64 (e163406.length : Int)) rfl (p_len rfl rfl rfl un_42 rfl) (OSl.len O163413) rfl ?_
  refine lpure (v := .bool (decide ((Int.tmod (w64 p8) (w64 ((e163406.length : Int) + 1))) = (e163406.length : Int)))) rfl (p_eq rfl) rfl rfl ?_
  refine lpure (v := .bool (decide ((Int.tmod (w64 p8) (w64 ((e163406.length : Int) + 1))) = (e163406.length : Int)))) rfl (p_pick rfl) rfl rfl ?_
  refine Sim.of_eq (congrArg j163556 (show ((decide ((Int.tmod (w64 p8) (w64 ((e163406.length : Int) + 1))) = 0)) || (decide ((Int.tmod (w64 p8) (w64 ((e163406.length : Int) + 1))) = (e163406.length : Int)))) = (decide ((Int.tmod (w64 p8) (w64 ((e163406.length : Int) + 1))) = (e163406.length : Int))) from by rw [k163558] <;> rfl)) ?_
  exact ljmpM J163557 (decide ((Int.tmod (w64 p8) (w64 ((e163406.length : Int) + 1))) = (e163406.length : Int))) () (sub_cons rfl (sub_cons rfl (sub_cons rfl (sub_cons rfl (sub_cons rfl sub_nil))))) (St.pick X163412 (.keep _ (.keep _ (.none _ (.skip _ (.keep _ (.nil _)))))))
end Go.AM
