/- A part of the abstract machine: definitions and lemmas for all programs, no claim of its own; no condition. -/
import Derived.Test.YtpmlgmhmejhfeaaGreatAmOps3
import Derived.IntWalk
set_option linter.unusedVariables false
set_option linter.unusedSimpArgs false
namespace Go.AM
open Go

section
variable {P : Program} {ρ : Ren} {h h' : Heap} {w : World}

def PL (ρ : Ren) (as bs : List (Nat × Value)) : Prop := as.map (·.1) = bs.map (·.1) ∧ VL ρ (as.map (·.2)) (bs.map (·.2))
theorem PL.nil : PL ρ [] [] := ⟨rfl, .nil⟩
theorem PL.cons {i : Nat} {a b : Value} {as bs : List (Nat × Value)} (h : VR ρ a b) (hs : PL ρ as bs) : PL ρ ((i, a) :: as) ((i, b) :: bs) :=
  ⟨by simp [hs.1], by simpa using VL.cons h hs.2⟩
theorem PL.cases_cons {i : Nat} {a : Value} {as bs : List (Nat × Value)} (h : PL ρ ((i, a) :: as) bs) : ∃ b bs', bs = (i, b) :: bs' ∧ VR ρ a b ∧ PL ρ as bs' := by
  cases bs with
  | nil => have := h.1; simp at this
  | cons b bs =>
    obtain ⟨j, b⟩ := b
    have h1 := h.1
    simp only [List.map_cons, List.cons.injEq] at h1
    obtain ⟨rfl, h1⟩ := h1
    have h2 : VL ρ (a :: as.map (·.2)) (b :: bs.map (·.2)) := by simpa using h.2
    exact ⟨b, bs, rfl, h2.head, h1, h2.tail⟩

/-- 'cells' with those of v laid over it from place off on. -/
theorem overlay {ρ : Ren} (off : Nat) : ∀ (as bs : List Value) (j : Nat) (cs ds : Array Value), VL ρ as bs → VL ρ cs.toList ds.toList →
    VL ρ ((as.zipIdx j).foldl (fun cs (c : Value × Nat) => cs.setIfInBounds (off + c.2) c.1) cs).toList ((bs.zipIdx j).foldl (fun cs (c : Value × Nat) => cs.setIfInBounds (off + c.2) c.1) ds).toList
  | [], bs, j, cs, ds, h, hc => by obtain rfl := h.cases_nil; simpa using hc
  | a :: as, bs, j, cs, ds, h, hc => by
    obtain ⟨b, bs, rfl, h1, h2⟩ := h.cases_cons
    simp only [List.zipIdx_cons, List.foldl_cons]
    refine overlay off as bs (j + 1) _ _ h2 ?_
    refine ⟨by simpa using hc.1, fun i hi => ?_⟩
    simp only [Array.toList_setIfInBounds, List.length_set] at hi ⊢
    have hi' : i < ds.toList.length := hc.1 ▸ hi
    by_cases he : off + j = i
    · subst he
      simp only [gl, List.getD, List.getElem?_set_self hi, List.getElem?_set_self hi', Option.getD_some]; exact h1
    · have := hc.2 i hi
      simpa [gl, List.getD, List.getElem?_set_ne he] using this

theorem foldl_zipIdx {α : Type} (f : α → Value × Nat → α) (a : Array Value) (x : α) : Array.foldl f x a.zipIdx = a.toList.zipIdx.foldl f x := by
  rw [← Array.foldl_toList, Array.toList_zipIdx]

theorem fill_sound {place : Nat → Option (Nat × Nat)} : ∀ (as bs : List (Nat × Value)) (cs ds r : Array Value), PL ρ as bs → VL ρ cs.toList ds.toList → Instr.fill place cs as = some r →
    ∃ r', Instr.fill place ds bs = some r' ∧ VL ρ r.toList r'.toList
  | [], bs, cs, ds, r, hp, hc, hh => by
    have : bs = [] := by have := hp.1; cases bs with | nil => rfl | cons _ _ => simp at this
    subst this
    simp only [Instr.fill, Option.some.injEq] at hh ⊢
    subst hh
    exact ⟨ds, rfl, hc⟩
  | (i, v) :: as, bs, cs, ds, r, hp, hc, hh => by
    obtain ⟨b, bs, rfl, h1, h2⟩ := hp.cases_cons
    have hcl := cells_rel h1
    have hsz : v.cells.size = b.cells.size := by simpa using hcl.1
    have hcs : cs.size = ds.size := by simpa using hc.1
    simp only [Instr.fill] at hh ⊢
    cases hpl : place i with
    | none => rw [hpl] at hh; cases hh
    | some p =>
      obtain ⟨off, size⟩ := p
      rw [hpl] at hh
      simp only [] at hh ⊢
      by_cases hcond : (decide (v.cells.size ≠ size) || decide (off + v.cells.size > cs.size)) = true
      · rw [if_pos hcond] at hh; cases hh
      · rw [if_neg hcond] at hh
        rw [← hsz, ← hcs, if_neg hcond]
        refine fill_sound as bs _ _ r h2 ?_ hh
        have := overlay (ρ := ρ) off _ _ 0 cs ds hcl hc
        rw [foldl_zipIdx, foldl_zipIdx]
        exact this

theorem places_run : ∀ (fs : List Field) (l : List (Nat × Nat)), places P fs = .ok l → (fs.mapM (m := Sem) fun f => do pure (f.offset, ← sizeOf f.type)).run P w = .ok l w
  | [], l, hh => by simp only [places, Except.ok.injEq] at hh; subst hh; rfl
  | f :: fs, l, hh => by
    simp only [places, bindR_ok] at hh
    obtain ⟨n, hn, l', hl', he⟩ := hh
    cases he
    have ih := places_run fs l' hl'
    simp only [List.mapM_cons, Sem.run_bind, run_sizeOf hn, Result.andThen_ok, Sem.run_pure, ih]

theorem tzero_plain {t : TypeId} {z : Value} (hz : tzero P t = .ok z) : Pl z := ⟨20, (tzero_ok hz).1⟩
theorem Pl.cells {z : Value} (h : Pl z) : ∀ v ∈ z.cells.toList, Pl v := by
  cases z with
  | agg cs => exact h.agg
  | _ => intro v hv; simp [Value.cells] at hv; subst hv; exact h

theorem buildV_sound {t : TypeId} {as bs : List (Nat × Value)} {v : Value} (hp : PL ρ as bs) (hh : buildV P t as = .ok v) : Same P ρ w (Instr.build t bs.toArray) v := by
  simp only [buildV, bindR_ok] at hh
  obtain ⟨z, hz, d, hd, hh⟩ := hh
  have hzl : VL ρ z.cells.toList z.cells.toList := .plain_refl (tzero_plain hz).cells
  split at hh
  · rename_i fields
    simp only [bindR_ok, ofOpt_ok] at hh
    obtain ⟨pl, hpl, cs, hcs, he⟩ := hh
    cases he
    obtain ⟨r, hr, hv⟩ := fill_sound as bs _ _ _ hp hzl hcs
    refine ⟨.agg r, ?_, .agg' hv⟩
    have hm := places_run (w := w) _ _ hpl
    have hm' : (fields.mapM (m := Sem) fun f => do pure (f.offset, ← sizeOf f.type)).run P w = .ok pl.toArray w := by
      rw [Array.mapM_eq_mapM_toList]
      simp only [Sem.run_map, hm, Result.andThen_ok]
    simp only [Instr.build, Sem.run_bind, run_zeroValue hz, Result.andThen_ok, run_under hd, hm']
    simp [hr]
  · rename_i len e
    simp only [bindR_ok, ofOpt_ok] at hh
    obtain ⟨n, hn, cs, hcs, he⟩ := hh
    cases he
    obtain ⟨r, hr, hv⟩ := fill_sound as bs _ _ _ hp hzl hcs
    refine ⟨.agg r, ?_, .agg' hv⟩
    simp [Instr.build, run_zeroValue hz, run_under hd, run_sizeOf hn, hr]
  · cases hh

theorem zeros_plain {z : Array Value} {n : Nat} (hz : ∀ v ∈ z.toList, Pl v) : ∀ v ∈ (zeros z n).toList, Pl v := by
  intro v hv
  simp only [zeros, Array.toList_map, List.mem_map] at hv
  obtain ⟨i, _, rfl⟩ := hv
  simp only [getElem!_def]
  split
  · rename_i x hx
    exact hz _ (by have := Array.mem_of_getElem? hx; simpa using this)
  · exact ⟨1, rfl⟩
theorem zeroFor_ok {e : TypeId} {n : Nat} {z : Array Value} (hh : zeroFor P e n = .ok z) :
    (∀ v ∈ z.toList, Pl v) ∧ ((n = 0 ∧ z = #[]) ∨ (n ≠ 0 ∧ ∃ zv, tzero P e = .ok zv ∧ z = zv.cells)) := by
  unfold zeroFor at hh
  split at hh
  · rename_i hb
    have hn : n = 0 := Nat.eq_of_beq_eq_true hb
    cases hh
    exact ⟨by simp, .inl ⟨hn, rfl⟩⟩
  · rename_i hb
    have hn : n ≠ 0 := fun e => by subst e; simp at hb
    simp only [bindR_ok] at hh
    obtain ⟨z', hz, he⟩ := hh
    cases he
    exact ⟨(tzero_plain hz).cells, .inr ⟨hn, z', hz, rfl⟩⟩

theorem new_slice (hr : HR ρ h w) (hn : h.n < 32768) {vs cs : List Value} (hv : VL ρ vs cs) (e : TypeId) (len cap : Nat) (hc : cap < unk) :
    VR (ρ.add h.n ⟨w.heap.size, 0, cs.length, 0⟩) (.slice (some ⟨h.n, 0, none⟩) len cap) (.slice (some ⟨w.heap.size, 0, none⟩) len cap) ∧
    Post ρ h w (ρ.add h.n ⟨w.heap.size, 0, cs.length, 0⟩) (h.put (.cells vs e .exact)) { w with heap := w.heap.push (.cells cs.toArray e) } := by
  refine ⟨?_, ?_⟩
  · exact VR.slice (l := ⟨w.heap.size, 0, cs.length, 0⟩) (o := 0) Ren.add_same hc
  · exact Post.alloc hr hn (l := ⟨w.heap.size, 0, cs.length, 0⟩) rfl (new1_row e cs.toArray) (row_new (hv.mono (hr.sub_add _)) rfl rfl (fun es e => by cases e) (by simp))

theorem buildSliceV_sound (hr : HR ρ h w) {t : TypeId} {len : Nat} {as bs : List (Nat × Value)} {v : Value} (hp : PL ρ as bs) (hh : buildSliceV P h t len as = .ok (v, h')) :
    Out P ρ h w (Instr.buildSlice t len bs.toArray) v h' := by
  simp only [buildSliceV, bindR_ok] at hh
  obtain ⟨d, hd, hh⟩ := hh
  split at hh
  case h_2 => cases hh
  rename_i e
  simp only [bindR_ok, ofOpt_ok, must_ok, room_ok, Bool.and_eq_true, Nat.ble_eq, blt_true] at hh
  obtain ⟨n, hn, _, ⟨hsm, hlu⟩, z, hz, cs, hcs, _, hroom, _, hcell, he⟩ := hh
  simp only [Except.ok.injEq, Prod.mk.injEq] at he
  obtain ⟨rfl, rfl⟩ := he
  obtain ⟨hzp, hzr⟩ := zeroFor_ok hz
  have hzl : VL ρ (zeros z (len * n)).toList (zeros z (len * n)).toList := .plain_refl (zeros_plain hzp)
  obtain ⟨r, hfr, hv⟩ := fill_sound as bs _ _ _ hp hzl hcs
  obtain ⟨g1, g2⟩ := new_slice hr hroom hv e len len hlu
  refine ⟨_, _, _, ?_, g1, g2⟩
  have hsm' : ¬ len * n > 2 ^ 24 := by omega
  simp only [zeros] at hfr
  rcases hzr with ⟨h0, rfl⟩ | ⟨h0, zv, hzv, rfl⟩
  · simp only [Instr.buildSlice, Sem.run_bind, run_under hd, Result.andThen_ok, run_sizeOf hn, if_neg hsm', if_pos h0]
    simp only [Sem.run_bind, Sem.run_pure, Result.andThen_ok, hfr, newRow, run_newObj, Array.toArray_toList]
  · simp only [Instr.buildSlice, Sem.run_bind, run_under hd, Result.andThen_ok, run_sizeOf hn, if_neg hsm', if_neg h0]
    simp only [Sem.run_bind, Sem.run_pure, Result.andThen_ok, run_zeroValue hzv, hfr, newRow, run_newObj, Array.toArray_toList]

theorem makeSliceV_sound (hr : HR ρ h w) {t : TypeId} {l cl c cc v : Value} (hl : VR ρ l cl) (hc : VR ρ c cc) (hh : makeSliceV P h t l c = .ok (v, h')) :
    Out P ρ h w (Instr.makeSlice t cl cc) v h' := by
  simp only [makeSliceV, bindR_ok] at hh
  obtain ⟨d, hd, hh⟩ := hh
  split at hh
  case h_2 => cases hh
  rename_i e
  simp only [bindR_ok, must_ok, room_ok, Bool.and_eq_true, decide_eq_true_eq] at hh
  obtain ⟨li, hli, ci, hci, bytes, hby, _, ⟨⟨⟨h0, h1⟩, h2⟩, h3⟩, n, hn, z, hz, _, hroom, _, hcell, he⟩ := hh
  simp only [Except.ok.injEq, Prod.mk.injEq] at he
  obtain ⟨rfl, rfl⟩ := he
  obtain ⟨k1, rfl, rfl⟩ := intOf_sound hl hli
  obtain ⟨k2, rfl, rfl⟩ := intOf_sound hc hci
  obtain ⟨hzp, hzr⟩ := zeroFor_ok hz
  have hzl : VL ρ (zeros z (ci.toNat * n)).toList (zeros z (ci.toNat * n)).toList := .plain_refl (zeros_plain hzp)
  have hcu : ci.toNat < unk := by unfold unk; omega
  obtain ⟨g1, g2⟩ := new_slice hr hroom hzl e li.toNat ci.toNat hcu
  refine ⟨_, _, _, ?_, g1, g2⟩
  obtain ⟨i, hi, rfl⟩ := tbytes_ok.1 hby
  have wl : IntKind.i64.wrap li = li := IntWalk.i64_in _ (by omega)
  have wc : IntKind.i64.wrap ci = ci := IntWalk.i64_in _ (by omega)
  have c1 : ¬ ci < 0 := by omega
  have c2 : ¬ ((2 : Int) ^ 48 < (i.bytes : Int) * ci) := by omega
  have c3 : ¬ li < 0 := by omega
  have c4 : ¬ ci < li := by omega
  simp only [Instr.makeSlice, Sem.run_bind, run_under hd, Result.andThen_ok, asInt, asIntOf, Sem.run_pure, run_typeInfo hi, wl, wc]
  simp only [c1, c2, c3, c4, gt_iff_lt, decide_false, Bool.or_self, Bool.false_eq_true, if_false, Sem.run_bind, run_askRoom, Result.andThen_ok, run_sizeOf hn]
  rcases hzr with ⟨e0, rfl⟩ | ⟨e0, zv, hzv, rfl⟩
  · simp only [if_pos e0, Sem.run_bind, Sem.run_pure, Result.andThen_ok, newRow, run_newObj, zeros, Array.toArray_toList]
  · simp only [if_neg e0, Sem.run_bind, Sem.run_pure, Result.andThen_ok, run_zeroValue hzv, newRow, run_newObj, zeros, Array.toArray_toList]
end
end Go.AM
