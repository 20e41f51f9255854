/- A part of the abstract machine: definitions and lemmas for all programs, no claim of its own; no condition. -/
import Derived.Test.YtpmlgmhmejhfeaaGreatAmHeap
import Derived.Laws.AppendOwn
import Derived.Laws.Entries
set_option linter.unusedVariables false
set_option linter.unusedSimpArgs false
namespace Go.AM
open Go

section
variable {P : Program} {ρ : Ren} {h h' : Heap} {w : World}

theorem under_ok {t : TypeId} {d : TypeDesc} : under P t = .ok d ↔ P.underlying t = some d := ofOpt_ok
theorem tsize_ok {t : TypeId} {n : Nat} : tsize P t = .ok n ↔ ∃ i, P.info? t = some i ∧ i.size = n := by
  simp [tsize, bindR_ok, ofOpt_ok]
theorem tbytes_ok {t : TypeId} {n : Nat} : tbytes P t = .ok n ↔ ∃ i, P.info? t = some i ∧ i.bytes = n := by
  simp [tbytes, bindR_ok, ofOpt_ok]
theorem tzero_ok {t : TypeId} {v : Value} (hh : tzero P t = .ok v) : plainV 20 v = true ∧ ∃ i, P.info? t = some i ∧ i.zero = some v := by
  simp only [tzero, bindR_ok, ofOpt_ok, must_ok] at hh
  obtain ⟨i, hi, z, hz, _, hp, he⟩ := hh
  cases he
  exact ⟨hp, i, hi, hz⟩

theorem run_typeInfo {t : TypeId} {i : TypeInfo} (hi : P.info? t = some i) : (typeInfo t).run P w = .ok i w := by simp [typeInfo, hi]
theorem run_sizeOf {t : TypeId} {n : Nat} (hn : tsize P t = .ok n) : (sizeOf t).run P w = .ok n w := by
  obtain ⟨i, hi, rfl⟩ := tsize_ok.1 hn; simp [sizeOf, typeInfo, hi]
theorem run_zeroValue {t : TypeId} {v : Value} (hv : tzero P t = .ok v) : (zeroValue t).run P w = .ok v w := by
  obtain ⟨_, i, hi, hz⟩ := tzero_ok hv; simp [zeroValue, typeInfo, hi, hz]
theorem run_under {t : TypeId} {d : TypeDesc} (hd : under P t = .ok d) : (underlying t).run P w = .ok d w := run_underlying (under_ok.1 hd) w
theorem run_isAgg {t : TypeId} {d : TypeDesc} (hd : under P t = .ok d) : (isAgg t).run P w = .ok (isAggD d) w := by
  simp only [isAgg, Sem.run_bind, run_under hd, Result.andThen_ok]
  cases d <;> rfl

theorem add_none (b o n : Nat) : (⟨b, o, none⟩ : Addr).add n = ⟨b, o + n, none⟩ := by
  unfold Addr.add; split
  · rename_i h; subst h; rfl
  · rfl

/-! ### Rows -/
theorem row_cell {l : Loc} {vs : List Value} {e : TypeId} {m : Mode} (hr : Row ρ vs e m l w) {i : Nat} {v : Value} (hv : vs[i]? = some v) :
    ∃ c, w.cell? ⟨l.blk, l.base + i, none⟩ = some c ∧ VR ρ v c := by
  obtain ⟨cs, fr, h1, h2, h3, h4, h5⟩ := hr
  obtain ⟨c, hc, hvc⟩ := h4.get hv
  refine ⟨c, ?_, hvc⟩
  obtain ⟨hi, _⟩ := List.getElem?_eq_some_iff.1 hv
  simp only [World.cell?, h1, Option.isSome_none, Bool.false_eq_true, if_false]
  rw [List.getElem?_take, if_pos hi, List.getElem?_drop] at hc
  simpa using hc

theorem cellsAt_ok {vs r : List Value} {i n : Nat} (hh : cellsAt vs i n = .ok r) : i + n ≤ vs.length ∧ r = (vs.drop i).take n := by
  unfold cellsAt at hh
  split at hh
  · rename_i hb; cases hh; exact ⟨by simpa [Nat.ble_eq] using hb, rfl⟩
  · cases hh

theorem cellsAt_len {vs r : List Value} {i n : Nat} (hh : cellsAt vs i n = .ok r) : r.length = n := by
  obtain ⟨h1, rfl⟩ := cellsAt_ok hh
  simp; omega

/-- Some cells of a row, as they lie in the world. -/
theorem row_cells {l : Loc} {vs r : List Value} {e : TypeId} {m : Mode} (hr : Row ρ vs e m l w) {i n : Nat} (hh : cellsAt vs i n = .ok r) :
    ∃ cs : List Value, VL ρ r cs ∧ ∀ j c, cs[j]? = some c → w.cell? ⟨l.blk, l.base + i + j, none⟩ = some c := by
  obtain ⟨h1, rfl⟩ := cellsAt_ok hh
  obtain ⟨cs, fr, g1, g2, g3, g4, g5⟩ := hr
  refine ⟨((cs.toList.drop l.base).take vs.length |>.drop i).take n, (g4.drop i).take n, fun j c hc => ?_⟩
  simp only [World.cell?, g1, Option.isSome_none, Bool.false_eq_true, if_false]
  have hj : j < n := by
    have := (List.getElem?_eq_some_iff.1 hc).1
    simp only [List.length_take] at this; omega
  rw [List.getElem?_take, if_pos hj, List.getElem?_drop, List.getElem?_take, if_pos (by omega), List.getElem?_drop] at hc
  rw [Nat.add_assoc]
  simpa using hc

theorem readW_sound {vs : List Value} {off : Nat} {wd : Option Nat} {v : Value} (hh : readW vs off wd = .ok v) {cs : List Value} (hl : VL ρ vs cs) :
    ∃ c, readW cs off wd = .ok c ∧ VR ρ v c := by
  cases wd with
  | none =>
    simp only [readW, cell] at hh ⊢
    split at hh
    · rename_i x hx; cases hh
      obtain ⟨c, hc, hv⟩ := hl.get hx
      exact ⟨c, by rw [hc], hv⟩
    · cases hh
  | some n =>
    simp only [readW, bindR_ok] at hh
    obtain ⟨r, hr, hv⟩ := hh
    cases hv
    obtain ⟨h1, rfl⟩ := cellsAt_ok hr
    refine ⟨.agg ((cs.drop off).take n).toArray, ?_, .agg' ((hl.drop off).take n)⟩
    simp only [readW, cellsAt]
    rw [← hl.1, Nat.ble_eq.mpr h1]
    rfl

theorem wide_ok {t : TypeId} {wd : Option Nat} (hh : wide P t = .ok wd) :
    ∃ d n, under P t = .ok d ∧ tsize P t = .ok n ∧ wd = match isAggD d with | true => some n | false => none := by
  simp only [wide, bindR_ok] at hh
  obtain ⟨d, hd, n, hn, h1⟩ := hh
  cases h1
  exact ⟨d, n, hd, hn, rfl⟩

theorem run_part {t : TypeId} {cs : Array Value} {off : Nat} {v : Value} (hh : partV P t cs off = .ok v) : (part t cs off).run P w = .ok v w := by
  simp only [partV, bindR_ok] at hh
  obtain ⟨wd, hw, hv⟩ := hh
  obtain ⟨d, n, hd, hn, rfl⟩ := wide_ok hw
  simp only [part, Sem.run_bind, run_isAgg hd, Result.andThen_ok]
  cases hag : isAggD d with
  | true =>
    simp only [hag, readW, bindR_ok] at hv
    obtain ⟨r, hr, hv⟩ := hv
    cases hv
    obtain ⟨h1, rfl⟩ := cellsAt_ok hr
    simp only [if_true, Sem.run_bind, run_sizeOf hn, Result.andThen_ok, Sem.run_pure]
    congr 2
    apply Array.ext'
    simp [List.take_drop]
  | false =>
    simp only [hag, readW, cell] at hv
    split at hv
    · rename_i x hx; cases hv
      have : cs[off]? = some v := by simpa using hx
      simp [this]
    · cases hv

theorem partV_sound {t : TypeId} {cs ds : Array Value} {off : Nat} {v : Value} (hh : partV P t cs off = .ok v) (hl : VL ρ cs.toList ds.toList) :
    ∃ c, partV P t ds off = .ok c ∧ VR ρ v c := by
  simp only [partV, bindR_ok] at hh
  obtain ⟨wd, hw, hv⟩ := hh
  obtain ⟨c, hc, hr⟩ := readW_sound hv hl
  exact ⟨c, by simp only [partV, hw, bindR, hc], hr⟩

theorem loadA_sound (hr : HR ρ h w) {t : TypeId} {a : Addr} {v : Value} {l : Loc} (hl : ρ a.block = some l) (hh : loadA P h t a = .ok v) :
    a.spot = none ∧ ∃ c, (loadVar t ⟨l.blk, l.base + a.off, none⟩).run P w = .ok c w ∧ VR ρ v c := by
  unfold loadA at hh
  split at hh
  case h_2 => cases hh
  rename_i vs e m hg hs
  refine ⟨hs, ?_⟩
  have hb := (hr.dom _ _ hl).2.2
  rw [hg] at hb
  simp only [bindR_ok] at hh
  obtain ⟨wd, hw, hv⟩ := hh
  obtain ⟨d, n, hd, hn, rfl⟩ := wide_ok hw
  simp only [loadVar, Sem.run_bind, run_isAgg hd, Result.andThen_ok]
  cases hag : isAggD d with
  | true =>
    simp only [hag, readW, bindR_ok] at hv
    obtain ⟨r, hr', hv⟩ := hv
    cases hv
    obtain ⟨cs, hvl, hcs⟩ := row_cells hb hr'
    have hlen : cs.length = n := by rw [← hvl.1]; exact cellsAt_len hr'
    have hrun := run_loadCells_list (P := P) w ⟨l.blk, l.base + a.off, none⟩ cs (fun j v hv => by rw [add_none]; exact hcs j v hv)
    rw [hlen] at hrun
    refine ⟨.agg cs.toArray, by simp [run_sizeOf hn, hrun], .agg' hvl⟩
  | false =>
    simp only [hag, readW, cell] at hv
    split at hv
    · rename_i x hx; cases hv
      obtain ⟨c, hc, hvc⟩ := row_cell hb hx
      exact ⟨c, by simp [hc], hvc⟩
    · cases hv

theorem loadV_sound (hr : HR ρ h w) {t : TypeId} {a ca v : Value} (ha : VR ρ a ca) (hh : loadV P h t a = .ok v) :
    ∃ c, (Instr.loadAt t ca).run P w = .ok c w ∧ VR ρ v c := by
  cases ha <;> simp only [loadV, reduceCtorEq] at hh
  rename_i b o l hl
  obtain ⟨_, c, h1, h2⟩ := loadA_sound hr (a := ⟨b, o, none⟩) hl hh
  exact ⟨c, by simpa [Instr.loadAt, Instr.sureAddr] using h1, h2⟩

/-! ### Stores -/
theorem setAt_length : ∀ (vs : List Value) (i : Nat) (xs : List Value), (setAt vs i xs).length = vs.length
  | vs, _, [] => by simp [setAt]
  | [], _, _ :: _ => by simp [setAt]
  | v :: vs, 0, x :: xs => by simp [setAt, setAt_length vs 0 xs]
  | v :: vs, i + 1, x :: xs => by simp [setAt, setAt_length vs i (x :: xs)]

theorem setAt_eq : ∀ (vs : List Value) (i : Nat) (xs : List Value), i + xs.length ≤ vs.length → setAt vs i xs = vs.take i ++ xs ++ vs.drop (i + xs.length)
  | vs, i, [], _ => by simp [setAt]
  | [], i, _ :: _, h => by simp at h
  | v :: vs, 0, x :: xs, h => by
    have := setAt_eq vs 0 xs (by simpa using h)
    simp only [setAt, this]; simp
  | v :: vs, i + 1, x :: xs, h => by
    have := setAt_eq vs i (x :: xs) (by simp at h ⊢; omega)
    simp only [setAt, this]
    rw [show i + 1 + (x :: xs).length = (i + (x :: xs).length) + 1 by omega]
    simp

theorem setAt_mem : ∀ (vs : List Value) (i : Nat) (xs : List Value) (v : Value), v ∈ setAt vs i xs → v ∈ vs ∨ v ∈ xs
  | vs, _, [], v, h => by simp only [setAt] at h; exact .inl h
  | [], _, _ :: _, v, h => by simp [setAt] at h
  | a :: vs, 0, x :: xs, v, h => by
    simp only [setAt, List.mem_cons] at h
    rcases h with rfl | h
    · exact .inr (List.mem_cons_self ..)
    · rcases setAt_mem vs 0 xs v h with h | h
      · exact .inl (List.mem_cons_of_mem _ h)
      · exact .inr (List.mem_cons_of_mem _ h)
  | a :: vs, i + 1, x :: xs, v, h => by
    simp only [setAt, List.mem_cons] at h
    rcases h with rfl | h
    · exact .inl (List.mem_cons_self ..)
    · rcases setAt_mem vs i (x :: xs) v h with h | h
      · exact .inl (List.mem_cons_of_mem _ h)
      · exact .inr h
theorem idsL_le : ∀ (xs : List Value) (v : Value), v ∈ xs → ids v ≤ idsL xs
  | x :: xs, v, h => by
    have e : idsL (x :: xs) = Nat.max (ids x) (idsL xs) := rfl
    rw [e]
    rcases List.mem_cons.1 h with rfl | h
    · exact Nat.le_max_left _ _
    · exact Nat.le_trans (idsL_le xs v h) (Nat.le_max_right _ _)

theorem isCell_rel {v c : Value} (h : VR ρ v c) : isCell c = isCell v := by cases h <;> rfl
theorem oneCell_isCell (c : Value) : c.oneCell' = isCell c := by cases c <;> rfl
theorem VL.all_cell {as bs : List Value} (hl : VL ρ as bs) (ha : as.all isCell = true) : ∀ v ∈ bs, v.oneCell' = true := by
  intro v hv
  obtain ⟨i, hi⟩ := List.mem_iff_getElem?.1 hv
  have hi' : i < as.length := by rw [hl.1]; exact (List.getElem?_eq_some_iff.1 hi).1
  have h1 := hl.2 i hi'
  have h2 : gl bs i = v := by simp [gl, List.getD, hi]
  rw [h2] at h1
  rw [oneCell_isCell, isCell_rel h1]
  exact List.all_eq_true.1 ha _ (gl_mem hi')

theorem At1.setRow (g : Nat) (cs : Array Value) : At1 g w (w.setRow g cs) :=
  ⟨by simp, fun d hd => setRow_other w g d cs hd, rfl, rfl, rfl⟩

/-- Cells of an owned row that are written. -/
theorem storeCells_sound (hr : HR ρ h w) {b off : Nat} {l : Loc} (hl : ρ b = some l) {xs cs : List Value} (hx : VL ρ xs cs) (hh : storeCells h b off xs = .ok h') :
    ∃ w', (Go.storeCells ⟨l.blk, l.base + off, none⟩ cs).run P w = .ok () w' ∧ Post ρ h w ρ h' w' := by
  unfold storeCells at hh
  split at hh
  case h_2 => cases hh
  rename_i vs e m hg
  split at hh
  case h_1 => cases hh
  rename_i hm
  simp only [bindR_ok, must_ok, Bool.and_eq_true, Nat.ble_eq] at hh
  obtain ⟨_, ⟨h1, h2⟩, h3⟩ := hh
  cases h3
  have hb := (hr.dom _ _ hl).2.2
  rw [hg] at hb
  obtain ⟨row, fr, g1, g2, g3, g4, g5⟩ := hb
  have hfr : fr = (0, 0) := g2 (fun es e => hm es e)
  subst hfr
  have hrun := run_storeCells_at P l.blk (l.base + off) e cs 0 row w g1 (by rw [← hx.1]; omega) (hx.all_cell h2)
  refine ⟨_, hrun, ?_⟩
  have ho : owned (h.get b) = true := by rw [hg]; cases m <;> simp_all [owned]
  refine Post.write hr hl ho (At1.setRow _ _) ?_ ?_
  rotate_left
  · intro m' hm' hbig hlow
    rw [hg] at hlow
    intro v hv
    rcases setAt_mem _ _ _ _ hv with hv | hv
    · exact hlow v hv
    · obtain ⟨i, hi⟩ := List.mem_iff_getElem?.1 hv
      obtain ⟨c, _, hvc⟩ := hx.get hi
      exact Low.of_ids hvc hbig (Nat.le_trans (idsL_le _ v hv) hm')
  refine ⟨_, (0, 0), setRow_heap w l.blk row _ e (0, 0) g1, fun _ => rfl, ⟨fun es e' => ?_, g3.2⟩, ?_, ?_⟩
  · have := g3.1 es e'
    simp only [Nat.add_zero, List.size_toArray, List.length_append, List.length_take, List.length_drop, Array.length_toList]
    have hc := hx.1
    omega
  · rw [setAt_length, setAt_eq _ _ _ h1]
    have hc := hx.1
    have hsplit : (((row.toList.take (l.base + off + 0) ++ cs ++ row.toList.drop (l.base + off + 0 + cs.length)).toArray.toList.drop l.base).take vs.length) =
        ((row.toList.drop l.base).take vs.length).take off ++ cs ++ ((row.toList.drop l.base).take vs.length).drop (off + xs.length) := by
      simp only [Nat.add_zero]
      apply List.ext_getElem?
      intro j
      have hrl : row.toList.length = row.size := by simp
      simp only [List.getElem?_take, List.getElem?_drop, List.getElem?_append, List.length_take, List.length_append, List.length_drop]
      by_cases hj1 : j < off
      · have e1 : l.base + j < min (l.base + off) row.toList.length + cs.length := by omega
        have e2 : l.base + j < min (l.base + off) row.toList.length := by omega
        have e3 : l.base + j < l.base + off := by omega
        have e4 : j < vs.length := by omega
        have e5 : j < min off (min vs.length (row.toList.length - l.base)) := by omega
        have e6 : j < min off (min vs.length (row.toList.length - l.base)) + cs.length := by omega
        simp only [e1, e2, e3, e4, e5, e6, hj1, if_true]
      · by_cases hj2 : j < off + cs.length
        · have e1 : l.base + j < min (l.base + off) row.toList.length + cs.length := by omega
          have e2 : ¬ l.base + j < min (l.base + off) row.toList.length := by omega
          have e4 : j < vs.length := by omega
          have e5 : ¬ j < min off (min vs.length (row.toList.length - l.base)) := by omega
          have e6 : j < min off (min vs.length (row.toList.length - l.base)) + cs.length := by omega
          have e7 : l.base + j - min (l.base + off) row.toList.length = j - min off (min vs.length (row.toList.length - l.base)) := by omega
          simp only [e1, e2, e4, e5, e6, e7, if_true, if_false]
        · have e1 : ¬ l.base + j < min (l.base + off) row.toList.length + cs.length := by omega
          have e5 : ¬ j < min off (min vs.length (row.toList.length - l.base)) + cs.length := by omega
          simp only [e1, e5, if_false]
          by_cases e4 : j < vs.length
          · have e8 : off + xs.length + (j - (min off (min vs.length (row.toList.length - l.base)) + cs.length)) = j := by omega
            have e9 : l.base + off + cs.length + (l.base + j - (min (l.base + off) row.toList.length + cs.length)) = l.base + j := by omega
            simp only [e4, e8, e9, if_true]
          · have e8 : ¬ off + xs.length + (j - (min off (min vs.length (row.toList.length - l.base)) + cs.length)) < vs.length := by omega
            simp only [e4, e8, if_false]
    rw [hsplit]
    exact (VL.append (VL.append (g4.take off) hx) (g4.drop _))
  · rw [setAt_length]
    simp only [Nat.add_zero, List.size_toArray, List.length_append, List.length_take, List.length_drop, Array.length_toList]
    have hc := hx.1
    omega

theorem cells_rel {v c : Value} (hv : VR ρ v c) : VL ρ v.cells.toList c.cells.toList := by
  cases hv with
  | agg h₁ h₂ => exact ⟨by simpa [Value.cells] using h₁, fun i hi => h₂ i (by simpa [Value.cells] using hi)⟩
  | bool b => exact .cons (.bool b) .nil
  | int k n => exact .cons (.int k n) .nil
  | string s => exact .cons (.string s) .nil
  | nilPtr => exact .cons .nilPtr .nil
  | ptr e => exact .cons (.ptr e) .nil
  | nilSlice => exact .cons .nilSlice .nil
  | slice e hc => exact .cons (.slice e hc) .nil
  | sliceU e a b c => exact .cons (.sliceU e a b c) .nil
  | nilMap => exact .cons .nilMap .nil
  | map e => exact .cons (.map e) .nil
  | func f a b c d => exact .cons (.func f a b c d) .nil
  | yield e => exact .cons (.yield e) .nil
  | nilFunc => exact .cons .nilFunc .nil
  | nilIface => exact .cons .nilIface .nil
  | iface t e => exact .cons (.iface t e) .nil
  | tuple a b => exact .cons (.tuple a b) .nil

theorem storeV_sound (hr : HR ρ h w) {t : TypeId} {a ca x cx : Value} (ha : VR ρ a ca) (hx : VR ρ x cx) (hh : storeV P h t a x = .ok h') :
    ∃ w', (Instr.storeAt t ca cx).run P w = .ok () w' ∧ Post ρ h w ρ h' w' := by
  cases ha <;> simp only [storeV, reduceCtorEq] at hh
  rename_i b o l hl
  simp only [bindR_ok, must_ok] at hh
  obtain ⟨n, hn, _, h1, h2⟩ := hh
  have hlen : x.cells.toList.length = n := by simpa using Nat.eq_of_beq_eq_true h1
  have hc := cells_rel hx
  obtain ⟨w', h3, h4⟩ := storeCells_sound (P := P) hr hl hc h2
  refine ⟨w', ?_, h4⟩
  have hsz : cx.cells.size = n := by rw [← hlen, hc.1]; simp
  simp [Instr.storeAt, Instr.sureAddr, storeVar, run_sizeOf hn, hsz, h3]
end
end Go.AM
