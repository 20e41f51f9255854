/- A part of the abstract machine: definitions and lemmas for all programs, no claim of its own; no condition. -/
import Derived.Test.YtpmlgmhmejhfeaaGreatAmOps5
set_option linter.unusedVariables false
set_option linter.unusedSimpArgs false
namespace Go.AM
open Go

section
variable {P : Program} {ρ : Ren} {h h' : Heap} {w : World}

/-- The old cells of a row, ahead of what is appended. -/
theorem old_cells {l : Loc} {vs old : List Value} {e : TypeId} {m : Mode} (hr : Row ρ vs e m l w) {o sLen size len' cap' : Nat} (hh : cellsAt vs o (sLen * size) = .ok old) :
    ∃ cs : List Value, VL ρ old cs ∧ cs.length = sLen * size ∧ ∀ w' : World, w'.heap = w.heap → (Builtin.firstCells size sLen (.slice (some ⟨l.blk, l.base + o, none⟩) len' cap')).run P w' = .ok cs.toArray w' := by
  obtain ⟨cs, hv, hcs⟩ := row_cells hr hh
  refine ⟨cs, hv, by rw [← hv.1]; exact cellsAt_len hh, fun w' hw => ?_⟩
  exact run_firstCells_some w' size sLen ⟨l.blk, l.base + o, none⟩ len' cap' cs (by rw [← hv.1]; exact cellsAt_len hh) (fun j v hj => by rw [add_none, cell_heap hw]; exact hcs j v hj)

/-- Where the new row lies. -/
theorem append_new (hr : HR ρ h w) (hroom : h.n < 32768) {sType e : TypeId} {i : TypeInfo} {z : Value} {sLen sCap n : Nat} (f : AppFacts P sType e i z sLen n) {argTypes : Array TypeId} {ty : TypeId} (h0 : argTypes[0]? = some sType)
    (h1 : ∀ xt, argTypes[1]? = some xt → ∃ d, P.underlying xt = some d ∧ ∀ k, d ≠ .int k) {base : Option Addr} {cx : Value} {old new olds news : List Value}
    (hlen : (Builtin.lenOf cx).run P w = .ok n w) (hnew : ∀ w' : World, w'.heap = w.heap → (Builtin.firstCells i.size n cx).run P w' = .ok news.toArray w')
    (hold : ∀ w' : World, w'.heap = w.heap → (Builtin.firstCells i.size sLen (.slice base sLen sCap)).run P w' = .ok olds.toArray w') (hg : sCap < sLen + n)
    (hvo : VL ρ old olds) (hvn : VL ρ new news) (hlo : olds.length = sLen * i.size) (hln : news.length = n * i.size) :
    Out P ρ h w (Builtin.append_ argTypes ty #[.slice base sLen sCap, cx]) (.slice (some ⟨h.n, 0, none⟩) (sLen + n) unk) (h.put (.cells (old ++ new) e (.grown i.size))) := by
  have hrun := append_grow f (ty := ty) h0 h1 hlen hnew hold hg
  have hge := AppFacts.cap_ge w (need := sLen + n) (old := sCap) e
  have hl : (olds ++ news).length = (sLen + n) * i.size := by rw [List.length_append, hlo, hln, Nat.add_mul]
  have hrest : (Builtin.zeroCells z.cells (grownCap w (sLen + n) sCap e - (sLen + n))).toList.length = (grownCap w (sLen + n) sCap e - (sLen + n)) * i.size := by rw [zeroCells_len, f.hsz]
  obtain ⟨g1, g2⟩ := grown_post hr hroom e (hvo.append hvn) hl hrest hge
  rw [List.append_assoc] at g2
  exact ⟨_, _, _, hrun, g1, g2⟩

theorem appendAt_sound (hr : HR ρ h w) {sType e : TypeId} {i : TypeInfo} {z : Value} {sLen sCap n : Nat} (f : AppFacts P sType e i z sLen n) (hpos : 0 < i.size) (hn0 : 0 < n) {argTypes : Array TypeId} {ty : TypeId} (h0 : argTypes[0]? = some sType)
    (h1 : ∀ xt, argTypes[1]? = some xt → ∃ d, P.underlying xt = some d ∧ ∀ k, d ≠ .int k) {a : Addr} {cs cx : Value} {new news : List Value} {v : Value}
    (hs : VR ρ (.slice (some a) sLen sCap) cs)
    (hlen : (Builtin.lenOf cx).run P w = .ok n w) (hnew : ∀ w' : World, w'.heap = w.heap → (Builtin.firstCells i.size n cx).run P w' = .ok news.toArray w')
    (hvn : VL ρ new news) (hcell : new.all isCell = true) (hln : new.length = n * i.size)
    (hh : appendAt h i.size n e new a sLen sCap = .ok (v, h')) : Out P ρ h w (Builtin.append_ argTypes ty #[cs, cx]) v h' := by
  have hln' : news.length = n * i.size := by rw [← hvn.1]; exact hln
  unfold appendAt at hh
  split at hh
  case h_2 => cases hh
  rename_i vs e' m hg hsp
  simp only [bindR_ok, must_ok] at hh
  obtain ⟨_, he', hh⟩ := hh
  obtain rfl := beq_true.1 he'
  split at hh
  · -- the capacity isn't known
    rename_i hu
    have hu := ble_true.1 hu
    cases hs with
    | slice hl hc => omega
    | sliceU hl hc hn ho =>
      rename_i b o o' c' l
      have hb := (hr.dom _ _ hl).2.2
      simp only [] at hg
      rw [hg] at hb
      split at hh
      case h_2 => cases hh
      rename_i es
      simp only [bindR_ok, must_ok] at hh
      obtain ⟨_, hes, hh⟩ := hh
      obtain rfl := beq_true.1 hes
      have hb' := hb
      obtain ⟨row, fr, g1, g2, g3, g4, g5⟩ := hb
      have hrs : row.size = l.size := g3.1 _ rfl
      have hles : l.es = i.size := g3.2 _ rfl
      have hfr : fr = (0, 0) := g2 (fun es e => by cases e)
      subst hfr
      split at hh
      · -- so many cells are known
        rename_i hk
        have hk := ble_true.1 hk
        simp only [bindR_ok] at hh
        obtain ⟨h1', hst, he⟩ := hh
        simp only [Except.ok.injEq, Prod.mk.injEq] at he
        obtain ⟨rfl, rfl⟩ := he
        obtain ⟨w', hw', hp⟩ := storeCells_sound (P := P) hr hl hvn hst
        have hk : o + sLen * i.size + new.length ≤ vs.length := hk
        have hnd : o' = l.base + o ∧ o' + c' * l.es = l.size := by
          rcases ho with ho | ⟨e1, e2, e3⟩
          · exact ho
          · exfalso
            have : 0 < n * i.size := Nat.mul_pos hn0 hpos
            subst e1
            simp only [Nat.zero_mul, Nat.add_zero] at hk
            omega
        obtain ⟨rfl, hsz⟩ := hnd
        rw [hles] at hsz
        have hfit : sLen + n ≤ c' := by
          have h2 : (sLen + n) * i.size ≤ c' * i.size := by rw [Nat.add_mul]; omega
          exact Nat.le_of_mul_le_mul_right h2 hpos
        refine ⟨.slice (some ⟨l.blk, l.base + o, none⟩) (sLen + n) c', w', ρ, ?_, ?_, hp⟩
        · refine append_room f.ht f.hi h0 h1 hlen (hnew w rfl) ?_ hfit
          rw [add_none, Nat.add_assoc]; exact hw'
        · exact .sliceU hl hc hfit (.inl ⟨rfl, by rw [hles]; exact hsz⟩)
      · rename_i hk
        have hk := ble_false.1 hk
        simp only [bindR_ok, room_ok] at hh
        obtain ⟨old, hold, _, hroom, he⟩ := hh
        simp only [Except.ok.injEq, Prod.mk.injEq] at he
        obtain ⟨rfl, rfl⟩ := he
        have hk : vs.length < o + sLen * i.size + new.length := hk
        have hold : cellsAt vs o (sLen * i.size) = .ok old := hold
        have how : owned (h.get b) = true := by rw [hg]; rfl
        obtain ⟨olds, hvo, hlo, hrold⟩ := old_cells (P := P) (len' := sLen) (cap' := c') hb' hold
        by_cases hfit : sLen + n ≤ c'
        · -- in place
          have hnd : o' = l.base + o ∧ o' + c' * l.es = l.size := by
            rcases ho with ho | ⟨e1, e2, e3⟩
            · exact ho
            · omega
          obtain ⟨rfl, hsz⟩ := hnd
          rw [hles] at hsz
          have hfc : (sLen + n) * i.size ≤ c' * i.size := Nat.mul_le_mul_right _ hfit
          rw [Nat.add_mul] at hfc
          have hst := run_storeCells_at P l.blk (l.base + o + sLen * i.size) e' news 0 row w g1 (by omega) (hvn.all_cell hcell)
          simp only [Nat.add_zero] at hst
          refine ⟨.slice (some ⟨l.blk, l.base + o, none⟩) (sLen + n) c', w.setRow l.blk (row.toList.take (l.base + o + sLen * i.size) ++ news ++ row.toList.drop (l.base + o + sLen * i.size + news.length)).toArray, ρ.add h.n ⟨l.blk, l.base + o, l.size, i.size⟩, ?_, ?_, ?_⟩
          · refine append_room f.ht f.hi h0 h1 hlen (hnew w rfl) ?_ hfit
            rw [add_none]; exact hst
          · exact VR.sliceU (l := ⟨l.blk, l.base + o, l.size, i.size⟩) Ren.add_same (Nat.le_refl _) hfit (.inl ⟨rfl, hsz⟩)
          · refine Post.take hr hroom hl how (At1.setRow _ _) rfl ?_
            have hst2 : l.base + o + sLen * i.size ≤ row.size := by omega
            refine ⟨(row.toList.take (l.base + o + sLen * i.size) ++ news ++ row.toList.drop (l.base + o + sLen * i.size + news.length)).toArray, (0, 0), setRow_heap w l.blk row _ e' (0, 0) g1, fun _ => rfl, ⟨fun es he => ?_, fun es he => ?_⟩, ?_, ?_⟩
            · simp only [List.size_toArray, List.length_append, List.length_take, List.length_drop, Array.length_toList]
              omega
            · simpa [Mode.es] using he
            · have hol : old.length = sLen * i.size := cellsAt_len hold
              have hsplit : ((row.toList.take (l.base + o + sLen * i.size) ++ news ++ row.toList.drop (l.base + o + sLen * i.size + news.length)).toArray.toList.drop (l.base + o)).take (old ++ new).length =
                  ((row.toList.drop (l.base + o)).take (sLen * i.size)) ++ news := by
                simp only []
                rw [List.length_append, hol, hln]
                apply List.ext_getElem?
                intro j
                have hrl : row.toList.length = row.size := by simp
                simp only [List.getElem?_take, List.getElem?_drop, List.getElem?_append, List.length_take, List.length_append, List.length_drop]
                by_cases hj1 : j < sLen * i.size
                · have e1 : l.base + o + j < min (l.base + o + sLen * i.size) row.toList.length + news.length := by omega
                  have e2 : l.base + o + j < min (l.base + o + sLen * i.size) row.toList.length := by omega
                  have e3 : l.base + o + j < l.base + o + sLen * i.size := by omega
                  have e4 : j < sLen * i.size + n * i.size := by omega
                  have e5 : j < min (sLen * i.size) (row.toList.length - (l.base + o)) := by omega
                  simp only [e1, e2, e3, e4, e5, hj1, if_true]
                · by_cases hj2 : j < sLen * i.size + n * i.size
                  · have e1 : l.base + o + j < min (l.base + o + sLen * i.size) row.toList.length + news.length := by omega
                    have e2 : ¬ l.base + o + j < min (l.base + o + sLen * i.size) row.toList.length := by omega
                    have e5 : ¬ j < min (sLen * i.size) (row.toList.length - (l.base + o)) := by omega
                    have e7 : l.base + o + j - min (l.base + o + sLen * i.size) row.toList.length = j - min (sLen * i.size) (row.toList.length - (l.base + o)) := by omega
                    simp only [e1, e2, e5, e7, hj2, if_true, if_false]
                  · have e5 : ¬ j < min (sLen * i.size) (row.toList.length - (l.base + o)) := by omega
                    have e8 : news.length ≤ j - min (sLen * i.size) (row.toList.length - (l.base + o)) := by omega
                    simp only [hj2, e5, if_false, List.getElem?_eq_none e8]
              rw [hsplit]
              have hv2 : VL ρ old ((row.toList.drop (l.base + o)).take (sLen * i.size)) := by
                obtain ⟨hcl, rfl⟩ := cellsAt_ok hold
                have := (g4.drop o).take (sLen * i.size)
                rw [List.drop_take, List.drop_drop, List.take_take, Nat.min_eq_left (by omega)] at this
                exact this
              exact (hv2.append hvn).mono (hr.sub_add _)
            · have hol : old.length = sLen * i.size := cellsAt_len hold
              simp only [List.size_toArray, List.length_append, List.length_take, List.length_drop, Array.length_toList, hol, hln]
              omega
        · -- in new memory
          have pk : Post ρ h w ρ (h.write b .dead 0) w := Post.write hr hl how (At1.refl _) trivial (fun _ _ _ _ => trivial)
          obtain ⟨c, w', ρ', q1, q2, q3⟩ := append_new (sCap := c') (base := some ⟨l.blk, o', none⟩) pk.hr hroom f (ty := ty) h0 h1 hlen hnew (olds := olds) (fun w' hw => by
            rcases ho with ⟨rfl, _⟩ | ⟨e1, e2, _⟩
            · exact hrold w' hw
            · subst e1
              have : olds = [] := List.eq_nil_of_length_eq_zero (by rw [hlo]; simp)
              subst this
              simp [Builtin.firstCells, loadCells, loadCellsFrom]) (by omega) hvo hvn hlo hln'
          exact ⟨c, w', ρ', q1, q2, pk.trans q3⟩
  · rename_i hu
    have hu := ble_false.1 hu
    cases hs with
    | sliceU hl hc hn ho => omega
    | slice hl hc =>
      rename_i b o l
      have hb := (hr.dom _ _ hl).2.2
      simp only [] at hg
      rw [hg] at hb
      split at hh
      · rename_i hk
        have hk := ble_true.1 hk
        simp only [bindR_ok] at hh
        obtain ⟨h1', hst, he⟩ := hh
        simp only [Except.ok.injEq, Prod.mk.injEq] at he
        obtain ⟨rfl, rfl⟩ := he
        obtain ⟨w', hw', hp⟩ := storeCells_sound (P := P) hr hl hvn hst
        refine ⟨.slice (some ⟨l.blk, l.base + o, none⟩) (sLen + n) sCap, w', ρ, ?_, .slice hl hc, hp⟩
        refine append_room f.ht f.hi h0 h1 hlen (hnew w rfl) ?_ hk
        rw [add_none, Nat.add_assoc]; exact hw'
      · rename_i hk
        have hk := ble_false.1 hk
        simp only [bindR_ok, room_ok] at hh
        obtain ⟨old, hold, _, hroom, he⟩ := hh
        simp only [Except.ok.injEq, Prod.mk.injEq] at he
        obtain ⟨rfl, rfl⟩ := he
        obtain ⟨olds, hvo, hlo, hrold⟩ := old_cells (P := P) (len' := sLen) (cap' := sCap) hb hold
        exact append_new hr hroom f h0 h1 hlen hnew hrold hk hvo hvn hlo hln'
end
end Go.AM
