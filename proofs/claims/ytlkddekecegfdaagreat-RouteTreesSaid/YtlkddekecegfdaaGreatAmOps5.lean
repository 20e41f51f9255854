/- Of the abstract machine, for all programs: definitions and lemmas, no claim of its own; no condition. -/
import Derived.Test.YtlkddekecegfdaaGreatAmQuiet
set_option linter.unusedVariables false
set_option linter.unusedSimpArgs false
namespace Go.AM
open Go

section
variable {P : Program} {ρ : Ren} {h h' : Heap} {w : World}

theorem ble_true {a b : Nat} : Nat.ble a b = true ↔ a ≤ b := by rw [Nat.ble_eq]
theorem beq_true {a b : Nat} : Nat.beq a b = true ↔ a = b := ⟨Nat.eq_of_beq_eq_true, fun h => by subst h; exact Nat.beq_refl a⟩
theorem beq_false {a b : Nat} (h : Nat.beq a b = false) : a ≠ b := fun e => by subst e; rw [Nat.beq_refl] at h; cases h

theorem lenOf_sound {x cx : Value} {n : Nat} (hx : VR ρ x cx) (hh : lenOf x = .ok n) : (Builtin.lenOf cx).run P w = .ok n w := by
  cases hx <;> simp only [lenOf, reduceCtorEq] at hh <;> cases hh <;> rfl

theorem cell_heap {w w' : World} (hw : w'.heap = w.heap) (a : Addr) : w'.cell? a = w.cell? a := by simp [World.cell?, hw]

/-- The cells that a slice or a string gives; they go by the heap alone. -/
theorem readCells_sound (hr : HR ρ h w) {size n : Nat} {x cx : Value} {vs : List Value} (hx : VR ρ x cx) (hn : ∃ m, lenOf x = .ok m ∧ n ≤ m) (hh : readCells h size n x = .ok vs) :
    ∃ cs : List Value, (∀ w' : World, w'.heap = w.heap → (Builtin.firstCells size n cx).run P w' = .ok cs.toArray w') ∧ VL ρ vs cs := by
  cases hx <;> simp only [readCells, reduceCtorEq] at hh
  case string s =>
    cases hh
    refine ⟨(s.extract 0 n).data.toList.map fun b => .int .u8 b.toNat, fun w' _ => ?_, ⟨rfl, fun i hi => ?_⟩⟩
    · simp only [Builtin.firstCells, Sem.run_pure]
      congr 1
      apply Array.ext'
      simp
    · simp only [List.length_map] at hi
      simp only [gl, List.getD, List.getElem?_map, List.getElem?_eq_getElem hi, Option.map_some, Option.getD_some]
      exact .int _ _
  case nilSlice => cases hh; exact ⟨[], fun w' _ => by simp [Builtin.firstCells], .nil⟩
  case empty0 b a l hl =>
    obtain ⟨m, hm, hn⟩ := hn
    cases hm
    have h0 : n = 0 := by omega
    subst h0
    have h1 : Nat.beq (0 * size) 0 = true := by rw [Nat.zero_mul]; rfl
    rw [h1] at hh
    cases hh
    exact ⟨[], fun w' _ => by simp [Builtin.firstCells, loadCells, loadCellsFrom], .nil⟩
  case slice b o len c l hl hc =>
    split at hh
    · rename_i h0
      have h0 := beq_true.1 h0
      cases hh
      exact ⟨[], fun w' _ => by simp [Builtin.firstCells, h0, loadCells, loadCellsFrom], .nil⟩
    · split at hh
      case h_2 => cases hh
      rename_i vs' e m hg hs
      have hb := (hr.dom _ _ hl).2.2
      rw [hg] at hb
      obtain ⟨cs, hv, hcs⟩ := row_cells hb hh
      refine ⟨cs, fun w' hw => ?_, hv⟩
      exact run_firstCells_some w' size n ⟨l.blk, l.base + o, none⟩ len c cs (by rw [← hv.1]; exact cellsAt_len hh) (fun j v hj => by rw [add_none, cell_heap hw]; exact hcs j v hj)
  case sliceU b o len c o' c' l hl hc hlen ho =>
    split at hh
    · rename_i h0
      have h0 := beq_true.1 h0
      cases hh
      exact ⟨[], fun w' _ => by simp [Builtin.firstCells, h0, loadCells, loadCellsFrom], .nil⟩
    · rename_i h0
      have h0 := beq_false h0
      split at hh
      case h_2 => cases hh
      rename_i vs' e m hg hs
      have hb := (hr.dom _ _ hl).2.2
      rw [hg] at hb
      have hlen0 : len ≠ 0 := by
        intro e
        subst e
        obtain ⟨m, hm, hnm⟩ := hn
        simp only [lenOf, Except.ok.injEq] at hm; subst hm
        have : n = 0 := by omega
        subst this; simp at h0
      have ho' : o' = l.base + o := by
        rcases ho with ⟨ho, _⟩ | ⟨ho, _⟩
        · exact ho
        · exact absurd ho hlen0
      subst ho'
      obtain ⟨cs, hv, hcs⟩ := row_cells hb hh
      refine ⟨cs, fun w' hw => ?_, hv⟩
      exact run_firstCells_some w' size n ⟨l.blk, l.base + o, none⟩ len c' cs (by rw [← hv.1]; exact cellsAt_len hh) (fun j v hj => by rw [add_none, cell_heap hw]; exact hcs j v hj)

theorem zeroCells_len (z : Array Value) (n : Nat) : (Builtin.zeroCells z n).toList.length = n * z.size := by simp [Builtin.zeroCells]

/-- What a new row that 'append' makes is. -/
theorem grown_row {ρ : Ren} {vs cs rest : List Value} {e : TypeId} {l : Loc} {w' : World} (hv : VL ρ vs cs) (hl : l.base = 0) (hs : l.size = cs.length + rest.length)
    (hw : w'.heap[l.blk]? = some (.cells (cs ++ rest).toArray e (0, 0))) : Row ρ vs e (.grown l.es) l w' := by
  refine ⟨(cs ++ rest).toArray, (0, 0), hw, fun _ => rfl, ⟨fun _ _ => by simp [hs], fun es he => by simpa [Mode.es] using he⟩, ?_, by have := hv.1; simp [hl]; omega⟩
  rw [hl, hv.1]
  simpa using hv

theorem new1_drew (o : Obj) : New1 o w (w.drew.alloc o) := ⟨rfl, rfl, rfl, rfl⟩

/-- The slice that 'append' hands back where it has made a new row. -/
theorem grown_post (hr : HR ρ h w) (hn : True) {vs cs rest : List Value} (e : TypeId) {size need cap : Nat} (hv : VL ρ vs cs) (hlen : cs.length = need * size) (hrest : rest.length = (cap - need) * size) (hc : need ≤ cap) :
    VR (ρ.add h.n ⟨w.heap.size, 0, cap * size, size⟩) (.slice (some ⟨h.n, 0, none⟩) need unk) (.slice (some ⟨w.heap.size, 0, none⟩) need cap) ∧
    Post ρ h w (ρ.add h.n ⟨w.heap.size, 0, cap * size, size⟩) (h.put (.cells vs e (.grown size))) (w.drew.alloc (.cells (cs ++ rest).toArray e)) := by
  have hsz : cap * size = cs.length + rest.length := by rw [hlen, hrest, ← Nat.add_mul]; congr 1; omega
  refine ⟨?_, ?_⟩
  · exact VR.sliceU (l := ⟨w.heap.size, 0, cap * size, size⟩) (o := 0) Ren.add_same (Nat.le_refl _) hc (.inl ⟨rfl, by simp⟩)
  · refine Post.alloc hr hn (l := ⟨w.heap.size, 0, cap * size, size⟩) rfl (new1_drew _) ?_
    exact grown_row (l := ⟨w.heap.size, 0, cap * size, size⟩) (hv.mono (hr.sub_add _)) rfl hsz (by show (w.heap.push _)[w.heap.size]? = _; simp)

/-- The facts that 'appendV' has looked at. -/
structure AppFacts (P : Program) (sType e : TypeId) (i : TypeInfo) (z : Value) (sLen n : Nat) : Prop where
  ht : P.underlying sType = some (.slice e)
  hi : P.info? e = some i
  hz : i.zero = some z
  hsz : z.cells.size = i.size
  room : (2 * (sLen + n) + 768) * i.bytes ≤ 140737488355328
  pos : 0 < i.bytes

theorem AppFacts.small {P : Program} {sType e : TypeId} {i : TypeInfo} {z : Value} {sLen n : Nat} (f : AppFacts P sType e i z sLen n) : sLen + n ≤ 140737488355328 := by
  have := f.room
  have h1 : (2 * (sLen + n) + 768) * 1 ≤ (2 * (sLen + n) + 768) * i.bytes := Nat.mul_le_mul_left _ f.pos
  omega

theorem AppFacts.fits {P : Program} {sType e : TypeId} {i : TypeInfo} {z : Value} {sLen n cap : Nat} (f : AppFacts P sType e i z sLen n) (hc : cap < sLen + n) :
    ¬ (281474976710656 < Builtin.nextslicecap (sLen + n) cap * i.bytes) := by
  have h1 : (sLen + n) * i.bytes ≤ 140737488355328 := Nat.le_trans (Nat.mul_le_mul_right _ (by omega)) f.room
  have := growslice_fits hc h1
  omega

theorem AppFacts.cap_ge (w : World) {need old : Nat} (e : TypeId) : need ≤ grownCap w need old e := by
  simp only [grownCap, Question.cut]; omega

/-- 'append' where there is no room: in new memory. -/
theorem append_grow {sType e : TypeId} {i : TypeInfo} {z : Value} {sLen sCap n : Nat} (f : AppFacts P sType e i z sLen n) {argTypes : Array TypeId} {ty : TypeId} (h0 : argTypes[0]? = some sType)
    (h1 : ∀ xt, argTypes[1]? = some xt → ∃ d, P.underlying xt = some d ∧ ∀ k, d ≠ .int k) {base : Option Addr} {cx : Value} {olds news : List Value}
    (hlen : (Builtin.lenOf cx).run P w = .ok n w) (hnew : ∀ w' : World, w'.heap = w.heap → (Builtin.firstCells i.size n cx).run P w' = .ok news.toArray w')
    (hold : ∀ w' : World, w'.heap = w.heap → (Builtin.firstCells i.size sLen (.slice base sLen sCap)).run P w' = .ok olds.toArray w') (hg : sCap < sLen + n) :
    (Builtin.append_ argTypes ty #[.slice base sLen sCap, cx]).run P w = .ok (.slice (some ⟨w.heap.size, 0, none⟩) (sLen + n) (grownCap w (sLen + n) sCap e))
      (w.drew.alloc (.cells (olds ++ (news ++ (Builtin.zeroCells z.cells (grownCap w (sLen + n) sCap e - (sLen + n))).toList)).toArray e)) := by
  have hsm := f.small
  have c1 : ¬ sLen + n ≤ sCap := by omega
  have hz0 : ¬ i.bytes = 0 := by have := f.pos; omega
  have c3 := f.fits hg
  have e1 := run_underlying f.ht
  have hfo : Question.forced (.appendCap (sLen + n) sCap e) = false := rfl
  have hN := hnew w.drew rfl
  have hO := hold w.drew rfl
  have h63' : ¬ (9223372036854775807 < ((sLen : Int) + (n : Int))) := by omega
  cases hx : argTypes[1]? with
  | none =>
    simp [Builtin.append_, h0, hx, e1, sizeOf, typeInfo, f.hi, hlen, c1, h63', c3, hfo, hN, hO, zeroValue, f.hz, newRow, grownCap]
    try (congr 2; apply Array.ext'; simp [List.append_assoc])
  | some xt =>
    obtain ⟨d, hd, hk⟩ := h1 xt hx
    have hdm : (match d with | .int _ => true | _ => false : Bool) = false := by cases d <;> first | rfl | exact absurd rfl (hk _)
    simp [Builtin.append_, h0, hx, e1, run_underlying hd, hdm, sizeOf, typeInfo, f.hi, hlen, c1, h63', c3, hfo, hN, hO, zeroValue, f.hz, newRow, grownCap]
    try (congr 2; apply Array.ext'; simp [List.append_assoc])

/-- 'append' where there is room: in place. -/
theorem append_room {sType e : TypeId} {i : TypeInfo} {sLen sCap n : Nat} (ht : P.underlying sType = some (.slice e)) (hi : P.info? e = some i) {argTypes : Array TypeId} {ty : TypeId} (h0 : argTypes[0]? = some sType)
    (h1 : ∀ xt, argTypes[1]? = some xt → ∃ d, P.underlying xt = some d ∧ ∀ k, d ≠ .int k) {a : Addr} {cx : Value} {news : List Value} {w' : World}
    (hlen : (Builtin.lenOf cx).run P w = .ok n w) (hnew : (Builtin.firstCells i.size n cx).run P w = .ok news.toArray w)
    (hst : (Go.storeCells (a.add (sLen * i.size)) news).run P w = .ok () w') (hg : sLen + n ≤ sCap) :
    (Builtin.append_ argTypes ty #[.slice (some a) sLen sCap, cx]).run P w = .ok (.slice (some a) (sLen + n) sCap) w' := by
  have e1 := run_underlying ht
  cases hx : argTypes[1]? with
  | none => simp [Builtin.append_, h0, hx, e1, sizeOf, typeInfo, hi, hlen, hg, hnew, hst]
  | some xt =>
    obtain ⟨d, hd, hk⟩ := h1 xt hx
    have hdm : (match d with | .int _ => true | _ => false : Bool) = false := by cases d <;> first | rfl | exact absurd rfl (hk _)
    simp [Builtin.append_, h0, hx, e1, run_underlying hd, hdm, sizeOf, typeInfo, hi, hlen, hg, hnew, hst]

theorem append_room_nil {sType e : TypeId} {i : TypeInfo} (ht : P.underlying sType = some (.slice e)) (hi : P.info? e = some i) {argTypes : Array TypeId} {ty : TypeId} (h0 : argTypes[0]? = some sType)
    (h1 : ∀ xt, argTypes[1]? = some xt → ∃ d, P.underlying xt = some d ∧ ∀ k, d ≠ .int k) {cx : Value} {news : List Value}
    (hlen : (Builtin.lenOf cx).run P w = .ok 0 w) (hnew : (Builtin.firstCells i.size 0 cx).run P w = .ok news.toArray w) :
    (Builtin.append_ argTypes ty #[.slice none 0 0, cx]).run P w = .ok (.slice none 0 0) w := by
  have e1 := run_underlying ht
  cases hx : argTypes[1]? with
  | none => simp [Builtin.append_, h0, hx, e1, sizeOf, typeInfo, hi, hlen, hnew]
  | some xt =>
    obtain ⟨d, hd, hk⟩ := h1 xt hx
    have hdm : (match d with | .int _ => true | _ => false : Bool) = false := by cases d <;> first | rfl | exact absurd rfl (hk _)
    simp [Builtin.append_, h0, hx, e1, run_underlying hd, hdm, sizeOf, typeInfo, hi, hlen, hnew]
end
end Go.AM
namespace Go.AM
open Go

section
variable {P : Program} {ρ : Ren} {h h' : Heap} {w : World}

/-- The old cells of a row, ahead of what is appended. -/
theorem old_cells {l : Loc} {vs old : List Value} {e : TypeId} {m : Mode} (hr : Row ρ vs e m l w) {o sLen size len' cap' : Nat} (hh : cellsAt vs o (sLen * size) = .ok old) :
    ∃ cs : List Value, VL ρ old cs ∧ cs.length = sLen * size ∧ ∀ w' : World, w'.heap = w.heap → (Builtin.firstCells size sLen (.slice (some ⟨l.blk, l.base + o, none⟩) len' cap')).run P w' = .ok cs.toArray w' := by
  obtain ⟨cs, hv, hcs⟩ := row_cells hr hh
  refine ⟨cs, hv, by rw [← hv.1]; exact cellsAt_len hh, fun w' hw => ?_⟩
  exact run_firstCells_some w' size sLen ⟨l.blk, l.base + o, none⟩ len' cap' cs (by rw [← hv.1]; exact cellsAt_len hh) (fun j v hj => by rw [add_none, cell_heap hw]; exact hcs j v hj)

/-- Where the new row lies. -/
theorem append_new (hr : HR ρ h w) (hroom : True) {sType e : TypeId} {i : TypeInfo} {z : Value} {sLen sCap n : Nat} (f : AppFacts P sType e i z sLen n) {argTypes : Array TypeId} {ty : TypeId} (h0 : argTypes[0]? = some sType)
    (h1 : ∀ xt, argTypes[1]? = some xt → ∃ d, P.underlying xt = some d ∧ ∀ k, d ≠ .int k) {base : Option Addr} {cx : Value} {old new olds news : List Value}
    (hlen : (Builtin.lenOf cx).run P w = .ok n w) (hnew : ∀ w' : World, w'.heap = w.heap → (Builtin.firstCells i.size n cx).run P w' = .ok news.toArray w')
    (hold : ∀ w' : World, w'.heap = w.heap → (Builtin.firstCells i.size sLen (.slice base sLen sCap)).run P w' = .ok olds.toArray w') (hg : sCap < sLen + n)
    (hvo : VL ρ old olds) (hvn : VL ρ new news) (hlo : olds.length = sLen * i.size) (hln : news.length = n * i.size) :
    Out P ρ h w (Builtin.append_ argTypes ty #[.slice base sLen sCap, cx]) (.slice (some ⟨h.n, 0, none⟩) (sLen + n) unk) (h.put (.cells (old ++ new) e (.grown i.size))) := by
  have hrun := append_grow f (ty := ty) h0 h1 hlen hnew hold hg
  have hge := AppFacts.cap_ge w (need := sLen + n) (old := sCap) e
  have hl : (olds ++ news).length = (sLen + n) * i.size := by rw [List.length_append, hlo, hln, Nat.add_mul]
  have hrest : (Builtin.zeroCells z.cells (grownCap w (sLen + n) sCap e - (sLen + n))).toList.length = (grownCap w (sLen + n) sCap e - (sLen + n)) * i.size := by rw [zeroCells_len, f.hsz]
  obtain ⟨g1, g2⟩ := grown_post hr hroom e (hvo.append hvn) hl hrest hge
  rw [List.append_assoc] at g2
  exact ⟨_, _, _, hrun, g1, g2⟩

theorem appendAt_sound (hr : HR ρ h w) {sType e : TypeId} {i : TypeInfo} {z : Value} {sLen sCap n : Nat} (f : AppFacts P sType e i z sLen n) (hpos : 0 < i.size) (hn0 : 0 < n) {argTypes : Array TypeId} {ty : TypeId} (h0 : argTypes[0]? = some sType)
    (h1 : ∀ xt, argTypes[1]? = some xt → ∃ d, P.underlying xt = some d ∧ ∀ k, d ≠ .int k) {a : Addr} {cs cx : Value} {new news : List Value} {v : Value}
    (hs : VR ρ (.slice (some a) sLen sCap) cs)
    (hlen : (Builtin.lenOf cx).run P w = .ok n w) (hnew : ∀ w' : World, w'.heap = w.heap → (Builtin.firstCells i.size n cx).run P w' = .ok news.toArray w')
    (hvn : VL ρ new news) (hcell : new.all isCell = true) (hln : new.length = n * i.size)
    (hh : appendAt h i.size n e new a sLen sCap = .ok (v, h')) : Out P ρ h w (Builtin.append_ argTypes ty #[cs, cx]) v h' := by
  have hln' : news.length = n * i.size := by rw [← hvn.1]; exact hln
  unfold appendAt at hh
  split at hh
  case h_2 => cases hh
  rename_i vs e' m hg hsp
  simp only [bindR_ok, must_ok] at hh
  obtain ⟨_, he', hh⟩ := hh
  obtain rfl := beq_true.1 he'
  split at hh
  · -- the capacity isn't known
    rename_i hu
    have hu := ble_true.1 hu
    cases hs with
    | slice hl hc => omega
    | empty0 _ => exact absurd hu (by unfold unk; omega)
    | sliceU hl hc hn ho =>
      rename_i b o o' c' l
      have hb := (hr.dom _ _ hl).2.2
      simp only [] at hg
      rw [hg] at hb
      split at hh
      case h_2 => cases hh
      rename_i es
      simp only [bindR_ok, must_ok] at hh
      obtain ⟨_, hes, hh⟩ := hh
      obtain rfl := beq_true.1 hes
      have hb' := hb
      obtain ⟨row, fr, g1, g2, g3, g4, g5⟩ := hb
      have hrs : row.size = l.size := g3.1 _ rfl
      have hles : l.es = i.size := g3.2 _ rfl
      have hfr : fr = (0, 0) := g2 (fun es e => by cases e)
      subst hfr
      split at hh
      · -- so many cells are known
        rename_i hk
        have hk := ble_true.1 hk
        simp only [bindR_ok] at hh
        obtain ⟨h1', hst, he⟩ := hh
        simp only [Except.ok.injEq, Prod.mk.injEq] at he
        obtain ⟨rfl, rfl⟩ := he
        obtain ⟨w', hw', hp⟩ := storeCells_sound (P := P) hr hl hvn hst
        have hk : o + sLen * i.size + new.length ≤ vs.length := hk
        have hnd : o' = l.base + o ∧ o' + c' * l.es = l.size := by
          rcases ho with ho | ⟨e1, e2, e3⟩
          · exact ho
          · exfalso
            have : 0 < n * i.size := Nat.mul_pos hn0 hpos
            subst e1
            simp only [Nat.zero_mul, Nat.add_zero] at hk
            omega
        obtain ⟨rfl, hsz⟩ := hnd
        rw [hles] at hsz
        have hfit : sLen + n ≤ c' := by
          have h2 : (sLen + n) * i.size ≤ c' * i.size := by rw [Nat.add_mul]; omega
          exact Nat.le_of_mul_le_mul_right h2 hpos
        refine ⟨.slice (some ⟨l.blk, l.base + o, none⟩) (sLen + n) c', w', ρ, ?_, ?_, hp⟩
        · refine append_room f.ht f.hi h0 h1 hlen (hnew w rfl) ?_ hfit
          rw [add_none, Nat.add_assoc]; exact hw'
        · exact .sliceU hl hc hfit (.inl ⟨rfl, by rw [hles]; exact hsz⟩)
      · rename_i hk
        have hk := ble_false.1 hk
        simp only [bindR_ok, room_ok] at hh
        obtain ⟨old, hold, _, hroom, he⟩ := hh
        simp only [Except.ok.injEq, Prod.mk.injEq] at he
        obtain ⟨rfl, rfl⟩ := he
        have hk : vs.length < o + sLen * i.size + new.length := hk
        have hold : cellsAt vs o (sLen * i.size) = .ok old := hold
        have how : owned (h.get b) = true := by rw [hg]; rfl
        obtain ⟨olds, hvo, hlo, hrold⟩ := old_cells (P := P) (len' := sLen) (cap' := c') hb' hold
        by_cases hfit : sLen + n ≤ c'
        · -- in place
          have hnd : o' = l.base + o ∧ o' + c' * l.es = l.size := by
            rcases ho with ho | ⟨e1, e2, e3⟩
            · exact ho
            · omega
          obtain ⟨rfl, hsz⟩ := hnd
          rw [hles] at hsz
          have hfc : (sLen + n) * i.size ≤ c' * i.size := Nat.mul_le_mul_right _ hfit
          rw [Nat.add_mul] at hfc
          have hst := run_storeCells_at P l.blk (l.base + o + sLen * i.size) e' news 0 row w g1 (by omega) (hvn.all_cell hcell)
          simp only [Nat.add_zero] at hst
          refine ⟨.slice (some ⟨l.blk, l.base + o, none⟩) (sLen + n) c', w.setRow l.blk (row.toList.take (l.base + o + sLen * i.size) ++ news ++ row.toList.drop (l.base + o + sLen * i.size + news.length)).toArray, ρ.add h.n ⟨l.blk, l.base + o, l.size, i.size⟩, ?_, ?_, ?_⟩
          · refine append_room f.ht f.hi h0 h1 hlen (hnew w rfl) ?_ hfit
            rw [add_none]; exact hst
          · exact VR.sliceU (l := ⟨l.blk, l.base + o, l.size, i.size⟩) Ren.add_same (Nat.le_refl _) hfit (.inl ⟨rfl, hsz⟩)
          · refine Post.take hr hroom hl how (At1.setRow _ _) rfl ?_
            have hst2 : l.base + o + sLen * i.size ≤ row.size := by omega
            refine ⟨(row.toList.take (l.base + o + sLen * i.size) ++ news ++ row.toList.drop (l.base + o + sLen * i.size + news.length)).toArray, (0, 0), setRow_heap w l.blk row _ e' (0, 0) g1, fun _ => rfl, ⟨fun es he => ?_, fun es he => ?_⟩, ?_, ?_⟩
            · simp only [List.size_toArray, List.length_append, List.length_take, List.length_drop, Array.length_toList]
              omega
            · simpa [Mode.es] using he
            · have hol : old.length = sLen * i.size := cellsAt_len hold
              have hsplit : ((row.toList.take (l.base + o + sLen * i.size) ++ news ++ row.toList.drop (l.base + o + sLen * i.size + news.length)).toArray.toList.drop (l.base + o)).take (old ++ new).length =
                  ((row.toList.drop (l.base + o)).take (sLen * i.size)) ++ news := by
                simp only []
                rw [List.length_append, hol, hln]
                apply List.ext_getElem?
                intro j
                have hrl : row.toList.length = row.size := by simp
                simp only [List.getElem?_take, List.getElem?_drop, List.getElem?_append, List.length_take, List.length_append, List.length_drop]
                by_cases hj1 : j < sLen * i.size
                · have e1 : l.base + o + j < min (l.base + o + sLen * i.size) row.toList.length + news.length := by omega
                  have e2 : l.base + o + j < min (l.base + o + sLen * i.size) row.toList.length := by omega
                  have e3 : l.base + o + j < l.base + o + sLen * i.size := by omega
                  have e4 : j < sLen * i.size + n * i.size := by omega
                  have e5 : j < min (sLen * i.size) (row.toList.length - (l.base + o)) := by omega
                  simp only [e1, e2, e3, e4, e5, hj1, if_true]
                · by_cases hj2 : j < sLen * i.size + n * i.size
                  · have e1 : l.base + o + j < min (l.base + o + sLen * i.size) row.toList.length + news.length := by omega
                    have e2 : ¬ l.base + o + j < min (l.base + o + sLen * i.size) row.toList.length := by omega
                    have e5 : ¬ j < min (sLen * i.size) (row.toList.length - (l.base + o)) := by omega
                    have e7 : l.base + o + j - min (l.base + o + sLen * i.size) row.toList.length = j - min (sLen * i.size) (row.toList.length - (l.base + o)) := by omega
                    simp only [e1, e2, e5, e7, hj2, if_true, if_false]
                  · have e5 : ¬ j < min (sLen * i.size) (row.toList.length - (l.base + o)) := by omega
                    have e8 : news.length ≤ j - min (sLen * i.size) (row.toList.length - (l.base + o)) := by omega
                    simp only [hj2, e5, if_false, List.getElem?_eq_none e8]
              rw [hsplit]
              have hv2 : VL ρ old ((row.toList.drop (l.base + o)).take (sLen * i.size)) := by
                obtain ⟨hcl, rfl⟩ := cellsAt_ok hold
                have := (g4.drop o).take (sLen * i.size)
                rw [List.drop_take, List.drop_drop, List.take_take, Nat.min_eq_left (by omega)] at this
                exact this
              exact (hv2.append hvn).mono (hr.sub_add _)
            · have hol : old.length = sLen * i.size := cellsAt_len hold
              simp only [List.size_toArray, List.length_append, List.length_take, List.length_drop, Array.length_toList, hol, hln]
              omega
        · -- in new memory
          have pk : Post ρ h w ρ (h.write b .dead 0) w := Post.write hr hl how (At1.refl _) trivial (fun _ _ _ _ => trivial)
          obtain ⟨c, w', ρ', q1, q2, q3⟩ := append_new (sCap := c') (base := some ⟨l.blk, o', none⟩) pk.hr hroom f (ty := ty) h0 h1 hlen hnew (olds := olds) (fun w' hw => by
            rcases ho with ⟨rfl, _⟩ | ⟨e1, e2, _⟩
            · exact hrold w' hw
            · subst e1
              have : olds = [] := List.eq_nil_of_length_eq_zero (by rw [hlo]; simp)
              subst this
              simp [Builtin.firstCells, loadCells, loadCellsFrom]) (by omega) hvo hvn hlo hln'
          exact ⟨c, w', ρ', q1, q2, pk.trans q3⟩
  · rename_i hu
    have hu := ble_false.1 hu
    cases hs with
    | sliceU hl hc hn ho => omega
    | @empty0 b a' l hl =>
      split at hh
      · rename_i hk
        have hk := ble_true.1 hk
        omega
      · rename_i hk
        have hk := ble_false.1 hk
        simp only [bindR_ok, room_ok] at hh
        obtain ⟨old, hold, _, hroom, he⟩ := hh
        simp only [Except.ok.injEq, Prod.mk.injEq] at he
        obtain ⟨rfl, rfl⟩ := he
        have ho : old = [] := by
          have := cellsAt_len hold
          rw [Nat.zero_mul] at this
          exact List.eq_nil_of_length_eq_zero this
        subst ho
        exact append_new (base := some a') hr hroom f h0 h1 hlen hnew (olds := []) (fun w' hw => by simp [Builtin.firstCells, loadCells, loadCellsFrom]) hk .nil hvn (by simp) hln'
    | slice hl hc =>
      rename_i b o l
      have hb := (hr.dom _ _ hl).2.2
      simp only [] at hg
      rw [hg] at hb
      split at hh
      · rename_i hk
        have hk := ble_true.1 hk
        simp only [bindR_ok] at hh
        obtain ⟨h1', hst, he⟩ := hh
        simp only [Except.ok.injEq, Prod.mk.injEq] at he
        obtain ⟨rfl, rfl⟩ := he
        obtain ⟨w', hw', hp⟩ := storeCells_sound (P := P) hr hl hvn hst
        refine ⟨.slice (some ⟨l.blk, l.base + o, none⟩) (sLen + n) sCap, w', ρ, ?_, .slice hl hc, hp⟩
        refine append_room f.ht f.hi h0 h1 hlen (hnew w rfl) ?_ hk
        rw [add_none, Nat.add_assoc]; exact hw'
      · rename_i hk
        have hk := ble_false.1 hk
        simp only [bindR_ok, room_ok] at hh
        obtain ⟨old, hold, _, hroom, he⟩ := hh
        simp only [Except.ok.injEq, Prod.mk.injEq] at he
        obtain ⟨rfl, rfl⟩ := he
        obtain ⟨olds, hvo, hlo, hrold⟩ := old_cells (P := P) (len' := sLen) (cap' := sCap) hb hold
        exact append_new hr hroom f h0 h1 hlen hnew hrold hk hvo hvn hlo hln'
end
end Go.AM
namespace Go.AM
open Go

section
variable {P : Program} {ρ : Ren} {h h' : Heap} {w : World}

theorem readCells_zero {size : Nat} {x : Value} {new : List Value} (hh : readCells h size 0 x = .ok new) : new = [] := by
  cases x <;> simp only [readCells, reduceCtorEq, Except.ok.injEq] at hh
  · rename_i s
    rw [← hh]; simp
  · rename_i a l c
    cases a with
    | none => simp only [Except.ok.injEq] at hh; exact hh.symm
    | some a => simp only [Nat.zero_mul, Nat.beq_refl, Except.ok.injEq] at hh; exact hh.symm

theorem appendV_sound (hr : HR ρ h w) {argTypes : Array TypeId} {ty : TypeId} {args cargs : List Value} {v : Value} (ha : VL ρ args cargs) (hh : appendV P h argTypes args = .ok (v, h')) :
    Out P ρ h w (Builtin.append_ argTypes ty cargs.toArray) v h' := by
  unfold appendV at hh
  split at hh
  case h_2 => cases hh
  rename_i base sLen sCap x
  obtain ⟨cs, rest, rfl, hs, hrest⟩ := ha.cases_cons
  obtain ⟨cx, rest', rfl, hx, hrest'⟩ := hrest.cases_cons
  obtain rfl := hrest'.cases_nil
  simp only [bindR_ok, ofOpt_ok] at hh
  obtain ⟨sType, h0, d, hd, hh⟩ := hh
  split at hh
  case h_2 => cases hh
  rename_i e
  simp only [bindR_ok] at hh
  obtain ⟨_, hz1, size, hsize, n, hn, new, hnew, hh⟩ := hh
  have h1 : ∀ xt, argTypes[1]? = some xt → ∃ d, P.underlying xt = some d ∧ ∀ k, d ≠ .int k := by
    intro xt hxt
    rw [hxt] at hz1
    simp only [bindR_ok, must_ok] at hz1
    obtain ⟨d', hd', hk⟩ := hz1
    refine ⟨d', under_ok.1 hd', fun k e => ?_⟩
    subst e; cases hk
  obtain ⟨i, hi, rfl⟩ := tsize_ok.1 hsize
  obtain ⟨news, hrun, hvn⟩ := readCells_sound (P := P) hr hx ⟨n, hn, Nat.le_refl _⟩ hnew
  have hlen := lenOf_sound (P := P) (w := w) hx hn
  have ht := under_ok.1 hd
  show Out P ρ h w (Builtin.append_ argTypes ty #[cs, cx]) v h'
  split at hh
  · rename_i hn0
    obtain rfl := beq_true.1 hn0
    simp only [bindR_ok, must_ok] at hh
    obtain ⟨_, hle, he⟩ := hh
    simp only [Except.ok.injEq, Prod.mk.injEq] at he
    obtain ⟨rfl, rfl⟩ := he
    have hnil : new = [] := readCells_zero hnew
    subst hnil
    obtain rfl := hvn.cases_nil
    cases hs with
    | nilSlice => exact ⟨_, w, ρ, append_room_nil ht hi h0 h1 hlen (hrun w rfl), .nilSlice, .refl hr⟩
    | empty0 hl =>
      refine ⟨_, w, ρ, append_room ht hi h0 h1 hlen (hrun w rfl) (by simp [Go.storeCells]) (by omega), ?_, .refl hr⟩
      exact .empty0 hl
    | slice hl hc =>
      refine ⟨_, w, ρ, append_room ht hi h0 h1 hlen (hrun w rfl) (by simp [Go.storeCells]) (by simpa using ble_true.1 hle), ?_, .refl hr⟩
      exact .slice hl hc
    | sliceU hl hc hn' ho =>
      refine ⟨_, w, ρ, append_room ht hi h0 h1 hlen (hrun w rfl) (by simp [Go.storeCells]) hn', ?_, .refl hr⟩
      exact .sliceU hl hc hn' ho
  · rename_i hn0
    have hn0 := beq_false hn0
    simp only [bindR_ok, must_ok, Bool.and_eq_true, beq_true, ble_true, blt_true] at hh
    obtain ⟨bytes, hby, z, hz, _, ⟨⟨⟨⟨⟨hzs, hroom⟩, hpos⟩, hbpos⟩, hcell⟩, hln⟩, hh⟩ := hh
    obtain ⟨i', hi', rfl⟩ := tbytes_ok.1 hby
    obtain rfl : i' = i := by rw [hi] at hi'; cases hi'; rfl
    obtain ⟨_, i'', hi'', hz'⟩ := tzero_ok hz
    obtain rfl : i'' = i' := by rw [hi] at hi''; cases hi''; rfl
    have f : AppFacts P sType e i'' z sLen n := ⟨ht, hi, hz', hzs, hroom, hbpos⟩
    split at hh
    · simp only [bindR_ok, must_ok, Bool.and_eq_true, beq_true, room_ok] at hh
      obtain ⟨_, ⟨rfl, rfl⟩, _, hrm, he⟩ := hh
      simp only [Except.ok.injEq, Prod.mk.injEq] at he
      obtain ⟨rfl, rfl⟩ := he
      cases hs
      have := append_new (ty := ty) (base := none) (sCap := 0) (olds := []) (old := []) hr hrm f h0 h1 hlen hrun (fun w' _ => by simp [Builtin.firstCells]) (by omega) .nil hvn (by simp) (by rw [← hvn.1]; exact hln)
      simpa using this
    · exact appendAt_sound hr f hpos (by omega) h0 h1 hs hlen hrun hvn hcell hln hh

theorem copyV_sound (hr : HR ρ h w) {argTypes : Array TypeId} {ty : TypeId} {args cargs : List Value} {v : Value} (ha : VL ρ args cargs) (hh : copyV P h argTypes args = .ok (v, h')) :
    Out P ρ h w (Builtin.copy_ argTypes ty cargs.toArray) v h' := by
  unfold copyV at hh
  split at hh
  case h_2 => cases hh
  rename_i base dLen dCap src
  obtain ⟨cs, rest, rfl, hs, hrest⟩ := ha.cases_cons
  obtain ⟨cx, rest', rfl, hx, hrest'⟩ := hrest.cases_cons
  obtain rfl := hrest'.cases_nil
  simp only [bindR_ok, ofOpt_ok] at hh
  obtain ⟨dType, h0, d, hd, hh⟩ := hh
  split at hh
  case h_2 => cases hh
  rename_i e
  simp only [bindR_ok] at hh
  obtain ⟨size, hsize, n, hn, new, hnew, hh⟩ := hh
  obtain ⟨news, hrun, hvn⟩ := readCells_sound (P := P) hr hx ⟨n, hn, Nat.min_le_left _ _⟩ hnew
  have hlen := lenOf_sound (P := P) (w := w) hx hn
  have hrun' := hrun w rfl
  have hd' := run_under (w := w) hd
  have hs' := run_sizeOf (w := w) hsize
  have hgo : ∀ (b : Option Addr) (c : Nat) (w' : World), (match b with | some a => Go.storeCells a news | none => pure () : Sem Unit).run P w = .ok () w' →
      (Builtin.copy_ argTypes ty #[.slice b dLen c, cx]).run P w = .ok (.int .i64 (Nat.min n dLen)) w' := by
    intro b c w' hst
    cases b with
    | none => simp only [Sem.run_pure, Result.ok.injEq, true_and] at hst; subst hst; simp [Builtin.copy_, h0, hd', hlen, hs', hrun', goInt]
    | some a => simp only [] at hst; simp [Builtin.copy_, h0, hd', hlen, hs', hrun', hst, goInt]
  show Out P ρ h w (Builtin.copy_ argTypes ty #[cs, cx]) v h'
  split at hh
  · simp only [Except.ok.injEq, Prod.mk.injEq] at hh
    obtain ⟨rfl, rfl⟩ := hh
    cases hs
    exact ⟨_, w, ρ, hgo _ _ w rfl, .int _ _, .refl hr⟩
  · simp only [Except.ok.injEq, Prod.mk.injEq] at hh
    obtain ⟨rfl, rfl⟩ := hh
    obtain rfl := hvn.cases_nil
    cases hs with
    | empty0 hl => exact ⟨_, w, ρ, hgo _ _ w rfl, .int _ _, .refl hr⟩
    | slice hl hc => exact ⟨_, w, ρ, hgo _ _ w rfl, .int _ _, .refl hr⟩
    | sliceU hl hc hn' ho => exact ⟨_, w, ρ, hgo _ _ w rfl, .int _ _, .refl hr⟩
  · rename_i b off hne
    simp only [bindR_ok] at hh
    obtain ⟨h1, hst, he⟩ := hh
    simp only [Except.ok.injEq, Prod.mk.injEq] at he
    obtain ⟨rfl, rfl⟩ := he
    cases hs with
    | empty0 hl =>
      exfalso
      have hm0 : Nat.min n 0 = 0 := Nat.min_zero n
      rw [hm0] at hnew
      exact hne (readCells_zero hnew)
    | slice hl hc =>
      obtain ⟨w', hw', hp⟩ := storeCells_sound (P := P) hr hl hvn hst
      exact ⟨_, w', ρ, hgo _ _ w' hw', .int _ _, hp⟩
    | sliceU hl hc hn' ho =>
      rename_i o' c' l
      rcases ho with ⟨rfl, _⟩ | ⟨e1, e2, _⟩
      · obtain ⟨w', hw', hp⟩ := storeCells_sound (P := P) hr hl hvn hst
        exact ⟨_, w', ρ, hgo _ _ w' hw', .int _ _, hp⟩
      · -- nothing is copied into an empty slice
        exfalso
        subst e1
        have hm0 : Nat.min n 0 = 0 := Nat.min_zero n
        rw [hm0] at hnew
        exact hne (readCells_zero hnew)
  · cases hh

theorem zeroCells_plain {z : Array Value} {n : Nat} (hz : ∀ v ∈ z.toList, Pl v) : ∀ v ∈ (Builtin.zeroCells z n).toList, Pl v := by
  intro v hv
  simp only [Builtin.zeroCells, Array.toList_map, List.mem_map, Array.toList_range, List.mem_range] at hv
  obtain ⟨i, hi, rfl⟩ := hv
  have hs : 0 < z.size := by
    rcases Nat.eq_zero_or_pos z.size with h | h
    · rw [h] at hi; simp at hi
    · exact h
  have hlt : i % z.size < z.size := Nat.mod_lt _ hs
  refine hz _ ?_
  rw [getElem!_pos z _ hlt]
  simp
theorem clearV_sound (hr : HR ρ h w) {argTypes : Array TypeId} {ty : TypeId} {args cargs : List Value} (ha : VL ρ args cargs) (hh : clearV P h argTypes args = .ok h') :
    Out P ρ h w (Builtin.clear_ argTypes ty cargs.toArray) (.tuple #[]) h' := by
  unfold clearV at hh
  split at hh
  case h_2 => cases hh
  rename_i base n cap
  obtain ⟨cs, rest, rfl, hs, hrest⟩ := ha.cases_cons
  obtain rfl := hrest.cases_nil
  simp only [bindR_ok, ofOpt_ok] at hh
  obtain ⟨t, h0, d, hd, hh⟩ := hh
  split at hh
  case h_2 => cases hh
  rename_i e
  have hd' := run_under (w := w) hd
  show Out P ρ h w (Builtin.clear_ argTypes ty #[cs]) (.tuple #[]) h'
  split at hh
  · cases hh
    cases hs with
    | nilSlice => exact ⟨_, w, ρ, by simp [Builtin.clear_, h0, hd'], .tuple' .nil, .refl hr⟩
    | empty0 hl => exact ⟨_, w, ρ, by simp [Builtin.clear_, h0, hd'], .tuple' .nil, .refl hr⟩
    | slice hl hc => exact ⟨_, w, ρ, by simp [Builtin.clear_, h0, hd'], .tuple' .nil, .refl hr⟩
    | sliceU hl hc hn' ho => exact ⟨_, w, ρ, by simp [Builtin.clear_, h0, hd'], .tuple' .nil, .refl hr⟩
  · rename_i b off hn0
    simp only [bindR_ok] at hh
    obtain ⟨z, hz, hst⟩ := hh
    have hn0 : n ≠ 0 := fun e => hn0 e
    have hzp : ∀ v ∈ (Builtin.zeroCells z.cells n).toList, Pl v := zeroCells_plain fun v hv => Pl.cells ⟨20, (tzero_ok hz).1⟩ v hv
    have hvl : VL ρ (Builtin.zeroCells z.cells n).toList (Builtin.zeroCells z.cells n).toList := ⟨rfl, fun i hi => (hzp _ (gl_mem hi)).refl⟩
    have hz' := run_zeroValue (P := P) (w := w) hz
    have key : ∀ (l : Loc), ρ b = some l → ∀ c', Out P ρ h w (Builtin.clear_ argTypes ty #[.slice (some ⟨l.blk, l.base + off, none⟩) n c']) (.tuple #[]) h' := by
      intro l hl c'
      obtain ⟨w', hw', hp⟩ := storeCells_sound (P := P) hr hl hvl hst
      refine ⟨_, w', ρ, ?_, .tuple' .nil, hp⟩
      obtain ⟨m, rfl⟩ : ∃ m, n = m + 1 := ⟨n - 1, by omega⟩
      simp [Builtin.clear_, h0, hd', hz', hw']
    cases hs with
    | empty0 hl => exact absurd rfl hn0
    | slice hl hc => exact key _ hl _
    | sliceU hl hc hn' ho =>
      rcases ho with ⟨rfl, _⟩ | ⟨e1, e2, _⟩
      · exact key _ hl _
      · exact absurd e1 hn0
  · cases hh

/-! ### Lengths, capacities -/
theorem mapOf_sound (hr : HR ρ h w) {m : Option Nat} {cm : Value} {es : List MapEntry} (hm : VR ρ (.map m) cm) (hh : mapOf h (.map m) = .ok es) :
    (cm = .map none ∧ m = none ∧ es = []) ∨ ∃ r l es' clock, m = some r ∧ ρ r = some l ∧ cm = .map (some l.blk) ∧ h.get r = .map es clock ∧ w.heap[l.blk]? = some (.map es' clock) ∧ EL ρ es es'.toList := by
  cases hm with
  | nilMap => simp only [mapOf, Except.ok.injEq] at hh; exact .inl ⟨rfl, rfl, hh.symm⟩
  | map hl =>
    rename_i r l
    simp only [mapOf] at hh
    split at hh
    · rename_i es2 clock hg
      cases hh
      have hb := (hr.dom _ _ hl).2.2
      rw [hg] at hb
      obtain ⟨es', g1, g2⟩ := hb
      exact .inr ⟨r, l, es', clock, rfl, hl, rfl, hg, g1, g2⟩
    · cases hh

theorem run_getObj {r : Nat} {o : Obj} (ho : w.heap[r]? = some o) (hc : ∀ c e f, o ≠ .cells c e f) : (getObj r).run P w = .ok o w := by
  simp only [getObj, Sem.run, ho]

theorem lenV_sound (hr : HR ρ h w) {argTypes : Array TypeId} {ty : TypeId} {args cargs : List Value} {v : Value} (ha : VL ρ args cargs) (hh : lenV P h argTypes args = .ok v) :
    Same P ρ w (Builtin.len_ argTypes ty cargs.toArray) v := by
  unfold lenV at hh
  split at hh
  case h_2 => cases hh
  rename_i x
  obtain ⟨cx, rest, rfl, hx, hrest⟩ := ha.cases_cons
  obtain rfl := hrest.cases_nil
  simp only [bindR_ok, ofOpt_ok] at hh
  obtain ⟨t, h0, d, hd, hh⟩ := hh
  have hd' := run_under (w := w) hd
  show Same P ρ w (Builtin.len_ argTypes ty #[cx]) v
  split at hh
  · cases hh; cases hx; exact ⟨_, by simp [Builtin.len_, h0, hd']; rfl, .int _ _⟩
  · cases hh; exact ⟨_, by simp [Builtin.len_, h0, hd']; rfl, .int _ _⟩
  · cases hh
    cases hx <;> exact ⟨_, by simp [Builtin.len_, h0, hd']; rfl, .int _ _⟩
  · simp only [bindR_ok] at hh
    obtain ⟨es, hes, he⟩ := hh
    cases he
    cases x <;> simp only [mapOf, reduceCtorEq] at hes
    rename_i m
    rcases mapOf_sound hr hx hes with ⟨rfl, rfl, rfl⟩ | ⟨r, l, es', clock, rfl, hl, rfl, hg, hw, hE⟩
    · exact ⟨_, by simp [Builtin.len_, h0, hd']; rfl, .int _ _⟩
    · refine ⟨.int .i64 es'.size, ?_, ?_⟩
      · have := run_getObj (P := P) hw (by intro c e f; simp)
        simp [Builtin.len_, h0, hd', this, goInt]
      · have : es.length = es'.size := by simpa using hE.1
        rw [this]; exact .int _ _
  · cases hh

theorem capV_sound {argTypes : Array TypeId} {ty : TypeId} {args cargs : List Value} {v : Value} (ha : VL ρ args cargs) (hh : capV P argTypes args = .ok v) :
    Same P ρ w (Builtin.cap_ argTypes ty cargs.toArray) v := by
  unfold capV at hh
  split at hh
  case h_2 => cases hh
  rename_i b n c
  obtain ⟨cx, rest, rfl, hx, hrest⟩ := ha.cases_cons
  obtain rfl := hrest.cases_nil
  simp only [bindR_ok, ofOpt_ok] at hh
  obtain ⟨t, h0, d, hd, hh⟩ := hh
  have hd' := run_under (w := w) hd
  show Same P ρ w (Builtin.cap_ argTypes ty #[cx]) v
  split at hh
  case h_2 => cases hh
  simp only [bindR_ok, must_ok, blt_true] at hh
  obtain ⟨_, hc, he⟩ := hh
  cases he
  cases hx with
  | nilSlice => exact ⟨_, by simp [Builtin.cap_, h0, hd']; rfl, .int _ _⟩
  | slice hl hc' => exact ⟨_, by simp [Builtin.cap_, h0, hd']; rfl, .int _ _⟩
  | empty0 hl => exact ⟨_, by simp [Builtin.cap_, h0, hd']; rfl, .int _ _⟩
  | sliceU hl hc' hn ho => omega
end
end Go.AM
namespace Go.AM
open Go

section
variable {P : Program} {ρ : Ren} {h h' : Heap} {w : World}

theorem keyFits_sound {t : TypeId} {k ck : Value} (hk : VR ρ k ck) {u : Unit} (hh : keyFits P t k = .ok u) :
    ck = k ∧ (∀ b, (Instr.checkKey b 10000 t k).run P w = .ok () w) ∧ ∃ d, under P t = .ok d ∧
      ((∃ kd kk n, d = .int kd ∧ k = .int kk n) ∨ (∃ s, d = .string ∧ k = .string s) ∨ (∃ b, d = .bool ∧ k = .bool b)) := by
  simp only [keyFits, bindR_ok] at hh
  obtain ⟨d, hd, hh⟩ := hh
  have hrun : ∀ b, (match d, k with | .int _, .int _ _ | .string, .string _ | .bool, .bool _ => True | _, _ => False) → (Instr.checkKey b 10000 t k).run P w = .ok () w := by
    intro b hm
    show (Instr.checkKey b (9999 + 1) t k).run P w = .ok () w
    unfold Instr.checkKey
    simp only [Sem.run_bind, run_under hd, Result.andThen_ok]
    split at hm
    · simp
    · simp
    · simp
    · exact hm.elim
  split at hh
  · cases hk; exact ⟨rfl, fun b => hrun b trivial, _, hd, .inl ⟨_, _, _, rfl, rfl⟩⟩
  · cases hk; exact ⟨rfl, fun b => hrun b trivial, _, hd, .inr (.inl ⟨_, rfl, rfl⟩)⟩
  · cases hk; exact ⟨rfl, fun b => hrun b trivial, _, hd, .inr (.inr ⟨_, rfl, rfl⟩)⟩
  · cases hh

theorem EL.nil : EL ρ [] [] := ⟨rfl, fun i e h => by simp at h⟩
theorem EL.cases_nil {es : List MapEntry} (h : EL ρ [] es) : es = [] := by
  have := h.1; cases es with | nil => rfl | cons _ _ => simp at this
theorem EL.cases_cons {e : MapEntry} {es es' : List MapEntry} (h : EL ρ (e :: es) es') : ∃ e' es'', es' = e' :: es'' ∧ ER ρ e e' ∧ EL ρ es es'' := by
  cases es' with
  | nil => have := h.1; simp at this
  | cons e' es'' =>
    obtain ⟨e1, h1, h2⟩ := h.2 0 e (by simp)
    simp at h1; subst h1
    refine ⟨e', es'', rfl, h2, by simpa using h.1, fun i x hx => ?_⟩
    obtain ⟨y, hy, hr⟩ := h.2 (i + 1) x (by simpa using hx)
    exact ⟨y, by simpa using hy, hr⟩

theorem bytes_beq {a b : ByteArray} : (a == b) = true ↔ a = b := by
  show ByteArray.beq a b = true ↔ _
  unfold ByteArray.beq
  rw [beq_iff_eq]
  constructor
  · intro h; cases a; cases b; simp_all
  · intro h; rw [h]

theorem keyEq_sound {k x cx : Value} {d : TypeDesc} {b : Bool} (hd : (∃ kd kk n, d = .int kd ∧ k = .int kk n) ∨ (∃ s, d = .string ∧ k = .string s) ∨ (∃ b, d = .bool ∧ k = .bool b))
    (hx : VR ρ x cx) (hh : keyEq k x = .ok b) : Instr.sameNow d k cx = some b ∧ cx = x ∧ (b = true → x = k) := by
  rcases hd with ⟨kd, kk, n, rfl, rfl⟩ | ⟨s, rfl, rfl⟩ | ⟨b', rfl, rfl⟩
  · cases x <;> simp only [keyEq, reduceCtorEq] at hh
    simp only [bindR_ok, must_ok, decide_eq_true_eq, Except.ok.injEq] at hh
    obtain ⟨_, rfl, rfl⟩ := hh
    cases hx
    refine ⟨by simp [Instr.sameNow], rfl, fun e => ?_⟩
    simp at e; rw [e]
  · cases x <;> simp only [keyEq, reduceCtorEq] at hh
    simp only [Except.ok.injEq] at hh
    subst hh
    cases hx
    refine ⟨by simp [Instr.sameNow], rfl, fun e => ?_⟩
    rw [bytes_beq.1 e]
  · cases x <;> simp only [keyEq, reduceCtorEq] at hh
    simp only [Except.ok.injEq] at hh
    subst hh
    cases hx
    refine ⟨by simp [Instr.sameNow], rfl, fun e => ?_⟩
    simp at e; rw [e]

theorem findKey_sound {k : Value} {d : TypeDesc} (hd : (∃ kd kk n, d = .int kd ∧ k = .int kk n) ∨ (∃ s, d = .string ∧ k = .string s) ∨ (∃ b, d = .bool ∧ k = .bool b)) :
    ∀ (es es' : List MapEntry) (i : Nat) (r : Option (Nat × Value)), EL ρ es es' → findKey k es i = .ok r →
      (r = none ∧ Instr.findNow d k es' i = some none) ∨ ∃ j v cv e', r = some (i + j, v) ∧ Instr.findNow d k es' i = some (some (i + j, cv)) ∧ VR ρ v cv ∧ es'[j]? = some e' ∧ e'.key = k ∧ j < es.length
  | [], es', i, r, he, hh => by
    obtain rfl := he.cases_nil
    simp only [findKey, Except.ok.injEq] at hh
    exact .inl ⟨hh.symm, rfl⟩
  | e :: es, es', i, r, he, hh => by
    obtain ⟨e', es'', rfl, her, hes⟩ := he.cases_cons
    simp only [findKey, bindR_ok] at hh
    obtain ⟨b, hb, hh⟩ := hh
    obtain ⟨h1, h2, h3⟩ := keyEq_sound hd her.1 hb
    cases b with
    | true =>
      simp only [Except.ok.injEq] at hh
      subst hh
      refine .inr ⟨0, e.val, e'.val, e', rfl, ?_, her.2.1, rfl, by rw [h2, h3 rfl], by simp⟩
      simp [Instr.findNow, h1]
    | false =>
      rcases findKey_sound hd es es'' (i + 1) r hes hh with ⟨g1, g2⟩ | ⟨j, v, cv, x, g1, g2, g3, g4, g5, g6⟩
      · exact .inl ⟨g1, by simp [Instr.findNow, h1, g2]⟩
      · refine .inr ⟨j + 1, v, cv, x, by rw [g1]; congr 2; omega, ?_, g3, by simpa using g4, g5, by simp; omega⟩
        simp only [Instr.findNow, h1, g2]
        congr 3; omega

theorem lookupV_sound (hr : HR ρ h w) {t : TypeId} {m cm k ck v : Value} {ok : Bool} (hm : VR ρ m cm) (hk : VR ρ k ck) (hh : lookupV P h t m k ok = .ok v) :
    Same P ρ w (Instr.lookup t cm ck ok) v := by
  simp only [lookupV, bindR_ok] at hh
  obtain ⟨d, hd, hh⟩ := hh
  split at hh
  case h_2 => cases hh
  rename_i key e
  simp only [bindR_ok] at hh
  obtain ⟨u, hu, es, hes, r, hrr, z, hz, he⟩ := hh
  obtain ⟨rfl, hck, kd, hkd, hkk⟩ := keyFits_sound (w := w) hk hu
  have hd' := run_under (w := w) hd
  have hzr := run_zeroValue (w := w) hz
  have hzp : VR ρ z z := (tzero_plain hz).refl
  have hkd' := run_under (w := w) hkd
  have hkey : ∀ es' : Array MapEntry, EL ρ es es'.toList → ∃ c, VR ρ v c ∧ ((r = none ∧ (Instr.findKey key ck es'.toList).run P w = .ok none w ∧ c = if ok then .tuple #[z, .bool false] else z) ∨
      ∃ i cv, (Instr.findKey key ck es'.toList).run P w = .ok (some (i, cv)) w ∧ c = if ok then .tuple #[cv, .bool true] else cv) := by
    intro es' hE
    rcases findKey_sound hkk es es'.toList 0 r hE hrr with ⟨rfl, g2⟩ | ⟨j, v1, cv, x, rfl, g2, g3, g4, g5, g6⟩
    · refine ⟨if ok then .tuple #[z, .bool false] else z, ?_, .inl ⟨rfl, by simp only [Instr.findKey, Sem.run_bind, hkd', Result.andThen_ok, g2, Sem.run_pure], rfl⟩⟩
      cases ok with
      | true => simp only [Except.ok.injEq] at he; subst he; exact .tuple' (.cons hzp (.cons (.bool _) .nil))
      | false => simp only [Except.ok.injEq] at he; subst he; exact hzp
    · refine ⟨if ok then .tuple #[cv, .bool true] else cv, ?_, .inr ⟨0 + j, cv, by simp only [Instr.findKey, Sem.run_bind, hkd', Result.andThen_ok, g2, Sem.run_pure], rfl⟩⟩
      cases ok with
      | true => simp only [Except.ok.injEq] at he; subst he; exact .tuple' (.cons g3 (.cons (.bool _) .nil))
      | false => simp only [Except.ok.injEq] at he; subst he; exact g3
  cases m <;> simp only [mapOf, reduceCtorEq] at hes
  rename_i m
  rcases mapOf_sound hr hm hes with ⟨rfl, rfl, rfl⟩ | ⟨mr, l, es', clock, rfl, hl, rfl, hg, hw, hE⟩
  · obtain ⟨c, h1, ⟨rfl, h2, h3⟩ | ⟨i, cv, h2, h3⟩⟩ := hkey #[] .nil
    · have h2' : (Instr.findKey key ck []).run P w = .ok none w := h2
      exact ⟨c, by rw [h3]; simp [Instr.lookup, hd', hck, h2', hzr], h1⟩
    · have h2' : (Instr.findKey key ck []).run P w = .ok (some (i, cv)) w := h2
      exact ⟨c, by rw [h3]; simp [Instr.lookup, hd', hck, h2'], h1⟩
  · have hg' := run_getObj (P := P) hw (by intro c e f; simp)
    obtain ⟨c, h1, ⟨rfl, h2, h3⟩ | ⟨i, cv, h2, h3⟩⟩ := hkey es' hE
    · exact ⟨c, by rw [h3]; simp [Instr.lookup, hd', hg', hck, h2, hzr], h1⟩
    · exact ⟨c, by rw [h3]; simp [Instr.lookup, hd', hg', hck, h2], h1⟩

/-! ### Maps that are written -/
def World.setBlk (w : World) (r : Nat) (o : Obj) : World := { w with heap := w.heap.setIfInBounds r o }
theorem At1.setBlk (r : Nat) (o : Obj) : At1 r w (World.setBlk w r o) :=
  ⟨by simp [World.setBlk], fun d hd => by simp only [World.setBlk]; exact Array.getElem?_setIfInBounds_ne (fun e => hd e.symm), rfl, rfl, rfl⟩
theorem setBlk_heap {r : Nat} {o : Obj} (hr : r < w.heap.size) : (World.setBlk w r o).heap[r]? = some o := by
  simp only [World.setBlk]; exact Array.getElem?_setIfInBounds_self_of_lt hr
theorem run_setObj {r : Nat} {o o' : Obj} (ho : w.heap[r]? = some o) (hc : ∀ c e f, o ≠ .cells c e f) : (setObj r o').run P w = .ok () (World.setBlk w r o') := by
  simp only [setObj, Sem.run, ho, World.setBlk]

theorem EL.modify {es es' : List MapEntry} (he : EL ρ es es') (i : Nat) {k x cx : Value} (hk : VR ρ k k) (hx : VR ρ x cx) :
    EL ρ (es.modify i fun e => { e with key := k, val := x }) (es'.modify i fun e => { e with key := k, val := cx }) := by
  refine ⟨by simp [he.1], fun j e hj => ?_⟩
  rw [List.getElem?_modify] at hj ⊢
  cases hg : es[j]? with
  | none => rw [hg] at hj; simp at hj
  | some a =>
    obtain ⟨b, hb, hab⟩ := he.2 j a hg
    rw [hg] at hj
    rw [hb]
    by_cases hij : i = j
    · simp only [hij, if_true, Option.map_eq_map, Option.map_some, Option.some.injEq] at hj ⊢
      subst hj
      exact ⟨_, rfl, hk, hx, hab.2.2⟩
    · simp only [hij, if_false, Option.map_eq_map, Option.map_some, Option.some.injEq, id_eq] at hj ⊢
      subst hj
      exact ⟨b, rfl, hab⟩

theorem EL.append {es es' : List MapEntry} (he : EL ρ es es') {a b : MapEntry} (hab : ER ρ a b) : EL ρ (es ++ [a]) (es' ++ [b]) := by
  refine ⟨by simp [he.1], fun j e hj => ?_⟩
  rw [List.getElem?_append] at hj ⊢
  rw [← he.1]
  by_cases hlt : j < es.length
  · rw [if_pos hlt] at hj ⊢; exact he.2 j e hj
  · rw [if_neg hlt] at hj ⊢
    cases hjj : j - es.length with
    | zero => rw [hjj] at hj; simp at hj; subst hj; exact ⟨b, by simp, hab⟩
    | succ n => rw [hjj] at hj; simp at hj

theorem EL.erase {es es' : List MapEntry} (he : EL ρ es es') (i : Nat) : EL ρ (es.eraseIdx i) (es'.eraseIdx i) := by
  refine ⟨by simp [List.length_eraseIdx, he.1], fun j e hj => ?_⟩
  rw [List.getElem?_eraseIdx] at hj ⊢
  split at hj
  · rename_i hlt; rw [if_pos hlt]; exact he.2 j e hj
  · rename_i hlt; rw [if_neg hlt]; exact he.2 _ e hj

theorem sameBits_key {k : Value} {d : TypeDesc} (hd : (∃ kd kk n, d = .int kd ∧ k = .int kk n) ∨ (∃ s, d = .string ∧ k = .string s) ∨ (∃ b, d = .bool ∧ k = .bool b)) : Instr.sameBits 10000 k k = true := by
  rcases hd with ⟨kd, kk, n, rfl, rfl⟩ | ⟨s, rfl, rfl⟩ | ⟨b', rfl, rfl⟩ <;> simp [Instr.sameBits, bytes_beq]

theorem key_low {m : Nat} {k : Value} {d : TypeDesc} (hd : (∃ kd kk n, d = .int kd ∧ k = .int kk n) ∨ (∃ s, d = .string ∧ k = .string s) ∨ (∃ b, d = .bool ∧ k = .bool b)) : Low m k := by
  rcases hd with ⟨kd, kk, n, rfl, rfl⟩ | ⟨s, rfl, rfl⟩ | ⟨b', rfl, rfl⟩ <;> exact Low.plain (f := 1) rfl

theorem updateV_sound (hr : HR ρ h w) {t : TypeId} {m cm k ck x cx : Value} (hm : VR ρ m cm) (hk : VR ρ k ck) (hx : VR ρ x cx) (hh : updateV P h t m k x = .ok h') :
    ∃ w', (Instr.mapUpdate t cm ck cx).run P w = .ok () w' ∧ Post ρ h w ρ h' w' := by
  simp only [updateV, bindR_ok] at hh
  obtain ⟨d, hd, hh⟩ := hh
  split at hh
  case h_2 => cases hh
  rename_i key e r
  simp only [bindR_ok] at hh
  obtain ⟨u, hu, hh⟩ := hh
  split at hh
  case h_2 => cases hh
  rename_i es clock hg
  simp only [bindR_ok] at hh
  obtain ⟨f, hf, hh⟩ := hh
  have hkr := hk
  obtain ⟨rfl, hck, kd, hkd, hkk⟩ := keyFits_sound (w := w) hk hu
  have hd' := run_under (w := w) hd
  have hkd' := run_under (w := w) hkd
  cases hm
  rename_i l hl
  have hb := (hr.dom _ _ hl).2.2
  have hlt := (hr.dom _ _ hl).2.1 (by rw [hg]; rfl)
  rw [hg] at hb
  obtain ⟨es', hw, hE⟩ := hb
  have hgo := run_getObj (P := P) hw (by intro c e f; simp)
  have how : owned (h.get r) = true := by rw [hg]; rfl
  rcases findKey_sound hkk es es'.toList 0 f hE hf with ⟨rfl, g2⟩ | ⟨j, v1, cv, y, rfl, g2, g3, g4, g5, g6⟩
  · cases hh
    have hfr : (Instr.findKey key ck es'.toList).run P w = .ok none w := by simp only [Instr.findKey, Sem.run_bind, hkd', Result.andThen_ok, g2, Sem.run_pure]
    refine ⟨World.setBlk w l.blk (.map (es'.push { key := ck, val := cx, born := clock }) (clock + 1)), ?_, ?_⟩
    · have hso := run_setObj (P := P) (o' := .map (es'.push { key := ck, val := cx, born := clock }) (clock + 1)) hw (by intro c e f; simp)
      simp [Instr.mapUpdate, hd', hgo, hck, hfr, hso]
    · refine Post.write hr hl how (At1.setBlk _ _) ⟨_, setBlk_heap hlt, ?_⟩ ?_
      · rw [Array.toList_push]
        exact hE.append ⟨hkr, hx, rfl⟩
      · intro m' hm' hbig hlow
        rw [hg] at hlow
        intro e he
        rcases List.mem_append.1 he with he | he
        · exact hlow e he
        · rw [List.mem_singleton] at he
          subst he
          exact ⟨key_low hkk, Low.of_ids hx hbig hm'⟩
  · cases hh
    simp only [Nat.zero_add] at g2 ⊢
    have hfr : (Instr.findKey key ck es'.toList).run P w = .ok (some (j, cv)) w := by simp only [Instr.findKey, Sem.run_bind, hkd', Result.andThen_ok, g2, Sem.run_pure]
    have g4' : es'[j]? = some y := by simpa using g4
    have hks : (Instr.keyThatStays (((es'[j]?).map (·.key)).getD ck) ck).run P w = .ok ck w := by
      rw [g4']
      simp [Instr.keyThatStays, g5, sameBits_key hkk]
    refine ⟨World.setBlk w l.blk (.map (es'.modify j fun e => { e with key := ck, val := cx }) clock), ?_, ?_⟩
    · have hso := run_setObj (P := P) (o' := .map (es'.modify j fun e => { e with key := ck, val := cx }) clock) hw (by intro c e f; simp)
      simp only [Instr.mapUpdate, Sem.run_bind, hd', Result.andThen_ok, hgo, hck, hfr, hks, hso]
    · refine Post.write hr hl how (At1.setBlk _ _) ⟨_, setBlk_heap hlt, ?_⟩ ?_
      · rw [Array.toList_modify]
        exact hE.modify j hkr hx
      · intro m' hm' hbig hlow
        rw [hg] at hlow
        intro e he
        obtain ⟨i, hi⟩ := List.mem_iff_getElem?.1 he
        rw [List.getElem?_modify] at hi
        cases hgi : es[i]? with
        | none => rw [hgi] at hi; simp at hi
        | some a =>
          rw [hgi] at hi
          have ha := hlow a (List.mem_of_getElem? hgi)
          by_cases hij : j = i
          · simp only [hij, if_true, Option.map_eq_map, Option.map_some, Option.some.injEq] at hi
            subst hi
            exact ⟨key_low hkk, Low.of_ids hx hbig hm'⟩
          · simp only [hij, if_false, Option.map_eq_map, Option.map_some, Option.some.injEq] at hi
            have hi : a = e := by simpa using hi
            subst hi; exact ha

theorem deleteV_sound (hr : HR ρ h w) {argTypes : Array TypeId} {ty : TypeId} {args cargs : List Value} (ha : VL ρ args cargs) (hh : deleteV P h argTypes args = .ok h') :
    ∃ w', (Builtin.delete_ argTypes ty cargs.toArray).run P w = .ok (.tuple #[]) w' ∧ Post ρ h w ρ h' w' := by
  unfold deleteV at hh
  split at hh
  case h_2 => cases hh
  rename_i m k
  obtain ⟨cm, rest, rfl, hm, hrest⟩ := ha.cases_cons
  obtain ⟨ck, rest', rfl, hk, hrest'⟩ := hrest.cases_cons
  obtain rfl := hrest'.cases_nil
  simp only [bindR_ok, ofOpt_ok] at hh
  obtain ⟨t, h0, d, hd, hh⟩ := hh
  have hd' := run_under (w := w) hd
  show ∃ w', (Builtin.delete_ argTypes ty #[cm, ck]).run P w = .ok (.tuple #[]) w' ∧ Post ρ h w ρ h' w'
  split at hh
  · simp only [bindR_ok] at hh
    obtain ⟨u, hu, he⟩ := hh
    cases he
    obtain ⟨rfl, hck, kd, hkd, hkk⟩ := keyFits_sound (w := w) hk hu
    cases hm
    exact ⟨w, by simp [Builtin.delete_, h0, hd', hck], .refl hr⟩
  · rename_i key e r
    simp only [bindR_ok] at hh
    obtain ⟨u, hu, hh⟩ := hh
    obtain ⟨rfl, hck, kd, hkd, hkk⟩ := keyFits_sound (w := w) hk hu
    have hkd' := run_under (w := w) hkd
    split at hh
    case h_2 => cases hh
    rename_i es clock hg
    simp only [bindR_ok] at hh
    obtain ⟨f, hf, hh⟩ := hh
    cases hm
    rename_i l hl
    have hb := (hr.dom _ _ hl).2.2
    have hlt := (hr.dom _ _ hl).2.1 (by rw [hg]; rfl)
    rw [hg] at hb
    obtain ⟨es', hw, hE⟩ := hb
    have hgo := run_getObj (P := P) hw (by intro c e f; simp)
    have how : owned (h.get r) = true := by rw [hg]; rfl
    rcases findKey_sound hkk es es'.toList 0 f hE hf with ⟨rfl, g2⟩ | ⟨j, v1, cv, y, rfl, g2, g3, g4, g5, g6⟩
    · cases hh
      have hfr : (Instr.findKey key ck es'.toList).run P w = .ok none w := by simp only [Instr.findKey, Sem.run_bind, hkd', Result.andThen_ok, g2, Sem.run_pure]
      refine ⟨World.setBlk w l.blk (.map es' clock), ?_, ?_⟩
      · have hso := run_setObj (P := P) (o' := .map es' clock) hw (by intro c e f; simp)
        simp [Builtin.delete_, h0, hd', hgo, hck, hfr, hso]
      · exact Post.write hr hl how (At1.setBlk _ _) ⟨_, setBlk_heap hlt, hE⟩ (fun m' _ _ hlow => by rw [hg] at hlow; exact hlow)
    · cases hh
      simp only [Nat.zero_add] at g2 ⊢
      have hfr : (Instr.findKey key ck es'.toList).run P w = .ok (some (j, cv)) w := by simp only [Instr.findKey, Sem.run_bind, hkd', Result.andThen_ok, g2, Sem.run_pure]
      refine ⟨World.setBlk w l.blk (.map (es'.eraseIdxIfInBounds j) clock), ?_, ?_⟩
      · have hso := run_setObj (P := P) (o' := .map (es'.eraseIdxIfInBounds j) clock) hw (by intro c e f; simp)
        simp [Builtin.delete_, h0, hd', hgo, hck, hfr, hso]
      · refine Post.write hr hl how (At1.setBlk _ _) ⟨_, setBlk_heap hlt, ?_⟩ (fun m' _ _ hlow => by
          rw [hg] at hlow
          exact fun e he => hlow e (List.mem_of_mem_eraseIdx he))
        have : (es'.eraseIdxIfInBounds j).toList = es'.toList.eraseIdx j := by
          have hj : j < es'.size := by have := (List.getElem?_eq_some_iff.1 g4).1; simpa using this
          simp [Array.eraseIdxIfInBounds, hj]
        rw [this]
        exact hE.erase j
  · cases hh
end
end Go.AM
namespace Go.AM
open Go

section
variable {P : Program} {ρ : Ren} {h h' : Heap} {w : World}

theorem run_bytes : ∀ (l : List Value) (s s' : ByteArray), bytesFrom s l = .ok s' →
    ((forIn l s fun c (s : ByteArray) => (match c with | .int .u8 n => pure (ForInStep.yield (s.push (UInt8.ofNat n.toNat))) | _ => do
        stuck "bytesToString: byte expected"
        pure (ForInStep.yield s) : Sem (ForInStep ByteArray))) : Sem ByteArray).run P w = .ok s' w
  | [], s, s', hh => by simp only [bytesFrom, Except.ok.injEq] at hh; subst hh; simp
  | c :: l, s, s', hh => by
    unfold bytesFrom at hh
    split at hh
    · rename_i e; cases e
    · rename_i n l' e
      simp only [List.cons.injEq] at e
      obtain ⟨rfl, rfl⟩ := e
      simp only [List.forIn_cons, Sem.run_bind, Sem.run_pure, Result.andThen_ok]
      exact run_bytes l _ _ hh
    · cases hh

theorem bytes_plain : ∀ (l : List Value) (s s' : ByteArray), bytesFrom s l = .ok s' → ∀ v ∈ l, Pl v
  | [], _, _, _ => fun v hv => by cases hv
  | c :: l, s, s', hh => by
    unfold bytesFrom at hh
    split at hh
    · rename_i e; cases e
    · rename_i n l' e
      simp only [List.cons.injEq] at e
      obtain ⟨rfl, rfl⟩ := e
      intro v hv
      rcases List.mem_cons.1 hv with rfl | hv
      · exact ⟨1, rfl⟩
      · exact bytes_plain l _ _ hh v hv
    · cases hh

theorem convertV_sound (hr : HR ρ h w) {s d : TypeId} {x cx v : Value} (hx : VR ρ x cx) (hh : convertV P h s d x = .ok (v, h')) : Out P ρ h w (Go.convert s d cx) v h' := by
  simp only [convertV, bindR_ok] at hh
  obtain ⟨ds, hds, dd, hdd, hh⟩ := hh
  have h1 := run_under (w := w) hds
  have h2 := run_under (w := w) hdd
  split at hh
  · simp only [Except.ok.injEq, Prod.mk.injEq] at hh
    obtain ⟨rfl, rfl⟩ := hh
    cases hx
    refine ⟨_, w, ρ, ?_, .int _ _, .refl hr⟩
    simp only [Go.convert, Sem.run_bind, h1, h2, Result.andThen_ok]
    cases ds <;> rfl
  · simp only [Except.ok.injEq, Prod.mk.injEq] at hh
    obtain ⟨rfl, rfl⟩ := hh
    cases hx
    refine ⟨_, w, ρ, ?_, .string _, .refl hr⟩
    simp only [Go.convert, Sem.run_bind, h1, h2, Result.andThen_ok]
    cases ds <;> rfl
  · simp only [Except.ok.injEq, Prod.mk.injEq] at hh
    obtain ⟨rfl, rfl⟩ := hh
    cases hx
    refine ⟨_, w, ρ, ?_, .string _, .refl hr⟩
    simp only [Go.convert, Sem.run_bind, h1, h2, Result.andThen_ok]
    cases ds <;> rfl
  · rename_i e a len cap
    simp only [bindR_ok] at hh
    obtain ⟨de, hde, hh⟩ := hh
    have h3 := run_under (w := w) hde
    split at hh
    case h_2 => cases hh
    simp only [bindR_ok] at hh
    obtain ⟨cs, hcs, st, hst, he⟩ := hh
    simp only [Except.ok.injEq, Prod.mk.injEq] at he
    obtain ⟨rfl, rfl⟩ := he
    obtain ⟨ccs, hrun, hvl⟩ := readCells_sound (P := P) hr hx ⟨len, rfl, Nat.le_refl _⟩ hcs
    obtain rfl := hvl.plain_eq (bytes_plain _ _ _ hst)
    have hrun' := hrun w rfl
    refine ⟨_, w, ρ, ?_, .string _, .refl hr⟩
    have hb := run_bytes (P := P) (w := w) _ _ _ hst
    simp only [Go.convert, Sem.run_bind, h1, h2, Result.andThen_ok]
    cases hx with
    | nilSlice =>
      simp only [Builtin.firstCells, Sem.run_pure, Result.ok.injEq, and_true] at hrun'
      have : ccs = [] := by simpa using hrun'.symm
      subst this
      simp only [bytesFrom, Except.ok.injEq] at hst
      subst hst
      simp only [Sem.run_bind, h3, Result.andThen_ok]
      rfl
    | empty0 hl =>
      simp only [Builtin.firstCells, Nat.mul_one] at hrun'
      simp only [Sem.run_bind, h3, Result.andThen_ok, Conv.bytesToString, hrun']
      rw [← Array.forIn_toList]
      exact (congrArg (fun r : Result ByteArray => r.andThen fun a w' => Sem.run P (pure (Value.string a)) w') hb).trans rfl
    | slice hl hc =>
      simp only [Builtin.firstCells, Nat.mul_one] at hrun'
      simp only [Sem.run_bind, h3, Result.andThen_ok, Conv.bytesToString, hrun']
      rw [← Array.forIn_toList]
      exact (congrArg (fun r : Result ByteArray => r.andThen fun a w' => Sem.run P (pure (Value.string a)) w') hb).trans rfl
    | sliceU hl hc hn ho =>
      simp only [Builtin.firstCells, Nat.mul_one] at hrun'
      simp only [Sem.run_bind, h3, Result.andThen_ok, Conv.bytesToString, hrun']
      rw [← Array.forIn_toList]
      exact (congrArg (fun r : Result ByteArray => r.andThen fun a w' => Sem.run P (pure (Value.string a)) w') hb).trans rfl
  · cases hh

theorem fails_sound {t : TypeId} {ok : Bool} {v : Value} (hh : fails P t ok = .ok v) : ok = true ∧ ∃ z, tzero P t = .ok z ∧ v = .tuple #[z, .bool false] := by
  unfold fails at hh
  split at hh
  · simp only [bindR_ok, Except.ok.injEq] at hh
    obtain ⟨z, hz, rfl⟩ := hh
    exact ⟨rfl, z, hz, rfl⟩
  · cases hh

theorem holdsV_rel {v c : Value} {ok : Bool} (hv : VR ρ v c) : VR ρ (holdsV v ok) (if ok then .tuple #[c, .bool true] else c) := by
  cases ok with
  | true => exact .tuple' (.cons hv (.cons (.bool _) .nil))
  | false => exact hv

theorem typeAssertV_sound {x cx v : Value} {xt t : TypeId} {ok : Bool} (hx : VR ρ x cx) (hh : typeAssertV P x t ok = .ok v) : Same P ρ w (Instr.typeAssert cx xt t ok) v := by
  simp only [typeAssertV, bindR_ok] at hh
  obtain ⟨d, hd, hh⟩ := hh
  have hd' := run_under (w := w) hd
  split at hh
  · obtain ⟨rfl, z, hz, rfl⟩ := fails_sound hh
    cases hx
    exact ⟨_, by simp [Instr.typeAssert, hd', run_zeroValue hz], .tuple' (.cons (tzero_plain hz).refl (.cons (.bool _) .nil))⟩
  · simp only [bindR_ok, ofOpt_ok] at hh
    obtain ⟨i, hi, hh⟩ := hh
    have hi' := run_typeInfo (w := w) hi
    cases hx
    rename_i hy
    split at hh
    · rename_i hm
      cases hh
      exact ⟨_, by simp [Instr.typeAssert, hd', hi', hm], holdsV_rel (.iface _ hy)⟩
    · rename_i m hm
      obtain ⟨rfl, z, hz, rfl⟩ := fails_sound hh
      exact ⟨_, by simp [Instr.typeAssert, hd', hi', hm, run_zeroValue hz], .tuple' (.cons (tzero_plain hz).refl (.cons (.bool _) .nil))⟩
  · rename_i hni
    obtain ⟨rfl, z, hz, rfl⟩ := fails_sound hh
    cases hx
    refine ⟨.tuple #[z, .bool false], ?_, .tuple' (.cons (tzero_plain hz).refl (.cons (.bool _) .nil))⟩
    simp only [Instr.typeAssert, Sem.run_bind, hd', Result.andThen_ok]
    cases d <;> first | exact absurd rfl (hni _) | simp [run_zeroValue hz]
  · rename_i hni
    cases hx
    rename_i y hy
    split at hh
    · rename_i ht
      obtain rfl := beq_true.1 ht
      cases hh
      refine ⟨_, ?_, holdsV_rel hy⟩
      simp only [Instr.typeAssert, Sem.run_bind, hd', Result.andThen_ok]
      cases d <;> first | exact absurd rfl (hni _) | simp
    · rename_i ht
      have ht := beq_false ht
      obtain ⟨rfl, z, hz, rfl⟩ := fails_sound hh
      refine ⟨.tuple #[z, .bool false], ?_, .tuple' (.cons (tzero_plain hz).refl (.cons (.bool _) .nil))⟩
      simp only [Instr.typeAssert, Sem.run_bind, hd', Result.andThen_ok]
      cases d <;> first | exact absurd rfl (hni _) | simp [run_zeroValue hz, ht]
  · cases hh

theorem ifaceV_sound {t : TypeId} {x cx v : Value} (hx : VR ρ x cx) (hh : ifaceV P t x = .ok v) : Same P ρ w (Instr.makeInterface t cx) v := by
  simp only [ifaceV, bindR_ok] at hh
  obtain ⟨d, hd, hh⟩ := hh
  have hd' := run_under (w := w) hd
  split at hh
  · cases hh
  · rename_i hni
    cases hh
    refine ⟨_, ?_, .iface _ hx⟩
    simp only [Instr.makeInterface, Sem.run_bind, hd', Result.andThen_ok]
    cases d <;> first | exact absurd rfl (hni _) | rfl

theorem extractV_sound {x cx v : Value} {i : Nat} (hx : VR ρ x cx) (hh : extractV x i = .ok v) : Same P ρ w (Instr.extract cx i) v := by
  unfold extractV at hh
  split at hh
  case h_2 => cases hh
  rename_i vs
  have hv := ofOpt_ok.1 hh
  cases hx
  rename_i bs h1 h2
  have hl : VL ρ vs.toList bs.toList := ⟨by simpa using h1, fun i hi => h2 i (by simpa using hi)⟩
  obtain ⟨c, hc, hr⟩ := hl.get (i := i) (by simpa using hv)
  have hc' : bs[i]? = some c := by simpa using hc
  exact ⟨c, by simp [Instr.extract, hc'], hr⟩

theorem nilCheckV_rel {x cx v : Value} (hx : VR ρ x cx) (hh : nilCheckV x = .ok v) : v = x ∧
    ((∃ ad, cx = .pointer (some ad)) ∨ (∃ f as cs, cx = .func (.func f) as cs) ∨ ∃ l as cs, cx = .func (.yield l) as cs) := by
  unfold nilCheckV at hh
  split at hh <;> first | cases hh | skip
  · cases hx; exact ⟨rfl, .inl ⟨_, rfl⟩⟩
  · cases hx; exact ⟨rfl, .inr (.inl ⟨_, _, _, rfl⟩)⟩
  · cases hx; exact ⟨rfl, .inr (.inr ⟨_, _, _, rfl⟩)⟩

theorem new_obj (hr : HR ρ h w) (hn : True) (o : Obj) (b : Blk) (hb : ∀ w' : World, w'.heap[w.heap.size]? = some o → BR (ρ.add h.n ⟨w.heap.size, 0, 0, 0⟩) b ⟨w.heap.size, 0, 0, 0⟩ w') :
    Post ρ h w (ρ.add h.n ⟨w.heap.size, 0, 0, 0⟩) (h.put b) { w with heap := w.heap.push o } :=
  Post.alloc hr hn rfl ⟨rfl, rfl, rfl, rfl⟩ (hb _ (by simp))

theorem makeMapV_sound (hr : HR ρ h w) {t : TypeId} {x cx : Option Value} {v : Value} (hx : VO ρ x cx) (hh : makeMapV P h t x = .ok (v, h')) :
    Out P ρ h w (Instr.makeMap t cx) v h' := by
  simp only [makeMapV, bindR_ok, room_ok] at hh
  obtain ⟨d, hd, k, hk, _, hroom, he⟩ := hh
  simp only [Except.ok.injEq, Prod.mk.injEq] at he
  obtain ⟨rfl, rfl⟩ := he
  have hd' := run_under (w := w) hd
  refine ⟨.map (some w.heap.size), _, _, ?_, .map (l := ⟨w.heap.size, 0, 0, 0⟩) Ren.add_same, new_obj hr hroom (.map #[] 0) (.map [] 0) fun w' hw => ⟨#[], hw, .nil⟩⟩
  split at hk
  · cases cx with
    | some _ => exact hx.elim
    | none => simp [Instr.makeMap]
  · cases cx with
    | none => exact hx.elim
    | some c =>
      obtain ⟨kk, rfl, rfl⟩ := intOf_sound hx hk
      simp [Instr.makeMap, hd', asInt, asIntOf]
  · cases hk

theorem rangeV_sound (hr : HR ρ h w) {t : TypeId} {x cx v : Value} (hx : VR ρ x cx) (hh : rangeV P h t x = .ok (v, h')) : Out P ρ h w (Instr.range t cx) v h' := by
  simp only [rangeV, bindR_ok] at hh
  obtain ⟨d, hd, hh⟩ := hh
  have hd' := run_under (w := w) hd
  split at hh
  case h_2 => cases hh
  rename_i s
  simp only [bindR_ok, room_ok] at hh
  obtain ⟨_, hroom, he⟩ := hh
  simp only [Except.ok.injEq, Prod.mk.injEq] at he
  obtain ⟨rfl, rfl⟩ := he
  cases hx
  refine ⟨.pointer (some ⟨w.heap.size, 0, none⟩), _, _, ?_, .ptr (l := ⟨w.heap.size, 0, 0, 0⟩) (o := 0) Ren.add_same, new_obj hr hroom (.stringIter s 0) (.siter s 0) fun w' hw => ⟨hw, rfl⟩⟩
  simp [Instr.range, hd']

theorem nextV_sound (hr : HR ρ h w) {it cit v : Value} {ty : TypeId} (hi : VR ρ it cit) (hh : nextV h it = .ok (v, h')) : Out P ρ h w (Instr.next cit true ty) v h' := by
  unfold nextV at hh
  split at hh
  case h_2 => cases hh
  rename_i r
  split at hh
  case h_2 => cases hh
  rename_i s pos hg
  cases hi
  rename_i l hl
  have hb := (hr.dom _ _ hl).2.2
  have hlt := (hr.dom _ _ hl).2.1 (by rw [hg]; rfl)
  rw [hg] at hb
  obtain ⟨hw, h0⟩ := hb
  have hgo := run_getObj (P := P) hw (by intro c e f; simp)
  have how : owned (h.get r) = true := by rw [hg]; rfl
  have hoff : l.base + 0 = 0 := by omega
  split at hh
  · rename_i hp
    have hp := blt_true.1 hp
    simp only [Except.ok.injEq, Prod.mk.injEq] at hh
    obtain ⟨rfl, rfl⟩ := hh
    have hso := run_setObj (P := P) (o' := .stringIter s (pos + (Utf8.decode s pos).2)) hw (by intro c e f; simp)
    refine ⟨_, World.setBlk w l.blk (.stringIter s (pos + (Utf8.decode s pos).2)), ρ, ?_, .tuple' (.cons (.bool _) (.cons (.int _ _) (.cons (.int _ _) .nil))), Post.write hr hl how (At1.setBlk _ _) ⟨setBlk_heap hlt, h0⟩ (fun _ _ _ _ => trivial)⟩
    simp only [hoff, Instr.next, Sem.run_bind, hgo, Result.andThen_ok, if_pos hp, hso, Sem.run_pure, goInt]
  · rename_i hp
    have hp := blt_false.1 hp
    simp only [Except.ok.injEq, Prod.mk.injEq] at hh
    obtain ⟨rfl, rfl⟩ := hh
    refine ⟨.tuple #[.bool false], w, ρ, ?_, .tuple' (.cons (.bool _) .nil), .refl hr⟩
    have hp' : ¬ pos < s.size := by omega
    simp only [hoff, Instr.next, Sem.run_bind, hgo, Result.andThen_ok, if_neg hp', Sem.run_pure]
end
end Go.AM
