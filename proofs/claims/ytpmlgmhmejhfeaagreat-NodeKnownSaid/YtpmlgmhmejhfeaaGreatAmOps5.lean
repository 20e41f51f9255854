/- A part of the abstract machine: definitions and lemmas for all programs, no claim of its own; no condition. -/
import Derived.Test.YtpmlgmhmejhfeaaGreatAmOps4
set_option linter.unusedVariables false
set_option linter.unusedSimpArgs false
namespace Go.AM
open Go

section
variable {P : Program} {ρ : Ren} {h h' : Heap} {w : World}

theorem ble_true {a b : Nat} : Nat.ble a b = true ↔ a ≤ b := by rw [Nat.ble_eq]
theorem beq_true {a b : Nat} : Nat.beq a b = true ↔ a = b := ⟨Nat.eq_of_beq_eq_true, fun h => by subst h; exact Nat.beq_refl a⟩
theorem beq_false {a b : Nat} (h : Nat.beq a b = false) : a ≠ b := fun e => by subst e; rw [Nat.beq_refl] at h; cases h

theorem lenOf_sound {x cx : Value} {n : Nat} (hx : VR ρ x cx) (hh : lenOf x = .ok n) : (Builtin.lenOf cx).run P w = .ok n w := by
  cases hx <;> simp only [lenOf, reduceCtorEq] at hh <;> cases hh <;> rfl

theorem cell_heap {w w' : World} (hw : w'.heap = w.heap) (a : Addr) : w'.cell? a = w.cell? a := by simp [World.cell?, hw]

/-- The cells that a slice or a string gives; they go by the heap alone. -/
theorem readCells_sound (hr : HR ρ h w) {size n : Nat} {x cx : Value} {vs : List Value} (hx : VR ρ x cx) (hn : ∃ m, lenOf x = .ok m ∧ n ≤ m) (hh : readCells h size n x = .ok vs) :
    ∃ cs : List Value, (∀ w' : World, w'.heap = w.heap → (Builtin.firstCells size n cx).run P w' = .ok cs.toArray w') ∧ VL ρ vs cs := by
  cases hx <;> simp only [readCells, reduceCtorEq] at hh
  case string s =>
    cases hh
    refine ⟨(s.extract 0 n).data.toList.map fun b => .int .u8 b.toNat, fun w' _ => ?_, ⟨rfl, fun i hi => ?_⟩⟩
    · simp only [Builtin.firstCells, Sem.run_pure]
      congr 1
      apply Array.ext'
      simp
    · simp only [List.length_map] at hi
      simp only [gl, List.getD, List.getElem?_map, List.getElem?_eq_getElem hi, Option.map_some, Option.getD_some]
      exact .int _ _
  case nilSlice => cases hh; exact ⟨[], fun w' _ => by simp [Builtin.firstCells], .nil⟩
  case slice b o len c l hl hc =>
    split at hh
    · rename_i h0
      have h0 := beq_true.1 h0
      cases hh
      exact ⟨[], fun w' _ => by simp [Builtin.firstCells, h0, loadCells, loadCellsFrom], .nil⟩
    · split at hh
      case h_2 => cases hh
      rename_i vs' e m hg hs
      have hb := (hr.dom _ _ hl).2.2
      rw [hg] at hb
      obtain ⟨cs, hv, hcs⟩ := row_cells hb hh
      refine ⟨cs, fun w' hw => ?_, hv⟩
      exact run_firstCells_some w' size n ⟨l.blk, l.base + o, none⟩ len c cs (by rw [← hv.1]; exact cellsAt_len hh) (fun j v hj => by rw [add_none, cell_heap hw]; exact hcs j v hj)
  case sliceU b o len c o' c' l hl hc hlen ho =>
    split at hh
    · rename_i h0
      have h0 := beq_true.1 h0
      cases hh
      exact ⟨[], fun w' _ => by simp [Builtin.firstCells, h0, loadCells, loadCellsFrom], .nil⟩
    · rename_i h0
      have h0 := beq_false h0
      split at hh
      case h_2 => cases hh
      rename_i vs' e m hg hs
      have hb := (hr.dom _ _ hl).2.2
      rw [hg] at hb
      have hlen0 : len ≠ 0 := by
        intro e
        subst e
        obtain ⟨m, hm, hnm⟩ := hn
        simp only [lenOf, Except.ok.injEq] at hm; subst hm
        have : n = 0 := by omega
        subst this; simp at h0
      have ho' : o' = l.base + o := by
        rcases ho with ⟨ho, _⟩ | ⟨ho, _⟩
        · exact ho
        · exact absurd ho hlen0
      subst ho'
      obtain ⟨cs, hv, hcs⟩ := row_cells hb hh
      refine ⟨cs, fun w' hw => ?_, hv⟩
      exact run_firstCells_some w' size n ⟨l.blk, l.base + o, none⟩ len c' cs (by rw [← hv.1]; exact cellsAt_len hh) (fun j v hj => by rw [add_none, cell_heap hw]; exact hcs j v hj)

theorem zeroCells_len (z : Array Value) (n : Nat) : (Builtin.zeroCells z n).toList.length = n * z.size := by simp [Builtin.zeroCells]

/-- What a new row that 'append' makes is. -/
theorem grown_row {ρ : Ren} {vs cs rest : List Value} {e : TypeId} {l : Loc} {w' : World} (hv : VL ρ vs cs) (hl : l.base = 0) (hs : l.size = cs.length + rest.length)
    (hw : w'.heap[l.blk]? = some (.cells (cs ++ rest).toArray e (0, 0))) : Row ρ vs e (.grown l.es) l w' := by
  refine ⟨(cs ++ rest).toArray, (0, 0), hw, fun _ => rfl, ⟨fun _ _ => by simp [hs], fun es he => by simpa [Mode.es] using he⟩, ?_, by have := hv.1; simp [hl]; omega⟩
  rw [hl, hv.1]
  simpa using hv

theorem new1_drew (o : Obj) : New1 o w (w.drew.alloc o) := ⟨rfl, rfl, rfl, rfl⟩

/-- The slice that 'append' hands back where it has made a new row. -/
theorem grown_post (hr : HR ρ h w) (hn : h.n < 32768) {vs cs rest : List Value} (e : TypeId) {size need cap : Nat} (hv : VL ρ vs cs) (hlen : cs.length = need * size) (hrest : rest.length = (cap - need) * size) (hc : need ≤ cap) :
    VR (ρ.add h.n ⟨w.heap.size, 0, cap * size, size⟩) (.slice (some ⟨h.n, 0, none⟩) need unk) (.slice (some ⟨w.heap.size, 0, none⟩) need cap) ∧
    Post ρ h w (ρ.add h.n ⟨w.heap.size, 0, cap * size, size⟩) (h.put (.cells vs e (.grown size))) (w.drew.alloc (.cells (cs ++ rest).toArray e)) := by
  have hsz : cap * size = cs.length + rest.length := by rw [hlen, hrest, ← Nat.add_mul]; congr 1; omega
  refine ⟨?_, ?_⟩
  · exact VR.sliceU (l := ⟨w.heap.size, 0, cap * size, size⟩) (o := 0) Ren.add_same (Nat.le_refl _) hc (.inl ⟨rfl, by simp⟩)
  · refine Post.alloc hr hn (l := ⟨w.heap.size, 0, cap * size, size⟩) rfl (new1_drew _) ?_
    exact grown_row (l := ⟨w.heap.size, 0, cap * size, size⟩) (hv.mono (hr.sub_add _)) rfl hsz (by show (w.heap.push _)[w.heap.size]? = _; simp)

/-- The facts that 'appendV' has looked at. -/
structure AppFacts (P : Program) (sType e : TypeId) (i : TypeInfo) (z : Value) (sLen n : Nat) : Prop where
  ht : P.underlying sType = some (.slice e)
  hi : P.info? e = some i
  hz : i.zero = some z
  hsz : z.cells.size = i.size
  room : (2 * (sLen + n) + 768) * i.bytes ≤ 140737488355328
  pos : 0 < i.bytes

theorem AppFacts.small {P : Program} {sType e : TypeId} {i : TypeInfo} {z : Value} {sLen n : Nat} (f : AppFacts P sType e i z sLen n) : sLen + n ≤ 140737488355328 := by
  have := f.room
  have h1 : (2 * (sLen + n) + 768) * 1 ≤ (2 * (sLen + n) + 768) * i.bytes := Nat.mul_le_mul_left _ f.pos
  omega

theorem AppFacts.fits {P : Program} {sType e : TypeId} {i : TypeInfo} {z : Value} {sLen n cap : Nat} (f : AppFacts P sType e i z sLen n) (hc : cap < sLen + n) :
    ¬ (281474976710656 < Builtin.nextslicecap (sLen + n) cap * i.bytes) := by
  have h1 : (sLen + n) * i.bytes ≤ 140737488355328 := Nat.le_trans (Nat.mul_le_mul_right _ (by omega)) f.room
  have := growslice_fits hc h1
  omega

theorem AppFacts.cap_ge (w : World) {need old : Nat} (e : TypeId) : need ≤ grownCap w need old e := by
  simp only [grownCap, Question.cut]; omega

/-- 'append' where there is no room: in new memory. -/
theorem append_grow {sType e : TypeId} {i : TypeInfo} {z : Value} {sLen sCap n : Nat} (f : AppFacts P sType e i z sLen n) {argTypes : Array TypeId} {ty : TypeId} (h0 : argTypes[0]? = some sType)
    (h1 : ∀ xt, argTypes[1]? = some xt → ∃ d, P.underlying xt = some d ∧ ∀ k, d ≠ .int k) {base : Option Addr} {cx : Value} {olds news : List Value}
    (hlen : (Builtin.lenOf cx).run P w = .ok n w) (hnew : ∀ w' : World, w'.heap = w.heap → (Builtin.firstCells i.size n cx).run P w' = .ok news.toArray w')
    (hold : ∀ w' : World, w'.heap = w.heap → (Builtin.firstCells i.size sLen (.slice base sLen sCap)).run P w' = .ok olds.toArray w') (hg : sCap < sLen + n) :
    (Builtin.append_ argTypes ty #[.slice base sLen sCap, cx]).run P w = .ok (.slice (some ⟨w.heap.size, 0, none⟩) (sLen + n) (grownCap w (sLen + n) sCap e))
      (w.drew.alloc (.cells (olds ++ (news ++ (Builtin.zeroCells z.cells (grownCap w (sLen + n) sCap e - (sLen + n))).toList)).toArray e)) := by
  have hsm := f.small
  have c1 : ¬ sLen + n ≤ sCap := by omega
  have hz0 : ¬ i.bytes = 0 := by have := f.pos; omega
  have c3 := f.fits hg
  have e1 := run_underlying f.ht
  have hfo : Question.forced (.appendCap (sLen + n) sCap e) = false := rfl
  have hN := hnew w.drew rfl
  have hO := hold w.drew rfl
  have h63' : ¬ (9223372036854775807 < ((sLen : Int) + (n : Int))) := by omega
  cases hx : argTypes[1]? with
  | none =>
    simp [Builtin.append_, h0, hx, e1, sizeOf, typeInfo, f.hi, hlen, c1, h63', c3, hfo, hN, hO, zeroValue, f.hz, newRow, grownCap]
    try (congr 2; apply Array.ext'; simp [List.append_assoc])
  | some xt =>
    obtain ⟨d, hd, hk⟩ := h1 xt hx
    have hdm : (match d with | .int _ => true | _ => false : Bool) = false := by cases d <;> first | rfl | exact absurd rfl (hk _)
    simp [Builtin.append_, h0, hx, e1, run_underlying hd, hdm, sizeOf, typeInfo, f.hi, hlen, c1, h63', c3, hfo, hN, hO, zeroValue, f.hz, newRow, grownCap]
    try (congr 2; apply Array.ext'; simp [List.append_assoc])

/-- 'append' where there is room: in place. -/
theorem append_room {sType e : TypeId} {i : TypeInfo} {sLen sCap n : Nat} (ht : P.underlying sType = some (.slice e)) (hi : P.info? e = some i) {argTypes : Array TypeId} {ty : TypeId} (h0 : argTypes[0]? = some sType)
    (h1 : ∀ xt, argTypes[1]? = some xt → ∃ d, P.underlying xt = some d ∧ ∀ k, d ≠ .int k) {a : Addr} {cx : Value} {news : List Value} {w' : World}
    (hlen : (Builtin.lenOf cx).run P w = .ok n w) (hnew : (Builtin.firstCells i.size n cx).run P w = .ok news.toArray w)
    (hst : (Go.storeCells (a.add (sLen * i.size)) news).run P w = .ok () w') (hg : sLen + n ≤ sCap) :
    (Builtin.append_ argTypes ty #[.slice (some a) sLen sCap, cx]).run P w = .ok (.slice (some a) (sLen + n) sCap) w' := by
  have e1 := run_underlying ht
  cases hx : argTypes[1]? with
  | none => simp [Builtin.append_, h0, hx, e1, sizeOf, typeInfo, hi, hlen, hg, hnew, hst]
  | some xt =>
    obtain ⟨d, hd, hk⟩ := h1 xt hx
    have hdm : (match d with | .int _ => true | _ => false : Bool) = false := by cases d <;> first | rfl | exact absurd rfl (hk _)
    simp [Builtin.append_, h0, hx, e1, run_underlying hd, hdm, sizeOf, typeInfo, hi, hlen, hg, hnew, hst]

theorem append_room_nil {sType e : TypeId} {i : TypeInfo} (ht : P.underlying sType = some (.slice e)) (hi : P.info? e = some i) {argTypes : Array TypeId} {ty : TypeId} (h0 : argTypes[0]? = some sType)
    (h1 : ∀ xt, argTypes[1]? = some xt → ∃ d, P.underlying xt = some d ∧ ∀ k, d ≠ .int k) {cx : Value} {news : List Value}
    (hlen : (Builtin.lenOf cx).run P w = .ok 0 w) (hnew : (Builtin.firstCells i.size 0 cx).run P w = .ok news.toArray w) :
    (Builtin.append_ argTypes ty #[.slice none 0 0, cx]).run P w = .ok (.slice none 0 0) w := by
  have e1 := run_underlying ht
  cases hx : argTypes[1]? with
  | none => simp [Builtin.append_, h0, hx, e1, sizeOf, typeInfo, hi, hlen, hnew]
  | some xt =>
    obtain ⟨d, hd, hk⟩ := h1 xt hx
    have hdm : (match d with | .int _ => true | _ => false : Bool) = false := by cases d <;> first | rfl | exact absurd rfl (hk _)
    simp [Builtin.append_, h0, hx, e1, run_underlying hd, hdm, sizeOf, typeInfo, hi, hlen, hnew]
end
end Go.AM
