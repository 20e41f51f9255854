/- A part of the abstract machine: definitions and lemmas for all programs, no claim of its own; no condition. -/
import Derived.Test.YtpmlgmhmejhfeaaGreatAmOps
import Derived.Laws.MakeOwn
set_option linter.unusedVariables false
set_option linter.unusedSimpArgs false
namespace Go.AM
open Go

section
variable {P : Program} {ρ : Ren} {h h' : Heap} {w : World}

/-- A value and a heap out of an operation that the world follows. -/
def Out (P : Program) (ρ : Ren) (h : Heap) (w : World) (s : Sem Value) (v : Value) (h' : Heap) : Prop :=
  ∃ c w' ρ', s.run P w = .ok c w' ∧ VR ρ' v c ∧ Post ρ h w ρ' h' w'
/-- A value alone; the world stays. -/
def Same (P : Program) (ρ : Ren) (w : World) (s : Sem Value) (v : Value) : Prop := ∃ c, s.run P w = .ok c w ∧ VR ρ v c

theorem Same.out (hr : HR ρ h w) {s : Sem Value} {v : Value} (hs : Same P ρ w s v) : Out P ρ h w s v h :=
  let ⟨c, h1, h2⟩ := hs; ⟨c, w, ρ, h1, h2, .refl hr⟩

theorem room_ok {u : Unit} : h.room = .ok u ↔ h.n < 32768 := by simp only [Heap.room, must_ok, blt_true]

theorem row_new {ρ : Ren} {vs cs : List Value} {e : TypeId} {m : Mode} {l : Loc} {w' : World} (hv : VL ρ vs cs) (hl : l.base = 0) (hs : l.size = cs.length) (hes : ∀ es, m.es = some es → l.es = es)
    (hw : w'.heap[l.blk]? = some (.cells cs.toArray e (0, 0))) : Row ρ vs e m l w' := by
  refine ⟨cs.toArray, (0, 0), hw, fun _ => rfl, ⟨fun _ _ => by simp [hs], hes⟩, ?_, by have := hv.1; simp [hl]; omega⟩
  rw [hl, hv.1]
  simpa using hv

theorem new1_row (e : TypeId) (cs : Array Value) : New1 (.cells cs e) w { w with heap := w.heap.push (.cells cs e) } := ⟨rfl, rfl, rfl, rfl⟩

theorem rowV_sound (hr : HR ρ h w) {e : TypeId} {vs cs : List Value} {v : Value} (hv : VL ρ vs cs) (hh : rowV h e vs = .ok (v, h')) :
    ∃ c w' ρ', (newRow e cs.toArray).run P w = .ok c w' ∧ VR ρ' v (.pointer (some c)) ∧ Post ρ h w ρ' h' w' := by
  simp only [rowV, bindR_ok, room_ok] at hh
  obtain ⟨_, hn, _, h1, h2⟩ := hh
  simp only [Except.ok.injEq, Prod.mk.injEq] at h2
  obtain ⟨rfl, rfl⟩ := h2
  refine ⟨⟨w.heap.size, 0, none⟩, { w with heap := w.heap.push (.cells cs.toArray e) }, ρ.add h.n ⟨w.heap.size, 0, cs.length, 0⟩, by simp [newRow], ?_, ?_⟩
  · exact .ptr (l := ⟨w.heap.size, 0, cs.length, 0⟩) (o := 0) Ren.add_same
  · exact Post.alloc hr hn (l := ⟨w.heap.size, 0, cs.length, 0⟩) rfl (new1_row e cs.toArray) (row_new (hv.mono (hr.sub_add _)) rfl rfl (fun es e => by cases e) (by simp))

/-! ### Addresses and slices -/
theorem intOf_ok {v : Value} {n : Int} (hh : intOf v = .ok n) : ∃ k, v = .int k n := by
  cases v <;> simp [intOf] at hh
  rename_i k m; exact ⟨k, by rw [hh]⟩
theorem int_rel {k : IntKind} {n : Int} {c : Value} (hv : VR ρ (.int k n) c) : c = .int k n := by cases hv; rfl
theorem intOf_sound {v c : Value} {n : Int} (hv : VR ρ v c) (hh : intOf v = .ok n) : ∃ k, v = .int k n ∧ c = .int k n := by
  obtain ⟨k, rfl⟩ := intOf_ok hh; exact ⟨k, rfl, int_rel hv⟩

theorem fieldAddrV_sound {s : TypeId} {x cx v : Value} {f : Nat} (hx : VR ρ x cx) (hh : fieldAddrV P s x f = .ok v) : Same P ρ w (Instr.fieldAt s cx f) v := by
  simp only [fieldAddrV, bindR_ok] at hh
  obtain ⟨d, hd, hh⟩ := hh
  split at hh
  case h_2 => cases hh
  rename_i fields a
  simp only [bindR_ok, must_ok, ofOpt_ok, blt_true] at hh
  obtain ⟨fd, hfd, n, hn, _, h1, h2⟩ := hh
  cases h2
  cases hx
  rename_i b o l hl
  refine ⟨.pointer (some ⟨l.blk, l.base + (o + fd.offset), none⟩), ?_, by rw [add_none]; exact .ptr hl⟩
  have hz : ¬ n = 0 := by omega
  simp [Instr.fieldAt, run_under hd, hfd, Instr.sureAddr, fieldPlace, run_sizeOf hn, hz, add_none, Nat.add_assoc]

theorem inRange_ok {i : Int} {len n : Nat} (hh : inRange i len = .ok n) : 0 ≤ i ∧ i < (len : Int) ∧ n = i.toNat := by
  simp only [inRange, bindR_ok, must_ok, Bool.and_eq_true, decide_eq_true_eq] at hh
  obtain ⟨_, ⟨h1, h2⟩, h3⟩ := hh
  cases h3
  exact ⟨h1, h2, rfl⟩

theorem indexAddrV_sound {t : TypeId} {x cx i ci v : Value} (hx : VR ρ x cx) (hi : VR ρ i ci) (hh : indexAddrV P t x i = .ok v) : Same P ρ w (Instr.indexAt t cx ci) v := by
  simp only [indexAddrV, bindR_ok] at hh
  obtain ⟨k, hk, d, hd, hh⟩ := hh
  obtain ⟨ik, rfl, rfl⟩ := intOf_sound hi hk
  split at hh
  · rename_i len e a
    simp only [bindR_ok] at hh
    obtain ⟨j, hj, n, hn, h2⟩ := hh
    cases h2
    obtain ⟨h0, h1, rfl⟩ := inRange_ok hj
    cases hx
    rename_i b o l hl
    refine ⟨.pointer (some ⟨l.blk, l.base + (o + k.toNat * n), none⟩), ?_, by rw [add_none]; exact .ptr hl⟩
    have hc : 0 ≤ k ∧ k < (len : Int) := ⟨h0, h1⟩
    simp [Instr.indexAt, asIntOf, run_under hd, Instr.sureAddr, hc, run_sizeOf hn, add_none, Nat.add_assoc]
  · rename_i e a len cap
    simp only [bindR_ok] at hh
    obtain ⟨j, hj, n, hn, h2⟩ := hh
    cases h2
    obtain ⟨h0, h1, rfl⟩ := inRange_ok hj
    have hc : 0 ≤ k ∧ k < (len : Int) := ⟨h0, h1⟩
    cases hx with
    | slice hl hcap =>
      rename_i b o l
      refine ⟨.pointer (some ⟨l.blk, l.base + (o + k.toNat * n), none⟩), ?_, by rw [add_none]; exact .ptr hl⟩
      simp [Instr.indexAt, asIntOf, run_under hd, hc, run_sizeOf hn, add_none, Nat.add_assoc]
    | sliceU hl hcap hn' ho =>
      rename_i b o o' c' l
      have ho' : o' = l.base + o := by
        rcases ho with ⟨ho, _⟩ | ⟨ho, _⟩
        · exact ho
        · omega
      subst ho'
      refine ⟨.pointer (some ⟨l.blk, l.base + (o + k.toNat * n), none⟩), ?_, by rw [add_none]; exact .ptr hl⟩
      simp [Instr.indexAt, asIntOf, run_under hd, hc, run_sizeOf hn, add_none, Nat.add_assoc]
  · cases hh

theorem fieldV_sound {t : TypeId} {x cx v : Value} {f : Nat} (hx : VR ρ x cx) (hh : fieldV P t x f = .ok v) : Same P ρ w (Instr.field t cx f) v := by
  simp only [fieldV, bindR_ok] at hh
  obtain ⟨d, hd, hh⟩ := hh
  split at hh
  case h_2 => cases hh
  rename_i fields cs
  simp only [bindR_ok, ofOpt_ok] at hh
  obtain ⟨fd, hfd, hh⟩ := hh
  have hl := cells_rel hx
  cases hx
  rename_i ds h1 h2
  have hl : VL ρ cs.toList ds.toList := hl
  obtain ⟨c, hc, hr⟩ := partV_sound hh hl
  refine ⟨c, ?_, hr⟩
  simp [Instr.field, run_under hd, hfd, asAgg, run_part hc]

theorem indexV_sound {t : TypeId} {x cx i ci v : Value} (hx : VR ρ x cx) (hi : VR ρ i ci) (hh : indexV P t x i = .ok v) : Same P ρ w (Instr.index t cx ci) v := by
  simp only [indexV, bindR_ok] at hh
  obtain ⟨k, hk, d, hd, hh⟩ := hh
  obtain ⟨ik, rfl, rfl⟩ := intOf_sound hi hk
  split at hh
  · rename_i len e cs
    simp only [bindR_ok] at hh
    obtain ⟨j, hj, n, hn, hh⟩ := hh
    obtain ⟨h0, h1, rfl⟩ := inRange_ok hj
    have hl := cells_rel hx
    cases hx
    rename_i ds g1 g2
    have hl : VL ρ cs.toList ds.toList := hl
    obtain ⟨c, hc, hr⟩ := partV_sound hh hl
    refine ⟨c, ?_, hr⟩
    have hc' : 0 ≤ k ∧ k < (len : Int) := ⟨h0, h1⟩
    simp [Instr.index, asIntOf, run_under hd, hc', run_sizeOf hn, run_part hc]
  · rename_i s
    simp only [bindR_ok, ofOpt_ok] at hh
    obtain ⟨j, hj, b, hb, h2⟩ := hh
    cases h2
    obtain ⟨h0, h1, rfl⟩ := inRange_ok hj
    cases hx
    refine ⟨.int .u8 b.toNat, ?_, .int _ _⟩
    simp [Instr.index, asIntOf, run_under hd, h0, hb]
  · cases hh

/-! Bounds of a slice expression. -/
theorem sbound_sound {v c : Value} {y n : Nat} (hv : VR ρ v c) (hh : sbound v y = .ok n) (code : BoundsCode) {y' : Nat} (hy : y ≤ y') :
    (Instr.sliceBound c y' code).run P w = .ok n w ∧ n ≤ y := by
  simp only [sbound, bindR_ok, must_ok, Bool.and_eq_true, decide_eq_true_eq] at hh
  obtain ⟨i, hi, _, ⟨h0, h1⟩, h2⟩ := hh
  cases h2
  obtain ⟨k, rfl, rfl⟩ := intOf_sound hv hi
  refine ⟨?_, by omega⟩
  have h1' : i ≤ (y' : Int) := by omega
  simp [Instr.sliceBound, asIntOf, h0, h1']

def VO (ρ : Ren) : Option Value → Option Value → Prop
  | none, none => True
  | some a, some b => VR ρ a b
  | _, _ => False

theorem sbounds_sound {lo hi mx clo chi cmx : Option Value} (hlo : VO ρ lo clo) (hhi : VO ρ hi chi) (hmx : VO ρ mx cmx) (isSlice : Bool) {len cap cap' l hh' m : Nat} (hcap : cap ≤ cap')
    (hh : sbounds len cap lo hi mx = .ok (l, hh', m)) :
    (Instr.sliceBounds isSlice len cap' clo chi cmx).run P w = .ok (l, hh', if mx.isNone then cap' else m) w ∧ l ≤ hh' ∧ (hi.isSome → hh' ≤ m) ∧ m ≤ cap ∧ (hi = none → hh' = len) ∧ (mx = none → m = cap) ∧ (hi = none → mx = none) := by
  simp only [sbounds, bindR_ok] at hh
  obtain ⟨m1, hm, h1, hhi', l1, hl1, he⟩ := hh
  simp only [Except.ok.injEq, Prod.mk.injEq] at he
  obtain ⟨rfl, rfl, rfl⟩ := he
  have hM : ∃ cm, (match cmx with | some v => Instr.sliceBound v cap' (if isSlice then .slice3Acap else .slice3Alen) | none => pure cap' : Sem Nat).run P w = .ok cm w ∧ cm = (if mx.isNone then cap' else m1) ∧ m1 ≤ cm ∧ m1 ≤ cap ∧ (mx = none → m1 = cap) := by
    cases mx with
    | none => cases cmx with
      | none => simp at hm; subst hm; exact ⟨cap', rfl, rfl, hcap, Nat.le_refl _, fun _ => rfl⟩
      | some _ => exact hmx.elim
    | some v => cases cmx with
      | none => exact hmx.elim
      | some c => obtain ⟨g1, g2⟩ := sbound_sound (P := P) (w := w) hmx hm (if isSlice then .slice3Acap else .slice3Alen) hcap; exact ⟨m1, g1, rfl, Nat.le_refl _, g2, (fun e => by cases e)⟩
  obtain ⟨cm, hcm, hcm', hle1, hmc, hmn⟩ := hM
  have hL : l1 ≤ h1 ∧ (clo = none → l1 = 0) ∧ ∀ c, clo = some c → ∀ code, (Instr.sliceBound c h1 code).run P w = .ok l1 w := by
    cases lo with
    | none => cases clo with
      | none => simp at hl1; subst hl1; exact ⟨Nat.zero_le _, fun _ => rfl, (fun c e => by cases e)⟩
      | some _ => exact hlo.elim
    | some v => cases clo with
      | none => exact hlo.elim
      | some c =>
        refine ⟨(sbound_sound (P := P) (w := w) hlo hl1 .sliceB (Nat.le_refl h1)).2, (fun e => by cases e), fun c' e code => ?_⟩
        cases e
        exact (sbound_sound (P := P) (w := w) hlo hl1 code (Nat.le_refl h1)).1
  obtain ⟨hle, hL0, hL1⟩ := hL
  rw [← hcm']
  cases hi with
  | none =>
    cases chi with
    | some _ => exact hhi.elim
    | none =>
      cases mx with
      | some _ => simp at hhi'
      | none =>
        cases cmx with
        | some _ => exact hmx.elim
        | none =>
          simp at hhi'
          subst hhi'
          refine ⟨?_, hle, (fun e => by cases e), hmc, fun _ => rfl, hmn, fun _ => rfl⟩
          simp only [Sem.run_pure] at hcm
          cases hcm
          cases clo with
          | none => simp [Instr.sliceBounds, hL0 rfl]
          | some c => simp [Instr.sliceBounds, hL1 c rfl]
  | some v =>
    cases chi with
    | none => exact hhi.elim
    | some c =>
      have hH : ∀ code, (Instr.sliceBound c cm code).run P w = .ok h1 w ∧ h1 ≤ m1 := fun code => sbound_sound hhi (by simpa using hhi') code hle1
      refine ⟨?_, hle, fun _ => (hH .slice3B).2, hmc, (fun e => by cases e), hmn, (fun e => by cases e)⟩
      cases cmx with
      | none =>
        simp only [Sem.run_pure] at hcm
        cases hcm
        cases clo with
        | none => simp [Instr.sliceBounds, hL0 rfl, (hH _).1]
        | some c => simp [Instr.sliceBounds, hL1 c rfl, (hH _).1]
      | some _ =>
        simp only [] at hcm
        cases clo with
        | none => simp [Instr.sliceBounds, hL0 rfl, hcm, (hH _).1]
        | some c => simp [Instr.sliceBounds, hL1 c rfl, hcm, (hH _).1]

theorem map_add (b o n : Nat) : (some (⟨b, o, none⟩ : Addr)).map (·.add n) = some ⟨b, o + n, none⟩ := by simp [add_none]

theorem rowEs_sound (hr : HR ρ h w) {b o es : Nat} {l : Loc} (hl : ρ b = some l) (hh : rowEs h (some ⟨b, o, none⟩) = .ok es) : l.es = es := by
  simp only [rowEs] at hh
  split at hh
  · rename_i vs e m hg
    have hb := (hr.dom _ _ hl).2.2
    rw [hg] at hb
    obtain ⟨cs, fr, g1, g2, g3, g4, g5⟩ := hb
    exact g3.2 es (ofOpt_ok.1 hh)
  · cases hh

theorem rowB_le (hr : HR ρ h w) {b o len es o' c' : Nat} {l : Loc} (hl : ρ b = some l) (hes : l.es = es) (hn : len ≤ c') (ho : (o' = l.base + o ∧ o' + c' * l.es = l.size) ∨ (len = 0 ∧ c' = 0 ∧ l.size ≤ l.base + o)) :
    rowB h (some ⟨b, o, none⟩) len es ≤ c' := by
  simp only [rowB]
  split
  · rename_i vs e m hg
    have hb := (hr.dom _ _ hl).2.2
    rw [hg] at hb
    obtain ⟨cs, fr, g1, g2, g3, g4, g5⟩ := hb
    have hsz := g3.1 _ rfl
    refine Nat.max_le.2 ⟨hn, ?_⟩
    show (vs.length - o) / es ≤ c'
    rcases ho with ⟨h1, h2⟩ | ⟨h1, h2, h3⟩
    · rcases Nat.eq_zero_or_pos es with h0 | h0
      · rw [h0, Nat.div_zero]; omega
      · rw [hes] at h2
        have : vs.length - o ≤ c' * es := by omega
        exact Nat.div_le_of_le_mul (by rw [Nat.mul_comm]; exact this)
    · rw [show vs.length - o = 0 by omega, Nat.zero_div]; omega
  · exact hn
theorem sboundsU_ok {a : Option Addr} {len es : Nat} {lo hi : Option Value} {r : Nat × Nat × Nat} (hh : sboundsU h a len es lo hi = .ok r) : ∃ B, (B = len ∨ B = rowB h a len es) ∧ sbounds len B lo hi none = .ok r := by
  unfold sboundsU at hh
  split at hh
  · rename_i r' hb; cases hh; exact ⟨len, .inl rfl, hb⟩
  · exact ⟨_, .inr rfl, hh⟩

theorem sliceV_sound (hr : HR ρ h w) {t : TypeId} {x cx v : Value} {lo hi mx clo chi cmx : Option Value} (hx : VR ρ x cx) (hlo : VO ρ lo clo) (hhi : VO ρ hi chi) (hmx : VO ρ mx cmx)
    (hh : sliceV P h t x lo hi mx = .ok v) : Same P ρ w (Instr.sliceAt t cx clo chi cmx) v := by
  simp only [sliceV, bindR_ok] at hh
  obtain ⟨d, hd, hh⟩ := hh
  split at hh
  · rename_i s
    cases hx
    split at hh
    · cases hh
    · cases cmx with
      | some _ => exact hmx.elim
      | none =>
        simp only [bindR_ok] at hh
        obtain ⟨⟨l, h1, m⟩, hb, h2⟩ := hh
        simp only [Except.ok.injEq] at h2; subst h2
        obtain ⟨g1, _⟩ := sbounds_sound (P := P) (w := w) hlo hhi hmx false (Nat.le_refl _) hb
        refine ⟨.string (s.extract l h1), ?_, .string _⟩
        simp [Instr.sliceAt, run_under hd, Instr.slice, g1]
  · rename_i e a len cap
    simp only [bindR_ok] at hh
    obtain ⟨size, hsz, hh⟩ := hh
    split at hh
    · -- the capacity isn't known
      rename_i hu
      have hu' : unk ≤ cap := by simpa [Nat.ble_eq] using hu
      simp only [bindR_ok, must_ok] at hh
      obtain ⟨es, hes, _, hes', ⟨l, h1, m⟩, hb, h2⟩ := hh
      have hes' := Nat.eq_of_beq_eq_true hes'
      subst hes'
      simp only [Except.ok.injEq] at h2; subst h2
      cases cmx with
      | some _ => exact hmx.elim
      | none =>
      cases hx with
      | nilSlice => simp [rowEs] at hes
      | slice hl hc => omega
      | sliceU hl hc hn ho =>
        rename_i b o o' c' lc
        have hes' := rowEs_sound hr hl hes
        obtain ⟨B, hB, hb⟩ := sboundsU_ok hb
        have hBc : B ≤ c' := by
          rcases hB with rfl | rfl
          · exact hn
          · exact rowB_le hr hl hes' hn ho
        obtain ⟨g1, g2, g3, g4, g5, g6, _⟩ := sbounds_sound (P := P) (w := w) hlo hhi hmx true hBc hb
        have hm := g6 rfl
        have hhl : h1 ≤ c' := by
          cases hi with
          | none => rw [g5 rfl]; exact hn
          | some _ => have := g3 rfl; omega
        simp only [Option.isNone_none, if_true] at g1
        rw [map_add]
        by_cases hc' : c' = l
        · have e1 : h1 - l = 0 := by omega
          subst hc'
          refine ⟨.slice (some ⟨lc.blk, o', none⟩) (h1 - c') (c' - c'), ?_, ?_⟩
          · simp [Instr.sliceAt, run_under hd, Instr.slice, g1, run_sizeOf hsz]
          · refine .sliceU hl hc (by omega) (.inr ⟨e1, by omega, ?_⟩)
            rcases ho with ⟨ho, hs⟩ | ⟨h0, h0', hs⟩
            · rw [hes'] at hs; omega
            · omega
        · refine ⟨.slice (some ⟨lc.blk, o' + l * es, none⟩) (h1 - l) (c' - l), ?_, ?_⟩
          · simp [Instr.sliceAt, run_under hd, Instr.slice, g1, run_sizeOf hsz, hc', add_none]
          · refine .sliceU hl hc (by omega) ?_
            rcases ho with ⟨ho, hs⟩ | ⟨h0, h0', hs⟩
            · refine .inl ⟨by rw [ho]; omega, ?_⟩
              rw [hes'] at hs ⊢
              have h4 : l * es + (c' - l) * es = c' * es := by rw [← Nat.add_mul]; congr 1; omega
              omega
            · exact .inr ⟨by omega, by omega, by omega⟩
    · rename_i hu
      have hu' : unk ≤ cap := by simpa [Nat.ble_eq] using hu
      simp only [bindR_ok, must_ok, Bool.and_eq_true, blt_true] at hh
      obtain ⟨_, ⟨hlen, hlu⟩, ⟨l, h1, m⟩, hb, h2⟩ := hh
      simp only [Except.ok.injEq] at h2; subst h2
      cases hx with
      | nilSlice => omega
      | slice hl hc => omega
      | sliceU hl hc hn ho =>
        rename_i b o o' c' lc
        obtain ⟨g1, g2, g3, g4, g5, g6, g7⟩ := sbounds_sound (P := P) (w := w) hlo hhi hmx true hn hb
        simp only [Option.isNone_some, Bool.false_eq_true, if_false] at g1
        have hsome : hi.isSome := by cases hi with | none => have := g7 rfl; cases this | some _ => rfl
        have hhm := g3 hsome
        have ho' : o' = lc.base + o := by
          rcases ho with ⟨ho, _⟩ | ⟨h0, _⟩
          · exact ho
          · omega
        by_cases hml : m = l
        · rw [if_pos hml]
          refine ⟨.slice (some ⟨lc.blk, lc.base + o, none⟩) (h1 - l) (m - l), ?_, .slice hl (by omega)⟩
          simp [Instr.sliceAt, run_under hd, Instr.slice, g1, run_sizeOf hsz, hml, ho']
        · rw [if_neg hml, map_add]
          refine ⟨.slice (some ⟨lc.blk, lc.base + (o + l * size), none⟩) (h1 - l) (m - l), ?_, .slice hl (by omega)⟩
          simp [Instr.sliceAt, run_under hd, Instr.slice, g1, run_sizeOf hsz, hml, add_none, ho', Nat.add_assoc]
    · rename_i mx _ _ hu
      have hu' : cap < unk := ble_false.1 hu
      simp only [bindR_ok, must_ok, Nat.ble_eq] at hh
      obtain ⟨_, hlc, ⟨l, h1, m⟩, hb, h2⟩ := hh
      simp only [Except.ok.injEq] at h2; subst h2
      obtain ⟨g1, g2, g3, g4, g5, g6, g7⟩ := sbounds_sound (P := P) (w := w) hlo hhi hmx true (Nat.le_refl _) hb
      have g1' : (Instr.sliceBounds true len cap clo chi cmx).run P w = .ok (l, h1, m) w := by
        rw [g1]
        congr 3
        by_cases hmn : mx.isNone = true
        · rw [if_pos hmn, g6 (by simpa using hmn)]
        · rw [if_neg hmn]
      cases hx with
      | nilSlice =>
        have hm0 : m = 0 := by omega
        have hl0 : l = 0 := by
          cases hi with
          | none => have := g5 rfl; omega
          | some _ => have := g3 rfl; omega
        have hh0 : h1 = 0 := by
          cases hi with
          | none => exact g5 rfl
          | some _ => have := g3 rfl; omega
        subst hm0 hl0 hh0
        refine ⟨.slice none 0 0, ?_, by simpa using VR.nilSlice⟩
        simp [Instr.sliceAt, run_under hd, Instr.slice, g1', run_sizeOf hsz]
      | slice hl hc =>
        rename_i b o lc
        by_cases hml : m = l
        · rw [if_pos hml]
          refine ⟨.slice (some ⟨lc.blk, lc.base + o, none⟩) (h1 - l) (m - l), ?_, .slice hl (by omega)⟩
          simp [Instr.sliceAt, run_under hd, Instr.slice, g1', run_sizeOf hsz, hml]
        · rw [if_neg hml, map_add]
          refine ⟨.slice (some ⟨lc.blk, lc.base + (o + l * size), none⟩) (h1 - l) (m - l), ?_, .slice hl (by omega)⟩
          simp [Instr.sliceAt, run_under hd, Instr.slice, g1', run_sizeOf hsz, hml, add_none, Nat.add_assoc]
      | sliceU hl hc hn ho => omega
  · rename_i n e a
    simp only [bindR_ok, must_ok, blt_true] at hh
    obtain ⟨_, hnu, size, hsz, ⟨l, h1, m⟩, hb, h2⟩ := hh
    simp only [Except.ok.injEq] at h2; subst h2
    obtain ⟨g1, g2, g3, g4, g5, g6, g7⟩ := sbounds_sound (P := P) (w := w) hlo hhi hmx false (Nat.le_refl _) hb
    have g1' : (Instr.sliceBounds false n n clo chi cmx).run P w = .ok (l, h1, m) w := by
      rw [g1]
      congr 3
      by_cases hmn : mx.isNone = true
      · rw [if_pos hmn, g6 (by simpa using hmn)]
      · rw [if_neg hmn]
    cases hx
    rename_i b o lc hl
    by_cases hml : m = l
    · rw [if_pos hml]
      refine ⟨.slice (some ⟨lc.blk, lc.base + o, none⟩) (h1 - l) (m - l), ?_, .slice hl (by omega)⟩
      simp [Instr.sliceAt, run_under hd, Instr.sureAddr, g1', run_sizeOf hsz, hml]
    · rw [if_neg hml, add_none]
      refine ⟨.slice (some ⟨lc.blk, lc.base + (o + l * size), none⟩) (h1 - l) (m - l), ?_, .slice hl (by omega)⟩
      simp [Instr.sliceAt, run_under hd, Instr.sureAddr, g1', run_sizeOf hsz, hml, add_none, Nat.add_assoc]
  · cases hh
end
end Go.AM
