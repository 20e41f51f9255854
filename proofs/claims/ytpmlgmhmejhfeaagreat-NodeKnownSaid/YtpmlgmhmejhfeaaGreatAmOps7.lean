/- A part of the abstract machine: definitions and lemmas for all programs, no claim of its own; no condition. -/
import Derived.Test.YtpmlgmhmejhfeaaGreatAmOps6
set_option linter.unusedVariables false
set_option linter.unusedSimpArgs false
namespace Go.AM
open Go

section
variable {P : Program} {ρ : Ren} {h h' : Heap} {w : World}

theorem readCells_zero {size : Nat} {x : Value} {new : List Value} (hh : readCells h size 0 x = .ok new) : new = [] := by
  cases x <;> simp only [readCells, reduceCtorEq, Except.ok.injEq] at hh
  · rename_i s
    rw [← hh]; simp
  · rename_i a l c
    cases a with
    | none => simp only [Except.ok.injEq] at hh; exact hh.symm
    | some a => simp only [Nat.zero_mul, Nat.beq_refl, Except.ok.injEq] at hh; exact hh.symm

theorem appendV_sound (hr : HR ρ h w) {argTypes : Array TypeId} {ty : TypeId} {args cargs : List Value} {v : Value} (ha : VL ρ args cargs) (hh : appendV P h argTypes args = .ok (v, h')) :
    Out P ρ h w (Builtin.append_ argTypes ty cargs.toArray) v h' := by
  unfold appendV at hh
  split at hh
  case h_2 => cases hh
  rename_i base sLen sCap x
  obtain ⟨cs, rest, rfl, hs, hrest⟩ := ha.cases_cons
  obtain ⟨cx, rest', rfl, hx, hrest'⟩ := hrest.cases_cons
  obtain rfl := hrest'.cases_nil
  simp only [bindR_ok, ofOpt_ok] at hh
  obtain ⟨sType, h0, d, hd, hh⟩ := hh
  split at hh
  case h_2 => cases hh
  rename_i e
  simp only [bindR_ok] at hh
  obtain ⟨_, hz1, size, hsize, n, hn, new, hnew, hh⟩ := hh
  have h1 : ∀ xt, argTypes[1]? = some xt → ∃ d, P.underlying xt = some d ∧ ∀ k, d ≠ .int k := by
    intro xt hxt
    rw [hxt] at hz1
    simp only [bindR_ok, must_ok] at hz1
    obtain ⟨d', hd', hk⟩ := hz1
    refine ⟨d', under_ok.1 hd', fun k e => ?_⟩
    subst e; cases hk
  obtain ⟨i, hi, rfl⟩ := tsize_ok.1 hsize
  obtain ⟨news, hrun, hvn⟩ := readCells_sound (P := P) hr hx ⟨n, hn, Nat.le_refl _⟩ hnew
  have hlen := lenOf_sound (P := P) (w := w) hx hn
  have ht := under_ok.1 hd
  show Out P ρ h w (Builtin.append_ argTypes ty #[cs, cx]) v h'
  split at hh
  · rename_i hn0
    obtain rfl := beq_true.1 hn0
    simp only [bindR_ok, must_ok] at hh
    obtain ⟨_, hle, he⟩ := hh
    simp only [Except.ok.injEq, Prod.mk.injEq] at he
    obtain ⟨rfl, rfl⟩ := he
    have hnil : new = [] := readCells_zero hnew
    subst hnil
    obtain rfl := hvn.cases_nil
    cases hs with
    | nilSlice => exact ⟨_, w, ρ, append_room_nil ht hi h0 h1 hlen (hrun w rfl), .nilSlice, .refl hr⟩
    | slice hl hc =>
      refine ⟨_, w, ρ, append_room ht hi h0 h1 hlen (hrun w rfl) (by simp [Go.storeCells]) (by simpa using ble_true.1 hle), ?_, .refl hr⟩
      exact .slice hl hc
    | sliceU hl hc hn' ho =>
      refine ⟨_, w, ρ, append_room ht hi h0 h1 hlen (hrun w rfl) (by simp [Go.storeCells]) hn', ?_, .refl hr⟩
      exact .sliceU hl hc hn' ho
  · rename_i hn0
    have hn0 := beq_false hn0
    simp only [bindR_ok, must_ok, Bool.and_eq_true, beq_true, ble_true, blt_true] at hh
    obtain ⟨bytes, hby, z, hz, _, ⟨⟨⟨⟨⟨hzs, hroom⟩, hpos⟩, hbpos⟩, hcell⟩, hln⟩, hh⟩ := hh
    obtain ⟨i', hi', rfl⟩ := tbytes_ok.1 hby
    obtain rfl : i' = i := by rw [hi] at hi'; cases hi'; rfl
    obtain ⟨_, i'', hi'', hz'⟩ := tzero_ok hz
    obtain rfl : i'' = i' := by rw [hi] at hi''; cases hi''; rfl
    have f : AppFacts P sType e i'' z sLen n := ⟨ht, hi, hz', hzs, hroom, hbpos⟩
    split at hh
    · simp only [bindR_ok, must_ok, Bool.and_eq_true, beq_true, room_ok] at hh
      obtain ⟨_, ⟨rfl, rfl⟩, _, hrm, he⟩ := hh
      simp only [Except.ok.injEq, Prod.mk.injEq] at he
      obtain ⟨rfl, rfl⟩ := he
      cases hs
      have := append_new (ty := ty) (base := none) (sCap := 0) (olds := []) (old := []) hr hrm f h0 h1 hlen hrun (fun w' _ => by simp [Builtin.firstCells]) (by omega) .nil hvn (by simp) (by rw [← hvn.1]; exact hln)
      simpa using this
    · exact appendAt_sound hr f hpos (by omega) h0 h1 hs hlen hrun hvn hcell hln hh

theorem copyV_sound (hr : HR ρ h w) {argTypes : Array TypeId} {ty : TypeId} {args cargs : List Value} {v : Value} (ha : VL ρ args cargs) (hh : copyV P h argTypes args = .ok (v, h')) :
    Out P ρ h w (Builtin.copy_ argTypes ty cargs.toArray) v h' := by
  unfold copyV at hh
  split at hh
  case h_2 => cases hh
  rename_i base dLen dCap src
  obtain ⟨cs, rest, rfl, hs, hrest⟩ := ha.cases_cons
  obtain ⟨cx, rest', rfl, hx, hrest'⟩ := hrest.cases_cons
  obtain rfl := hrest'.cases_nil
  simp only [bindR_ok, ofOpt_ok] at hh
  obtain ⟨dType, h0, d, hd, hh⟩ := hh
  split at hh
  case h_2 => cases hh
  rename_i e
  simp only [bindR_ok] at hh
  obtain ⟨size, hsize, n, hn, new, hnew, hh⟩ := hh
  obtain ⟨news, hrun, hvn⟩ := readCells_sound (P := P) hr hx ⟨n, hn, Nat.min_le_left _ _⟩ hnew
  have hlen := lenOf_sound (P := P) (w := w) hx hn
  have hrun' := hrun w rfl
  have hd' := run_under (w := w) hd
  have hs' := run_sizeOf (w := w) hsize
  have hgo : ∀ (b : Option Addr) (c : Nat) (w' : World), (match b with | some a => Go.storeCells a news | none => pure () : Sem Unit).run P w = .ok () w' →
      (Builtin.copy_ argTypes ty #[.slice b dLen c, cx]).run P w = .ok (.int .i64 (Nat.min n dLen)) w' := by
    intro b c w' hst
    cases b with
    | none => simp only [Sem.run_pure, Result.ok.injEq, true_and] at hst; subst hst; simp [Builtin.copy_, h0, hd', hlen, hs', hrun', goInt]
    | some a => simp only [] at hst; simp [Builtin.copy_, h0, hd', hlen, hs', hrun', hst, goInt]
  show Out P ρ h w (Builtin.copy_ argTypes ty #[cs, cx]) v h'
  split at hh
  · simp only [Except.ok.injEq, Prod.mk.injEq] at hh
    obtain ⟨rfl, rfl⟩ := hh
    cases hs
    exact ⟨_, w, ρ, hgo _ _ w rfl, .int _ _, .refl hr⟩
  · simp only [Except.ok.injEq, Prod.mk.injEq] at hh
    obtain ⟨rfl, rfl⟩ := hh
    obtain rfl := hvn.cases_nil
    cases hs with
    | slice hl hc => exact ⟨_, w, ρ, hgo _ _ w rfl, .int _ _, .refl hr⟩
    | sliceU hl hc hn' ho => exact ⟨_, w, ρ, hgo _ _ w rfl, .int _ _, .refl hr⟩
  · rename_i b off hne
    simp only [bindR_ok] at hh
    obtain ⟨h1, hst, he⟩ := hh
    simp only [Except.ok.injEq, Prod.mk.injEq] at he
    obtain ⟨rfl, rfl⟩ := he
    cases hs with
    | slice hl hc =>
      obtain ⟨w', hw', hp⟩ := storeCells_sound (P := P) hr hl hvn hst
      exact ⟨_, w', ρ, hgo _ _ w' hw', .int _ _, hp⟩
    | sliceU hl hc hn' ho =>
      rename_i o' c' l
      rcases ho with ⟨rfl, _⟩ | ⟨e1, e2, _⟩
      · obtain ⟨w', hw', hp⟩ := storeCells_sound (P := P) hr hl hvn hst
        exact ⟨_, w', ρ, hgo _ _ w' hw', .int _ _, hp⟩
      · -- nothing is copied into an empty slice
        exfalso
        subst e1
        have hm0 : Nat.min n 0 = 0 := Nat.min_zero n
        rw [hm0] at hnew
        exact hne (readCells_zero hnew)
  · cases hh

theorem zeroCells_plain {z : Array Value} {n : Nat} (hz : ∀ v ∈ z.toList, Pl v) : ∀ v ∈ (Builtin.zeroCells z n).toList, Pl v := by
  intro v hv
  simp only [Builtin.zeroCells, Array.toList_map, List.mem_map, Array.toList_range, List.mem_range] at hv
  obtain ⟨i, hi, rfl⟩ := hv
  have hs : 0 < z.size := by
    rcases Nat.eq_zero_or_pos z.size with h | h
    · rw [h] at hi; simp at hi
    · exact h
  have hlt : i % z.size < z.size := Nat.mod_lt _ hs
  refine hz _ ?_
  rw [getElem!_pos z _ hlt]
  simp
theorem clearV_sound (hr : HR ρ h w) {argTypes : Array TypeId} {ty : TypeId} {args cargs : List Value} (ha : VL ρ args cargs) (hh : clearV P h argTypes args = .ok h') :
    Out P ρ h w (Builtin.clear_ argTypes ty cargs.toArray) (.tuple #[]) h' := by
  unfold clearV at hh
  split at hh
  case h_2 => cases hh
  rename_i base n cap
  obtain ⟨cs, rest, rfl, hs, hrest⟩ := ha.cases_cons
  obtain rfl := hrest.cases_nil
  simp only [bindR_ok, ofOpt_ok] at hh
  obtain ⟨t, h0, d, hd, hh⟩ := hh
  split at hh
  case h_2 => cases hh
  rename_i e
  have hd' := run_under (w := w) hd
  show Out P ρ h w (Builtin.clear_ argTypes ty #[cs]) (.tuple #[]) h'
  split at hh
  · cases hh
    cases hs with
    | nilSlice => exact ⟨_, w, ρ, by simp [Builtin.clear_, h0, hd'], .tuple' .nil, .refl hr⟩
    | slice hl hc => exact ⟨_, w, ρ, by simp [Builtin.clear_, h0, hd'], .tuple' .nil, .refl hr⟩
    | sliceU hl hc hn' ho => exact ⟨_, w, ρ, by simp [Builtin.clear_, h0, hd'], .tuple' .nil, .refl hr⟩
  · rename_i b off hn0
    simp only [bindR_ok] at hh
    obtain ⟨z, hz, hst⟩ := hh
    have hn0 : n ≠ 0 := fun e => hn0 e
    have hzp : ∀ v ∈ (Builtin.zeroCells z.cells n).toList, Pl v := zeroCells_plain fun v hv => Pl.cells ⟨20, (tzero_ok hz).1⟩ v hv
    have hvl : VL ρ (Builtin.zeroCells z.cells n).toList (Builtin.zeroCells z.cells n).toList := ⟨rfl, fun i hi => (hzp _ (gl_mem hi)).refl⟩
    have hz' := run_zeroValue (P := P) (w := w) hz
    have key : ∀ (l : Loc), ρ b = some l → ∀ c', Out P ρ h w (Builtin.clear_ argTypes ty #[.slice (some ⟨l.blk, l.base + off, none⟩) n c']) (.tuple #[]) h' := by
      intro l hl c'
      obtain ⟨w', hw', hp⟩ := storeCells_sound (P := P) hr hl hvl hst
      refine ⟨_, w', ρ, ?_, .tuple' .nil, hp⟩
      obtain ⟨m, rfl⟩ : ∃ m, n = m + 1 := ⟨n - 1, by omega⟩
      simp [Builtin.clear_, h0, hd', hz', hw']
    cases hs with
    | slice hl hc => exact key _ hl _
    | sliceU hl hc hn' ho =>
      rcases ho with ⟨rfl, _⟩ | ⟨e1, e2, _⟩
      · exact key _ hl _
      · exact absurd e1 hn0
  · cases hh

/-! ### Lengths, capacities -/
theorem mapOf_sound (hr : HR ρ h w) {m : Option Nat} {cm : Value} {es : List MapEntry} (hm : VR ρ (.map m) cm) (hh : mapOf h (.map m) = .ok es) :
    (cm = .map none ∧ m = none ∧ es = []) ∨ ∃ r l es' clock, m = some r ∧ ρ r = some l ∧ cm = .map (some l.blk) ∧ h.get r = .map es clock ∧ w.heap[l.blk]? = some (.map es' clock) ∧ EL ρ es es'.toList := by
  cases hm with
  | nilMap => simp only [mapOf, Except.ok.injEq] at hh; exact .inl ⟨rfl, rfl, hh.symm⟩
  | map hl =>
    rename_i r l
    simp only [mapOf] at hh
    split at hh
    · rename_i es2 clock hg
      cases hh
      have hb := (hr.dom _ _ hl).2.2
      rw [hg] at hb
      obtain ⟨es', g1, g2⟩ := hb
      exact .inr ⟨r, l, es', clock, rfl, hl, rfl, hg, g1, g2⟩
    · cases hh

theorem run_getObj {r : Nat} {o : Obj} (ho : w.heap[r]? = some o) (hc : ∀ c e f, o ≠ .cells c e f) : (getObj r).run P w = .ok o w := by
  simp only [getObj, Sem.run, ho]

theorem lenV_sound (hr : HR ρ h w) {argTypes : Array TypeId} {ty : TypeId} {args cargs : List Value} {v : Value} (ha : VL ρ args cargs) (hh : lenV P h argTypes args = .ok v) :
    Same P ρ w (Builtin.len_ argTypes ty cargs.toArray) v := by
  unfold lenV at hh
  split at hh
  case h_2 => cases hh
  rename_i x
  obtain ⟨cx, rest, rfl, hx, hrest⟩ := ha.cases_cons
  obtain rfl := hrest.cases_nil
  simp only [bindR_ok, ofOpt_ok] at hh
  obtain ⟨t, h0, d, hd, hh⟩ := hh
  have hd' := run_under (w := w) hd
  show Same P ρ w (Builtin.len_ argTypes ty #[cx]) v
  split at hh
  · cases hh; cases hx; exact ⟨_, by simp [Builtin.len_, h0, hd']; rfl, .int _ _⟩
  · cases hh; exact ⟨_, by simp [Builtin.len_, h0, hd']; rfl, .int _ _⟩
  · cases hh
    cases hx <;> exact ⟨_, by simp [Builtin.len_, h0, hd']; rfl, .int _ _⟩
  · simp only [bindR_ok] at hh
    obtain ⟨es, hes, he⟩ := hh
    cases he
    cases x <;> simp only [mapOf, reduceCtorEq] at hes
    rename_i m
    rcases mapOf_sound hr hx hes with ⟨rfl, rfl, rfl⟩ | ⟨r, l, es', clock, rfl, hl, rfl, hg, hw, hE⟩
    · exact ⟨_, by simp [Builtin.len_, h0, hd']; rfl, .int _ _⟩
    · refine ⟨.int .i64 es'.size, ?_, ?_⟩
      · have := run_getObj (P := P) hw (by intro c e f; simp)
        simp [Builtin.len_, h0, hd', this, goInt]
      · have : es.length = es'.size := by simpa using hE.1
        rw [this]; exact .int _ _
  · cases hh

theorem capV_sound {argTypes : Array TypeId} {ty : TypeId} {args cargs : List Value} {v : Value} (ha : VL ρ args cargs) (hh : capV P argTypes args = .ok v) :
    Same P ρ w (Builtin.cap_ argTypes ty cargs.toArray) v := by
  unfold capV at hh
  split at hh
  case h_2 => cases hh
  rename_i b n c
  obtain ⟨cx, rest, rfl, hx, hrest⟩ := ha.cases_cons
  obtain rfl := hrest.cases_nil
  simp only [bindR_ok, ofOpt_ok] at hh
  obtain ⟨t, h0, d, hd, hh⟩ := hh
  have hd' := run_under (w := w) hd
  show Same P ρ w (Builtin.cap_ argTypes ty #[cx]) v
  split at hh
  case h_2 => cases hh
  simp only [bindR_ok, must_ok, blt_true] at hh
  obtain ⟨_, hc, he⟩ := hh
  cases he
  cases hx with
  | nilSlice => exact ⟨_, by simp [Builtin.cap_, h0, hd']; rfl, .int _ _⟩
  | slice hl hc' => exact ⟨_, by simp [Builtin.cap_, h0, hd']; rfl, .int _ _⟩
  | sliceU hl hc' hn ho => omega
end
end Go.AM
