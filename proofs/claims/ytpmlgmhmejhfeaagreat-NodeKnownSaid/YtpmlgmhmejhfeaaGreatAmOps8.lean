/- A part of the abstract machine: definitions and lemmas for all programs, no claim of its own; no condition. -/
import Derived.Test.YtpmlgmhmejhfeaaGreatAmOps7
set_option linter.unusedVariables false
set_option linter.unusedSimpArgs false
namespace Go.AM
open Go

section
variable {P : Program} {ρ : Ren} {h h' : Heap} {w : World}

theorem keyFits_sound {t : TypeId} {k ck : Value} (hk : VR ρ k ck) {u : Unit} (hh : keyFits P t k = .ok u) :
    ck = k ∧ (∀ b, (Instr.checkKey b 10000 t k).run P w = .ok () w) ∧ ∃ d, under P t = .ok d ∧
      ((∃ kd kk n, d = .int kd ∧ k = .int kk n) ∨ (∃ s, d = .string ∧ k = .string s) ∨ (∃ b, d = .bool ∧ k = .bool b)) := by
  simp only [keyFits, bindR_ok] at hh
  obtain ⟨d, hd, hh⟩ := hh
  have hrun : ∀ b, (match d, k with | .int _, .int _ _ | .string, .string _ | .bool, .bool _ => True | _, _ => False) → (Instr.checkKey b 10000 t k).run P w = .ok () w := by
    intro b hm
    show (Instr.checkKey b (9999 + 1) t k).run P w = .ok () w
    unfold Instr.checkKey
    simp only [Sem.run_bind, run_under hd, Result.andThen_ok]
    split at hm
    · simp
    · simp
    · simp
    · exact hm.elim
  split at hh
  · cases hk; exact ⟨rfl, fun b => hrun b trivial, _, hd, .inl ⟨_, _, _, rfl, rfl⟩⟩
  · cases hk; exact ⟨rfl, fun b => hrun b trivial, _, hd, .inr (.inl ⟨_, rfl, rfl⟩)⟩
  · cases hk; exact ⟨rfl, fun b => hrun b trivial, _, hd, .inr (.inr ⟨_, rfl, rfl⟩)⟩
  · cases hh

theorem EL.nil : EL ρ [] [] := ⟨rfl, fun i e h => by simp at h⟩
theorem EL.cases_nil {es : List MapEntry} (h : EL ρ [] es) : es = [] := by
  have := h.1; cases es with | nil => rfl | cons _ _ => simp at this
theorem EL.cases_cons {e : MapEntry} {es es' : List MapEntry} (h : EL ρ (e :: es) es') : ∃ e' es'', es' = e' :: es'' ∧ ER ρ e e' ∧ EL ρ es es'' := by
  cases es' with
  | nil => have := h.1; simp at this
  | cons e' es'' =>
    obtain ⟨e1, h1, h2⟩ := h.2 0 e (by simp)
    simp at h1; subst h1
    refine ⟨e', es'', rfl, h2, by simpa using h.1, fun i x hx => ?_⟩
    obtain ⟨y, hy, hr⟩ := h.2 (i + 1) x (by simpa using hx)
    exact ⟨y, by simpa using hy, hr⟩

theorem bytes_beq {a b : ByteArray} : (a == b) = true ↔ a = b := by
  show ByteArray.beq a b = true ↔ _
  unfold ByteArray.beq
  rw [beq_iff_eq]
  constructor
  · intro h; cases a; cases b; simp_all
  · intro h; rw [h]

theorem keyEq_sound {k x cx : Value} {d : TypeDesc} {b : Bool} (hd : (∃ kd kk n, d = .int kd ∧ k = .int kk n) ∨ (∃ s, d = .string ∧ k = .string s) ∨ (∃ b, d = .bool ∧ k = .bool b))
    (hx : VR ρ x cx) (hh : keyEq k x = .ok b) : Instr.sameNow d k cx = some b ∧ cx = x ∧ (b = true → x = k) := by
  rcases hd with ⟨kd, kk, n, rfl, rfl⟩ | ⟨s, rfl, rfl⟩ | ⟨b', rfl, rfl⟩
  · cases x <;> simp only [keyEq, reduceCtorEq] at hh
    simp only [bindR_ok, must_ok, decide_eq_true_eq, Except.ok.injEq] at hh
    obtain ⟨_, rfl, rfl⟩ := hh
    cases hx
    refine ⟨by simp [Instr.sameNow], rfl, fun e => ?_⟩
    simp at e; rw [e]
  · cases x <;> simp only [keyEq, reduceCtorEq] at hh
    simp only [Except.ok.injEq] at hh
    subst hh
    cases hx
    refine ⟨by simp [Instr.sameNow], rfl, fun e => ?_⟩
    rw [bytes_beq.1 e]
  · cases x <;> simp only [keyEq, reduceCtorEq] at hh
    simp only [Except.ok.injEq] at hh
    subst hh
    cases hx
    refine ⟨by simp [Instr.sameNow], rfl, fun e => ?_⟩
    simp at e; rw [e]

theorem findKey_sound {k : Value} {d : TypeDesc} (hd : (∃ kd kk n, d = .int kd ∧ k = .int kk n) ∨ (∃ s, d = .string ∧ k = .string s) ∨ (∃ b, d = .bool ∧ k = .bool b)) :
    ∀ (es es' : List MapEntry) (i : Nat) (r : Option (Nat × Value)), EL ρ es es' → findKey k es i = .ok r →
      (r = none ∧ Instr.findNow d k es' i = some none) ∨ ∃ j v cv e', r = some (i + j, v) ∧ Instr.findNow d k es' i = some (some (i + j, cv)) ∧ VR ρ v cv ∧ es'[j]? = some e' ∧ e'.key = k ∧ j < es.length
  | [], es', i, r, he, hh => by
    obtain rfl := he.cases_nil
    simp only [findKey, Except.ok.injEq] at hh
    exact .inl ⟨hh.symm, rfl⟩
  | e :: es, es', i, r, he, hh => by
    obtain ⟨e', es'', rfl, her, hes⟩ := he.cases_cons
    simp only [findKey, bindR_ok] at hh
    obtain ⟨b, hb, hh⟩ := hh
    obtain ⟨h1, h2, h3⟩ := keyEq_sound hd her.1 hb
    cases b with
    | true =>
      simp only [Except.ok.injEq] at hh
      subst hh
      refine .inr ⟨0, e.val, e'.val, e', rfl, ?_, her.2.1, rfl, by rw [h2, h3 rfl], by simp⟩
      simp [Instr.findNow, h1]
    | false =>
      rcases findKey_sound hd es es'' (i + 1) r hes hh with ⟨g1, g2⟩ | ⟨j, v, cv, x, g1, g2, g3, g4, g5, g6⟩
      · exact .inl ⟨g1, by simp [Instr.findNow, h1, g2]⟩
      · refine .inr ⟨j + 1, v, cv, x, by rw [g1]; congr 2; omega, ?_, g3, by simpa using g4, g5, by simp; omega⟩
        simp only [Instr.findNow, h1, g2]
        congr 3; omega

theorem lookupV_sound (hr : HR ρ h w) {t : TypeId} {m cm k ck v : Value} {ok : Bool} (hm : VR ρ m cm) (hk : VR ρ k ck) (hh : lookupV P h t m k ok = .ok v) :
    Same P ρ w (Instr.lookup t cm ck ok) v := by
  simp only [lookupV, bindR_ok] at hh
  obtain ⟨d, hd, hh⟩ := hh
  split at hh
  case h_2 => cases hh
  rename_i key e
  simp only [bindR_ok] at hh
  obtain ⟨u, hu, es, hes, r, hrr, z, hz, he⟩ := hh
  obtain ⟨rfl, hck, kd, hkd, hkk⟩ := keyFits_sound (w := w) hk hu
  have hd' := run_under (w := w) hd
  have hzr := run_zeroValue (w := w) hz
  have hzp : VR ρ z z := (tzero_plain hz).refl
  have hkd' := run_under (w := w) hkd
  have hkey : ∀ es' : Array MapEntry, EL ρ es es'.toList → ∃ c, VR ρ v c ∧ ((r = none ∧ (Instr.findKey key ck es'.toList).run P w = .ok none w ∧ c = if ok then .tuple #[z, .bool false] else z) ∨
      ∃ i cv, (Instr.findKey key ck es'.toList).run P w = .ok (some (i, cv)) w ∧ c = if ok then .tuple #[cv, .bool true] else cv) := by
    intro es' hE
    rcases findKey_sound hkk es es'.toList 0 r hE hrr with ⟨rfl, g2⟩ | ⟨j, v1, cv, x, rfl, g2, g3, g4, g5, g6⟩
    · refine ⟨if ok then .tuple #[z, .bool false] else z, ?_, .inl ⟨rfl, by simp only [Instr.findKey, Sem.run_bind, hkd', Result.andThen_ok, g2, Sem.run_pure], rfl⟩⟩
      cases ok with
      | true => simp only [Except.ok.injEq] at he; subst he; exact .tuple' (.cons hzp (.cons (.bool _) .nil))
      | false => simp only [Except.ok.injEq] at he; subst he; exact hzp
    · refine ⟨if ok then .tuple #[cv, .bool true] else cv, ?_, .inr ⟨0 + j, cv, by simp only [Instr.findKey, Sem.run_bind, hkd', Result.andThen_ok, g2, Sem.run_pure], rfl⟩⟩
      cases ok with
      | true => simp only [Except.ok.injEq] at he; subst he; exact .tuple' (.cons g3 (.cons (.bool _) .nil))
      | false => simp only [Except.ok.injEq] at he; subst he; exact g3
  cases m <;> simp only [mapOf, reduceCtorEq] at hes
  rename_i m
  rcases mapOf_sound hr hm hes with ⟨rfl, rfl, rfl⟩ | ⟨mr, l, es', clock, rfl, hl, rfl, hg, hw, hE⟩
  · obtain ⟨c, h1, ⟨rfl, h2, h3⟩ | ⟨i, cv, h2, h3⟩⟩ := hkey #[] .nil
    · have h2' : (Instr.findKey key ck []).run P w = .ok none w := h2
      exact ⟨c, by rw [h3]; simp [Instr.lookup, hd', hck, h2', hzr], h1⟩
    · have h2' : (Instr.findKey key ck []).run P w = .ok (some (i, cv)) w := h2
      exact ⟨c, by rw [h3]; simp [Instr.lookup, hd', hck, h2'], h1⟩
  · have hg' := run_getObj (P := P) hw (by intro c e f; simp)
    obtain ⟨c, h1, ⟨rfl, h2, h3⟩ | ⟨i, cv, h2, h3⟩⟩ := hkey es' hE
    · exact ⟨c, by rw [h3]; simp [Instr.lookup, hd', hg', hck, h2, hzr], h1⟩
    · exact ⟨c, by rw [h3]; simp [Instr.lookup, hd', hg', hck, h2], h1⟩

/-! ### Maps that are written -/
def World.setBlk (w : World) (r : Nat) (o : Obj) : World := { w with heap := w.heap.setIfInBounds r o }
theorem At1.setBlk (r : Nat) (o : Obj) : At1 r w (World.setBlk w r o) :=
  ⟨by simp [World.setBlk], fun d hd => by simp only [World.setBlk]; exact Array.getElem?_setIfInBounds_ne (fun e => hd e.symm), rfl, rfl, rfl⟩
theorem setBlk_heap {r : Nat} {o : Obj} (hr : r < w.heap.size) : (World.setBlk w r o).heap[r]? = some o := by
  simp only [World.setBlk]; exact Array.getElem?_setIfInBounds_self_of_lt hr
theorem run_setObj {r : Nat} {o o' : Obj} (ho : w.heap[r]? = some o) (hc : ∀ c e f, o ≠ .cells c e f) : (setObj r o').run P w = .ok () (World.setBlk w r o') := by
  simp only [setObj, Sem.run, ho, World.setBlk]

theorem ER.mono' {e e' : MapEntry} (h : ER ρ e e') : VR ρ e.val e'.val := h.2.1

theorem EL.modify {es es' : List MapEntry} (he : EL ρ es es') (i : Nat) {k x cx : Value} (hk : VR ρ k k) (hx : VR ρ x cx) :
    EL ρ (es.modify i fun e => { e with key := k, val := x }) (es'.modify i fun e => { e with key := k, val := cx }) := by
  refine ⟨by simp [he.1], fun j e hj => ?_⟩
  rw [List.getElem?_modify] at hj ⊢
  cases hg : es[j]? with
  | none => rw [hg] at hj; simp at hj
  | some a =>
    obtain ⟨b, hb, hab⟩ := he.2 j a hg
    rw [hg] at hj
    rw [hb]
    by_cases hij : i = j
    · simp only [hij, if_true, Option.map_eq_map, Option.map_some, Option.some.injEq] at hj ⊢
      subst hj
      exact ⟨_, rfl, hk, hx, hab.2.2⟩
    · simp only [hij, if_false, Option.map_eq_map, Option.map_some, Option.some.injEq, id_eq] at hj ⊢
      subst hj
      exact ⟨b, rfl, hab⟩

theorem EL.append {es es' : List MapEntry} (he : EL ρ es es') {a b : MapEntry} (hab : ER ρ a b) : EL ρ (es ++ [a]) (es' ++ [b]) := by
  refine ⟨by simp [he.1], fun j e hj => ?_⟩
  rw [List.getElem?_append] at hj ⊢
  rw [← he.1]
  by_cases hlt : j < es.length
  · rw [if_pos hlt] at hj ⊢; exact he.2 j e hj
  · rw [if_neg hlt] at hj ⊢
    cases hjj : j - es.length with
    | zero => rw [hjj] at hj; simp at hj; subst hj; exact ⟨b, by simp, hab⟩
    | succ n => rw [hjj] at hj; simp at hj

theorem EL.erase {es es' : List MapEntry} (he : EL ρ es es') (i : Nat) : EL ρ (es.eraseIdx i) (es'.eraseIdx i) := by
  refine ⟨by simp [List.length_eraseIdx, he.1], fun j e hj => ?_⟩
  rw [List.getElem?_eraseIdx] at hj ⊢
  split at hj
  · rename_i hlt; rw [if_pos hlt]; exact he.2 j e hj
  · rename_i hlt; rw [if_neg hlt]; exact he.2 _ e hj

theorem sameBits_key {k : Value} {d : TypeDesc} (hd : (∃ kd kk n, d = .int kd ∧ k = .int kk n) ∨ (∃ s, d = .string ∧ k = .string s) ∨ (∃ b, d = .bool ∧ k = .bool b)) : Instr.sameBits 10000 k k = true := by
  rcases hd with ⟨kd, kk, n, rfl, rfl⟩ | ⟨s, rfl, rfl⟩ | ⟨b', rfl, rfl⟩ <;> simp [Instr.sameBits, bytes_beq]

theorem key_low {m : Nat} {k : Value} {d : TypeDesc} (hd : (∃ kd kk n, d = .int kd ∧ k = .int kk n) ∨ (∃ s, d = .string ∧ k = .string s) ∨ (∃ b, d = .bool ∧ k = .bool b)) : Low m k := by
  rcases hd with ⟨kd, kk, n, rfl, rfl⟩ | ⟨s, rfl, rfl⟩ | ⟨b', rfl, rfl⟩ <;> exact Low.plain (f := 1) rfl

theorem updateV_sound (hr : HR ρ h w) {t : TypeId} {m cm k ck x cx : Value} (hm : VR ρ m cm) (hk : VR ρ k ck) (hx : VR ρ x cx) (hh : updateV P h t m k x = .ok h') :
    ∃ w', (Instr.mapUpdate t cm ck cx).run P w = .ok () w' ∧ Post ρ h w ρ h' w' := by
  simp only [updateV, bindR_ok] at hh
  obtain ⟨d, hd, hh⟩ := hh
  split at hh
  case h_2 => cases hh
  rename_i key e r
  simp only [bindR_ok] at hh
  obtain ⟨u, hu, hh⟩ := hh
  split at hh
  case h_2 => cases hh
  rename_i es clock hg
  simp only [bindR_ok] at hh
  obtain ⟨f, hf, hh⟩ := hh
  have hkr := hk
  obtain ⟨rfl, hck, kd, hkd, hkk⟩ := keyFits_sound (w := w) hk hu
  have hd' := run_under (w := w) hd
  have hkd' := run_under (w := w) hkd
  cases hm
  rename_i l hl
  have hb := (hr.dom _ _ hl).2.2
  have hlt := (hr.dom _ _ hl).2.1
  rw [hg] at hb
  obtain ⟨es', hw, hE⟩ := hb
  have hgo := run_getObj (P := P) hw (by intro c e f; simp)
  have how : owned (h.get r) = true := by rw [hg]; rfl
  rcases findKey_sound hkk es es'.toList 0 f hE hf with ⟨rfl, g2⟩ | ⟨j, v1, cv, y, rfl, g2, g3, g4, g5, g6⟩
  · cases hh
    have hfr : (Instr.findKey key ck es'.toList).run P w = .ok none w := by simp only [Instr.findKey, Sem.run_bind, hkd', Result.andThen_ok, g2, Sem.run_pure]
    refine ⟨World.setBlk w l.blk (.map (es'.push { key := ck, val := cx, born := clock }) (clock + 1)), ?_, ?_⟩
    · have hso := run_setObj (P := P) (o' := .map (es'.push { key := ck, val := cx, born := clock }) (clock + 1)) hw (by intro c e f; simp)
      simp [Instr.mapUpdate, hd', hgo, hck, hfr, hso]
    · refine Post.write hr hl how (At1.setBlk _ _) ⟨_, setBlk_heap hlt, ?_⟩ ?_
      · rw [Array.toList_push]
        exact hE.append ⟨hkr, hx, rfl⟩
      · intro m' hm' hbig hlow
        rw [hg] at hlow
        intro e he
        rcases List.mem_append.1 he with he | he
        · exact hlow e he
        · rw [List.mem_singleton] at he
          subst he
          exact ⟨key_low hkk, Low.of_ids hx hbig hm'⟩
  · cases hh
    simp only [Nat.zero_add] at g2 ⊢
    have hfr : (Instr.findKey key ck es'.toList).run P w = .ok (some (j, cv)) w := by simp only [Instr.findKey, Sem.run_bind, hkd', Result.andThen_ok, g2, Sem.run_pure]
    have g4' : es'[j]? = some y := by simpa using g4
    have hks : (Instr.keyThatStays (((es'[j]?).map (·.key)).getD ck) ck).run P w = .ok ck w := by
      rw [g4']
      simp [Instr.keyThatStays, g5, sameBits_key hkk]
    refine ⟨World.setBlk w l.blk (.map (es'.modify j fun e => { e with key := ck, val := cx }) clock), ?_, ?_⟩
    · have hso := run_setObj (P := P) (o' := .map (es'.modify j fun e => { e with key := ck, val := cx }) clock) hw (by intro c e f; simp)
      simp only [Instr.mapUpdate, Sem.run_bind, hd', Result.andThen_ok, hgo, hck, hfr, hks, hso]
    · refine Post.write hr hl how (At1.setBlk _ _) ⟨_, setBlk_heap hlt, ?_⟩ ?_
      · rw [Array.toList_modify]
        exact hE.modify j hkr hx
      · intro m' hm' hbig hlow
        rw [hg] at hlow
        intro e he
        obtain ⟨i, hi⟩ := List.mem_iff_getElem?.1 he
        rw [List.getElem?_modify] at hi
        cases hgi : es[i]? with
        | none => rw [hgi] at hi; simp at hi
        | some a =>
          rw [hgi] at hi
          have ha := hlow a (List.mem_of_getElem? hgi)
          by_cases hij : j = i
          · simp only [hij, if_true, Option.map_eq_map, Option.map_some, Option.some.injEq] at hi
            subst hi
            exact ⟨key_low hkk, Low.of_ids hx hbig hm'⟩
          · simp only [hij, if_false, Option.map_eq_map, Option.map_some, Option.some.injEq] at hi
            have hi : a = e := by simpa using hi
            subst hi; exact ha

theorem deleteV_sound (hr : HR ρ h w) {argTypes : Array TypeId} {ty : TypeId} {args cargs : List Value} (ha : VL ρ args cargs) (hh : deleteV P h argTypes args = .ok h') :
    ∃ w', (Builtin.delete_ argTypes ty cargs.toArray).run P w = .ok (.tuple #[]) w' ∧ Post ρ h w ρ h' w' := by
  unfold deleteV at hh
  split at hh
  case h_2 => cases hh
  rename_i m k
  obtain ⟨cm, rest, rfl, hm, hrest⟩ := ha.cases_cons
  obtain ⟨ck, rest', rfl, hk, hrest'⟩ := hrest.cases_cons
  obtain rfl := hrest'.cases_nil
  simp only [bindR_ok, ofOpt_ok] at hh
  obtain ⟨t, h0, d, hd, hh⟩ := hh
  have hd' := run_under (w := w) hd
  show ∃ w', (Builtin.delete_ argTypes ty #[cm, ck]).run P w = .ok (.tuple #[]) w' ∧ Post ρ h w ρ h' w'
  split at hh
  · simp only [bindR_ok] at hh
    obtain ⟨u, hu, he⟩ := hh
    cases he
    obtain ⟨rfl, hck, kd, hkd, hkk⟩ := keyFits_sound (w := w) hk hu
    cases hm
    exact ⟨w, by simp [Builtin.delete_, h0, hd', hck], .refl hr⟩
  · rename_i key e r
    simp only [bindR_ok] at hh
    obtain ⟨u, hu, hh⟩ := hh
    obtain ⟨rfl, hck, kd, hkd, hkk⟩ := keyFits_sound (w := w) hk hu
    have hkd' := run_under (w := w) hkd
    split at hh
    case h_2 => cases hh
    rename_i es clock hg
    simp only [bindR_ok] at hh
    obtain ⟨f, hf, hh⟩ := hh
    cases hm
    rename_i l hl
    have hb := (hr.dom _ _ hl).2.2
    have hlt := (hr.dom _ _ hl).2.1
    rw [hg] at hb
    obtain ⟨es', hw, hE⟩ := hb
    have hgo := run_getObj (P := P) hw (by intro c e f; simp)
    have how : owned (h.get r) = true := by rw [hg]; rfl
    rcases findKey_sound hkk es es'.toList 0 f hE hf with ⟨rfl, g2⟩ | ⟨j, v1, cv, y, rfl, g2, g3, g4, g5, g6⟩
    · cases hh
      have hfr : (Instr.findKey key ck es'.toList).run P w = .ok none w := by simp only [Instr.findKey, Sem.run_bind, hkd', Result.andThen_ok, g2, Sem.run_pure]
      refine ⟨World.setBlk w l.blk (.map es' clock), ?_, ?_⟩
      · have hso := run_setObj (P := P) (o' := .map es' clock) hw (by intro c e f; simp)
        simp [Builtin.delete_, h0, hd', hgo, hck, hfr, hso]
      · exact Post.write hr hl how (At1.setBlk _ _) ⟨_, setBlk_heap hlt, hE⟩ (fun m' _ _ hlow => by rw [hg] at hlow; exact hlow)
    · cases hh
      simp only [Nat.zero_add] at g2 ⊢
      have hfr : (Instr.findKey key ck es'.toList).run P w = .ok (some (j, cv)) w := by simp only [Instr.findKey, Sem.run_bind, hkd', Result.andThen_ok, g2, Sem.run_pure]
      refine ⟨World.setBlk w l.blk (.map (es'.eraseIdxIfInBounds j) clock), ?_, ?_⟩
      · have hso := run_setObj (P := P) (o' := .map (es'.eraseIdxIfInBounds j) clock) hw (by intro c e f; simp)
        simp [Builtin.delete_, h0, hd', hgo, hck, hfr, hso]
      · refine Post.write hr hl how (At1.setBlk _ _) ⟨_, setBlk_heap hlt, ?_⟩ (fun m' _ _ hlow => by
          rw [hg] at hlow
          exact fun e he => hlow e (List.mem_of_mem_eraseIdx he))
        have : (es'.eraseIdxIfInBounds j).toList = es'.toList.eraseIdx j := by
          have hj : j < es'.size := by have := (List.getElem?_eq_some_iff.1 g4).1; simpa using this
          simp [Array.eraseIdxIfInBounds, hj]
        rw [this]
        exact hE.erase j
  · cases hh
end
end Go.AM
