/- A part of the abstract machine: definitions and lemmas for all programs, no claim of its own; no condition. -/
import Derived.Test.YtpmlgmhmejhfeaaGreatAmAny
import Derived.TacticsIn
import Derived.RangeFuncNested
set_option linter.unusedVariables false
set_option linter.unusedSimpArgs false
namespace Go.AM
open Go

section
variable {P : Program} {r : Rec} {L N : Nat}

theorem opers_sound (hrec : RecSound P r) {β : Type} {ops : Array Oper} {k : Kont β} {res : β} : ∀ (os : List Oper) {t : Tmps} {h : Heap}, opers P r N ops os t h k = .ok res →
    ∀ {s : Nat} {ρ : Ren} {a : Act} {w : World} {rd : Option Nat} {F : Fence} {n : Nat}, FR ρ rd F → a.tmps.size = N → TR ρ t a.tmps → HR ρ h w → DR s ρ h w a.defers →
    ∀ {Q : Exit → Act → World → Prop}, (∀ e t' h' ρ' a' w', k e t' h' = .ok res → a'.tmps.size = N → TR ρ' t' a'.tmps → Post ρ h w ρ' h' w' → DR s ρ' h' w' a'.defers → Q (outOf e) a' w') →
    wpListIn F n P ops Q os a w := by
  intro os
  induction os with
  | nil =>
    intro t h hh s ρ a w rd F n hF hn ht hr hd Q hk
    exact hk .normal _ _ _ _ _ hh hn ht (.refl hr) hd
  | cons o os ih =>
    intro t h hh s ρ a w rd F n hF hn ht hr hd Q hk
    simp only [opers] at hh
    simp only [wpListIn, wanted_sound ht]
    cases hw : wanted ops o t with
    | true =>
      rw [hw] at hh
      rw [if_pos rfl]
      refine oper_sound hrec hh hF hn ht hr fun t' h' ρ' a' w' hk' hn' ht' p' hd' => ?_
      exact ih hk' (hF.mono (p'.sub hr)) hn' ht' p'.hr (hd' ▸ hd.post hr p') fun e t'' h'' ρ'' a'' w'' he hn'' ht'' p'' hd'' =>
        hk e t'' h'' ρ'' a'' w'' he hn'' ht'' (p'.trans p'') hd''
    | false =>
      rw [hw] at hh
      rw [if_neg (by simp)]
      have hp := put_sound (d := o.dst) hn ht (.undef ρ)
      refine ⟨fun f _ => by rw [hF.fn]; trivial, ih hh hF hp.2 hp.1 hr ?_ hk⟩
      cases o.dst <;> exact hd

/-- The loop over a function: laid, ended. -/
theorem rangeEnd_sound {β : Type} {l : Nat} {t : Tmps} {h : Heap} {k : Kont β} {res : β} (hh : rangeEnd l t h k = .ok res)
    {s : Nat} {ρ : Ren} {a : Act} {w : World} {loc : Loc} {F : Fence} {n : Nat} (hl : ρ l = some loc) (hn : a.tmps.size = N) (ht : TR ρ t a.tmps) (hr : HR ρ h w) (hd : DR s ρ h w a.defers)
    {Q : Exit → Act → World → Prop} (hk : ∀ e t' h' ρ' a' w', k e t' h' = .ok res → a'.tmps.size = N → TR ρ' t' a'.tmps → Post ρ h w ρ' h' w' → DR s ρ' h' w' a'.defers → Q (outOf e) a' w') (c : Value) :
    rangePost F n P loc.blk Q a (.returned c) w := by
  unfold rangeEnd at hh
  split at hh
  case h_2 => cases hh
  rename_i q hg
  have hb := (hr.dom _ _ hl).2.2
  rw [hg] at hb
  obtain ⟨q', ld, h1, h2, h3, h4, h5, h6, h7, h8, h9⟩ := hb
  have key : q.state ≠ .busy → Post ρ h w ρ (h.write l (.loop { q with state := .exhausted }) 0) (w.putObj loc.blk (.loop { q' with state := .exhausted })) := fun _ => by
    refine Post.write hr hl (by rw [hg]; rfl) (At1.setBlk _ _) ⟨_, ld, setBlk_heap (hr.dom _ _ hl).2.1, rfl, h3, h4, h5, h6, h7, h8, h9⟩ (fun m' _ _ hlow => ?_)
    rw [hg] at hlow; exact hlow
  split at hh
  · cases hh
  · rename_i hbusy
    have hb' : q'.state ≠ .busy := by rw [h2]; intro e; exact hbusy e
    have hpost := key (by rw [← h2]; exact hb')
    have hrun := run_endLoop (P := P) h1 hb'
    generalize w.putObj loc.blk (.loop { q' with state := .exhausted }) = w₄ at hrun hpost
    have hd' := hd.post hr hpost
    rw [h3] at hrun
    refine ⟨_, _, hrun, ?_⟩
    split at hh
    · rename_i hp; rw [hp]; exact hk _ _ _ _ _ _ hh hn ht hpost hd'
    · rename_i hp; rw [hp]; exact wpIn_ret (hk _ _ _ _ _ _ hh hn ht hpost hd')
    · rename_i hp; rw [hp]; exact wpIn_exit (hk _ _ _ _ _ _ hh hn ht hpost hd')
    · rename_i hp; rw [hp]; exact wpIn_goto (hk _ _ _ _ _ _ hh hn ht hpost hd')
    · cases hh

theorem rangeCall_sound (hrec : RecSound P r) {β : Type} {g : Value} {l : Nat} {t : Tmps} {h : Heap} {k : Kont β} {res : β} (hh : AM.rangeCall P r g l t h k = .ok res)
    {s : Nat} {ρ : Ren} {a : Act} {w : World} {loc : Loc} {rd : Option Nat} {F : Fence} {n : Nat} {go : Operand} (hF : FR ρ rd F) (hg : VR ρ g (a.eval go)) (hl : ρ l = some loc) (hn : a.tmps.size = N)
    (ht : TR ρ t a.tmps) (hr : HR ρ h w) (hd : DR s ρ h w a.defers)
    {Q : Exit → Act → World → Prop} (hk : ∀ e t' h' ρ' a' w', k e t' h' = .ok res → a'.tmps.size = N → TR ρ' t' a'.tmps → Post ρ h w ρ' h' w' → DR s ρ' h' w' a'.defers → Q (outOf e) a' w') :
    ∃ (d : Deferred) (w₁' : World) (f : FuncId) (args : Array Value) (w₂ : World),
      (resolve a.eval (Go.rangeCall go loc.blk) 0).run P w = .ok d w₁' ∧
      (∀ f', Target.leads P w₁' d.target d.args = some f' → F.fn f') ∧
      (invoke d.target d.args).run P w₁' = .ok (.enter f args) w₂ ∧
      (F.depth.isSome = true → 1 ≤ n) ∧
      CallsIn F (n - 1) P f args w₂ (rangePost F n P loc.blk Q a) := by
  unfold AM.rangeCall at hh
  simp only [bindR_ok] at hh
  obtain ⟨td, hi, hh⟩ := hh
  have hinv := invokeV_sound (h := h) (w := w) (cargs := [.func (.yield loc.blk) #[] #[]]) hg (.cons (.yield hl) .nil) hi
  split at hh
  case h_2 => cases hh
  rename_i f args
  simp only [bindR_ok] at hh
  obtain ⟨⟨v, h'⟩, hc, hh⟩ := hh
  obtain ⟨cargs, h1, h2⟩ := hinv
  have hres : resolve a.eval (Go.rangeCall go loc.blk) 0 = Deferred.ofValue (a.eval go) [Value.func (.yield loc.blk) #[] #[]].toArray := by
    simp [resolve, Act.eval]
  have hrun : ∃ d, (Deferred.ofValue (a.eval go) [Value.func (.yield loc.blk) #[] #[]].toArray).run P w = .ok d w ∧ (invoke d.target d.args).run P w = .ok (.enter f cargs) w := by
    unfold invokeV at hi
    split at hi
    · rename_i g' first captured
      generalize hx : a.eval go = cg at hg h1
      cases hg
      simp only [Deferred.ofValue, Sem.run_bind, Sem.run_pure, Result.andThen_ok] at h1 ⊢
      exact ⟨_, rfl, h1⟩
    · simp only [Except.ok.injEq] at hi; cases hi
    · cases hi
  obtain ⟨d, hd1, hd2⟩ := hrun
  refine ⟨d, w, f, cargs, w, by rw [hres]; exact hd1, fun f' _ => by rw [hF.fn]; trivial, hd2, (fun e => by rw [hF.depth] at e; cases e), ?_⟩
  refine (hF.calls (hrec.call hc hr h2 (n - 1))).mono fun e w' ⟨c, ρ', he, hv, hp⟩ => ?_
  subst he
  exact rangeEnd_sound (N := N) hh (hp.sub hr _ _ hl) hn (ht.mono (hp.sub hr)) hp.hr (hd.post hr hp)
    (fun e t' h' ρ'' a' w'' he hn' ht' hp' hd' => hk e t' h' ρ'' a' w'' he hn' ht' (hp.trans hp') hd') c

theorem rangeK_sound (hrec : RecSound P r) {β : Type} {g : Operand} {ps : Array Tmp} {assign body : Code} {t : Tmps} {h : Heap} {rd : Option Nat} {k : Kont β} {res : β}
    (hh : rangeK P r N g ps assign body t h rd k = .ok res)
    {s : Nat} {ρ : Ren} {a : Act} {w : World} {F : Fence} {n : Nat} (hF : FR ρ rd F) (hn : a.tmps.size = N) (ht : TR ρ t a.tmps) (hr : HR ρ h w) (hd : DR s ρ h w a.defers)
    {Q : Exit → Act → World → Prop} (hk : ∀ e t' h' ρ' a' w', k e t' h' = .ok res → a'.tmps.size = N → TR ρ' t' a'.tmps → Post ρ h w ρ' h' w' → DR s ρ' h' w' a'.defers → Q (outOf e) a' w') :
    (Code.rangeFunc g ps assign body).wpIn F n P Q a w := by
  unfold rangeK at hh
  simp only [bindR_ok] at hh
  obtain ⟨gv, hgv, hh⟩ := hh
  have hg := ev_sound (a := a) ht hgv
  refine wpIn_rangeFunc fun fn _ => ?_
  cases rd with
  | some l =>
    simp only [] at hh
    split at hh
    case h_2 => cases hh
    rename_i q hq
    simp only [bindR_ok, room_ok] at hh
    obtain ⟨_, hroom, hh⟩ := hh
    rcases hF with ⟨h0, _⟩ | ⟨l', loc, h0, hl, rfl⟩
    · cases h0
    cases h0
    have hb := (hr.dom _ _ hl).2.2
    rw [hq] at hb
    obtain ⟨q', ld, h1, h2, h3, h4, h5, h6, h7, h8, h9⟩ := hb
    have hp := new_obj hr hroom (.loop { state := .ready, pending := none, fn, tmps := a.tmps, params := ps, assign, body, defers := q'.defers })
      (.loop { state := .ready, pending := none, ntmps := N, tmps := t, params := ps, assign, body, defers := q.defers })
      (fun w' hw' => ⟨_, ld, hw', rfl, rfl, rfl, rfl, rfl, ⟨ht.mono (hr.sub_add _), hn⟩, hr.sub_add _ _ _ h8, h9⟩)
    have hF' : FR (ρ.add h.n ⟨w.heap.size, 0, 0, 0⟩) (some l) (Fence.wide.inRound loc.blk) := .inr ⟨l, loc, rfl, hr.sub_add _ _ _ hl, rfl⟩
    obtain ⟨d, w₁', f, args, w₂, g1, g2, g3, g4, g5⟩ := rangeCall_sound (N := N) (s := s) (a := a) (n := n) (go := g) (Q := Q) hrec hh hF' (hg.mono (hr.sub_add _)) Ren.add_same hn (ht.mono (hr.sub_add _)) hp.hr (hd.post hr hp)
      (fun e t' h' ρ'' a' w'' he hn' ht' hp' hd' => hk e t' h' ρ'' a' w'' he hn' ht' (hp.trans hp') hd')
    exact ⟨_, _, _, d, w₁', f, args, w₂, run_enterLoop_inner h1 fn a.tmps ps assign body, g1, g2, g3, g4, g5⟩
  | none =>
    simp only [bindR_ok, must_ok] at hh
    obtain ⟨_, hroom, hh⟩ := hh
    rcases hF with ⟨_, rfl⟩ | ⟨l', loc, h0, hl, rfl⟩
    case inr => cases h0
    have hroom := blt_true.1 hroom
    have hp := new_obj hr (by omega) (.deferred (some [])) .defs (fun w' hw' => ⟨_, hw'⟩)
    have hs1 := hr.sub_add ⟨w.heap.size, 0, 0, 0⟩
    have hp2 := new_obj hp.hr (by simp [Heap.put]; omega) (.loop { state := .ready, pending := none, fn, tmps := a.tmps, params := ps, assign, body, defers := w.heap.size })
      (.loop { state := .ready, pending := none, ntmps := N, tmps := t, params := ps, assign, body, defers := h.n })
      (fun w' hw' => ⟨_, ⟨w.heap.size, 0, 0, 0⟩, hw', rfl, rfl, rfl, rfl, rfl, ⟨(ht.mono hs1).mono (hp.hr.sub_add _), hn⟩, hp.hr.sub_add _ _ _ Ren.add_same, rfl⟩)
    have hs2 := hp.hr.sub_add ⟨({ w with heap := w.heap.push (.deferred (some [])) } : World).heap.size, 0, 0, 0⟩
    have hd1 : DR s (ρ.add h.n ⟨w.heap.size, 0, 0, 0⟩) (h.put .defs) { w with heap := w.heap.push (.deferred (some [])) } ([{ target := .collected w.heap.size, args := #[] }] ++ a.defers) := by
      have h0 := hd.post hr hp
      refine ⟨⟨h0.1.1, fun d hm => ?_⟩, ?_⟩
      · rcases List.mem_append.1 hm with hm | hm
        · obtain rfl := List.mem_singleton.1 hm
          exact ⟨h.n, _, Ren.add_same, by rw [get_put (by omega), if_pos rfl], hd.1.1, by simp, by simp, rfl⟩
        · exact h0.1.2 d hm
      · rw [List.singleton_append, List.nodup_cons]
        refine ⟨fun hm => ?_, h0.2⟩
        obtain ⟨i, l, e1, e2, e3, e4, e5, e6⟩ := hd.1.2 _ hm
        injection e6 with e7
        injection e7 with e8
        omega
    obtain ⟨d, w₁', f, args, w₂, g1, g2, g3, g4, g5⟩ := rangeCall_sound (N := N) (s := s) (a := { a with defers := [{ target := .collected w.heap.size, args := #[] }] ++ a.defers }) (n := n) (go := g) (Q := Q) hrec hh (.inl ⟨rfl, rfl⟩)
      ((hg.mono hs1).mono hs2) Ren.add_same hn ((ht.mono hs1).mono hs2) hp2.hr (hd1.post hp.hr hp2)
      (fun e t' h' ρ'' a' w'' he hn' ht' hp' hd' => hk e t' h' ρ'' a' w'' he hn' ht' ((hp.trans hp2).trans hp') hd')
    refine ⟨_, _, _, d, w₁', f, args, w₂, run_enterLoop_outer fn a.tmps ps assign body, ?_, g2, g3, g4, ?_⟩
    · have e : ({ w with heap := w.heap.push (.deferred (some [])) } : World).heap.size = w.heap.size + 1 := Array.size_push ..
      rw [← e]; exact g1
    · have e : ({ w with heap := w.heap.push (.deferred (some [])) } : World).heap.size = w.heap.size + 1 := Array.size_push ..
      rw [← e]; exact g5

theorem den_sound (hrec : RecSound P r) : ∀ (c : Code) {β : Type} {t : Tmps} {h : Heap} {rd : Option Nat} {k : Kont β} {res : β}, den P r L N rd c t h k = .ok res →
    ∀ {s : Nat} {ρ : Ren} {a : Act} {w : World} {F : Fence} {n : Nat}, FR ρ rd F → a.tmps.size = N → TR ρ t a.tmps → HR ρ h w → DR s ρ h w a.defers →
    ∀ {Q : Exit → Act → World → Prop}, (∀ e t' h' ρ' a' w', k e t' h' = .ok res → a'.tmps.size = N → TR ρ' t' a'.tmps → Post ρ h w ρ' h' w' → DR s ρ' h' w' a'.defers → Q (outOf e) a' w') →
    c.wpIn F n P Q a w := by
  intro c
  induction c with
  | skip => intro β t h rd k res hh s ρ a w F n hF hn ht hr hd Q hk; exact wpIn_skip (hk .normal _ _ _ _ _ hh hn ht (.refl hr) hd)
  | label l => intro β t h rd k res hh s ρ a w F n hF hn ht hr hd Q hk; exact wpIn_label (hk .normal _ _ _ _ _ hh hn ht (.refl hr) hd)
  | exit id => intro β t h rd k res hh s ρ a w F n hF hn ht hr hd Q hk; exact wpIn_exit (hk (.exit id) _ _ _ _ _ hh hn ht (.refl hr) hd)
  | goto l => intro β t h rd k res hh s ρ a w F n hF hn ht hr hd Q hk; exact wpIn_goto (hk (.goto l) _ _ _ _ _ hh hn ht (.refl hr) hd)
  | ret => intro β t h rd k res hh s ρ a w F n hF hn ht hr hd Q hk; exact wpIn_ret (hk .ret _ _ _ _ _ hh hn ht (.refl hr) hd)
  | refuse m => intro β t h rd k res hh; simp [den] at hh
  | region id ops draws =>
    intro β t h rd k res hh s ρ a w F n hF hn ht hr hd Q hk
    cases draws with
    | false => exact wpIn_region_list (opers_sound hrec _ hh hF hn ht hr hd hk)
    | true => exact drawK_sound hrec hh hF hn ht hr hd hk
  | seq x y ihx ihy =>
    intro β t h rd k res hh s ρ a w F n hF hn ht hr hd Q hk
    refine wpIn_seq (ihx hh hF hn ht hr hd fun e t' h' ρ' a' w' he hn' ht' hp hd' => ?_)
    cases e with
    | normal => exact ihy he (hF.mono (hp.sub hr)) hn' ht' hp.hr hd' fun e t'' h'' ρ'' a'' w'' he' hn'' ht'' hp' hd'' => hk e _ _ _ _ _ he' hn'' ht'' (hp.trans hp') hd''
    | exit id => exact hk _ _ _ _ _ _ he hn' ht' hp hd'
    | goto l => exact hk _ _ _ _ _ _ he hn' ht' hp hd'
    | ret => exact hk _ _ _ _ _ _ he hn' ht' hp hd'
  | cond x y z ihy ihz =>
    intro β t h rd k res hh s ρ a w F n hF hn ht hr hd Q hk
    simp only [den, bindR_ok] at hh
    obtain ⟨c, hc, hh⟩ := hh
    have hv := ev_sound (a := a) ht hc
    generalize hx : a.eval x = cx at hv
    split at hh
    · cases hv; exact wpIn_cond_true hx (ihy hh hF hn ht hr hd hk)
    · cases hv; exact wpIn_cond_false hx (ihz hh hF hn ht hr hd hk)
    · cases hh
  | block id b ih =>
    intro β t h rd k res hh s ρ a w F n hF hn ht hr hd Q hk
    refine wpIn_block (ih hh hF hn ht hr hd fun e t' h' ρ' a' w' he hn' ht' hp hd' => ?_)
    cases e with
    | normal => exact hk .normal _ _ _ _ _ he hn' ht' hp hd'
    | exit i =>
      simp only [outOf, Exit.inBlock]
      simp only [] at he
      split at he
      · rename_i hb
        rw [if_pos (Nat.eq_of_beq_eq_true hb)]; exact hk .normal _ _ _ _ _ he hn' ht' hp hd'
      · rename_i hb
        rw [if_neg (fun e => by subst e; rw [Nat.beq_refl] at hb; cases hb)]; exact hk (.exit i) _ _ _ _ _ he hn' ht' hp hd'
    | goto l => exact hk (.goto l) _ _ _ _ _ he hn' ht' hp hd'
    | ret => exact hk .ret _ _ _ _ _ he hn' ht' hp hd'
  | loop b ih =>
    intro β t h rd k res hh s ρ a w F n hF hn ht hr hd Q hk
    simp only [den] at hh
    have key : ∀ m {t' h' ρ' a' w'}, loopK (fun t h k => den P r L N rd b t h k) m t' h' k = .ok res → a'.tmps.size = N → TR ρ' t' a'.tmps → Post ρ h w ρ' h' w' → DR s ρ' h' w' a'.defers → LoopIn F n P b Q a' w' := by
      intro m
      induction m with
      | zero => intro t' h' ρ' a' w' hh; simp [loopK] at hh
      | succ m ihm =>
        intro t' h' ρ' a' w' hh hn' ht' hp hd'
        refine loopIn_step (ih hh (hF.mono (hp.sub hr)) hn' ht' hp.hr hd' fun e t'' h'' ρ'' a'' w'' he hn'' ht'' hp' hd'' => ?_)
        cases e with
        | normal => exact ihm he hn'' ht'' (hp.trans hp') hd''
        | exit i => exact hk (.exit i) _ _ _ _ _ he hn'' ht'' (hp.trans hp') hd''
        | goto l => exact hk (.goto l) _ _ _ _ _ he hn'' ht'' (hp.trans hp') hd''
        | ret => exact hk .ret _ _ _ _ _ he hn'' ht'' (hp.trans hp') hd''
    exact wpIn_loop_of (key _ hh hn ht (.refl hr) hd)
  | scope b ih =>
    intro β t h rd k res hh s ρ a w F n hF hn ht hr hd Q hk
    simp only [den] at hh
    refine wpIn_scope_of (scopeIn_step (ih hh hF hn ht hr hd fun e t' h' ρ' a' w' he hn' ht' hp hd' => ?_))
    cases e with
    | normal => exact hk .normal _ _ _ _ _ he hn' ht' hp hd'
    | exit i => exact hk (.exit i) _ _ _ _ _ he hn' ht' hp hd'
    | ret => exact hk .ret _ _ _ _ _ he hn' ht' hp hd'
    | goto l =>
      simp only [bindR_ok] at he
      obtain ⟨⟨e', t'', h''⟩, ha, he⟩ := he
      exact hrec.again ha (hF.mono (hp.sub hr)) hn' ht' hp.hr hd' fun ρ'' a'' w'' hn'' ht'' hp' hd'' => hk e' _ _ _ _ _ he hn'' (ht''.cut hn'') (hp.trans hp') hd''
  | rangeFunc g ps assign body _ _ =>
    intro β t h rd k res hh s ρ a w F n hF hn ht hr hd Q hk
    exact rangeK_sound hrec hh hF hn ht hr hd hk
end
end Go.AM
