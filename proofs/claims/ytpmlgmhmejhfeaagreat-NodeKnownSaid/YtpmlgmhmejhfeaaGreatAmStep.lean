/- A part of the abstract machine: definitions and lemmas for all programs, no claim of its own; no condition. -/
import Derived.Test.YtpmlgmhmejhfeaaGreatAmOps9
set_option linter.unusedVariables false
set_option linter.unusedSimpArgs false
namespace Go.AM
open Go

section
variable {P : Program} {ρ : Ren} {h h' : Heap} {w : World} {t : Tmps} {a : Act}

theorem ev_sound {x : Operand} {v : Value} (ht : TR ρ t a.tmps) (hh : ev t x = .ok v) : VR ρ v (a.eval x) := by
  cases x with
  | tmp i => simp only [ev, Except.ok.injEq] at hh; subst hh; exact ht i
  | const c =>
    simp only [ev] at hh
    split at hh
    · rename_i hp; cases hh; exact plain_refl 20 _ hp
    · cases hh
  | global g => simp [ev] at hh
  | func f => simp only [ev, Except.ok.injEq] at hh; subst hh; exact .func' f .nil .nil

theorem evs_sound (ht : TR ρ t a.tmps) : ∀ (xs : List Operand) (vs : List Value), evs t xs = .ok vs → VL ρ vs (xs.map a.eval)
  | [], vs, hh => by simp only [evs, Except.ok.injEq] at hh; subst hh; exact .nil
  | x :: xs, vs, hh => by
    simp only [evs, bindR_ok] at hh
    obtain ⟨v, hv, vs', hvs, he⟩ := hh
    cases he
    exact .cons (ev_sound ht hv) (evs_sound ht xs vs' hvs)

theorem evo_sound (ht : TR ρ t a.tmps) {x : Option Operand} {v : Option Value} (hh : evo t x = .ok v) : VO ρ v (x.map a.eval) := by
  cases x with
  | none => simp only [evo, Except.ok.injEq] at hh; subst hh; trivial
  | some x =>
    simp only [evo, bindR_ok] at hh
    obtain ⟨c, hc, he⟩ := hh
    cases he
    exact ev_sound ht hc

theorem evp_sound (ht : TR ρ t a.tmps) : ∀ (xs : List (Nat × Operand)) (vs : List (Nat × Value)), evp t xs = .ok vs → PL ρ vs (xs.map fun p => (p.1, a.eval p.2))
  | [], vs, hh => by simp only [evp, Except.ok.injEq] at hh; subst hh; exact .nil
  | (i, x) :: xs, vs, hh => by
    simp only [evp, bindR_ok] at hh
    obtain ⟨v, hv, vs', hvs, he⟩ := hh
    cases he
    exact .cons (ev_sound ht hv) (evp_sound ht xs vs' hvs)

/-- What one operation of the abstract machine says of the program's. -/
def StepOk (P : Program) (ρ : Ren) (h : Heap) (w : World) (s : Sem Next) : Todo → Prop
  | .value v h' => ∃ c w' ρ', (s.run P w = .ok (.value c) w' ∨ (s.run P w = .ok .skip w' ∧ c = undef)) ∧ VR ρ' v c ∧ Post ρ h w ρ' h' w'
  | .enter f args => ∃ cargs, s.run P w = .ok (.enter f cargs) w ∧ VL ρ args.toList cargs.toList
  | .round l args => ∃ loc cargs, ρ l = some loc ∧ s.run P w = (Instr.yield loc.blk cargs).run P w ∧ VL ρ args.toList cargs.toList

theorem StepOk.val {s : Sem Next} {g : Sem Value} {r : R Value} {td : Todo} (hr : HR ρ h w) (hs : s = do pure (.value (← g))) (hh : val h r = .ok td) (hg : ∀ v, r = .ok v → Same P ρ w g v) : StepOk P ρ h w s td := by
  simp only [AM.val, bindR_ok] at hh
  obtain ⟨v, hv, he⟩ := hh
  cases he
  obtain ⟨c, h1, h2⟩ := hg v hv
  exact ⟨c, w, ρ, .inl (by rw [hs]; simp [h1]), h2, .refl hr⟩
theorem StepOk.valh {s : Sem Next} {g : Sem Value} {r : R (Value × Heap)} {td : Todo} (hs : s = do pure (.value (← g))) (hh : valh r = .ok td) (hg : ∀ v h', r = .ok (v, h') → Out P ρ h w g v h') : StepOk P ρ h w s td := by
  simp only [AM.valh, bindR_ok] at hh
  obtain ⟨⟨v, h'⟩, hv, he⟩ := hh
  cases he
  obtain ⟨c, w', ρ', h1, h2, h3⟩ := hg v h' hv
  exact ⟨c, w', ρ', .inl (by rw [hs]; simp [h1]), h2, h3⟩
theorem StepOk.valu {s : Sem Next} {g : Sem Unit} {r : R Heap} {td : Todo} (hs : s = do g; pure .skip) (hh : valu r = .ok td) (hg : ∀ h', r = .ok h' → ∃ w', g.run P w = .ok () w' ∧ Post ρ h w ρ h' w') : StepOk P ρ h w s td := by
  simp only [AM.valu, bindR_ok] at hh
  obtain ⟨h', hv, he⟩ := hh
  cases he
  obtain ⟨w', h1, h2⟩ := hg h' hv
  exact ⟨undef, w', ρ, .inr ⟨by rw [hs]; simp [h1], rfl⟩, .undef _, h2⟩

theorem callable_ok {f : FuncId} {u : Unit} (hh : callable P f = .ok u) : ∃ fn, P.funcs[f]? = some fn ∧ fn.body.isSome = true ∧ (fn.name == "runtime.NumGoroutine") = false := by
  simp only [callable, bindR_ok, ofOpt_ok, must_ok, Bool.and_eq_true, Bool.not_eq_true'] at hh
  obtain ⟨fn, h1, h2, h3⟩ := hh
  exact ⟨fn, h1, h2, h3⟩

theorem run_callFunc {f : FuncId} {u : Unit} (hh : callable P f = .ok u) (args : Array Value) : (callFunc f args).run P w = .ok (.enter f args) w := by
  obtain ⟨fn, h1, h2, h3⟩ := callable_ok hh
  have h4 : ¬ fn.body = none := by cases hb : fn.body <;> simp_all
  have h3' : ¬ fn.name = "runtime.NumGoroutine" := by simpa using h3
  simp [callFunc, h1, h3', h4]

theorem invokeV_sound {f cf : Value} {args cargs : List Value} {td : Todo} (hf : VR ρ f cf) (ha : VL ρ args cargs) (hh : invokeV P f args = .ok td) :
    StepOk P ρ h w (do let d ← Deferred.ofValue cf cargs.toArray; invoke d.target d.args) td := by
  unfold invokeV at hh
  split at hh
  · rename_i g first captured
    simp only [bindR_ok] at hh
    obtain ⟨u, hu, he⟩ := hh
    cases he
    cases hf
    rename_i bs ds h1 h2 h3 h4
    refine ⟨(bs ++ cargs.toArray) ++ ds, ?_, ?_⟩
    · simp only [Deferred.ofValue, Sem.run_bind, Sem.run_pure, Result.andThen_ok, invoke]
      exact run_callFunc hu _
    · have hb : VL ρ first.toList bs.toList := ⟨by simpa using h1, fun i hi => h2 i (by simpa using hi)⟩
      have hd : VL ρ captured.toList ds.toList := ⟨by simpa using h3, fun i hi => h4 i (by simpa using hi)⟩
      simpa using (hb.append ha).append hd
  · rename_i l
    cases hh
    cases hf
    rename_i p hp
    refine ⟨p, cargs.toArray, hp, ?_, by simpa using ha⟩
    simp [Deferred.ofValue, invoke]
  · cases hh

theorem builtinV_sound (hr : HR ρ h w) {b : Builtin} {argTypes : Array TypeId} {ty : TypeId} {consts : Array Bool} {args cargs : List Value} {td : Todo} (ha : VL ρ args cargs)
    (hh : valh (builtinV P h b argTypes args) = .ok td) : StepOk P ρ h w (builtin b argTypes ty consts cargs.toArray) td := by
  have same : ∀ (r : R Value) (g : Sem Value), valh (bindR r fun v => .ok (v, h)) = .ok td → (∀ v, r = .ok v → Same P ρ w g v) → StepOk P ρ h w (do pure (.value (← g))) td := by
    intro r g hv hg
    refine StepOk.valh rfl hv fun v h' e => ?_
    simp only [bindR_ok, Except.ok.injEq, Prod.mk.injEq] at e
    obtain ⟨v', hv', rfl, rfl⟩ := e
    exact (hg _ hv').out hr
  cases b <;> simp only [builtinV] at hh <;> try (simp [valh, bindR] at hh; done)
  case append => exact StepOk.valh rfl hh fun v h' e => appendV_sound hr ha e
  case cap => exact same _ _ hh fun v e => capV_sound ha e
  case copy => exact StepOk.valh rfl hh fun v h' e => copyV_sound hr ha e
  case clear =>
    refine StepOk.valh rfl hh fun v h' e => ?_
    simp only [bindR_ok, Except.ok.injEq, Prod.mk.injEq] at e
    obtain ⟨h1, h2, rfl, rfl⟩ := e
    exact clearV_sound hr ha h2
  case delete =>
    refine StepOk.valh rfl hh fun v h' e => ?_
    simp only [bindR_ok, Except.ok.injEq, Prod.mk.injEq] at e
    obtain ⟨h1, h2, rfl, rfl⟩ := e
    obtain ⟨w', h3, h4⟩ := deleteV_sound (ty := ty) hr ha h2
    exact ⟨_, w', ρ, h3, .tuple' .nil, h4⟩
  case len => exact same _ _ hh fun v e => lenV_sound hr ha e
  case max =>
    refine StepOk.valh rfl hh fun v h' e => ?_
    simp only [bindR_ok, must_ok, Except.ok.injEq, Prod.mk.injEq] at e
    obtain ⟨_, hp, v', hv', rfl, rfl⟩ := e
    obtain ⟨h1, h2⟩ := plainOut_ok hv'
    have hpl : ∀ v ∈ args, Pl v := fun v hv => ⟨1, List.all_eq_true.1 hp v hv⟩
    obtain rfl := ha.plain_eq hpl
    exact ⟨_, w, ρ, (max_quiet (P := P) argTypes ty cargs hpl).1.run h1 w, h2.refl, .refl hr⟩
  case min =>
    refine StepOk.valh rfl hh fun v h' e => ?_
    simp only [bindR_ok, must_ok, Except.ok.injEq, Prod.mk.injEq] at e
    obtain ⟨_, hp, v', hv', rfl, rfl⟩ := e
    obtain ⟨h1, h2⟩ := plainOut_ok hv'
    have hpl : ∀ v ∈ args, Pl v := fun v hv => ⟨1, List.all_eq_true.1 hp v hv⟩
    obtain rfl := ha.plain_eq hpl
    exact ⟨_, w, ρ, (min_quiet (P := P) argTypes ty cargs hpl).1.run h1 w, h2.refl, .refl hr⟩

theorem callStep_sound (hr : HR ρ h w) (ht : TR ρ t a.tmps) {c : Call} {ty : TypeId} {td : Todo} (hh : callStep P c t h = .ok td) :
    StepOk P ρ h w (do let d ← resolve a.eval c ty; invoke d.target d.args) td := by
  simp only [callStep, bindR_ok] at hh
  obtain ⟨args, hargs, hh⟩ := hh
  have ha := evs_sound (a := a) ht _ _ hargs
  have hmap : c.args.map a.eval = (c.args.toList.map a.eval).toArray := by apply Array.ext'; simp
  unfold resolve
  split at hh
  · rename_i b hb
    have := builtinV_sound (ty := ty) (consts := c.args.map fun | .const _ => true | _ => false) hr ha hh
    simp only [hb, hmap, pure_bind, invoke]
    exact this
  · rename_i f hf
    simp only [bindR_ok] at hh
    obtain ⟨fv, hfv, hh⟩ := hh
    have := invokeV_sound (h := h) (w := w) (ev_sound (a := a) ht hfv) ha hh
    simp only [hf, hmap]
    exact this
  · cases hh

theorem step_sound (hr : HR ρ h w) (ht : TR ρ t a.tmps) {o : Oper} {td : Todo} (hh : step P o.op t h = .ok td) : StepOk P ρ h w (execOp a.eval o) td := by
  unfold execOp
  cases hop : o.op <;> simp only [hop, step, bindR_ok, reduceCtorEq] at hh ⊢
  case move x => exact StepOk.val hr (g := pure (a.eval x)) (by simp) hh fun v e => ⟨_, rfl, ev_sound ht e⟩
  case assign x => exact StepOk.val hr (g := pure (a.eval x)) (by simp) hh fun v e => ⟨_, rfl, ev_sound ht e⟩
  case pick c x y =>
    obtain ⟨cv, hc, xv, hx, yv, hy, hh⟩ := hh
    have h1 := ev_sound (a := a) ht hc
    have h2 := ev_sound (a := a) ht hx
    have h3 := ev_sound (a := a) ht hy
    simp only [AM.val, bindR_ok] at hh
    obtain ⟨v, hv, he⟩ := hh
    cases he
    unfold pickV at hv
    split at hv
    · cases hv
      generalize hg : a.eval c = gc at h1
      cases h1
      exact ⟨a.eval x, w, ρ, .inl (by simp [asBool]), h2, .refl hr⟩
    · cases hv
      generalize hg : a.eval c = gc at h1
      cases h1
      exact ⟨a.eval y, w, ρ, .inl (by simp [asBool]), h3, .refl hr⟩
    · cases hv
  case alloc e =>
    obtain ⟨z, hz, hh⟩ := hh
    refine StepOk.valh rfl hh fun v h' e1 => ?_
    obtain ⟨c, w', ρ', h1, h2, h3⟩ := rowV_sound (P := P) hr (VL.plain_refl (tzero_plain hz).cells) e1
    have h1' : (newRow e z.cells).run P w = .ok c w' := by simpa using h1
    exact ⟨.pointer (some c), w', ρ', by simp [Instr.alloc, run_zeroValue hz, newVar, h1'], h2, h3⟩
  case box e x =>
    obtain ⟨v0, hv0, hh⟩ := hh
    refine StepOk.valh rfl hh fun v h' e1 => ?_
    obtain ⟨c, w', ρ', h1, h2, h3⟩ := rowV_sound (P := P) hr (cells_rel (ev_sound (a := a) ht hv0)) e1
    have h1' : (newRow e (a.eval x).cells).run P w = .ok c w' := by simpa using h1
    exact ⟨.pointer (some c), w', ρ', by simp [Instr.box, newVar, h1'], h2, h3⟩
  case build ty parts =>
    obtain ⟨l, hl, hh⟩ := hh
    refine StepOk.val hr rfl hh fun v e => ?_
    have := buildV_sound (w := w) (evp_sound (a := a) ht _ _ hl) e
    have hm : (Array.map (fun x => (x.fst, a.eval x.snd)) parts) = (parts.toList.map fun p => (p.1, a.eval p.2)).toArray := by apply Array.ext'; simp
    rw [hm]; exact this
  case buildSlice ty len parts =>
    obtain ⟨l, hl, hh⟩ := hh
    refine StepOk.valh rfl hh fun v h' e => ?_
    have := buildSliceV_sound hr (evp_sound (a := a) ht _ _ hl) e
    have hm : (Array.map (fun x => (x.fst, a.eval x.snd)) parts) = (parts.toList.map fun p => (p.1, a.eval p.2)).toArray := by apply Array.ext'; simp
    rw [hm]; exact this
  case insert ty m k x =>
    obtain ⟨m', hm, k', hk, x', hx, hh⟩ := hh
    exact StepOk.valu rfl hh fun h' e => updateV_sound hr (ev_sound ht hm) (ev_sound ht hk) (ev_sound ht hx) e
  case load ty x =>
    obtain ⟨x', hx, hh⟩ := hh
    exact StepOk.val hr rfl hh fun v e => loadV_sound hr (ev_sound ht hx) e
  case store ty x y =>
    obtain ⟨x', hx, y', hy, hh⟩ := hh
    exact StepOk.valu rfl hh fun h' e => storeV_sound hr (ev_sound ht hx) (ev_sound ht hy) e
  case nilCheck x =>
    obtain ⟨x', hx, hh⟩ := hh
    simp only [AM.val, bindR_ok] at hh
    obtain ⟨v, hv, he⟩ := hh
    cases he
    have h1 := ev_sound (a := a) ht hx
    refine ⟨a.eval x, w, ρ, .inl ?_, by rw [(nilCheckV_rel h1 hv).1]; exact h1, .refl hr⟩
    rcases (nilCheckV_rel h1 hv).2 with ⟨ad, e⟩ | ⟨f, as, cs, e⟩ | ⟨l, as, cs, e⟩ <;> rw [e] <;> rfl
  case binOp op ty x y yt =>
    obtain ⟨x', hx, y', hy, hh⟩ := hh
    exact StepOk.val hr rfl hh fun v e => binV_sound (ev_sound ht hx) (ev_sound ht hy) e
  case unOp op ty x =>
    obtain ⟨x', hx, hh⟩ := hh
    exact StepOk.val hr rfl hh fun v e => unV_sound (ev_sound ht hx) e
  case convert sT dT x =>
    obtain ⟨x', hx, hh⟩ := hh
    exact StepOk.valh rfl hh fun v h' e => convertV_sound hr (ev_sound ht hx) e
  case makeInterface ty x =>
    obtain ⟨x', hx, hh⟩ := hh
    exact StepOk.val hr rfl hh fun v e => ifaceV_sound (ev_sound ht hx) e
  case makeFunc fn first captured =>
    obtain ⟨l1, h1, l2, h2, hh⟩ := hh
    split at hh
    case h_2 => cases hh
    rename_i f
    cases hh
    refine ⟨.func (.func f) (first.map a.eval) (captured.map a.eval), w, ρ, .inl (by simp [Instr.makeFunc]), ?_, .refl hr⟩
    have g1 := evs_sound (a := a) ht _ _ h1
    have g2 := evs_sound (a := a) ht _ _ h2
    exact .func' _ (by simpa using g1) (by simpa using g2)
  case makeMap ty r =>
    obtain ⟨r', hr', hh⟩ := hh
    exact StepOk.valh rfl hh fun v h' e => makeMapV_sound hr (evo_sound ht hr') e
  case makeSlice ty x y =>
    obtain ⟨x', hx, y', hy, hh⟩ := hh
    exact StepOk.valh rfl hh fun v h' e => makeSliceV_sound hr (ev_sound ht hx) (ev_sound ht hy) e
  case slice ty x lo hi mx =>
    obtain ⟨x', hx, lo', hlo, hi', hhi, mx', hmx, hh⟩ := hh
    exact StepOk.val hr rfl hh fun v e => sliceV_sound hr (ev_sound ht hx) (evo_sound ht hlo) (evo_sound ht hhi) (evo_sound ht hmx) e
  case fieldAddr ty x f =>
    obtain ⟨x', hx, hh⟩ := hh
    exact StepOk.val hr rfl hh fun v e => fieldAddrV_sound (ev_sound ht hx) e
  case field ty x f =>
    obtain ⟨x', hx, hh⟩ := hh
    exact StepOk.val hr rfl hh fun v e => fieldV_sound (ev_sound ht hx) e
  case indexAddr ty x y =>
    obtain ⟨x', hx, y', hy, hh⟩ := hh
    exact StepOk.val hr rfl hh fun v e => indexAddrV_sound (ev_sound ht hx) (ev_sound ht hy) e
  case index ty x y =>
    obtain ⟨x', hx, y', hy, hh⟩ := hh
    exact StepOk.val hr rfl hh fun v e => indexV_sound (ev_sound ht hx) (ev_sound ht hy) e
  case lookup ty x y ok =>
    obtain ⟨x', hx, y', hy, hh⟩ := hh
    exact StepOk.val hr rfl hh fun v e => lookupV_sound hr (ev_sound ht hx) (ev_sound ht hy) e
  case mapUpdate ty m k x =>
    obtain ⟨m', hm, k', hk, x', hx, hh⟩ := hh
    exact StepOk.valu rfl hh fun h' e => updateV_sound hr (ev_sound ht hm) (ev_sound ht hk) (ev_sound ht hx) e
  case range ty x =>
    obtain ⟨x', hx, hh⟩ := hh
    exact StepOk.valh rfl hh fun v h' e => rangeV_sound hr (ev_sound ht hx) e
  case next it s =>
    cases s with
    | false => cases hh
    | true =>
      simp only [bindR_ok] at hh
      obtain ⟨x', hx, hh⟩ := hh
      exact StepOk.valh rfl hh fun v h' e => nextV_sound hr (ev_sound ht hx) e
  case typeAssert x xt ty ok =>
    obtain ⟨x', hx, hh⟩ := hh
    exact StepOk.val hr rfl hh fun v e => typeAssertV_sound (ev_sound ht hx) e
  case extract x i =>
    obtain ⟨x', hx, hh⟩ := hh
    exact StepOk.val hr rfl hh fun v e => extractV_sound (ev_sound ht hx) e
  case call c => exact callStep_sound hr ht hh
end
end Go.AM
