/- Of the abstract machine, for all programs: definitions and lemmas, no claim of its own; no condition. -/
import Derived.Test.YtlkddekecegfdaaGreatAmOps5
set_option linter.unusedVariables false
set_option linter.unusedSimpArgs false
namespace Go.AM
open Go

section
variable {P : Program} {ρ : Ren} {h h' : Heap} {w : World} {t : Tmps} {a : Act}

theorem ev_sound {x : Operand} {v : Value} (ht : TR ρ t a.tmps) (hh : ev t x = .ok v) : VR ρ v (a.eval x) := by
  cases x with
  | tmp i => simp only [ev, Except.ok.injEq] at hh; subst hh; exact ht i
  | const c =>
    simp only [ev] at hh
    split at hh
    · rename_i hp; cases hh; exact plain_refl 20 _ hp
    · cases hh
  | global g => simp [ev] at hh
  | func f => simp only [ev, Except.ok.injEq] at hh; subst hh; exact .func' f .nil .nil

theorem evs_sound (ht : TR ρ t a.tmps) : ∀ (xs : List Operand) (vs : List Value), evs t xs = .ok vs → VL ρ vs (xs.map a.eval)
  | [], vs, hh => by simp only [evs, Except.ok.injEq] at hh; subst hh; exact .nil
  | x :: xs, vs, hh => by
    simp only [evs, bindR_ok] at hh
    obtain ⟨v, hv, vs', hvs, he⟩ := hh
    cases he
    exact .cons (ev_sound ht hv) (evs_sound ht xs vs' hvs)

theorem evo_sound (ht : TR ρ t a.tmps) {x : Option Operand} {v : Option Value} (hh : evo t x = .ok v) : VO ρ v (x.map a.eval) := by
  cases x with
  | none => simp only [evo, Except.ok.injEq] at hh; subst hh; trivial
  | some x =>
    simp only [evo, bindR_ok] at hh
    obtain ⟨c, hc, he⟩ := hh
    cases he
    exact ev_sound ht hc

theorem evp_sound (ht : TR ρ t a.tmps) : ∀ (xs : List (Nat × Operand)) (vs : List (Nat × Value)), evp t xs = .ok vs → PL ρ vs (xs.map fun p => (p.1, a.eval p.2))
  | [], vs, hh => by simp only [evp, Except.ok.injEq] at hh; subst hh; exact .nil
  | (i, x) :: xs, vs, hh => by
    simp only [evp, bindR_ok] at hh
    obtain ⟨v, hv, vs', hvs, he⟩ := hh
    cases he
    exact .cons (ev_sound ht hv) (evp_sound ht xs vs' hvs)

/-- What one operation of the abstract machine says of the program's. -/
def StepOk (P : Program) (ρ : Ren) (h : Heap) (w : World) (s : Sem Next) : Todo → Prop
  | .value v h' => ∃ c w' ρ', (s.run P w = .ok (.value c) w' ∨ (s.run P w = .ok .skip w' ∧ c = undef)) ∧ VR ρ' v c ∧ Post ρ h w ρ' h' w'
  | .enter f args => ∃ cargs, s.run P w = .ok (.enter f cargs) w ∧ VL ρ args.toList cargs.toList
  | .round l args => ∃ loc cargs, ρ l = some loc ∧ s.run P w = (Instr.yield loc.blk cargs).run P w ∧ VL ρ args.toList cargs.toList

theorem StepOk.val {s : Sem Next} {g : Sem Value} {r : R Value} {td : Todo} (hr : HR ρ h w) (hs : s = do pure (.value (← g))) (hh : val h r = .ok td) (hg : ∀ v, r = .ok v → Same P ρ w g v) : StepOk P ρ h w s td := by
  simp only [AM.val, bindR_ok] at hh
  obtain ⟨v, hv, he⟩ := hh
  cases he
  obtain ⟨c, h1, h2⟩ := hg v hv
  exact ⟨c, w, ρ, .inl (by rw [hs]; simp [h1]), h2, .refl hr⟩
theorem StepOk.valh {s : Sem Next} {g : Sem Value} {r : R (Value × Heap)} {td : Todo} (hs : s = do pure (.value (← g))) (hh : valh r = .ok td) (hg : ∀ v h', r = .ok (v, h') → Out P ρ h w g v h') : StepOk P ρ h w s td := by
  simp only [AM.valh, bindR_ok] at hh
  obtain ⟨⟨v, h'⟩, hv, he⟩ := hh
  cases he
  obtain ⟨c, w', ρ', h1, h2, h3⟩ := hg v h' hv
  exact ⟨c, w', ρ', .inl (by rw [hs]; simp [h1]), h2, h3⟩
theorem StepOk.valu {s : Sem Next} {g : Sem Unit} {r : R Heap} {td : Todo} (hs : s = do g; pure .skip) (hh : valu r = .ok td) (hg : ∀ h', r = .ok h' → ∃ w', g.run P w = .ok () w' ∧ Post ρ h w ρ h' w') : StepOk P ρ h w s td := by
  simp only [AM.valu, bindR_ok] at hh
  obtain ⟨h', hv, he⟩ := hh
  cases he
  obtain ⟨w', h1, h2⟩ := hg h' hv
  exact ⟨undef, w', ρ, .inr ⟨by rw [hs]; simp [h1], rfl⟩, .undef _, h2⟩

theorem callable_ok {f : FuncId} {u : Unit} (hh : callable P f = .ok u) : ∃ fn, P.funcs[f]? = some fn ∧ fn.body.isSome = true ∧ (fn.name == "runtime.NumGoroutine") = false := by
  simp only [callable, bindR_ok, ofOpt_ok, must_ok, Bool.and_eq_true, Bool.not_eq_true'] at hh
  obtain ⟨fn, h1, h2, h3⟩ := hh
  exact ⟨fn, h1, h2, h3⟩

theorem run_callFunc {f : FuncId} {u : Unit} (hh : callable P f = .ok u) (args : Array Value) : (callFunc f args).run P w = .ok (.enter f args) w := by
  obtain ⟨fn, h1, h2, h3⟩ := callable_ok hh
  have h4 : ¬ fn.body = none := by cases hb : fn.body <;> simp_all
  have h3' : ¬ fn.name = "runtime.NumGoroutine" := by simpa using h3
  simp [callFunc, h1, h3', h4]

theorem invokeV_sound {f cf : Value} {args cargs : List Value} {td : Todo} (hf : VR ρ f cf) (ha : VL ρ args cargs) (hh : invokeV P f args = .ok td) :
    StepOk P ρ h w (do let d ← Deferred.ofValue cf cargs.toArray; invoke d.target d.args) td := by
  unfold invokeV at hh
  split at hh
  · rename_i g first captured
    simp only [bindR_ok] at hh
    obtain ⟨u, hu, he⟩ := hh
    cases he
    cases hf
    rename_i bs ds h1 h2 h3 h4
    refine ⟨(bs ++ cargs.toArray) ++ ds, ?_, ?_⟩
    · simp only [Deferred.ofValue, Sem.run_bind, Sem.run_pure, Result.andThen_ok, invoke]
      exact run_callFunc hu _
    · have hb : VL ρ first.toList bs.toList := ⟨by simpa using h1, fun i hi => h2 i (by simpa using hi)⟩
      have hd : VL ρ captured.toList ds.toList := ⟨by simpa using h3, fun i hi => h4 i (by simpa using hi)⟩
      simpa using (hb.append ha).append hd
  · rename_i l
    cases hh
    cases hf
    rename_i p hp
    refine ⟨p, cargs.toArray, hp, ?_, by simpa using ha⟩
    simp [Deferred.ofValue, invoke]
  · cases hh

theorem builtinV_sound (hr : HR ρ h w) {b : Builtin} {argTypes : Array TypeId} {ty : TypeId} {consts : Array Bool} {args cargs : List Value} {td : Todo} (ha : VL ρ args cargs)
    (hh : valh (builtinV P h b argTypes args) = .ok td) : StepOk P ρ h w (builtin b argTypes ty consts cargs.toArray) td := by
  have same : ∀ (r : R Value) (g : Sem Value), valh (bindR r fun v => .ok (v, h)) = .ok td → (∀ v, r = .ok v → Same P ρ w g v) → StepOk P ρ h w (do pure (.value (← g))) td := by
    intro r g hv hg
    refine StepOk.valh rfl hv fun v h' e => ?_
    simp only [bindR_ok, Except.ok.injEq, Prod.mk.injEq] at e
    obtain ⟨v', hv', rfl, rfl⟩ := e
    exact (hg _ hv').out hr
  cases b <;> simp only [builtinV] at hh <;> try (simp [valh, bindR] at hh; done)
  case append => exact StepOk.valh rfl hh fun v h' e => appendV_sound hr ha e
  case cap => exact same _ _ hh fun v e => capV_sound ha e
  case copy => exact StepOk.valh rfl hh fun v h' e => copyV_sound hr ha e
  case clear =>
    refine StepOk.valh rfl hh fun v h' e => ?_
    simp only [bindR_ok, Except.ok.injEq, Prod.mk.injEq] at e
    obtain ⟨h1, h2, rfl, rfl⟩ := e
    exact clearV_sound hr ha h2
  case delete =>
    refine StepOk.valh rfl hh fun v h' e => ?_
    simp only [bindR_ok, Except.ok.injEq, Prod.mk.injEq] at e
    obtain ⟨h1, h2, rfl, rfl⟩ := e
    obtain ⟨w', h3, h4⟩ := deleteV_sound (ty := ty) hr ha h2
    exact ⟨_, w', ρ, h3, .tuple' .nil, h4⟩
  case len => exact same _ _ hh fun v e => lenV_sound hr ha e
  case max =>
    refine StepOk.valh rfl hh fun v h' e => ?_
    simp only [bindR_ok, must_ok, Except.ok.injEq, Prod.mk.injEq] at e
    obtain ⟨_, hp, v', hv', rfl, rfl⟩ := e
    obtain ⟨h1, h2⟩ := plainOut_ok hv'
    have hpl : ∀ v ∈ args, Pl v := fun v hv => ⟨1, List.all_eq_true.1 hp v hv⟩
    obtain rfl := ha.plain_eq hpl
    exact ⟨_, w, ρ, (max_quiet (P := P) argTypes ty cargs hpl).1.run h1 w, h2.refl, .refl hr⟩
  case min =>
    refine StepOk.valh rfl hh fun v h' e => ?_
    simp only [bindR_ok, must_ok, Except.ok.injEq, Prod.mk.injEq] at e
    obtain ⟨_, hp, v', hv', rfl, rfl⟩ := e
    obtain ⟨h1, h2⟩ := plainOut_ok hv'
    have hpl : ∀ v ∈ args, Pl v := fun v hv => ⟨1, List.all_eq_true.1 hp v hv⟩
    obtain rfl := ha.plain_eq hpl
    exact ⟨_, w, ρ, (min_quiet (P := P) argTypes ty cargs hpl).1.run h1 w, h2.refl, .refl hr⟩

theorem callStep_sound (hr : HR ρ h w) (ht : TR ρ t a.tmps) {c : Call} {ty : TypeId} {td : Todo} (hh : callStep P c t h = .ok td) :
    StepOk P ρ h w (do let d ← resolve a.eval c ty; invoke d.target d.args) td := by
  simp only [callStep, bindR_ok] at hh
  obtain ⟨args, hargs, hh⟩ := hh
  have ha := evs_sound (a := a) ht _ _ hargs
  have hmap : c.args.map a.eval = (c.args.toList.map a.eval).toArray := by apply Array.ext'; simp
  unfold resolve
  split at hh
  · rename_i b hb
    have := builtinV_sound (ty := ty) (consts := c.args.map fun | .const _ => true | _ => false) hr ha hh
    simp only [hb, hmap, pure_bind, invoke]
    exact this
  · rename_i f hf
    simp only [bindR_ok] at hh
    obtain ⟨fv, hfv, hh⟩ := hh
    have := invokeV_sound (h := h) (w := w) (ev_sound (a := a) ht hfv) ha hh
    simp only [hf, hmap]
    exact this
  · cases hh

theorem step_sound (hr : HR ρ h w) (ht : TR ρ t a.tmps) {o : Oper} {td : Todo} (hh : step P o.op t h = .ok td) : StepOk P ρ h w (execOp a.eval o) td := by
  unfold execOp
  cases hop : o.op <;> simp only [hop, step, bindR_ok, reduceCtorEq] at hh ⊢
  case move x => exact StepOk.val hr (g := pure (a.eval x)) (by simp) hh fun v e => ⟨_, rfl, ev_sound ht e⟩
  case assign x => exact StepOk.val hr (g := pure (a.eval x)) (by simp) hh fun v e => ⟨_, rfl, ev_sound ht e⟩
  case pick c x y =>
    obtain ⟨cv, hc, xv, hx, yv, hy, hh⟩ := hh
    have h1 := ev_sound (a := a) ht hc
    have h2 := ev_sound (a := a) ht hx
    have h3 := ev_sound (a := a) ht hy
    simp only [AM.val, bindR_ok] at hh
    obtain ⟨v, hv, he⟩ := hh
    cases he
    unfold pickV at hv
    split at hv
    · cases hv
      generalize hg : a.eval c = gc at h1
      cases h1
      exact ⟨a.eval x, w, ρ, .inl (by simp [asBool]), h2, .refl hr⟩
    · cases hv
      generalize hg : a.eval c = gc at h1
      cases h1
      exact ⟨a.eval y, w, ρ, .inl (by simp [asBool]), h3, .refl hr⟩
    · cases hv
  case alloc e =>
    obtain ⟨z, hz, hh⟩ := hh
    refine StepOk.valh rfl hh fun v h' e1 => ?_
    obtain ⟨c, w', ρ', h1, h2, h3⟩ := rowV_sound (P := P) hr (VL.plain_refl (tzero_plain hz).cells) e1
    have h1' : (newRow e z.cells).run P w = .ok c w' := by simpa using h1
    exact ⟨.pointer (some c), w', ρ', by simp [Instr.alloc, run_zeroValue hz, newVar, h1'], h2, h3⟩
  case box e x =>
    obtain ⟨v0, hv0, hh⟩ := hh
    refine StepOk.valh rfl hh fun v h' e1 => ?_
    obtain ⟨c, w', ρ', h1, h2, h3⟩ := rowV_sound (P := P) hr (cells_rel (ev_sound (a := a) ht hv0)) e1
    have h1' : (newRow e (a.eval x).cells).run P w = .ok c w' := by simpa using h1
    exact ⟨.pointer (some c), w', ρ', by simp [Instr.box, newVar, h1'], h2, h3⟩
  case build ty parts =>
    obtain ⟨l, hl, hh⟩ := hh
    refine StepOk.val hr rfl hh fun v e => ?_
    have := buildV_sound (w := w) (evp_sound (a := a) ht _ _ hl) e
    have hm : (Array.map (fun x => (x.fst, a.eval x.snd)) parts) = (parts.toList.map fun p => (p.1, a.eval p.2)).toArray := by apply Array.ext'; simp
    rw [hm]; exact this
  case buildSlice ty len parts =>
    obtain ⟨l, hl, hh⟩ := hh
    refine StepOk.valh rfl hh fun v h' e => ?_
    have := buildSliceV_sound hr (evp_sound (a := a) ht _ _ hl) e
    have hm : (Array.map (fun x => (x.fst, a.eval x.snd)) parts) = (parts.toList.map fun p => (p.1, a.eval p.2)).toArray := by apply Array.ext'; simp
    rw [hm]; exact this
  case insert ty m k x =>
    obtain ⟨m', hm, k', hk, x', hx, hh⟩ := hh
    exact StepOk.valu rfl hh fun h' e => updateV_sound hr (ev_sound ht hm) (ev_sound ht hk) (ev_sound ht hx) e
  case load ty x =>
    obtain ⟨x', hx, hh⟩ := hh
    exact StepOk.val hr rfl hh fun v e => loadV_sound hr (ev_sound ht hx) e
  case store ty x y =>
    obtain ⟨x', hx, y', hy, hh⟩ := hh
    exact StepOk.valu rfl hh fun h' e => storeV_sound hr (ev_sound ht hx) (ev_sound ht hy) e
  case nilCheck x =>
    obtain ⟨x', hx, hh⟩ := hh
    simp only [AM.val, bindR_ok] at hh
    obtain ⟨v, hv, he⟩ := hh
    cases he
    have h1 := ev_sound (a := a) ht hx
    refine ⟨a.eval x, w, ρ, .inl ?_, by rw [(nilCheckV_rel h1 hv).1]; exact h1, .refl hr⟩
    rcases (nilCheckV_rel h1 hv).2 with ⟨ad, e⟩ | ⟨f, as, cs, e⟩ | ⟨l, as, cs, e⟩ <;> rw [e] <;> rfl
  case binOp op ty x y yt =>
    obtain ⟨x', hx, y', hy, hh⟩ := hh
    exact StepOk.val hr rfl hh fun v e => binV_sound (ev_sound ht hx) (ev_sound ht hy) e
  case unOp op ty x =>
    obtain ⟨x', hx, hh⟩ := hh
    exact StepOk.val hr rfl hh fun v e => unV_sound (ev_sound ht hx) e
  case convert sT dT x =>
    obtain ⟨x', hx, hh⟩ := hh
    exact StepOk.valh rfl hh fun v h' e => convertV_sound hr (ev_sound ht hx) e
  case makeInterface ty x =>
    obtain ⟨x', hx, hh⟩ := hh
    exact StepOk.val hr rfl hh fun v e => ifaceV_sound (ev_sound ht hx) e
  case makeFunc fn first captured =>
    obtain ⟨l1, h1, l2, h2, hh⟩ := hh
    split at hh
    case h_2 => cases hh
    rename_i f
    cases hh
    refine ⟨.func (.func f) (first.map a.eval) (captured.map a.eval), w, ρ, .inl (by simp [Instr.makeFunc]), ?_, .refl hr⟩
    have g1 := evs_sound (a := a) ht _ _ h1
    have g2 := evs_sound (a := a) ht _ _ h2
    exact .func' _ (by simpa using g1) (by simpa using g2)
  case makeMap ty r =>
    obtain ⟨r', hr', hh⟩ := hh
    exact StepOk.valh rfl hh fun v h' e => makeMapV_sound hr (evo_sound ht hr') e
  case makeSlice ty x y =>
    obtain ⟨x', hx, y', hy, hh⟩ := hh
    exact StepOk.valh rfl hh fun v h' e => makeSliceV_sound hr (ev_sound ht hx) (ev_sound ht hy) e
  case slice ty x lo hi mx =>
    obtain ⟨x', hx, lo', hlo, hi', hhi, mx', hmx, hh⟩ := hh
    exact StepOk.val hr rfl hh fun v e => sliceV_sound hr (ev_sound ht hx) (evo_sound ht hlo) (evo_sound ht hhi) (evo_sound ht hmx) e
  case fieldAddr ty x f =>
    obtain ⟨x', hx, hh⟩ := hh
    exact StepOk.val hr rfl hh fun v e => fieldAddrV_sound (ev_sound ht hx) e
  case field ty x f =>
    obtain ⟨x', hx, hh⟩ := hh
    exact StepOk.val hr rfl hh fun v e => fieldV_sound (ev_sound ht hx) e
  case indexAddr ty x y =>
    obtain ⟨x', hx, y', hy, hh⟩ := hh
    exact StepOk.val hr rfl hh fun v e => indexAddrV_sound (ev_sound ht hx) (ev_sound ht hy) e
  case index ty x y =>
    obtain ⟨x', hx, y', hy, hh⟩ := hh
    exact StepOk.val hr rfl hh fun v e => indexV_sound (ev_sound ht hx) (ev_sound ht hy) e
  case lookup ty x y ok =>
    obtain ⟨x', hx, y', hy, hh⟩ := hh
    exact StepOk.val hr rfl hh fun v e => lookupV_sound hr (ev_sound ht hx) (ev_sound ht hy) e
  case mapUpdate ty m k x =>
    obtain ⟨m', hm, k', hk, x', hx, hh⟩ := hh
    exact StepOk.valu rfl hh fun h' e => updateV_sound hr (ev_sound ht hm) (ev_sound ht hk) (ev_sound ht hx) e
  case range ty x =>
    obtain ⟨x', hx, hh⟩ := hh
    exact StepOk.valh rfl hh fun v h' e => rangeV_sound hr (ev_sound ht hx) e
  case next it s =>
    cases s with
    | false => cases hh
    | true =>
      simp only [bindR_ok] at hh
      obtain ⟨x', hx, hh⟩ := hh
      exact StepOk.valh rfl hh fun v h' e => nextV_sound hr (ev_sound ht hx) e
  case typeAssert x xt ty ok =>
    obtain ⟨x', hx, hh⟩ := hh
    exact StepOk.val hr rfl hh fun v e => typeAssertV_sound (ev_sound ht hx) e
  case extract x i =>
    obtain ⟨x', hx, hh⟩ := hh
    exact StepOk.val hr rfl hh fun v e => extractV_sound (ev_sound ht hx) e
  case call c => exact callStep_sound hr ht hh
end
end Go.AM
namespace Go.AM
open Go

/-- The fence of a walk: the wide one, in no round or in a round of the loop that the abstract machine names so. -/
def FR (ρ : Ren) (rd : Option Nat) (F : Fence) : Prop :=
  (rd = none ∧ F = Fence.wide) ∨ ∃ l loc, rd = some l ∧ ρ l = some loc ∧ F = Fence.wide.inRound loc.blk
theorem FR.mono {ρ ρ' : Ren} (hs : Sub ρ ρ') {rd : Option Nat} {F : Fence} (h : FR ρ rd F) : FR ρ' rd F := by
  rcases h with h | ⟨l, loc, h1, h2, h3⟩
  · exact .inl h
  · exact .inr ⟨l, loc, h1, hs _ _ h2, h3⟩
theorem FR.fn {ρ : Ren} {rd : Option Nat} {F : Fence} (h : FR ρ rd F) : F.fn = fun _ => True := by
  rcases h with ⟨_, rfl⟩ | ⟨l, loc, _, _, rfl⟩ <;> rfl
theorem FR.depth {ρ : Ren} {rd : Option Nat} {F : Fence} (h : FR ρ rd F) : F.depth = none := by
  rcases h with ⟨_, rfl⟩ | ⟨l, loc, _, _, rfl⟩ <;> rfl
theorem FR.calls {ρ : Ren} {rd : Option Nat} {F : Fence} (h : FR ρ rd F) {n : Nat} {P : Program} {f : FuncId} {args : Array Value} {w : World} {R : Ending → World → Prop}
    (hc : CallsIn Fence.wide n P f args w R) : CallsIn F n P f args w R := by
  rcases h with ⟨_, rfl⟩ | ⟨l, loc, _, _, rfl⟩ <;> exact hc
theorem FR.rounds {ρ : Ren} {rd : Option Nat} {F : Fence} (h : FR ρ rd F) {n : Nat} {P : Program} {l : Nat} {f : FuncId} {tmps : Array Value} {assign body : Code} {w : World} {R : Ending → World → Prop}
    (hc : RoundIn Fence.wide n P l f tmps assign body w R) : RoundIn F n P l f tmps assign body w R := by
  rcases h with ⟨_, rfl⟩ | ⟨l, loc, _, _, rfl⟩ <;> exact hc

/-- The marks of the loops over functions among a frame's deferred calls. -/
def DR (s : Nat) (ρ : Ren) (h : Heap) (w : World) (ds : List Deferred) : Prop :=
  (s ≤ w.heap.size ∧ ∀ d ∈ ds, ∃ i l, ρ i = some l ∧ h.get i = .defs ∧ s ≤ l.blk ∧ l.blk < w.heap.size ∧ w.heap[l.blk]? = some (.deferred (some [])) ∧ d = { target := .collected l.blk, args := #[] }) ∧ ds.Nodup

theorem DR.post {s : Nat} {ρ ρ' : Ren} {h h' : Heap} {w w' : World} {ds : List Deferred} (hr : HR ρ h w) (p : Post ρ h w ρ' h' w') (hd : DR s ρ h w ds) : DR s ρ' h' w' ds := by
  refine ⟨⟨Nat.le_trans hd.1.1 p.fr.size, fun d hmem => ?_⟩, hd.2⟩
  obtain ⟨i, l, h1, h2, h3, h4, h5, h6⟩ := hd.1.2 d hmem
  have hlt := (hr.dom i l h1).1
  refine ⟨i, l, p.sub hr _ _ h1, p.trk.defs i hlt h2, h3, Nat.lt_of_lt_of_le h4 p.fr.size, ?_, h6⟩
  rw [p.fr.same l.blk h4 (fun j lj hj oj e => ?_)]
  · exact h5
  · refine hr.inj j i lj l ?_ hj h1 oj (by rw [h2]; rfl) e
    intro e'; subst e'; rw [h2] at oj; cases oj

def outOf : AExit → Exit
  | .normal => .normal
  | .exit id => .exit id
  | .goto l => .goto l
  | .ret => .ret

/-- In a loop, ahead of its body. -/
def LoopIn (F : Fence) (n : Nat) (P : Program) (c : Code) (Q : Exit → Act → World → Prop) (a : Act) (w : World) : Prop :=
  ∀ (b : Frame) (k : List Item) (cs : List Frame), b.roundOf = F.round → F.fn b.fn → F.room (cs.length + 1 + n) →
    ∃ e a' w', Q e a' w' ∧ ArrivesIn (Machine.fenced P F) P (lone (b.atR a (.code c :: .inLoop c :: k)) cs w) b k cs e a' w'
/-- In a scope, ahead of c. -/
def ScopeIn (F : Fence) (n : Nat) (P : Program) (s : Code) (Q : Exit → Act → World → Prop) (c : Code) (a : Act) (w : World) : Prop :=
  ∀ (b : Frame) (k : List Item) (cs : List Frame), b.roundOf = F.round → F.fn b.fn → F.room (cs.length + 1 + n) →
    ∃ e a' w', Q e a' w' ∧ ArrivesIn (Machine.fenced P F) P (lone (b.atR a (.code c :: .inScope s :: k)) cs w) b k cs e a' w'
/-- In a scope, at a jump to a label. -/
def JumpIn (F : Fence) (n : Nat) (P : Program) (s : Code) (Q : Exit → Act → World → Prop) (l : Nat) (a : Act) (w : World) : Prop :=
  match findLabel s l with
  | none => Q (.goto l) a w
  | some rest => ScopeIn F n P s Q rest a w
def inScopeQ (F : Fence) (n : Nat) (P : Program) (s : Code) (Q : Exit → Act → World → Prop) : Exit → Act → World → Prop
  | .goto l, a, w => JumpIn F n P s Q l a w
  | e, a, w => Q e a w

section rules
variable {F : Fence} {n : Nat} {P : Program} {Q : Exit → Act → World → Prop} {a : Act} {w : World}
theorem loopIn_step {c : Code} (h : c.wpIn F n P (Exit.then (LoopIn F n P c Q) Q) a w) : LoopIn F n P c Q a w := by
  intro b k cs hro hb hr
  obtain ⟨e, a₁, w₁, hq, harr⟩ := h b (.inLoop c :: k) cs hro hb hr
  cases e with
  | normal =>
    obtain ⟨e₂, a₂, w₂, hq₂, harr₂⟩ := hq b k cs hro hb hr
    exact ⟨e₂, a₂, w₂, hq₂, .of_steps (StepsIn.trans harr (.one (fenced_calm hb hr rfl) stepR_inLoop)) harr₂⟩
  | exit id => exact ⟨_, a₁, w₁, hq, .pass (x := .inLoop c) rfl (fun _ _ => .inl (by simp)) harr⟩
  | goto l => exact ⟨_, a₁, w₁, hq, .pass (x := .inLoop c) rfl (fun _ _ => .inl (by simp)) harr⟩
  | ret => exact ⟨_, a₁, w₁, hq, .pass (x := .inLoop c) rfl (fun _ _ => .inl (by simp)) harr⟩
  | panic ch => exact ⟨_, a₁, w₁, hq, .pass (x := .inLoop c) rfl (fun _ _ => .inl (by simp)) harr⟩
  | outgrown => exact ⟨_, a₁, w₁, hq, .pass (x := .inLoop c) rfl (fun _ _ => .inl (by simp)) harr⟩
theorem wpIn_loop_of {c : Code} (h : LoopIn F n P c Q a w) : (Code.loop c).wpIn F n P Q a w := fun b k cs hro hb hr =>
  let ⟨e, a', w', q, r⟩ := h b k cs hro hb hr; ⟨e, a', w', q, .of_steps (.one (fenced_calm hb hr rfl) stepR_loop) r⟩

theorem stepR_scope' {b : Frame} {s : Code} {k : List Item} {cs : List Frame} : Go.step P (lone (b.atR a (.code (.scope s) :: k)) cs w) = .next (lone (b.atR a (.code s :: .inScope s :: k)) cs w) :=
  step_lone_go (by simp [stepG, stepG.exec, Frame.atR])
theorem stepR_inScope' {b : Frame} {s : Code} {k : List Item} {cs : List Frame} : Go.step P (lone (b.atR a (.inScope s :: k)) cs w) = .next (lone (b.atR a k) cs w) :=
  step_lone_go (by simp [stepG, stepG.exec, Frame.atR])

theorem scopeIn_step {s c : Code} (h : c.wpIn F n P (inScopeQ F n P s Q) a w) : ScopeIn F n P s Q c a w := by
  intro b k cs hro hb hr
  obtain ⟨e, a₁, w₁, hq, harr⟩ := h b (.inScope s :: k) cs hro hb hr
  cases e with
  | normal => exact ⟨.normal, a₁, w₁, hq, StepsIn.trans harr (.one (fenced_calm hb hr rfl) stepR_inScope')⟩
  | exit id =>
    have hx : exitTo id (.inScope s :: k) = exitTo id k := by simp [exitTo]
    exact ⟨_, a₁, w₁, hq, fun k' hk => harr.1 k' (by rw [hx]; exact hk), fun hr' hk => harr.2 hr' (by rw [hx]; exact hk)⟩
  | goto l =>
    simp only [inScopeQ, JumpIn] at hq
    cases hf : findLabel s l with
    | none =>
      rw [hf] at hq
      have hx : gotoIn l (.inScope s :: k) = gotoIn l k := by simp [gotoIn, hf]
      exact ⟨_, a₁, w₁, hq, fun k' hk => harr.1 k' (by rw [hx]; exact hk), fun hr' hk => harr.2 hr' (by rw [hx]; exact hk)⟩
    | some rest =>
      rw [hf] at hq
      obtain ⟨e₂, a₂, w₂, hq₂, harr₂⟩ := hq b k cs hro hb hr
      exact ⟨e₂, a₂, w₂, hq₂, .of_steps (harr.1 _ (by simp [gotoIn, hf])) harr₂⟩
  | ret => exact ⟨_, a₁, w₁, hq, harr⟩
  | panic ch => exact ⟨_, a₁, w₁, hq, harr⟩
  | outgrown => exact ⟨_, a₁, w₁, hq, harr⟩
theorem wpIn_scope_of {s : Code} (h : ScopeIn F n P s Q s a w) : (Code.scope s).wpIn F n P Q a w := fun b k cs hro hb hr =>
  let ⟨e, a', w', q, r⟩ := h b k cs hro hb hr; ⟨e, a', w', q, .of_steps (.one (fenced_calm hb hr rfl) stepR_scope') r⟩
end rules

/-- What a call, a round and a jump back of the abstract machine say of the program's. -/
structure RecSound (P : Program) (r : Rec) : Prop where
  call : ∀ {f args h v h'}, r.call f args h = .ok (v, h') → ∀ {ρ w} {cargs : Array Value}, HR ρ h w → VL ρ args.toList cargs.toList → ∀ n,
    CallsIn Fence.wide n P f cargs w fun e w' => ∃ c ρ', e = .returned c ∧ VR ρ' v c ∧ Post ρ h w ρ' h' w'
  round : ∀ {l args h v h'}, r.round l args h = .ok (v, h') → ∀ {ρ w loc} {cargs : Array Value}, HR ρ h w → ρ l = some loc → VL ρ args.toList cargs.toList → ∀ n,
    ∃ fn tmps assign body, (Instr.yield loc.blk cargs).run P w = .ok (.round loc.blk fn tmps assign body) w ∧
      RoundIn Fence.wide n P loc.blk fn tmps assign body w fun e w' => ∃ c ρ', e = .returned c ∧ VR ρ' v c ∧ Post ρ h w ρ' h' w'
  again : ∀ {N b l t h rd e t' h'}, r.again N b l t h rd = .ok (e, t', h') → ∀ {s ρ a w F n Q}, FR ρ rd F → a.tmps.size = N → TR ρ t a.tmps → HR ρ h w → DR s ρ h w a.defers →
    (∀ ρ' a' w', a'.tmps.size = N → TR ρ' t' a'.tmps → Post ρ h w ρ' h' w' → DR s ρ' h' w' a'.defers → Q (outOf e) a' w') → JumpIn F n P b Q l a w

section
variable {P : Program} {r : Rec} {N : Nat}

theorem put_sound {ρ : Ren} {t : Tmps} {a : Act} {v c : Value} {d : Option Tmp} (hn : a.tmps.size = N) (ht : TR ρ t a.tmps) (hv : VR ρ v c) : TR ρ (put N t d v) (a.put d c).tmps ∧ (a.put d c).tmps.size = N := by
  cases d with
  | none => exact ⟨ht, hn⟩
  | some d =>
    simp only [Act.put]
    refine ⟨fun i => ?_, by simpa using hn⟩
    cases hb : Nat.blt d N with
    | true =>
      simp only [put, hb]
      have hd := blt_true.1 hb
      by_cases he : i = d
      · subst he
        rw [Nat.beq_refl]
        have : (a.tmps.setIfInBounds i c).getD i undef = c := by simp [Array.getD, hn, hd]
        rw [this]; exact hv
      · have hb : Nat.beq i d = false := by
          cases hx : Nat.beq i d with
          | false => rfl
          | true => exact absurd (Nat.eq_of_beq_eq_true hx) he
        rw [hb]
        have : (a.tmps.setIfInBounds d c).getD i undef = a.tmps.getD i undef := by
          simp [Array.getD_eq_getD_getElem?, Array.getElem?_setIfInBounds_ne (fun e => he e.symm)]
        rw [this]; exact ht i
    | false =>
      simp only [put, hb]
      have hd := blt_false.1 hb
      have : a.tmps.setIfInBounds d c = a.tmps := by
        apply Array.ext'
        simp only [Array.toList_setIfInBounds]
        exact List.set_eq_of_length_le (by simpa [hn] using hd)
      rw [this]; exact ht i

theorem wanted_sound {ρ : Ren} {t : Tmps} {a : Act} {ops : Array Oper} {o : Oper} (ht : TR ρ t a.tmps) : Region.wanted o (yielded ops a.tmps) = wanted ops o t := by
  unfold Region.wanted wanted
  cases o.guard with
  | none => rfl
  | some g =>
    obtain ⟨j, want⟩ := g
    simp only [yielded]
    cases hd : (ops[j]?).bind (·.dst) with
    | none => rfl
    | some d =>
      have h1 := ht d
      simp only [Option.bind_some]
      generalize hx : t d = x at h1
      cases hg : a.tmps[d]? with
      | none =>
        have : a.tmps.getD d undef = undef := by simp [Array.getD_eq_getD_getElem?, hg]
        rw [this] at h1
        cases x <;> first | rfl | (cases h1; done) | cases h1
      | some y =>
        have : a.tmps.getD d undef = y := by simp [Array.getD_eq_getD_getElem?, hg]
        rw [this] at h1
        cases h1 <;> first | rfl | (cases want <;> rfl) | skip

theorem step_not_defer {op : Op} {t : Tmps} {h : Heap} {td : Todo} (hh : step P op t h = .ok td) : ∀ c, op ≠ .defer c := by
  intro c e; subst e; simp [step] at hh

/-- One operation, and on. -/
theorem oper_sound (hrec : RecSound P r) {β : Type} {o : Oper} {t : Tmps} {h : Heap} {k : Tmps → Heap → R β} {res : β} (hh : oper P r N o t h k = .ok res)
    {ρ : Ren} {a : Act} {w : World} {rd : Option Nat} {F : Fence} {n : Nat} (hF : FR ρ rd F) (hn : a.tmps.size = N) (ht : TR ρ t a.tmps) (hr : HR ρ h w)
    {K : Act → World → Prop} {Q : Exit → Act → World → Prop}
    (hk : ∀ t' h' ρ' a' w', k t' h' = .ok res → a'.tmps.size = N → TR ρ' t' a'.tmps → Post ρ h w ρ' h' w' → a'.defers = a.defers → K a' w') : o.wpIn F n P a w K Q := by
  simp only [oper, bindR_ok] at hh
  obtain ⟨td, hs, hh⟩ := hh
  have hst := step_sound (a := a) hr ht hs
  have hsem : o.semAt F.round a.eval = execOp a.eval o := Oper.semAt_eq _ _ _ (step_not_defer hs)
  refine ⟨fun f _ => by rw [hF.fn]; trivial, ?_⟩
  rw [hsem]
  have hdef : ∀ c, (a.put o.dst c).defers = a.defers := fun c => by cases o.dst <;> rfl
  cases td with
  | value v h' =>
    obtain ⟨c, w', ρ', h1, h2, h3⟩ := hst
    have hp := put_sound (d := o.dst) hn (ht.mono (h3.sub hr)) h2
    rcases h1 with h1 | ⟨h1, rfl⟩
    · rw [h1]; exact hk _ _ _ _ _ hh hp.2 hp.1 h3 (hdef c)
    · rw [h1]; exact hk _ _ _ _ _ hh hp.2 hp.1 h3 (hdef _)
  | enter f args =>
    obtain ⟨cargs, h1, h2⟩ := hst
    simp only [bindR_ok] at hh
    obtain ⟨⟨v, h'⟩, hc, hh⟩ := hh
    rw [h1]
    refine ⟨(fun e => by rw [hF.depth] at e; cases e), ?_⟩
    refine (hF.calls (hrec.call hc hr h2 (n - 1))).mono fun e w' ⟨c, ρ', he, hv, hp⟩ => ?_
    subst he
    have hq := put_sound (d := o.dst) hn (ht.mono (hp.sub hr)) hv
    exact hk _ _ _ _ _ hh hq.2 hq.1 hp (hdef c)
  | round l args =>
    obtain ⟨loc, cargs, hl, h1, h2⟩ := hst
    simp only [bindR_ok] at hh
    obtain ⟨⟨v, h'⟩, hc, hh⟩ := hh
    obtain ⟨fn, tmps, assign, body, h3, h4⟩ := hrec.round hc hr hl h2 (n - 1)
    rw [h1, h3]
    refine ⟨(fun e => by rw [hF.depth] at e; cases e), ?_⟩
    refine (hF.rounds h4).mono fun e w' ⟨c, ρ', he, hv, hp⟩ => ?_
    subst he
    have hq := put_sound (d := o.dst) hn (ht.mono (hp.sub hr)) hv
    exact hk _ _ _ _ _ hh hq.2 hq.1 hp (hdef c)
end
end Go.AM
namespace Go.AM
open Go

theorem mustM_ok {s : String} {b : Bool} {u : Unit} : mustM s b = .ok u ↔ b = true := by cases b <;> simp [mustM]

/-! ### What an operation looks at -/
section
variable {P : Program} {t t' : Tmps}
theorem evs_congr : ∀ {xs : List Operand}, (∀ x ∈ xs, ev t x = ev t' x) → evs t xs = evs t' xs
  | [], _ => rfl
  | x :: xs, h => by simp only [evs, h x (List.mem_cons_self ..), evs_congr fun y hy => h y (List.mem_cons_of_mem _ hy)]
theorem evp_congr : ∀ {xs : List (Nat × Operand)}, (∀ x ∈ xs.map (·.2), ev t x = ev t' x) → evp t xs = evp t' xs
  | [], _ => rfl
  | (i, x) :: xs, h => by simp only [evp, h x (List.mem_cons_self ..), evp_congr fun y hy => h y (List.mem_cons_of_mem _ hy)]
theorem evo_congr {x : Option Operand} (h : ∀ y, x = some y → ev t y = ev t' y) : evo t x = evo t' x := by
  cases x with
  | none => rfl
  | some x => simp only [evo, h x rfl]
theorem step_congr {op : Op} (h : Heap) (hx : ∀ x ∈ op.operands.toList, ev t x = ev t' x) : step P op t h = step P op t' h := by
  cases op
  case build ty ps => simp only [step]; rw [evp_congr (t := t) (t' := t')]; simpa [Op.operands] using hx
  case buildSlice ty n ps => simp only [step]; rw [evp_congr (t := t) (t' := t')]; simpa [Op.operands] using hx
  case makeFunc fn a b =>
    simp only [step]
    rw [evs_congr (t := t) (t' := t') (xs := a.toList) (fun x hm => hx x (by simp only [Op.operands, Array.toList_append, List.mem_append]; exact .inl hm)),
      evs_congr (t := t) (t' := t') (xs := b.toList) (fun x hm => hx x (by simp only [Op.operands, Array.toList_append, List.mem_append]; exact .inr hm))]
  case makeMap ty r => simp only [step]; rw [evo_congr (t := t) (t' := t')]; intro y e; subst e; exact hx y (by simp [Op.operands])
  case slice ty x l hh m =>
    simp only [step]
    rw [hx x (by simp [Op.operands]), evo_congr (t := t) (t' := t') (x := l) (fun y e => hx y (by subst e; simp [Op.operands])),
      evo_congr (t := t) (t' := t') (x := hh) (fun y e => hx y (by subst e; simp [Op.operands])), evo_congr (t := t) (t' := t') (x := m) (fun y e => hx y (by subst e; simp [Op.operands]))]
  case call c =>
    simp only [step, callStep]
    rw [evs_congr (t := t) (t' := t') (xs := c.args.toList) (fun x hm => hx x (by simp only [Op.operands, Call.operands]; simp; exact .inr (by simpa using hm)))]
    congr 1; funext args
    cases hc : c.callee with
    | builtin b => rfl
    | value f => simp only []; rw [hx f (by simp [Op.operands, Call.operands, hc])]
    | invoke _ _ => rfl
  case next x s => cases s with
    | true => simp only [step]; rw [hx x (by simp [Op.operands])]
    | false => rfl
  all_goals first | rfl | (simp only [step]; simp only [Op.operands, List.mem_cons, List.not_mem_nil, or_false, forall_eq_or_imp, forall_eq] at hx; simp only [hx]; done)
end

section
variable {P : Program} {r : Rec} {N : Nat} {ρ ρ' ρ₀ : Ren} {h h' h₀ : Heap} {w w' w₀ : World} {a : Act} {t : Tmps} {ops : Array Oper}

/-- Related where an operation looks. -/
def TO (ρ : Ren) (L : List Tmp) (t : Tmps) (tmps : Array Value) : Prop := ∀ d ∈ L, VR ρ (t d) (tmps.getD d undef)

theorem looks_op {o : Oper} {d : Tmp} (h : Operand.tmp d ∈ o.op.operands.toList) : d ∈ o.looksAt ops :=
  List.mem_append_left _ (List.mem_filterMap.2 ⟨.tmp d, h, rfl⟩)

theorem step_not_select {op : Op} {t : Tmps} {h : Heap} {td : Todo} (hh : step P op t h = .ok td) : ∀ c b, op ≠ .select c b := by
  intro c b e; subst e; simp [step] at hh

theorem step_soundL (hr : HR ρ h w) {o : Oper} {L : List Tmp} (hL : ∀ d, Operand.tmp d ∈ o.op.operands.toList → d ∈ L) (ht : TO ρ L t a.tmps) {td : Todo} (hh : step P o.op t h = .ok td) :
    StepOk P ρ h w (execOp a.eval o) td := by
  let t' : Tmps := fun d => if d ∈ L then t d else undef
  let a' : Act := { a with tmps := Array.ofFn (n := a.tmps.size) fun i => if i.val ∈ L then a.tmps.getD i.val undef else undef }
  have hget : ∀ d, a'.tmps.getD d undef = if d ∈ L then a.tmps.getD d undef else undef := by
    intro d
    by_cases hd : d < a.tmps.size
    · simp [a', Array.getD_eq_getD_getElem?, hd]
    · simp [a', Array.getD_eq_getD_getElem?, hd]
  have ht' : TR ρ t' a'.tmps := by
    intro d
    rw [hget]
    by_cases hd : d ∈ L
    · simp only [t', if_pos hd]; exact ht d hd
    · simp only [t', if_neg hd]; exact .undef ρ
  have h1 : step P o.op t' h = .ok td := by
    rw [← hh]
    refine step_congr h fun x hx => ?_
    cases x with
    | tmp d => simp only [ev, t', if_pos (hL d hx)]
    | const v => rfl
    | global g => rfl
    | func f => rfl
  have h2 : execOp a'.eval o = execOp a.eval o := by
    refine execOp_congr o (step_not_select hh) fun x hx => ?_
    cases x with
    | tmp d => simp only [Act.eval]; rw [hget, if_pos (hL d (by simpa using hx))]
    | const v => rfl
    | global g => rfl
    | func f => rfl
  rw [← h2]
  exact step_sound hr ht' h1

theorem wanted_soundL {o : Oper} (ht : TO ρ (o.looksAt ops) t a.tmps) : Region.wanted o (yielded ops a.tmps) = wanted ops o t := by
  unfold Region.wanted wanted
  unfold Oper.looksAt at ht
  cases hgd : o.guard with
  | none => rfl
  | some g =>
    obtain ⟨j, want⟩ := g
    simp only [yielded]
    cases hd : (ops[j]?).bind (·.dst) with
    | none => rfl
    | some d =>
      have h1 := ht d (List.mem_append_right _ (by rw [hgd]; simp only []; rw [hd]; simp))
      simp only [Option.bind_some]
      generalize hx : t d = x at h1
      cases hg : a.tmps[d]? with
      | none =>
        have : a.tmps.getD d undef = undef := by simp [Array.getD_eq_getD_getElem?, hg]
        rw [this] at h1
        cases x <;> first | rfl | (cases h1; done) | cases h1
      | some y =>
        have : a.tmps.getD d undef = y := by simp [Array.getD_eq_getD_getElem?, hg]
        rw [this] at h1
        cases h1 <;> first | rfl | (cases want <;> rfl) | skip

theorem stepV_sound (hrec : RecSound P r) {o : Oper} {v : Value} (hh : stepV P r o t h = .ok (v, h')) {L : List Tmp} (hL : ∀ d, Operand.tmp d ∈ o.op.operands.toList → d ∈ L) (ht : TO ρ L t a.tmps) {rd : Option Nat} {F : Fence} {n : Nat} (hF : FR ρ rd F) (hr : HR ρ h w)
    {K : Act → World → Prop} {Q : Exit → Act → World → Prop} (hk : ∀ c ρ' w', VR ρ' v c → Post ρ h w ρ' h' w' → K (a.put o.dst c) w') : o.wpIn F n P a w K Q := by
  simp only [stepV, bindR_ok] at hh
  obtain ⟨td, hs, hh⟩ := hh
  have hst := step_soundL (a := a) hr hL ht hs
  have hsem : o.semAt F.round a.eval = execOp a.eval o := Oper.semAt_eq _ _ _ (step_not_defer hs)
  refine ⟨fun f _ => by rw [hF.fn]; trivial, ?_⟩
  rw [hsem]
  cases td with
  | value v' h'' =>
    simp only [Except.ok.injEq, Prod.mk.injEq] at hh
    obtain ⟨rfl, rfl⟩ := hh
    obtain ⟨c, w', ρ', h1, h2, h3⟩ := hst
    rcases h1 with h1 | ⟨h1, rfl⟩
    · rw [h1]; exact hk _ _ _ h2 h3
    · rw [h1]; exact hk _ _ _ h2 h3
  | enter f args =>
    obtain ⟨cargs, h1, h2⟩ := hst
    rw [h1]
    refine ⟨(fun e => by rw [hF.depth] at e; cases e), ?_⟩
    refine (hF.calls (hrec.call hh hr h2 (n - 1))).mono fun e w' ⟨c, ρ', he, hv, hp⟩ => ?_
    subst he
    exact hk _ _ _ hv hp
  | round l args =>
    obtain ⟨loc, cargs, hl, h1, h2⟩ := hst
    obtain ⟨fn, tmps, assign, body, h3, h4⟩ := hrec.round hh hr hl h2 (n - 1)
    rw [h1, h3]
    refine ⟨(fun e => by rw [hF.depth] at e; cases e), ?_⟩
    refine (hF.rounds h4).mono fun e w' ⟨c, ρ', he, hv, hp⟩ => ?_
    subst he
    exact hk _ _ _ hv hp

/-! ### Blocks that the program has not laid yet -/
theorem HT_none_get (i : Nat) : HT.get i HT.none = .dead := by
  simp only [HT.get, HT.none, HT4.get, HT4.none, V8.get_all]
  split <;> rfl
theorem get_blank (m i : Nat) : (blankN m).get i = .dead := by
  simp only [Heap.get, blankN]
  split
  · exact HT_none_get i
  · rfl

theorem HR.blank (hr : HR ρ h w) {m : Nat} (hm : m ≤ h.n) : HR (ρ.below m) (blankN m) w := by
  refine ⟨trivial, fun i l e => ?_, fun i j li lj _ _ _ oi _ => ?_⟩
  · obtain ⟨h1, h2⟩ := Ren.below_some.1 e
    exact ⟨h1, fun hv => (by rw [get_blank] at hv; cases hv), by rw [get_blank]; trivial⟩
  · rw [get_blank] at oi; cases oi

/-- One more block that the program knows nothing of. -/
theorem Post.pad (p : Post ρ h w ρ' h' w') (hn : True) (b : Blk) : Post ρ h w ρ' (h'.put b) w' := by
  have hg : ∀ i, i < h'.n → (h'.put b).get i = h'.get i := fun i hi => by rw [get_put hn, if_neg (by omega)]
  refine ⟨Nat.le_trans p.n_le (by simp [Heap.put]), p.ext, ⟨trivial, fun i l e => ?_, fun i j li lj hij ei ej oi vj => ?_⟩,
    ⟨p.fr.size, p.fr.same, fun i l e o => ?_, p.fr.os, p.fr.output, p.fr.tape⟩, p.trk.trans p.n_le (Trk.put hn), fun i hi e => ?_⟩
  · obtain ⟨h1, h2, h3⟩ := p.hr.dom i l e
    exact ⟨by simp [Heap.put]; omega, fun hv => h2 (by rw [hg i h1] at hv; exact hv), by rw [hg i h1]; exact h3⟩
  · rw [hg i (p.hr.dom i li ei).1] at oi
    rw [hg j (p.hr.dom j lj ej).1] at vj
    exact p.hr.inj i j li lj hij ei ej oi vj
  · rw [hg i (p.hr.dom i l e).1] at o
    exact p.fr.new i l e o
  · rw [hg i (Nat.lt_of_lt_of_le hi p.n_le)]; exact p.far i hi e

/-- What laid nothing or one block of its own, run anew on an empty heap: the program has done it. -/
theorem Post.fill (p : Post ρ₀ h₀ w₀ ρ h w) {m : Nat} {hb : Heap} {ρ₁ : Ren} (q : Post (ρ.below m) (blankN m) w ρ₁ hb w')
    (hm : m ≤ h.n) (hc : hb.n = m ∨ (hb.n = m + 1 ∧ owned (hb.get m) = true ∧ h₀.n ≤ m ∧ m < h.n ∧ h.get m = hb.get m ∧ ρ m = none)) :
    ∃ ρ', Post ρ₀ h₀ w₀ ρ' h w' ∧ Sub ρ ρ' ∧ Sub ρ₁ ρ' ∧ (∀ i, i ≠ m → ρ' i = ρ i) ∧ (hb.n = m → ρ' = ρ) ∧ (∀ c, c < w.heap.size → w'.heap[c]? = w.heap[c]?) ∧ w.heap.size ≤ w'.heap.size := by
  have hold : ∀ c, c < w.heap.size → w'.heap[c]? = w.heap[c]? := fun c hc => q.fr.same c hc fun i l _ o => by rw [get_blank] at o; cases o
  have hsz := q.fr.size
  have hsub : ∀ i l, i < m → ρ₁ i = some l → ρ i = some l := fun i l hi e => by
    have := q.ext i hi
    rw [this] at e
    exact (Ren.below_some.1 e).2
  rcases hc with hc | ⟨hc, ho, hm0, hmn, hg, hnone⟩
  · refine ⟨ρ, ⟨p.n_le, p.ext, ⟨p.hr.n_le, fun i l e => ?_, p.hr.inj⟩, ⟨Nat.le_trans p.fr.size hsz, fun c hc hno => ?_, p.fr.new, q.fr.os.trans p.fr.os, q.fr.output.trans p.fr.output, q.fr.tape.trans p.fr.tape⟩, p.trk, p.far⟩,
      .refl _, fun i l e => hsub i l (by have := (q.hr.dom i l e).1; omega) e, fun _ _ => rfl, fun _ => rfl, hold, hsz⟩
    · obtain ⟨h1, h2, h3⟩ := p.hr.dom i l e
      exact ⟨h1, fun hv => (by have := h2 hv; omega), h3.keep fun hv => hold _ (h2 hv)⟩
    · rw [hold c (Nat.lt_of_lt_of_le hc p.fr.size)]; exact p.fr.same c hc hno
  · let ρ' : Ren := fun i => if i = m then ρ₁ m else ρ i
    have e1 : ∀ i, i ≠ m → ρ' i = ρ i := fun i hi => if_neg hi
    have e2 : ρ' m = ρ₁ m := if_pos rfl
    have s1 : Sub ρ ρ' := fun i l e => by
      by_cases hi : i = m
      · subst hi; rw [hnone] at e; cases e
      · rw [e1 i hi]; exact e
    have s2 : Sub ρ₁ ρ' := fun i l e => by
      by_cases hi : i = m
      · subst hi; rw [e2]; exact e
      · rw [e1 i hi]; exact hsub i l (by have := (q.hr.dom i l e).1; omega) e
    have hnew : ∀ l, ρ₁ m = some l → w.heap.size ≤ l.blk := fun l e => by
      rcases q.fr.new m l e ho with h1 | ⟨j, lj, _, oj, _⟩
      · exact h1
      · rw [get_blank] at oj; cases oj
    refine ⟨ρ', ⟨p.n_le, fun i hi => (e1 i (by omega)).trans (p.ext i hi), ⟨p.hr.n_le, fun i l e => ?_, fun i j li lj hij ei ej oi vj => ?_⟩,
      ⟨Nat.le_trans p.fr.size hsz, fun c hc hno => ?_, fun i l e o => ?_, q.fr.os.trans p.fr.os, q.fr.output.trans p.fr.output, q.fr.tape.trans p.fr.tape⟩, p.trk, p.far⟩,
      s1, s2, e1, fun e => by omega, hold, hsz⟩
    · by_cases hi : i = m
      · subst hi
        rw [e2] at e
        obtain ⟨_, h2, h3⟩ := q.hr.dom _ l e
        exact ⟨hmn, fun hv => h2 (by rw [← hg]; exact hv), by rw [hg]; exact h3.mono s2⟩
      · rw [e1 i hi] at e
        obtain ⟨h1, h2, h3⟩ := p.hr.dom i l e
        exact ⟨h1, fun hv => (by have := h2 hv; omega), (h3.keep fun hv => hold _ (h2 hv)).mono s1⟩
    · by_cases hi : i = m
      · subst hi
        rw [e2] at ei
        rw [e1 j (fun e => hij e.symm)] at ej
        have := hnew li ei
        have := (p.hr.dom j lj ej).2.1 vj
        omega
      · rw [e1 i hi] at ei
        by_cases hj : j = m
        · subst hj
          rw [e2] at ej
          have := hnew lj ej
          have := (p.hr.dom i li ei).2.1 (live_of_owned oi)
          omega
        · rw [e1 j hj] at ej
          exact p.hr.inj i j li lj hij ei ej oi vj
    · rw [hold c (Nat.lt_of_lt_of_le hc p.fr.size)]; exact p.fr.same c hc hno
    · by_cases hi : i = m
      · subst hi
        rw [e2] at e
        exact .inl (Nat.le_trans p.fr.size (hnew l e))
      · rw [e1 i hi] at e
        exact p.fr.new i l e o
end
end Go.AM
namespace Go.AM
open Go

/-! ### Bits -/
theorem bit_or {a b i : Nat} : bit (Nat.lor a b) i = (bit a i || bit b i) := Nat.testBit_or ..
theorem bit_pow {i j : Nat} : bit (Nat.pow 2 i) j = true ↔ i = j := by
  show Nat.testBit (2 ^ i) j = true ↔ i = j
  rw [Nat.testBit_two_pow]; simp
theorem bit_zero {i : Nat} : bit 0 i = false := Nat.zero_testBit i
theorem bit_add {a i j : Nat} : bit (Nat.lor (Nat.pow 2 i) a) j = true ↔ i = j ∨ bit a j = true := by
  rw [bit_or, Bool.or_eq_true, bit_pow]
theorem sub_of_true {a b : Nat} (h : sub a b = true) {i : Nat} (hi : bit a i = true) : bit b i = true := by
  have e : Nat.lor a b = b := Nat.eq_of_beq_eq_true h
  rw [← e, bit_or, hi, Bool.true_or]
theorem sub_of {a b : Nat} (h : ∀ i, bit a i = true → bit b i = true) : sub a b = true := by
  have e : Nat.lor a b = b := by
    refine Nat.eq_of_testBit_eq fun i => ?_
    show bit (Nat.lor a b) i = bit b i
    rw [bit_or]
    cases ha : bit a i with
    | true => rw [h i ha]; rfl
    | false => rfl
  simp only [sub]; rw [e]; exact Nat.beq_refl b

/-! ### The plan -/
abbrev bnd (e : Edge) : Prop := Region.binds .any e = true
def Closed (ops : Array Oper) (S : Nat → Prop) : Prop := ∀ (j : Nat) (o : Oper), ops[j]? = some o → S j → ∀ e ∈ o.after.toList, bnd e → S e.on
def SpotOk (ops : Array Oper) (x : Spot) : Prop := ops[x.1]? = some x.2.2 ∧
  ∀ S : Nat → Prop, Closed ops S → (∀ e ∈ x.2.2.after.toList, bnd e → S e.on) → ∀ y, bit x.2.1 y = true → S y

theorem lk_ok {acc : List Spot} {j : Nat} : lk acc j = 0 ∨ ∃ o, (j, lk acc j, o) ∈ acc := by
  induction acc with
  | nil => exact .inl rfl
  | cons x acc ih =>
    obtain ⟨i, b, o⟩ := x
    simp only [lk]
    cases h : Nat.beq i j with
    | true =>
      obtain rfl := Nat.eq_of_beq_eq_true h
      exact .inr ⟨o, List.mem_cons_self ..⟩
    | false =>
      rcases ih with h | ⟨o', h⟩
      · exact .inl h
      · exact .inr ⟨o', List.mem_cons_of_mem _ h⟩

theorem maskE_ok {ops : Array Oper} {acc : List Spot} (ha : ∀ x ∈ acc, SpotOk ops x) {S : Nat → Prop} (hS : Closed ops S) : ∀ (es : List Edge), (∀ e ∈ es, bnd e → S e.on) → ∀ y, bit (maskE acc es) y = true → S y
  | [], _, y, h => by simp only [maskE, bit_zero] at h; cases h
  | e :: es, he, y, h => by
    have hrec := maskE_ok ha hS es (fun e' hm => he e' (List.mem_cons_of_mem _ hm)) y
    simp only [maskE] at h
    split at h
    · rename_i hb
      have hon := he e (List.mem_cons_self ..) hb
      rw [bit_or, bit_or, Bool.or_eq_true, Bool.or_eq_true] at h
      rcases h with (h | h) | h
      · rw [bit_pow] at h; subst h; exact hon
      · rcases lk_ok (acc := acc) (j := e.on) with h0 | ⟨o, h0⟩
        · rw [h0, bit_zero] at h; cases h
        · obtain ⟨h1, h2⟩ := ha _ h0
          exact h2 S hS (fun e' hm hb' => hS _ _ h1 hon e' hm hb') y h
      · exact hrec h
    · exact hrec h

theorem planL_ok {ops : Array Oper} : ∀ (os : List Oper) (i : Nat) (acc : List Spot), (∀ x ∈ acc, SpotOk ops x) → (∀ k, os[k]? = ops[i + k]?) →
    (∀ x ∈ planL os i acc, SpotOk ops x ∧ i ≤ x.1) ∧ (∀ (j : Nat) (o : Oper), i ≤ j → ops[j]? = some o → ∃ b, (j, b, o) ∈ planL os i acc) ∧
    (∀ x ∈ planL os i acc, ∀ y ∈ planL os i acc, x.1 = y.1 → x = y)
  | [], i, acc, _, hk => by
    refine ⟨fun x h => by simp [planL] at h, fun j o hj ho => ?_, fun x h => by simp [planL] at h⟩
    have := hk (j - i)
    rw [show i + (j - i) = j by omega, ho] at this
    simp at this
  | o :: os, i, acc, ha, hk => by
    have h0 : ops[i]? = some o := by have := hk 0; simpa using this.symm
    have hx : SpotOk ops (i, maskE acc o.after.toList, o) := ⟨h0, fun S hS hp y hy => maskE_ok ha hS _ hp y hy⟩
    obtain ⟨h1, h2, h3⟩ := planL_ok os (i + 1) ((i, maskE acc o.after.toList, o) :: acc) (fun x hm => by
      rcases List.mem_cons.1 hm with rfl | hm
      · exact hx
      · exact ha x hm) (fun k => by have := hk (k + 1); rw [show i + 1 + k = i + (k + 1) by omega]; simpa using this)
    simp only [planL]
    refine ⟨fun x hm => ?_, fun j o' hj ho => ?_, fun x hm y hm' e => ?_⟩
    · rcases List.mem_cons.1 hm with rfl | hm
      · exact ⟨hx, Nat.le_refl _⟩
      · exact ⟨(h1 x hm).1, Nat.le_of_succ_le (h1 x hm).2⟩
    · by_cases hji : j = i
      · subst hji; rw [h0] at ho; cases ho; exact ⟨_, List.mem_cons_self ..⟩
      · obtain ⟨b, hb⟩ := h2 j o' (by omega) ho
        exact ⟨b, List.mem_cons_of_mem _ hb⟩
    · rcases List.mem_cons.1 hm with rfl | hm <;> rcases List.mem_cons.1 hm' with rfl | hm'
      · rfl
      · have := (h1 y hm').2; simp only [] at e; omega
      · have := (h1 x hm).2; simp only [] at e; omega
      · exact h3 x hm y hm' e

structure PlanOk (ops : Array Oper) (N : Nat) (pl : List Spot) : Prop where
  ok : ∀ x ∈ pl, SpotOk ops x
  all : ∀ (j : Nat) (o : Oper), ops[j]? = some o → ∃ b, (j, b, o) ∈ pl
  uniq : ∀ x ∈ pl, ∀ y ∈ pl, x.1 = y.1 → x = y
  back : ∀ x ∈ pl, ∀ e ∈ x.2.2.after.toList, bnd e → e.on < x.1
  dstN : ∀ x ∈ pl, ∀ d, x.2.2.dst = some d → d < N
  dist : ∀ x ∈ pl, ∀ y ∈ pl, ∀ d, x.2.2.dst = some d → y.2.2.dst = some d → y.1 = x.1
  look : ∀ x ∈ pl, ∀ y ∈ pl, ∀ d, d ∈ x.2.2.looksAt ops → y.2.2.dst = some d → bit x.2.1 y.1 = true ∨ bit y.2.1 x.1 = true

theorem planOk {ops : Array Oper} {N : Nat} (h : static ops N (planL ops.toList 0 []) = true) : PlanOk ops N (planL ops.toList 0 []) := by
  obtain ⟨h1, h2, h3⟩ := planL_ok (ops := ops) ops.toList 0 [] (fun x hm => by cases hm) (fun k => by simp)
  have hs : ∀ x ∈ planL ops.toList 0 [], apart1 ops N (planL ops.toList 0 []) x = true := by simpa [static] using h
  refine ⟨fun x hm => (h1 x hm).1, fun j o ho => h2 j o (Nat.zero_le _) ho, h3, fun x hm e he hb => ?_, fun x hm d hd => ?_, fun x hm y hm' d hd hd' => ?_, fun x hm y hm' d hd hd' => ?_⟩
  · have := hs x hm
    simp only [apart1, Bool.and_eq_true, List.all_eq_true] at this
    have := this.1.1 e he
    rw [hb] at this
    simpa [blt_true] using this
  · have := hs x hm
    simp only [apart1, Bool.and_eq_true, List.all_eq_true] at this
    have := this.1.2
    rw [hd] at this
    exact blt_true.1 this
  · have := hs x hm
    simp only [apart1, Bool.and_eq_true, List.all_eq_true] at this
    have := this.2 y hm'
    rw [hd'] at this
    simp only [Bool.and_eq_true, Bool.or_eq_true] at this
    rcases this.1 with h | h
    · exact Nat.eq_of_beq_eq_true h
    · rw [hd] at h; simp at h
  · have := hs x hm
    simp only [apart1, Bool.and_eq_true, List.all_eq_true] at this
    have := this.2 y hm'
    rw [hd'] at this
    simp only [Bool.and_eq_true, Bool.or_eq_true] at this
    rcases this.2 with (h | h) | h
    · exact .inl h
    · exact .inr h
    · simp [hd] at h

/-! ### Same values -/
theorem sameL_eq {f : Value → Value → Bool} (hf : ∀ x y, f x y = true → x = y) : ∀ (xs ys : List Value), sameL f xs ys = true → xs = ys
  | [], [], _ => rfl
  | [], _ :: _, h => by simp [sameL] at h
  | _ :: _, [], h => by simp [sameL] at h
  | x :: xs, y :: ys, h => by
    simp only [sameL] at h
    split at h
    · rename_i hx; rw [hf x y hx, sameL_eq hf xs ys h]
    · cases h
theorem sameV_eq : ∀ (f : Nat) (x y : Value), sameV f x y = true → x = y
  | 0, _, _, h => by simp [sameV] at h
  | f + 1, x, y, h => by
    unfold sameV at h
    split at h
    · rw [eq_of_beq h]
    · rw [Bool.and_eq_true] at h; rw [eq_of_beq h.1, eq_of_beq h.2]
    · rename_i a b
      have e := eq_of_beq h
      obtain ⟨a⟩ := a
      obtain ⟨b⟩ := b
      have e' : a = b := Array.ext' e
      rw [e']
    · rw [eq_of_beq h]
    · rw [Bool.and_eq_true, Bool.and_eq_true] at h; rw [eq_of_beq h.1, Nat.eq_of_beq_eq_true h.2.1, Nat.eq_of_beq_eq_true h.2.2]
    · rw [eq_of_beq h]
    · rw [Bool.and_eq_true, Bool.and_eq_true] at h
      rw [Nat.eq_of_beq_eq_true h.1, Array.ext' (sameL_eq (sameV_eq f) _ _ h.2.1), Array.ext' (sameL_eq (sameV_eq f) _ _ h.2.2)]
    · rfl
    · rfl
    · rw [Bool.and_eq_true] at h; rw [eq_of_beq h.1, sameV_eq f _ _ h.2]
    · rw [Array.ext' (sameL_eq (sameV_eq f) _ _ h)]
    · rw [Array.ext' (sameL_eq (sameV_eq f) _ _ h)]
    · cases h

/-! ### Reads -/
theorem val_heap {h : Heap} {x : R Value} {td : Todo} (hh : val h x = .ok td) : ∃ v, td = .value v h := by
  simp only [val, bindR_ok] at hh
  obtain ⟨v, _, he⟩ := hh
  cases he
  exact ⟨v, rfl⟩
theorem isRead_heap {P : Program} {op : Op} {t : Tmps} {h : Heap} {td : Todo} (hr : isRead op = true) (hh : step P op t h = .ok td) : ∃ v, td = .value v h := by
  cases op <;> simp only [isRead, Bool.false_eq_true] at hr
  case load ty a => simp only [step, bindR_ok] at hh; obtain ⟨_, _, hh⟩ := hh; exact val_heap hh
  case slice ty x lo hi mx => simp only [step, bindR_ok] at hh; obtain ⟨_, _, _, _, _, _, _, _, hh⟩ := hh; exact val_heap hh
  case lookup ty x i ok => simp only [step, bindR_ok] at hh; obtain ⟨_, _, _, _, hh⟩ := hh; exact val_heap hh
  case call c =>
    simp only [step, callStep, bindR_ok] at hh
    obtain ⟨args, _, hh⟩ := hh
    split at hr
    · rename_i hc
      rw [hc] at hh
      simp only [builtinV, valh, bindR_ok, Except.ok.injEq] at hh
      obtain ⟨⟨v, h'⟩, ⟨v', hv, e⟩, e'⟩ := hh
      cases e
      exact ⟨_, e'.symm⟩
    · cases hr
end Go.AM
