/- A part of the abstract machine: definitions and lemmas for all programs, no claim of its own; no condition. -/
import Derived.Test.YtpmlgmhmejhfeaaGreatAmStep
set_option linter.unusedVariables false
set_option linter.unusedSimpArgs false
namespace Go.AM
open Go

/-- The fence of a walk: the wide one, in no round or in a round of the loop that the abstract machine names so. -/
def FR (ρ : Ren) (rd : Option Nat) (F : Fence) : Prop :=
  (rd = none ∧ F = Fence.wide) ∨ ∃ l loc, rd = some l ∧ ρ l = some loc ∧ F = Fence.wide.inRound loc.blk
theorem FR.mono {ρ ρ' : Ren} (hs : Sub ρ ρ') {rd : Option Nat} {F : Fence} (h : FR ρ rd F) : FR ρ' rd F := by
  rcases h with h | ⟨l, loc, h1, h2, h3⟩
  · exact .inl h
  · exact .inr ⟨l, loc, h1, hs _ _ h2, h3⟩
theorem FR.fn {ρ : Ren} {rd : Option Nat} {F : Fence} (h : FR ρ rd F) : F.fn = fun _ => True := by
  rcases h with ⟨_, rfl⟩ | ⟨l, loc, _, _, rfl⟩ <;> rfl
theorem FR.depth {ρ : Ren} {rd : Option Nat} {F : Fence} (h : FR ρ rd F) : F.depth = none := by
  rcases h with ⟨_, rfl⟩ | ⟨l, loc, _, _, rfl⟩ <;> rfl
theorem FR.calls {ρ : Ren} {rd : Option Nat} {F : Fence} (h : FR ρ rd F) {n : Nat} {P : Program} {f : FuncId} {args : Array Value} {w : World} {R : Ending → World → Prop}
    (hc : CallsIn Fence.wide n P f args w R) : CallsIn F n P f args w R := by
  rcases h with ⟨_, rfl⟩ | ⟨l, loc, _, _, rfl⟩ <;> exact hc
theorem FR.rounds {ρ : Ren} {rd : Option Nat} {F : Fence} (h : FR ρ rd F) {n : Nat} {P : Program} {l : Nat} {f : FuncId} {tmps : Array Value} {assign body : Code} {w : World} {R : Ending → World → Prop}
    (hc : RoundIn Fence.wide n P l f tmps assign body w R) : RoundIn F n P l f tmps assign body w R := by
  rcases h with ⟨_, rfl⟩ | ⟨l, loc, _, _, rfl⟩ <;> exact hc

/-- The marks of the loops over functions among a frame's deferred calls. -/
def DR (s : Nat) (ρ : Ren) (h : Heap) (w : World) (ds : List Deferred) : Prop :=
  (s ≤ w.heap.size ∧ ∀ d ∈ ds, ∃ i l, ρ i = some l ∧ h.get i = .defs ∧ s ≤ l.blk ∧ l.blk < w.heap.size ∧ w.heap[l.blk]? = some (.deferred (some [])) ∧ d = { target := .collected l.blk, args := #[] }) ∧ ds.Nodup

theorem DR.post {s : Nat} {ρ ρ' : Ren} {h h' : Heap} {w w' : World} {ds : List Deferred} (hr : HR ρ h w) (p : Post ρ h w ρ' h' w') (hd : DR s ρ h w ds) : DR s ρ' h' w' ds := by
  refine ⟨⟨Nat.le_trans hd.1.1 p.fr.size, fun d hmem => ?_⟩, hd.2⟩
  obtain ⟨i, l, h1, h2, h3, h4, h5, h6⟩ := hd.1.2 d hmem
  have hlt := (hr.dom i l h1).1
  refine ⟨i, l, p.sub hr _ _ h1, p.trk.defs i hlt h2, h3, Nat.lt_of_lt_of_le h4 p.fr.size, ?_, h6⟩
  rw [p.fr.same l.blk h4 (fun j lj hj oj e => ?_)]
  · exact h5
  · refine hr.inj j i lj l ?_ hj h1 oj (by rw [h2]; rfl) e
    intro e'; subst e'; rw [h2] at oj; cases oj

def outOf : AExit → Exit
  | .normal => .normal
  | .exit id => .exit id
  | .goto l => .goto l
  | .ret => .ret

/-- In a loop, ahead of its body. -/
def LoopIn (F : Fence) (n : Nat) (P : Program) (c : Code) (Q : Exit → Act → World → Prop) (a : Act) (w : World) : Prop :=
  ∀ (b : Frame) (k : List Item) (cs : List Frame), b.roundOf = F.round → F.fn b.fn → F.room (cs.length + 1 + n) →
    ∃ e a' w', Q e a' w' ∧ ArrivesIn (Machine.fenced P F) P (lone (b.atR a (.code c :: .inLoop c :: k)) cs w) b k cs e a' w'
/-- In a scope, ahead of c. -/
def ScopeIn (F : Fence) (n : Nat) (P : Program) (s : Code) (Q : Exit → Act → World → Prop) (c : Code) (a : Act) (w : World) : Prop :=
  ∀ (b : Frame) (k : List Item) (cs : List Frame), b.roundOf = F.round → F.fn b.fn → F.room (cs.length + 1 + n) →
    ∃ e a' w', Q e a' w' ∧ ArrivesIn (Machine.fenced P F) P (lone (b.atR a (.code c :: .inScope s :: k)) cs w) b k cs e a' w'
/-- In a scope, at a jump to a label. -/
def JumpIn (F : Fence) (n : Nat) (P : Program) (s : Code) (Q : Exit → Act → World → Prop) (l : Nat) (a : Act) (w : World) : Prop :=
  match findLabel s l with
  | none => Q (.goto l) a w
  | some rest => ScopeIn F n P s Q rest a w
def inScopeQ (F : Fence) (n : Nat) (P : Program) (s : Code) (Q : Exit → Act → World → Prop) : Exit → Act → World → Prop
  | .goto l, a, w => JumpIn F n P s Q l a w
  | e, a, w => Q e a w

section rules
variable {F : Fence} {n : Nat} {P : Program} {Q : Exit → Act → World → Prop} {a : Act} {w : World}
theorem loopIn_step {c : Code} (h : c.wpIn F n P (Exit.then (LoopIn F n P c Q) Q) a w) : LoopIn F n P c Q a w := by
  intro b k cs hro hb hr
  obtain ⟨e, a₁, w₁, hq, harr⟩ := h b (.inLoop c :: k) cs hro hb hr
  cases e with
  | normal =>
    obtain ⟨e₂, a₂, w₂, hq₂, harr₂⟩ := hq b k cs hro hb hr
    exact ⟨e₂, a₂, w₂, hq₂, .of_steps (StepsIn.trans harr (.one (fenced_calm hb hr rfl) stepR_inLoop)) harr₂⟩
  | exit id => exact ⟨_, a₁, w₁, hq, .pass (x := .inLoop c) rfl (fun _ _ => .inl (by simp)) harr⟩
  | goto l => exact ⟨_, a₁, w₁, hq, .pass (x := .inLoop c) rfl (fun _ _ => .inl (by simp)) harr⟩
  | ret => exact ⟨_, a₁, w₁, hq, .pass (x := .inLoop c) rfl (fun _ _ => .inl (by simp)) harr⟩
  | panic ch => exact ⟨_, a₁, w₁, hq, .pass (x := .inLoop c) rfl (fun _ _ => .inl (by simp)) harr⟩
  | outgrown => exact ⟨_, a₁, w₁, hq, .pass (x := .inLoop c) rfl (fun _ _ => .inl (by simp)) harr⟩
theorem wpIn_loop_of {c : Code} (h : LoopIn F n P c Q a w) : (Code.loop c).wpIn F n P Q a w := fun b k cs hro hb hr =>
  let ⟨e, a', w', q, r⟩ := h b k cs hro hb hr; ⟨e, a', w', q, .of_steps (.one (fenced_calm hb hr rfl) stepR_loop) r⟩

theorem stepR_scope' {b : Frame} {s : Code} {k : List Item} {cs : List Frame} : Go.step P (lone (b.atR a (.code (.scope s) :: k)) cs w) = .next (lone (b.atR a (.code s :: .inScope s :: k)) cs w) :=
  step_lone_go (by simp [stepG, stepG.exec, Frame.atR])
theorem stepR_inScope' {b : Frame} {s : Code} {k : List Item} {cs : List Frame} : Go.step P (lone (b.atR a (.inScope s :: k)) cs w) = .next (lone (b.atR a k) cs w) :=
  step_lone_go (by simp [stepG, stepG.exec, Frame.atR])

theorem scopeIn_step {s c : Code} (h : c.wpIn F n P (inScopeQ F n P s Q) a w) : ScopeIn F n P s Q c a w := by
  intro b k cs hro hb hr
  obtain ⟨e, a₁, w₁, hq, harr⟩ := h b (.inScope s :: k) cs hro hb hr
  cases e with
  | normal => exact ⟨.normal, a₁, w₁, hq, StepsIn.trans harr (.one (fenced_calm hb hr rfl) stepR_inScope')⟩
  | exit id =>
    have hx : exitTo id (.inScope s :: k) = exitTo id k := by simp [exitTo]
    exact ⟨_, a₁, w₁, hq, fun k' hk => harr.1 k' (by rw [hx]; exact hk), fun hr' hk => harr.2 hr' (by rw [hx]; exact hk)⟩
  | goto l =>
    simp only [inScopeQ, JumpIn] at hq
    cases hf : findLabel s l with
    | none =>
      rw [hf] at hq
      have hx : gotoIn l (.inScope s :: k) = gotoIn l k := by simp [gotoIn, hf]
      exact ⟨_, a₁, w₁, hq, fun k' hk => harr.1 k' (by rw [hx]; exact hk), fun hr' hk => harr.2 hr' (by rw [hx]; exact hk)⟩
    | some rest =>
      rw [hf] at hq
      obtain ⟨e₂, a₂, w₂, hq₂, harr₂⟩ := hq b k cs hro hb hr
      exact ⟨e₂, a₂, w₂, hq₂, .of_steps (harr.1 _ (by simp [gotoIn, hf])) harr₂⟩
  | ret => exact ⟨_, a₁, w₁, hq, harr⟩
  | panic ch => exact ⟨_, a₁, w₁, hq, harr⟩
  | outgrown => exact ⟨_, a₁, w₁, hq, harr⟩
theorem wpIn_scope_of {s : Code} (h : ScopeIn F n P s Q s a w) : (Code.scope s).wpIn F n P Q a w := fun b k cs hro hb hr =>
  let ⟨e, a', w', q, r⟩ := h b k cs hro hb hr; ⟨e, a', w', q, .of_steps (.one (fenced_calm hb hr rfl) stepR_scope') r⟩
end rules

/-- What a call, a round and a jump back of the abstract machine say of the program's. -/
structure RecSound (P : Program) (r : Rec) : Prop where
  call : ∀ {f args h v h'}, r.call f args h = .ok (v, h') → ∀ {ρ w} {cargs : Array Value}, HR ρ h w → VL ρ args.toList cargs.toList → ∀ n,
    CallsIn Fence.wide n P f cargs w fun e w' => ∃ c ρ', e = .returned c ∧ VR ρ' v c ∧ Post ρ h w ρ' h' w'
  round : ∀ {l args h v h'}, r.round l args h = .ok (v, h') → ∀ {ρ w loc} {cargs : Array Value}, HR ρ h w → ρ l = some loc → VL ρ args.toList cargs.toList → ∀ n,
    ∃ fn tmps assign body, (Instr.yield loc.blk cargs).run P w = .ok (.round loc.blk fn tmps assign body) w ∧
      RoundIn Fence.wide n P loc.blk fn tmps assign body w fun e w' => ∃ c ρ', e = .returned c ∧ VR ρ' v c ∧ Post ρ h w ρ' h' w'
  again : ∀ {N b l t h rd e t' h'}, r.again N b l t h rd = .ok (e, t', h') → ∀ {s ρ a w F n Q}, FR ρ rd F → a.tmps.size = N → TR ρ t a.tmps → HR ρ h w → DR s ρ h w a.defers →
    (∀ ρ' a' w', a'.tmps.size = N → TR ρ' t' a'.tmps → Post ρ h w ρ' h' w' → DR s ρ' h' w' a'.defers → Q (outOf e) a' w') → JumpIn F n P b Q l a w

section
variable {P : Program} {r : Rec} {N : Nat}

theorem put_sound {ρ : Ren} {t : Tmps} {a : Act} {v c : Value} {d : Option Tmp} (hn : a.tmps.size = N) (ht : TR ρ t a.tmps) (hv : VR ρ v c) : TR ρ (put N t d v) (a.put d c).tmps ∧ (a.put d c).tmps.size = N := by
  cases d with
  | none => exact ⟨ht, hn⟩
  | some d =>
    simp only [Act.put]
    refine ⟨fun i => ?_, by simpa using hn⟩
    cases hb : Nat.blt d N with
    | true =>
      simp only [put, hb]
      have hd := blt_true.1 hb
      by_cases he : i = d
      · subst he
        rw [Nat.beq_refl]
        have : (a.tmps.setIfInBounds i c).getD i undef = c := by simp [Array.getD, hn, hd]
        rw [this]; exact hv
      · have hb : Nat.beq i d = false := by
          cases hx : Nat.beq i d with
          | false => rfl
          | true => exact absurd (Nat.eq_of_beq_eq_true hx) he
        rw [hb]
        have : (a.tmps.setIfInBounds d c).getD i undef = a.tmps.getD i undef := by
          simp [Array.getD_eq_getD_getElem?, Array.getElem?_setIfInBounds_ne (fun e => he e.symm)]
        rw [this]; exact ht i
    | false =>
      simp only [put, hb]
      have hd := blt_false.1 hb
      have : a.tmps.setIfInBounds d c = a.tmps := by
        apply Array.ext'
        simp only [Array.toList_setIfInBounds]
        exact List.set_eq_of_length_le (by simpa [hn] using hd)
      rw [this]; exact ht i

theorem wanted_sound {ρ : Ren} {t : Tmps} {a : Act} {ops : Array Oper} {o : Oper} (ht : TR ρ t a.tmps) : Region.wanted o (yielded ops a.tmps) = wanted ops o t := by
  unfold Region.wanted wanted
  cases o.guard with
  | none => rfl
  | some g =>
    obtain ⟨j, want⟩ := g
    simp only [yielded]
    cases hd : (ops[j]?).bind (·.dst) with
    | none => rfl
    | some d =>
      have h1 := ht d
      simp only [Option.bind_some]
      generalize hx : t d = x at h1
      cases hg : a.tmps[d]? with
      | none =>
        have : a.tmps.getD d undef = undef := by simp [Array.getD_eq_getD_getElem?, hg]
        rw [this] at h1
        cases x <;> first | rfl | (cases h1; done) | cases h1
      | some y =>
        have : a.tmps.getD d undef = y := by simp [Array.getD_eq_getD_getElem?, hg]
        rw [this] at h1
        cases h1 <;> first | rfl | (cases want <;> rfl) | skip

theorem step_not_defer {op : Op} {t : Tmps} {h : Heap} {td : Todo} (hh : step P op t h = .ok td) : ∀ c, op ≠ .defer c := by
  intro c e; subst e; simp [step] at hh

/-- One operation, and on. -/
theorem oper_sound (hrec : RecSound P r) {β : Type} {o : Oper} {t : Tmps} {h : Heap} {k : Tmps → Heap → R β} {res : β} (hh : oper P r N o t h k = .ok res)
    {ρ : Ren} {a : Act} {w : World} {rd : Option Nat} {F : Fence} {n : Nat} (hF : FR ρ rd F) (hn : a.tmps.size = N) (ht : TR ρ t a.tmps) (hr : HR ρ h w)
    {K : Act → World → Prop} {Q : Exit → Act → World → Prop}
    (hk : ∀ t' h' ρ' a' w', k t' h' = .ok res → a'.tmps.size = N → TR ρ' t' a'.tmps → Post ρ h w ρ' h' w' → a'.defers = a.defers → K a' w') : o.wpIn F n P a w K Q := by
  simp only [oper, bindR_ok] at hh
  obtain ⟨td, hs, hh⟩ := hh
  have hst := step_sound (a := a) hr ht hs
  have hsem : o.semAt F.round a.eval = execOp a.eval o := Oper.semAt_eq _ _ _ (step_not_defer hs)
  refine ⟨fun f _ => by rw [hF.fn]; trivial, ?_⟩
  rw [hsem]
  have hdef : ∀ c, (a.put o.dst c).defers = a.defers := fun c => by cases o.dst <;> rfl
  cases td with
  | value v h' =>
    obtain ⟨c, w', ρ', h1, h2, h3⟩ := hst
    have hp := put_sound (d := o.dst) hn (ht.mono (h3.sub hr)) h2
    rcases h1 with h1 | ⟨h1, rfl⟩
    · rw [h1]; exact hk _ _ _ _ _ hh hp.2 hp.1 h3 (hdef c)
    · rw [h1]; exact hk _ _ _ _ _ hh hp.2 hp.1 h3 (hdef _)
  | enter f args =>
    obtain ⟨cargs, h1, h2⟩ := hst
    simp only [bindR_ok] at hh
    obtain ⟨⟨v, h'⟩, hc, hh⟩ := hh
    rw [h1]
    refine ⟨(fun e => by rw [hF.depth] at e; cases e), ?_⟩
    refine (hF.calls (hrec.call hc hr h2 (n - 1))).mono fun e w' ⟨c, ρ', he, hv, hp⟩ => ?_
    subst he
    have hq := put_sound (d := o.dst) hn (ht.mono (hp.sub hr)) hv
    exact hk _ _ _ _ _ hh hq.2 hq.1 hp (hdef c)
  | round l args =>
    obtain ⟨loc, cargs, hl, h1, h2⟩ := hst
    simp only [bindR_ok] at hh
    obtain ⟨⟨v, h'⟩, hc, hh⟩ := hh
    obtain ⟨fn, tmps, assign, body, h3, h4⟩ := hrec.round hc hr hl h2 (n - 1)
    rw [h1, h3]
    refine ⟨(fun e => by rw [hF.depth] at e; cases e), ?_⟩
    refine (hF.rounds h4).mono fun e w' ⟨c, ρ', he, hv, hp⟩ => ?_
    subst he
    have hq := put_sound (d := o.dst) hn (ht.mono (hp.sub hr)) hv
    exact hk _ _ _ _ _ hh hq.2 hq.1 hp (hdef c)
end
end Go.AM
