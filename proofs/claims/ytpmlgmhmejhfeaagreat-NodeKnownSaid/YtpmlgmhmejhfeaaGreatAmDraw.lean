/- A part of the abstract machine: definitions and lemmas for all programs, no claim of its own; no condition. -/
import Derived.Test.YtpmlgmhmejhfeaaGreatAmCode
set_option linter.unusedVariables false
set_option linter.unusedSimpArgs false
namespace Go.AM
open Go

theorem mustM_ok {s : String} {b : Bool} {u : Unit} : mustM s b = .ok u ↔ b = true := by cases b <;> simp [mustM]

/-! ### What an operation looks at -/
section
variable {P : Program} {t t' : Tmps}
theorem evs_congr : ∀ {xs : List Operand}, (∀ x ∈ xs, ev t x = ev t' x) → evs t xs = evs t' xs
  | [], _ => rfl
  | x :: xs, h => by simp only [evs, h x (List.mem_cons_self ..), evs_congr fun y hy => h y (List.mem_cons_of_mem _ hy)]
theorem evp_congr : ∀ {xs : List (Nat × Operand)}, (∀ x ∈ xs.map (·.2), ev t x = ev t' x) → evp t xs = evp t' xs
  | [], _ => rfl
  | (i, x) :: xs, h => by simp only [evp, h x (List.mem_cons_self ..), evp_congr fun y hy => h y (List.mem_cons_of_mem _ hy)]
theorem evo_congr {x : Option Operand} (h : ∀ y, x = some y → ev t y = ev t' y) : evo t x = evo t' x := by
  cases x with
  | none => rfl
  | some x => simp only [evo, h x rfl]
theorem step_congr {op : Op} (h : Heap) (hx : ∀ x ∈ op.operands.toList, ev t x = ev t' x) : step P op t h = step P op t' h := by
  cases op
  case build ty ps => simp only [step]; rw [evp_congr (t := t) (t' := t')]; simpa [Op.operands] using hx
  case buildSlice ty n ps => simp only [step]; rw [evp_congr (t := t) (t' := t')]; simpa [Op.operands] using hx
  case makeFunc fn a b =>
    simp only [step]
    rw [evs_congr (t := t) (t' := t') (xs := a.toList) (fun x hm => hx x (by simp only [Op.operands, Array.toList_append, List.mem_append]; exact .inl hm)),
      evs_congr (t := t) (t' := t') (xs := b.toList) (fun x hm => hx x (by simp only [Op.operands, Array.toList_append, List.mem_append]; exact .inr hm))]
  case makeMap ty r => simp only [step]; rw [evo_congr (t := t) (t' := t')]; intro y e; subst e; exact hx y (by simp [Op.operands])
  case slice ty x l hh m =>
    simp only [step]
    rw [hx x (by simp [Op.operands]), evo_congr (t := t) (t' := t') (x := l) (fun y e => hx y (by subst e; simp [Op.operands])),
      evo_congr (t := t) (t' := t') (x := hh) (fun y e => hx y (by subst e; simp [Op.operands])), evo_congr (t := t) (t' := t') (x := m) (fun y e => hx y (by subst e; simp [Op.operands]))]
  case call c =>
    simp only [step, callStep]
    rw [evs_congr (t := t) (t' := t') (xs := c.args.toList) (fun x hm => hx x (by simp only [Op.operands, Call.operands]; simp; exact .inr (by simpa using hm)))]
    congr 1; funext args
    cases hc : c.callee with
    | builtin b => rfl
    | value f => simp only []; rw [hx f (by simp [Op.operands, Call.operands, hc])]
    | invoke _ _ => rfl
  case next x s => cases s with
    | true => simp only [step]; rw [hx x (by simp [Op.operands])]
    | false => rfl
  all_goals first | rfl | (simp only [step]; simp only [Op.operands, List.mem_cons, List.not_mem_nil, or_false, forall_eq_or_imp, forall_eq] at hx; simp only [hx]; done)
end

section
variable {P : Program} {r : Rec} {N : Nat} {ρ ρ' ρ₀ : Ren} {h h' h₀ : Heap} {w w' w₀ : World} {a : Act} {t : Tmps} {ops : Array Oper}

/-- Related where an operation looks. -/
def TO (ρ : Ren) (L : List Tmp) (t : Tmps) (tmps : Array Value) : Prop := ∀ d ∈ L, VR ρ (t d) (tmps.getD d undef)

theorem looks_op {o : Oper} {d : Tmp} (h : Operand.tmp d ∈ o.op.operands.toList) : d ∈ o.looksAt ops :=
  List.mem_append_left _ (List.mem_filterMap.2 ⟨.tmp d, h, rfl⟩)

theorem step_not_select {op : Op} {t : Tmps} {h : Heap} {td : Todo} (hh : step P op t h = .ok td) : ∀ c b, op ≠ .select c b := by
  intro c b e; subst e; simp [step] at hh

theorem step_soundL (hr : HR ρ h w) {o : Oper} {L : List Tmp} (hL : ∀ d, Operand.tmp d ∈ o.op.operands.toList → d ∈ L) (ht : TO ρ L t a.tmps) {td : Todo} (hh : step P o.op t h = .ok td) :
    StepOk P ρ h w (execOp a.eval o) td := by
  let t' : Tmps := fun d => if d ∈ L then t d else undef
  let a' : Act := { a with tmps := Array.ofFn (n := a.tmps.size) fun i => if i.val ∈ L then a.tmps.getD i.val undef else undef }
  have hget : ∀ d, a'.tmps.getD d undef = if d ∈ L then a.tmps.getD d undef else undef := by
    intro d
    by_cases hd : d < a.tmps.size
    · simp [a', Array.getD_eq_getD_getElem?, hd]
    · simp [a', Array.getD_eq_getD_getElem?, hd]
  have ht' : TR ρ t' a'.tmps := by
    intro d
    rw [hget]
    by_cases hd : d ∈ L
    · simp only [t', if_pos hd]; exact ht d hd
    · simp only [t', if_neg hd]; exact .undef ρ
  have h1 : step P o.op t' h = .ok td := by
    rw [← hh]
    refine step_congr h fun x hx => ?_
    cases x with
    | tmp d => simp only [ev, t', if_pos (hL d hx)]
    | const v => rfl
    | global g => rfl
    | func f => rfl
  have h2 : execOp a'.eval o = execOp a.eval o := by
    refine execOp_congr o (step_not_select hh) fun x hx => ?_
    cases x with
    | tmp d => simp only [Act.eval]; rw [hget, if_pos (hL d (by simpa using hx))]
    | const v => rfl
    | global g => rfl
    | func f => rfl
  rw [← h2]
  exact step_sound hr ht' h1

theorem wanted_soundL {o : Oper} (ht : TO ρ (o.looksAt ops) t a.tmps) : Region.wanted o (yielded ops a.tmps) = wanted ops o t := by
  unfold Region.wanted wanted
  unfold Oper.looksAt at ht
  cases hgd : o.guard with
  | none => rfl
  | some g =>
    obtain ⟨j, want⟩ := g
    simp only [yielded]
    cases hd : (ops[j]?).bind (·.dst) with
    | none => rfl
    | some d =>
      have h1 := ht d (List.mem_append_right _ (by rw [hgd]; simp only []; rw [hd]; simp))
      simp only [Option.bind_some]
      generalize hx : t d = x at h1
      cases hg : a.tmps[d]? with
      | none =>
        have : a.tmps.getD d undef = undef := by simp [Array.getD_eq_getD_getElem?, hg]
        rw [this] at h1
        cases x <;> first | rfl | (cases h1; done) | cases h1
      | some y =>
        have : a.tmps.getD d undef = y := by simp [Array.getD_eq_getD_getElem?, hg]
        rw [this] at h1
        cases h1 <;> first | rfl | (cases want <;> rfl) | skip

theorem stepV_sound (hrec : RecSound P r) {o : Oper} {v : Value} (hh : stepV P r o t h = .ok (v, h')) {L : List Tmp} (hL : ∀ d, Operand.tmp d ∈ o.op.operands.toList → d ∈ L) (ht : TO ρ L t a.tmps) {rd : Option Nat} {F : Fence} {n : Nat} (hF : FR ρ rd F) (hr : HR ρ h w)
    {K : Act → World → Prop} {Q : Exit → Act → World → Prop} (hk : ∀ c ρ' w', VR ρ' v c → Post ρ h w ρ' h' w' → K (a.put o.dst c) w') : o.wpIn F n P a w K Q := by
  simp only [stepV, bindR_ok] at hh
  obtain ⟨td, hs, hh⟩ := hh
  have hst := step_soundL (a := a) hr hL ht hs
  have hsem : o.semAt F.round a.eval = execOp a.eval o := Oper.semAt_eq _ _ _ (step_not_defer hs)
  refine ⟨fun f _ => by rw [hF.fn]; trivial, ?_⟩
  rw [hsem]
  cases td with
  | value v' h'' =>
    simp only [Except.ok.injEq, Prod.mk.injEq] at hh
    obtain ⟨rfl, rfl⟩ := hh
    obtain ⟨c, w', ρ', h1, h2, h3⟩ := hst
    rcases h1 with h1 | ⟨h1, rfl⟩
    · rw [h1]; exact hk _ _ _ h2 h3
    · rw [h1]; exact hk _ _ _ h2 h3
  | enter f args =>
    obtain ⟨cargs, h1, h2⟩ := hst
    rw [h1]
    refine ⟨(fun e => by rw [hF.depth] at e; cases e), ?_⟩
    refine (hF.calls (hrec.call hh hr h2 (n - 1))).mono fun e w' ⟨c, ρ', he, hv, hp⟩ => ?_
    subst he
    exact hk _ _ _ hv hp
  | round l args =>
    obtain ⟨loc, cargs, hl, h1, h2⟩ := hst
    obtain ⟨fn, tmps, assign, body, h3, h4⟩ := hrec.round hh hr hl h2 (n - 1)
    rw [h1, h3]
    refine ⟨(fun e => by rw [hF.depth] at e; cases e), ?_⟩
    refine (hF.rounds h4).mono fun e w' ⟨c, ρ', he, hv, hp⟩ => ?_
    subst he
    exact hk _ _ _ hv hp

/-! ### Blocks that the program has not laid yet -/
theorem HT_none_get (i : Nat) : HT.get i HT.none = .dead := by
  simp only [HT.get, HT.none, HT4.get, HT4.none, V8.get_all]
theorem get_blank (m i : Nat) : (blankN m).get i = .dead := by
  simp only [Heap.get, blankN]
  split
  · exact HT_none_get i
  · rfl

theorem HR.blank (hr : HR ρ h w) {m : Nat} (hm : m ≤ h.n) : HR (ρ.below m) (blankN m) w := by
  refine ⟨Nat.le_trans hm hr.n_le, fun i l e => ?_, fun i j li lj _ _ _ oi _ => ?_⟩
  · obtain ⟨h1, h2⟩ := Ren.below_some.1 e
    exact ⟨h1, (hr.dom i l h2).2.1, by rw [get_blank]; trivial⟩
  · rw [get_blank] at oi; cases oi

/-- One more block that the program knows nothing of. -/
theorem Post.pad (p : Post ρ h w ρ' h' w') (hn : h'.n < 32768) (b : Blk) : Post ρ h w ρ' (h'.put b) w' := by
  have hg : ∀ i, i < h'.n → (h'.put b).get i = h'.get i := fun i hi => by rw [get_put hn, if_neg (by omega)]
  refine ⟨Nat.le_trans p.n_le (by simp [Heap.put]), p.ext, ⟨by simp [Heap.put]; omega, fun i l e => ?_, fun i j li lj hij ei ej oi vj => ?_⟩,
    ⟨p.fr.size, p.fr.same, fun i l e o => ?_, p.fr.os, p.fr.output, p.fr.tape⟩, p.trk.trans p.n_le (Trk.put hn), fun i hi e => ?_⟩
  · obtain ⟨h1, h2, h3⟩ := p.hr.dom i l e
    exact ⟨by simp [Heap.put]; omega, h2, by rw [hg i h1]; exact h3⟩
  · rw [hg i (p.hr.dom i li ei).1] at oi
    rw [hg j (p.hr.dom j lj ej).1] at vj
    exact p.hr.inj i j li lj hij ei ej oi vj
  · rw [hg i (p.hr.dom i l e).1] at o
    exact p.fr.new i l e o
  · rw [hg i (Nat.lt_of_lt_of_le hi p.n_le)]; exact p.far i hi e

/-- What laid nothing or one block of its own, run anew on an empty heap: the program has done it. -/
theorem Post.fill (p : Post ρ₀ h₀ w₀ ρ h w) {m : Nat} {hb : Heap} {ρ₁ : Ren} (q : Post (ρ.below m) (blankN m) w ρ₁ hb w')
    (hm : m ≤ h.n) (hc : hb.n = m ∨ (hb.n = m + 1 ∧ owned (hb.get m) = true ∧ h₀.n ≤ m ∧ m < h.n ∧ h.get m = hb.get m ∧ ρ m = none)) :
    ∃ ρ', Post ρ₀ h₀ w₀ ρ' h w' ∧ Sub ρ ρ' ∧ Sub ρ₁ ρ' ∧ (∀ i, i ≠ m → ρ' i = ρ i) ∧ (hb.n = m → ρ' = ρ) ∧ (∀ c, c < w.heap.size → w'.heap[c]? = w.heap[c]?) ∧ w.heap.size ≤ w'.heap.size := by
  have hold : ∀ c, c < w.heap.size → w'.heap[c]? = w.heap[c]? := fun c hc => q.fr.same c hc fun i l _ o => by rw [get_blank] at o; cases o
  have hsz := q.fr.size
  have hsub : ∀ i l, i < m → ρ₁ i = some l → ρ i = some l := fun i l hi e => by
    have := q.ext i hi
    rw [this] at e
    exact (Ren.below_some.1 e).2
  rcases hc with hc | ⟨hc, ho, hm0, hmn, hg, hnone⟩
  · refine ⟨ρ, ⟨p.n_le, p.ext, ⟨p.hr.n_le, fun i l e => ?_, p.hr.inj⟩, ⟨Nat.le_trans p.fr.size hsz, fun c hc hno => ?_, p.fr.new, q.fr.os.trans p.fr.os, q.fr.output.trans p.fr.output, q.fr.tape.trans p.fr.tape⟩, p.trk, p.far⟩,
      .refl _, fun i l e => hsub i l (by have := (q.hr.dom i l e).1; omega) e, fun _ _ => rfl, fun _ => rfl, hold, hsz⟩
    · obtain ⟨h1, h2, h3⟩ := p.hr.dom i l e
      exact ⟨h1, by omega, h3.congr (hold _ h2)⟩
    · rw [hold c (Nat.lt_of_lt_of_le hc p.fr.size)]; exact p.fr.same c hc hno
  · let ρ' : Ren := fun i => if i = m then ρ₁ m else ρ i
    have e1 : ∀ i, i ≠ m → ρ' i = ρ i := fun i hi => if_neg hi
    have e2 : ρ' m = ρ₁ m := if_pos rfl
    have s1 : Sub ρ ρ' := fun i l e => by
      by_cases hi : i = m
      · subst hi; rw [hnone] at e; cases e
      · rw [e1 i hi]; exact e
    have s2 : Sub ρ₁ ρ' := fun i l e => by
      by_cases hi : i = m
      · subst hi; rw [e2]; exact e
      · rw [e1 i hi]; exact hsub i l (by have := (q.hr.dom i l e).1; omega) e
    have hnew : ∀ l, ρ₁ m = some l → w.heap.size ≤ l.blk := fun l e => by
      rcases q.fr.new m l e ho with h1 | ⟨j, lj, _, oj, _⟩
      · exact h1
      · rw [get_blank] at oj; cases oj
    refine ⟨ρ', ⟨p.n_le, fun i hi => (e1 i (by omega)).trans (p.ext i hi), ⟨p.hr.n_le, fun i l e => ?_, fun i j li lj hij ei ej oi vj => ?_⟩,
      ⟨Nat.le_trans p.fr.size hsz, fun c hc hno => ?_, fun i l e o => ?_, q.fr.os.trans p.fr.os, q.fr.output.trans p.fr.output, q.fr.tape.trans p.fr.tape⟩, p.trk, p.far⟩,
      s1, s2, e1, fun e => by omega, hold, hsz⟩
    · by_cases hi : i = m
      · subst hi
        rw [e2] at e
        obtain ⟨_, h2, h3⟩ := q.hr.dom _ l e
        exact ⟨hmn, h2, by rw [hg]; exact h3.mono s2⟩
      · rw [e1 i hi] at e
        obtain ⟨h1, h2, h3⟩ := p.hr.dom i l e
        exact ⟨h1, by omega, (h3.congr (hold _ h2)).mono s1⟩
    · by_cases hi : i = m
      · subst hi
        rw [e2] at ei
        rw [e1 j (fun e => hij e.symm)] at ej
        have := hnew li ei
        have := (p.hr.dom j lj ej).2.1
        omega
      · rw [e1 i hi] at ei
        by_cases hj : j = m
        · subst hj
          rw [e2] at ej
          have := hnew lj ej
          have := (p.hr.dom i li ei).2.1
          omega
        · rw [e1 j hj] at ej
          exact p.hr.inj i j li lj hij ei ej oi vj
    · rw [hold c (Nat.lt_of_lt_of_le hc p.fr.size)]; exact p.fr.same c hc hno
    · by_cases hi : i = m
      · subst hi
        rw [e2] at e
        exact .inl (Nat.le_trans p.fr.size (hnew l e))
      · rw [e1 i hi] at e
        exact p.fr.new i l e o
end
end Go.AM
