/- A part of the abstract machine: definitions and lemmas for all programs, no claim of its own; no condition. -/
import Derived.Test.YtpmlgmhmejhfeaaGreatAmVDraw
set_option linter.unusedVariables false
set_option linter.unusedSimpArgs false
namespace Go.AM
open Go

section
variable {β : Type} {P : Program} {L N : Nat}

noncomputable def o_then (d : DstB β) (ih : DenB β) (v : Env) (tt : TT) (k : Kont2 β) (x : Value) (h : Heap) : R β := d.f tt x fun tt => ih.f v tt h k
noncomputable def o_consB (P : Program) (N : Nat) (ops : Array Oper) (o : Oper) (ih : DenB β) : DenB β :=
  match o.guard with
  | none => ⟨fun v tt h k => (opB P o.op).f v.r tt h (o_then (dstB N o.dst) ih v tt k)⟩
  | some (j, want) => ⟨fun v tt h k => ifB ((guardF ops j want).f tt) ((opB P o.op).f v.r tt h (o_then (dstB N o.dst) ih v tt k)) ((dstB N o.dst).f tt undef fun tt => ih.f v tt h k)⟩
noncomputable def opersB (P : Program) (N : Nat) (ops : Array Oper) (os : List Oper) : DenB β :=
  @List.rec Oper (fun _ => DenB β) ⟨fun _ tt h k => k .normal tt h⟩ (fun o _ ih => o_consB P N ops o ih) os
theorem oper_of {r : Rec} {o : Oper} {t : Tmps} {h h' : Heap} {v : Value} {k : Tmps → Heap → R β} {x : β} (h1 : stepW P r o.op t h = .ok (v, h')) (h2 : k (put N t o.dst v) h' = .ok x) : oper P r N o t h k = .ok x := by
  unfold stepW at h1
  unfold oper
  obtain ⟨td, h3, h4⟩ := bindR_ok.1 h1
  refine bindR_ok.2 ⟨td, h3, ?_⟩
  cases td with
  | value a b =>
    simp only [Except.ok.injEq, Prod.mk.injEq] at h4
    obtain ⟨rfl, rfl⟩ := h4
    exact h2
  | enter f args => exact bindR_ok.2 ⟨(v, h'), h4, h2⟩
  | round l args => exact bindR_ok.2 ⟨(v, h'), h4, h2⟩
theorem opersB_ok (hN : N ≤ 512) {ops : Array Oper} : ∀ {os : List Oper} {v : Env} {tt : TT} {h : Heap} {k2 : Kont2 β} {k : Kont β} {x : β}, (∀ e tt h, k2 e tt h = .ok x → k e (TT.fn tt) h = .ok x) →
    (opersB P N ops os).f v tt h k2 = .ok x → opers P v.r N ops os (TT.fn tt) h k = .ok x
  | [], v, tt, h, k2, k, x, hk, hh => hk _ _ _ hh
  | o :: os, v, tt, h, k2, k, x, hk, hh => by
    have hh' : (o_consB P N ops o (opersB P N ops os)).f v tt h k2 = .ok x := hh
    have hrun : (opB P o.op).f v.r tt h (o_then (dstB N o.dst) (opersB P N ops os) v tt k2) = .ok x → oper P v.r N o (TT.fn tt) h (fun t h => opers P v.r N ops os t h k) = .ok x := fun hx => by
      obtain ⟨u, h', h1, h2⟩ := opB_ok (P := P) v.r tt h _ x hx
      obtain ⟨tt', h3, h4⟩ := dstB_ok hN h2
      refine oper_of h1 ?_
      rw [← h3]
      exact opersB_ok hN hk h4
    unfold o_consB at hh'
    simp only [opers]
    split at hh'
    · rename_i hg
      have : wanted ops o (TT.fn tt) = true := by simp only [wanted, hg]
      simp only [this]
      exact hrun hh'
    · rename_i j want hg
      rw [guardF_ok hg tt]
      cases hb : (guardF ops j want).f tt with
      | true =>
        simp only [hb] at hh'
        exact hrun hh'
      | false =>
        simp only [hb] at hh'
        obtain ⟨tt', h3, h4⟩ := dstB_ok hN (show (dstB N o.dst).f tt undef _ = .ok x from hh')
        simp only
        rw [← h3]
        exact opersB_ok hN hk h4

noncomputable def k_seq (g : DenB β) (v : Env) (k : Kont2 β) (e : AExit) (tt : TT) (h : Heap) : R β :=
  @AExit.rec (fun _ => R β) (g.f v tt h k) (fun i => k (.exit i) tt h) (fun l => k (.goto l) tt h) (k .ret tt h) e
noncomputable def c_seqB (f g : DenB β) : DenB β := ⟨fun v tt h k => f.f v tt h (k_seq g v k)⟩
noncomputable def c_condB (x : Operand) (f g : DenB β) : DenB β :=
  match opdF x with
  | some a => ⟨fun v tt h k => vB (a.f tt) (f.f v tt h k) (g.f v tt h k)⟩
  | none => ⟨fun _ _ _ _ => .error "cond"⟩
noncomputable def k_block (id : Nat) (k : Kont2 β) (e : AExit) (tt : TT) (h : Heap) : R β :=
  @AExit.rec (fun _ => R β) (k .normal tt h) (fun i => @Bool.rec (fun _ => R β) (k (.exit i) tt h) (k .normal tt h) (Nat.beq i id)) (fun l => k (.goto l) tt h) (k .ret tt h) e
noncomputable def c_blockB (id : Nat) (f : DenB β) : DenB β := ⟨fun v tt h k => f.f v tt h (k_block id k)⟩
noncomputable def k_loop (ih : TT → Heap → Kont2 β → R β) (k : Kont2 β) (e : AExit) (tt : TT) (h : Heap) : R β :=
  @AExit.rec (fun _ => R β) (ih tt h k) (fun i => k (.exit i) tt h) (fun l => k (.goto l) tt h) (k .ret tt h) e
noncomputable def c_loopN (f : DenB β) (v : Env) (n : Nat) : TT → Heap → Kont2 β → R β :=
  @Nat.rec (fun _ => TT → Heap → Kont2 β → R β) (fun _ _ _ => .error "fuel") (fun _ ih tt h k => f.f v tt h (k_loop ih k)) n
noncomputable def c_loopB (L : Nat) (f : DenB β) : DenB β := ⟨fun v => c_loopN f v L⟩
noncomputable def k_again (N : Nat) (k : Kont2 β) (p : AExit × Tmps × Heap) : R β := k p.1 (tab (cutT N p.2.1)) p.2.2
noncomputable def k_scope (N : Nat) (b : Code) (v : Env) (k : Kont2 β) (e : AExit) (tt : TT) (h : Heap) : R β :=
  @AExit.rec (fun _ => R β) (k .normal tt h) (fun i => k (.exit i) tt h) (fun l => bx (v.r.again N b l (TT.fn tt) h v.rd) (k_again N k)) (k .ret tt h) e
noncomputable def c_scopeB (N : Nat) (b : Code) (f : DenB β) : DenB β := ⟨fun v tt h k => f.f v tt h (k_scope N b v k)⟩
noncomputable def c_rangeB (P : Program) (N : Nat) (g : Operand) (ps : Array Tmp) (assign body : Code) : DenB β := ⟨fun v tt h k => rangeK P v.r N g ps assign body (TT.fn tt) h v.rd fun e _ h => k e tt h⟩
theorem rangeK_t {r : Rec} {g : Operand} {ps : Array Tmp} {assign body : Code} {t : Tmps} {h : Heap} {rd : Option Nat} {k k' : Kont β} {x : β} (hk : ∀ e h, k e t h = .ok x → k' e t h = .ok x)
    (hh : rangeK P r N g ps assign body t h rd k = .ok x) : rangeK P r N g ps assign body t h rd k' = .ok x := by
  have hend : ∀ l h, rangeEnd l t h k = .ok x → rangeEnd l t h k' = .ok x := by
    intro l h hh
    unfold rangeEnd at hh ⊢
    split at hh
    · rename_i q hg
      split at hh
      · cases hh
      · split at hh <;> first | exact hk _ _ hh | (rename_i hp; simp only [hp]; exact hk _ _ hh) | cases hh
    · cases hh
  have hcall : ∀ gv l h, rangeCall P r gv l t h k = .ok x → rangeCall P r gv l t h k' = .ok x := by
    intro gv l h hh
    unfold rangeCall at hh ⊢
    obtain ⟨td, h1, hh⟩ := bindR_ok.1 hh
    refine bindR_ok.2 ⟨td, h1, ?_⟩
    split at hh
    · obtain ⟨p, h2, hh⟩ := bindR_ok.1 hh
      exact bindR_ok.2 ⟨p, h2, hend _ _ hh⟩
    · cases hh
  unfold rangeK at hh ⊢
  obtain ⟨gv, h1, hh⟩ := bindR_ok.1 hh
  refine bindR_ok.2 ⟨gv, h1, ?_⟩
  split at hh
  · split at hh
    · obtain ⟨u, h2, hh⟩ := bindR_ok.1 hh
      exact bindR_ok.2 ⟨u, h2, hcall _ _ _ hh⟩
    · cases hh
  · obtain ⟨u, h2, hh⟩ := bindR_ok.1 hh
    exact bindR_ok.2 ⟨u, h2, hcall _ _ _ hh⟩

noncomputable def denB (P : Program) (L N : Nat) (c : Code) : DenB β :=
  @Code.rec (fun _ => DenB β) ⟨fun _ tt h k => k .normal tt h⟩
    (fun _ ops d => @Bool.rec (fun _ => DenB β) (opersB P N ops ops.toList) (c_drawB P N ops) d)
    (fun _ _ f g => c_seqB f g) (fun x _ _ f g => c_condB x f g) (fun id _ f => c_blockB id f)
    (fun _ f => c_loopB L f) (fun g ps a b _ _ => c_rangeB P N g ps a b) (fun id => ⟨fun _ tt h k => k (.exit id) tt h⟩) (fun b f => c_scopeB N b f) (fun _ => ⟨fun _ tt h k => k .normal tt h⟩)
    (fun l => ⟨fun _ tt h k => k (.goto l) tt h⟩) ⟨fun _ tt h k => k .ret tt h⟩ (fun _ => ⟨fun _ _ _ _ => .error "refuse"⟩) c

theorem denB_ok (hN : N ≤ 512) : ∀ {c : Code}, DenOk (β := β) P L N c (denB P L N c) := by
  intro c
  induction c with
  | skip => intro v tt h k2 k x hk hh; exact hk _ _ _ hh
  | label l => intro v tt h k2 k x hk hh; exact hk _ _ _ hh
  | exit id => intro v tt h k2 k x hk hh; exact hk _ _ _ hh
  | goto l => intro v tt h k2 k x hk hh; exact hk _ _ _ hh
  | ret => intro v tt h k2 k x hk hh; exact hk _ _ _ hh
  | refuse m => intro v tt h k2 k x hk hh; cases hh
  | rangeFunc g ps a b _ _ =>
    intro v tt h k2 k x hk hh
    exact rangeK_t (fun e h he => hk _ _ _ he) (show rangeK P v.r N g ps a b (TT.fn tt) h v.rd (fun e _ h => k2 e tt h) = .ok x from hh)
  | region id ops d =>
    intro v tt h k2 k x hk hh
    cases d with
    | false => exact opersB_ok hN hk (show (opersB P N ops ops.toList).f v tt h k2 = .ok x from hh)
    | true => exact drawB_ok hN hk (show (c_drawB P N ops).f v tt h k2 = .ok x from hh)
  | seq a b iha ihb =>
    intro v tt h k2 k x hk hh
    have hh' : (denB P L N a).f v tt h (k_seq (denB P L N b) v k2) = .ok x := hh
    simp only [den]
    refine iha v tt h _ _ x (fun e tt h he => ?_) hh'
    cases e with
    | normal => exact ihb v tt h k2 k x hk he
    | exit i => exact hk _ _ _ he
    | goto l => exact hk _ _ _ he
    | ret => exact hk _ _ _ he
  | cond y a b iha ihb =>
    intro v tt h k2 k x hk hh
    have hh' : (c_condB y (denB P L N a) (denB P L N b)).f v tt h k2 = .ok x := hh
    unfold c_condB at hh'
    simp only [den]
    split at hh'
    · rename_i o ho
      rw [opdF_ok ho tt]
      rcases vB_ok hh' with ⟨h1, h2⟩ | ⟨h1, h2⟩
      · rw [h1]; exact iha v tt h k2 k x hk h2
      · rw [h1]; exact ihb v tt h k2 k x hk h2
    · cases hh'
  | block id b ih =>
    intro v tt h k2 k x hk hh
    have hh' : (denB P L N b).f v tt h (k_block id k2) = .ok x := hh
    simp only [den]
    refine ih v tt h _ _ x (fun e tt h he => ?_) hh'
    cases e with
    | normal => exact hk _ _ _ he
    | exit i =>
      have he' : (@Bool.rec (fun _ => R β) (k2 (.exit i) tt h) (k2 .normal tt h) (Nat.beq i id)) = .ok x := he
      simp only
      cases hb : Nat.beq i id with
      | true => rw [hb] at he'; exact hk _ _ _ he'
      | false => rw [hb] at he'; exact hk _ _ _ he'
    | goto l => exact hk _ _ _ he
    | ret => exact hk _ _ _ he
  | loop b ih =>
    intro v tt h k2 k x hk hh
    have hh' : c_loopN (denB P L N b) v L tt h k2 = .ok x := hh
    simp only [den]
    clear hh
    have : ∀ (n : Nat) (tt : TT) (h : Heap), c_loopN (denB P L N b) v n tt h k2 = .ok x → loopK (fun t h k => den P v.r L N v.rd b t h k) n (TT.fn tt) h k = .ok x := by
      intro n
      induction n with
      | zero => intro tt h hh; cases hh
      | succ n ihn =>
        intro tt h hh
        have hh' : (denB P L N b).f v tt h (k_loop (c_loopN (denB P L N b) v n) k2) = .ok x := hh
        simp only [loopK]
        refine ih v tt h _ _ x (fun e tt h he => ?_) hh'
        cases e with
        | normal => exact ihn _ _ he
        | exit i => exact hk _ _ _ he
        | goto l => exact hk _ _ _ he
        | ret => exact hk _ _ _ he
    exact this L tt h hh'
  | scope b ih =>
    intro v tt h k2 k x hk hh
    have hh' : (denB P L N b).f v tt h (k_scope N b v k2) = .ok x := hh
    simp only [den]
    refine ih v tt h _ _ x (fun e tt h he => ?_) hh'
    cases e with
    | normal => exact hk _ _ _ he
    | exit i => exact hk _ _ _ he
    | ret => exact hk _ _ _ he
    | goto l =>
      obtain ⟨⟨e', t', h'⟩, h1, h2⟩ := bx_ok.1 (show bx (v.r.again N b l (TT.fn tt) h v.rd) (k_again N k2) = .ok x from he)
      refine bindR_ok.2 ⟨(e', t', h'), h1, ?_⟩
      have := hk _ _ _ (show k2 e' (tab (cutT N t')) h' = .ok x from h2)
      rw [fn_cut hN] at this
      exact this
end
end Go.AM
