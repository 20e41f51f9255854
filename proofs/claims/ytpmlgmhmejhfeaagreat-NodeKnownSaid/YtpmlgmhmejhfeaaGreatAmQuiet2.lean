/- A part of the abstract machine: definitions and lemmas for all programs, no claim of its own; no condition. -/
import Derived.Test.YtpmlgmhmejhfeaaGreatAmQuiet
set_option linter.unusedVariables false
set_option linter.unusedSimpArgs false
namespace Go.AM
open Go

section
variable {P : Program}

theorem Pl.not_ptr {a : Addr} : ¬ Pl (.pointer (some a)) := by
  rintro ⟨f, hf⟩; cases f <;> simp [plainV] at hf
theorem Pl.not_float {k : FloatKind} {n : Nat} : ¬ Pl (.float k n) := by
  rintro ⟨f, hf⟩; cases f <;> simp [plainV] at hf

/-- A loop over a list whose rounds are quiet. -/
theorem Quiet.forInL {α σ : Type} (f : α → σ → Sem (ForInStep σ)) : ∀ (l : List α) (s : σ), (∀ a ∈ l, ∀ s, Quiet P (f a s)) → Quiet P (forIn l s f)
  | [], s, _ => by simp only [List.forIn_nil]; exact .pure s
  | a :: l, s, h => by
    simp only [List.forIn_cons]
    refine .bind (h a (List.mem_cons_self ..) s) fun x _ => ?_
    cases x with
    | done s => exact .pure s
    | yield s => exact Quiet.forInL f l s fun b hb => h b (List.mem_cons_of_mem _ hb)

theorem Quiet.forInA {α σ : Type} (f : α → σ → Sem (ForInStep σ)) (l : Array α) (s : σ) (h : ∀ a s, Quiet P (f a s)) : Quiet P (forIn l s f) := by
  rw [← Array.forIn_toList]
  exact Quiet.forInL f _ s fun a _ s => h a s

theorem Quiet.forInR {σ : Type} (f : Nat → σ → Sem (ForInStep σ)) (r : Std.Legacy.Range) (s : σ) (h : ∀ a s, Quiet P (f a s)) : Quiet P (forIn r s f) := by
  rw [Std.Legacy.Range.forIn_eq_forIn_range']
  exact Quiet.forInL f _ s fun a _ s => h a s

theorem Quiet.equalIn : ∀ (d : Nat) (t : TypeId) (x y : Value), Pl x → Pl y → Quiet P (Op.equalIn d t x y)
  | 0, t, x, y, _, _ => by unfold Op.equalIn; exact .unsupported _
  | d + 1, t, x, y, hx, hy => by
    unfold Op.equalIn
    refine .bind (.underlying t) fun u _ => ?_
    split
    all_goals first
      | exact .pure _
      | exact .unsupported _
      | exact .stuck _
      | (exfalso; exact Pl.not_ptr hx)
      | (exfalso; exact Pl.not_ptr hy)
      | (exfalso; exact Pl.not_float hx)
      | (split <;> first | exact .pure _ | exact .stuck _)
      | skip
    case h_14 a b _ =>
      cases a with
      | some a => exact (Pl.not_ptr hx).elim
      | none => cases b with
        | some b => exact (Pl.not_ptr hy).elim
        | none => exact .pure _
    case h_19 =>
      refine .ite (.pure _) (.bind (.typeInfo _) fun i _ => ?_)
      refine .ite' (fun _ => ?_) (fun _ => Quiet.equalIn d _ _ _ hx.iface hy.iface)
      refine .bind .program fun p _ => .bind .program fun p' _ => .ite' (fun _ => .unsupported _) (fun _ => .bind (.typeStr _) fun _ _ => .runtimePanic _)
    case h_20 fields xs ys _ =>
      refine .bind .program fun p _ => .ite (.unsupported _) ?_
      refine .bind (.forInA _ _ _ fun f s => ?_) fun r _ => ?_
      · refine .ite ?_ (.pure _)
        refine .bind (.part _ _ _) fun a ha => .bind (.part _ _ _) fun b hb => .bind (Quiet.equalIn d _ _ _ (Pl.part hx.agg ha) (Pl.part hy.agg hb)) fun e _ => ?_
        exact .ite (.pure _) (.pure _)
      · dsimp only; split <;> exact .pure _
    case h_21 len elem xs ys _ =>
      refine .bind (.sizeOf _) fun n _ => ?_
      refine .bind (.forInR _ _ _ fun f s => ?_) fun r _ => ?_
      · refine .bind (.part _ _ _) fun a ha => .bind (.part _ _ _) fun b hb => .bind (Quiet.equalIn d _ _ _ (Pl.part hx.agg ha) (Pl.part hy.agg hb)) fun e _ => ?_
        exact .ite (.pure _) (.pure _)
      · dsimp only; split <;> exact .pure _

theorem Quiet.eqGuardIn : ∀ (d : Nat) (t : TypeId) (x y : Value), Quiet P (Op.eqGuardIn d t x y)
  | 0, t, x, y => by unfold Op.eqGuardIn; exact .unsupported _
  | d + 1, t, x, y => by
    unfold Op.eqGuardIn
    refine .bind (.underlying t) fun u _ => ?_
    split
    · exact .pure _
    · refine .bind (.forInA _ _ _ fun f s => ?_) fun r _ => ?_
      · refine .ite ?_ (.pure _)
        exact .bind (.part _ _ _) fun a _ => .bind (.part _ _ _) fun b _ => .bind (Quiet.eqGuardIn d _ _ _) fun e _ => .ite (.pure _) (.pure _)
      · dsimp only; split <;> exact .pure _
    · refine .bind (.sizeOf _) fun n _ => ?_
      refine .bind (.forInR _ _ _ fun f s => ?_) fun r _ => ?_
      · exact .bind (.part _ _ _) fun a _ => .bind (.part _ _ _) fun b _ => .bind (Quiet.eqGuardIn d _ _ _) fun e _ => .ite (.pure _) (.pure _)
      · dsimp only; split <;> exact .pure _
    · exact .pure _

theorem Quiet.eqGuard (op : BinOp) (t : TypeId) (xo yo : Operand) (a b : Value) : Quiet P (Go.eqGuard op t xo yo a b) := by
  unfold Go.eqGuard
  refine .ite (.pure _) ?_
  split
  · refine .ite (.pure _) (.bind (.eqGuardIn _ _ _ _) fun e _ => .ite (.unsupported _) (.pure _))
  · refine .bind .program fun p _ => .bind .program fun p' _ => .ite (.pure _) (.bind (.eqGuardIn _ _ _ _) fun e _ => .ite (.unsupported _) (.pure _))
  · exact .pure _

theorem Quiet.intArith (op : BinOp) (k : IntKind) (x y : Int) : Quiet P (Op.intArith op k x y) := by
  cases op <;> first | exact .pure _ | exact .stuck _
theorem Quiet.intBits (op : BinOp) (k : IntKind) (x y : Int) : Quiet P (Op.intBits op k x y) := by
  cases op <;> first | exact .pure _ | exact .stuck _
theorem Quiet.intCmp (op : BinOp) (x y : Int) : Quiet P (Op.intCmp op x y) := by
  cases op <;> first | exact .pure _ | exact .stuck _
theorem Quiet.intDiv (op : BinOp) (k : IntKind) (x y : Int) : Quiet P (Op.intDiv op k x y) := by
  unfold Op.intDiv
  refine .ite (.runtimePanic _) ?_
  cases op <;> first | exact .pure _ | exact .stuck _
theorem Quiet.shift (op : BinOp) (k : IntKind) (x : Int) (yk : IntKind) (y : Int) : Quiet P (Op.shift op k x yk y) := by
  unfold Op.shift
  refine .ite (.runtimePanic _) ?_
  cases op <;> first | exact .pure _ | exact .stuck _
theorem Quiet.stringOp (op : BinOp) (x y : ByteArray) : Quiet P (Op.stringOp op x y) := by
  unfold Op.stringOp
  cases op <;> first | exact .pure _ | exact .stuck _ | exact .ite (.unsupported _) (.pure _)
theorem Pl.not_complex {k : FloatKind} {n m : Nat} : ¬ Pl (.complex k n m) := by
  rintro ⟨f, hf⟩; cases f <;> simp [plainV] at hf

theorem Quiet.binOp (op : BinOp) (t : TypeId) (x y : Value) (hx : Pl x) (hy : Pl y) (hp : (isEq op || !(isPtr x || isPtr y)) = true) : Quiet P (Go.binOp op t x y) := by
  unfold Go.binOp
  split
  all_goals first
    | exact .shift _ _ _ _ _
    | exact .stringOp _ _ _
    | (exfalso; exact Pl.not_ptr hx)
    | (exfalso; exact Pl.not_ptr hy)
    | (exfalso; exact Pl.not_float hx)
    | (exfalso; exact Pl.not_complex hx)
    | exact .unsupported _
    | exact .stuck _
    | (exact .bind (.equalIn _ _ _ _ hx hy) fun _ _ => .pure _)
    | (simp [isEq, isPtr] at hp; done)
    | skip
  refine .ite (.stuck _) ?_
  split
  · exact .intArith _ _ _ _
  · exact .intArith _ _ _ _
  · exact .intArith _ _ _ _
  · exact .intDiv _ _ _ _
  · exact .intDiv _ _ _ _
  · exact .intBits _ _ _ _
  · exact .intBits _ _ _ _
  · exact .intBits _ _ _ _
  · exact .intBits _ _ _ _
  · exact .intCmp _ _ _

theorem Quiet.unary (op : UnOp) (x : Value) (hx : Pl x) : Quiet P (Op.unary op x) := by
  unfold Op.unary
  split
  all_goals first
    | exact .pure _
    | exact .intArith _ _ _ _
    | exact .intBits _ _ _ _
    | exact .unsupported _
    | exact .stuck _
    | (exfalso; exact Pl.not_float hx)

theorem Quiet.max2 (x y : Value) (hx : Pl x) : Quiet P (Builtin.max2 x y) := by
  unfold Builtin.max2
  split
  · exact .pure _
  · exact (Pl.not_float hx).elim
  · exact .bind (.stringOp _ _ _) fun v _ => .bind (.asBool _) fun b _ => .pure _
  · exact .unsupported _
  · exact .unsupported _
  · exact .stuck _
theorem Quiet.min2 (x y : Value) (hx : Pl x) : Quiet P (Builtin.min2 x y) := by
  unfold Builtin.min2
  split
  · exact .pure _
  · exact (Pl.not_float hx).elim
  · exact .bind (.stringOp _ _ _) fun v _ => .bind (.asBool _) fun b _ => .pure _
  · exact .unsupported _
  · exact .unsupported _
  · exact .stuck _
end
end Go.AM
