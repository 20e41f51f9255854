/- A part of the abstract machine: definitions and lemmas for all programs, no claim of its own; no condition. -/
import Derived.Test.YtpmlgmhmejhfeaaGreatAmVMem
set_option linter.unusedVariables false
set_option linter.unusedSimpArgs false
namespace Go.AM
open Go

section
variable {β : Type} {P : Program} {L N : Nat}

/-! ### Code -/
abbrev Kont2 (β : Type) := AExit → TT → Heap → R β
structure Env where
  r : Rec
  rd : Option Nat
structure DenB (β : Type) where
  f : Env → TT → Heap → Kont2 β → R β
def DenOk (P : Program) (L N : Nat) (c : Code) (b : DenB β) : Prop :=
  ∀ (v : Env) (tt : TT) (h : Heap) (k2 : Kont2 β) (k : Kont β) (x : β), (∀ e tt h, k2 e tt h = .ok x → k e (TT.fn tt) h = .ok x) → b.f v tt h k2 = .ok x → den P v.r L N v.rd c (TT.fn tt) h k = .ok x

structure DstB (β : Type) where
  f : TT → Value → (TT → R β) → R β
noncomputable def dstB (N : Nat) (d : Option Tmp) : DstB β :=
  match d with
  | none => ⟨fun tt _ k => k tt⟩
  | some i => match Nat.blt i N with
    | true => ⟨ts (D8.of (Nat.div i 64)) (D8.of (Nat.mod (Nat.div i 8) 8)) (D8.of (Nat.mod i 8))⟩
    | false => ⟨fun tt _ k => k tt⟩
theorem dstB_ok (hN : N ≤ 512) {d : Option Tmp} {tt : TT} {v : Value} {k : TT → R β} {x : β} (h : (dstB N d).f tt v k = .ok x) : ∃ tt', TT.fn tt' = put N (TT.fn tt) d v ∧ k tt' = .ok x := by
  unfold dstB at h
  cases d with
  | none => exact ⟨tt, rfl, h⟩
  | some i =>
    simp only at h
    cases hb : Nat.blt i N with
    | false => rw [hb] at h; exact ⟨tt, by simp only [put, hb], h⟩
    | true =>
      rw [hb] at h
      simp only [ts_eq] at h
      refine ⟨_, ?_, h⟩
      rw [fn_tset (by have := blt_iff.1 hb; omega)]
      funext j
      simp only [put, hb]
      by_cases hj : j = i
      · subst hj; simp [Nat.beq_refl]
      · simp only [hj, if_false]
        cases hb' : Nat.beq j i with
        | true => exact absurd (Nat.eq_of_beq_eq_true hb') hj
        | false => rfl

structure GB where
  f : TT → Bool
noncomputable def gv (want : Bool) (v : Value) : Bool := match v with | .bool b => @Bool.rec (fun _ => Bool) (@Bool.rec (fun _ => Bool) true false b) b want | _ => false
noncomputable def guardF (ops : Array Oper) (j : Nat) (want : Bool) : GB :=
  match (ops[j]?).bind (·.dst) with
  | some d => match Nat.blt d 512 with
    | true => ⟨fun tt => gv want (tg (D8.of (Nat.div d 64)) (D8.of (Nat.mod (Nat.div d 8) 8)) (D8.of (Nat.mod d 8)) tt)⟩
    | false => ⟨fun _ => false⟩
  | none => ⟨fun _ => false⟩
theorem gv_eq {want : Bool} {v : Value} : gv want v = match v with | .bool b => b == want | _ => false := by
  unfold gv
  split
  · rename_i b; cases b <;> cases want <;> rfl
  · rfl
theorem guardF_ok {ops : Array Oper} {o : Oper} {j : Nat} {want : Bool} (hg : o.guard = some (j, want)) (tt : TT) : wanted ops o (TT.fn tt) = (guardF ops j want).f tt := by
  unfold wanted guardF
  simp only [hg]
  cases (ops[j]?).bind fun x => x.dst with
  | none => rfl
  | some d =>
    simp only
    cases hb : Nat.blt d 512 with
    | true => simp only [TT.fn, hb, gv_eq]; rfl
    | false => simp only [TT.fn, hb]; rfl

end
end Go.AM
