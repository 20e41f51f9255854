/- A part of the abstract machine: definitions and lemmas for all programs, no claim of its own; no condition. -/
import Derived.Test.YtpmlgmhmejhfeaaGreatAmV
set_option linter.unusedVariables false
set_option linter.unusedSimpArgs false
namespace Go.AM
open Go

section
variable {β : Type}
noncomputable def bx {α β : Type} (x : R α) (k : α → R β) : R β := @Except.rec String α (fun _ => R β) (fun e => .error e) k x
theorem bx_eq {α β : Type} {x : R α} {k : α → R β} : bx x k = bindR x k := by cases x <;> rfl
theorem bx_ok {α β : Type} {x : R α} {k : α → R β} {b : β} : bx x k = .ok b ↔ ∃ a, x = .ok a ∧ k a = .ok b := by rw [bx_eq, bindR_ok]
noncomputable def ifB (b : Bool) (x y : R β) : R β := @Bool.rec (fun _ => R β) y x b
theorem ifB_ok {b : Bool} {x : R β} {z : β} {e : String} (h : ifB b x (.error e) = .ok z) : b = true ∧ x = .ok z := by
  cases b with
  | true => exact ⟨rfl, h⟩
  | false => cases h
noncomputable def fN (n : Nat) (k : Nat → R β) : R β := @Nat.rec (fun _ => R β) (k 0) (fun m _ => k (Nat.succ m)) n
theorem fN_eq {n : Nat} {k : Nat → R β} : fN n k = k n := by cases n <;> rfl

def kn : IntKind → Nat
  | .i8 => 0 | .i16 => 1 | .i32 => 2 | .i64 => 3 | .u8 => 4 | .u16 => 5 | .u32 => 6 | .u64 => 7
theorem kn_inj {a b : IntKind} (h : Nat.beq (kn a) (kn b) = true) : a = b := by
  have := Nat.eq_of_beq_eq_true h
  cases a <;> cases b <;> first | rfl | (simp [kn] at this)

noncomputable def vB (v : Value) (kt kf : R β) : R β := match v with | .bool b => ifB b kt kf | _ => .error "bool"
theorem vB_ok {v : Value} {kt kf : R β} {x : β} (h : vB v kt kf = .ok x) : (v = .bool true ∧ kt = .ok x) ∨ (v = .bool false ∧ kf = .ok x) := by
  unfold vB at h
  split at h
  · rename_i b; cases b with
    | true => exact .inl ⟨rfl, h⟩
    | false => exact .inr ⟨rfl, h⟩
  · cases h
def vI (v : Value) (k : IntKind → Int → R β) (z : R β) : R β := match v with | .int kd n => k kd n | _ => z
def vP (v : Value) (k : Nat → Nat → Option Nat → R β) : R β := match v with | .pointer (some ⟨b, o, s⟩) => k b o s | _ => .error "pointer"
theorem vP_ok {v : Value} {k : Nat → Nat → Option Nat → R β} {x : β} (h : vP v k = .ok x) : ∃ b o s, v = .pointer (some ⟨b, o, s⟩) ∧ k b o s = .ok x := by
  unfold vP at h; split at h
  · exact ⟨_, _, _, rfl, h⟩
  · cases h
def noneK (s : Option Nat) (k : R β) : R β := match s with | none => k | some _ => .error "spot"
theorem noneK_ok {s : Option Nat} {k : R β} {x : β} (h : noneK s k = .ok x) : s = none ∧ k = .ok x := by
  cases s with
  | none => exact ⟨rfl, h⟩
  | some _ => cases h
def vS (v : Value) (k : Nat → Nat → Option Nat → Nat → Nat → R β) (z : R β) : R β := match v with | .slice (some ⟨b, o, s⟩) n c => k b o s n c | _ => z
def vLen (v : Value) (k : Nat → R β) : R β := match v with | .slice _ n _ => k n | _ => .error "len"
theorem vLen_ok {v : Value} {k : Nat → R β} {x : β} (h : vLen v k = .ok x) : ∃ a n c, v = .slice a n c ∧ k n = .ok x := by
  unfold vLen at h; split at h
  · exact ⟨_, _, _, rfl, h⟩
  · cases h
def vT (v : Value) (k : List Value → R β) : R β := match v with | .tuple ⟨l⟩ => k l | _ => .error "tuple"
theorem vT_ok {v : Value} {k : List Value → R β} {x : β} (h : vT v k = .ok x) : ∃ a, v = .tuple a ∧ k a.toList = .ok x := by
  unfold vT at h; split at h
  · exact ⟨_, rfl, h⟩
  · cases h
def vA (v : Value) (k : List Value → R β) : R β := match v with | .agg ⟨l⟩ => k l | _ => .error "agg"
theorem vA_ok {v : Value} {k : List Value → R β} {x : β} (h : vA v k = .ok x) : ∃ a, v = .agg a ∧ k a.toList = .ok x := by
  unfold vA at h; split at h
  · exact ⟨_, rfl, h⟩
  · cases h
/-- The cells of a value. -/
def vC (v : Value) (k : List Value → R β) : R β := match v with | .agg ⟨l⟩ => k l | .tuple _ => .error "cells" | v => k [v]
theorem vC_ok {v : Value} {k : List Value → R β} {x : β} (h : vC v k = .ok x) : k v.cells.toList = .ok x := by
  unfold vC at h; split at h
  · exact h
  · cases h
  · rename_i h1 h2
    cases v <;> first | exact h | (rename_i a; exact absurd rfl (h1 a.toList)) | (rename_i a; exact absurd rfl (h2 a))
def vF (v : Value) (k : FuncId → List Value → List Value → R β) (y : Nat → R β) : R β :=
  match v with | .func (.func f) ⟨a⟩ ⟨b⟩ => k f a b | .func (.yield l) _ _ => y l | _ => .error "call"
theorem vF_ok {v : Value} {k : FuncId → List Value → List Value → R β} {y : Nat → R β} {x : β} (h : vF v k y = .ok x) :
    (∃ f a b, v = .func (.func f) a b ∧ k f a.toList b.toList = .ok x) ∨ (∃ l a b, v = .func (.yield l) a b ∧ y l = .ok x) := by
  unfold vF at h; split at h
  · exact .inl ⟨_, _, _, rfl, h⟩
  · exact .inr ⟨_, _, _, rfl, h⟩
  · cases h
def bC (b : Blk) (k : List Value → TypeId → Mode → R β) : R β := match b with | .cells vs e m => k vs e m | _ => .error "cells"
theorem bC_ok {b : Blk} {k : List Value → TypeId → Mode → R β} {x : β} (h : bC b k = .ok x) : ∃ vs e m, b = .cells vs e m ∧ k vs e m = .ok x := by
  unfold bC at h; split at h
  · exact ⟨_, _, _, rfl, h⟩
  · cases h
def roK (m : Mode) (k : R β) : R β := match m with | .ro _ => .error "read-only" | _ => k
theorem roK_ok {m : Mode} {k : R β} {x : β} (h : roK m k = .ok x) : (∀ n, m ≠ .ro n) ∧ k = .ok x := by
  unfold roK at h; split at h
  · cases h
  · rename_i h1; exact ⟨fun n e => h1 n e, h⟩

/-! Lists, strictly -/
noncomputable def nthK (l : List Value) (i : Nat) (k : Value → R β) : R β :=
  @List.rec Value (fun _ => Nat → R β) (fun _ => .error "nth") (fun v _ ih i => @Nat.rec (fun _ => R β) (k v) (fun j _ => ih j) i) l i
theorem nthK_ok : ∀ {l : List Value} {i : Nat} {k : Value → R β} {x : β}, nthK l i k = .ok x → ∃ v, l[i]? = some v ∧ k v = .ok x
  | [], i, k, x, h => by cases h
  | v :: l, 0, k, x, h => ⟨v, rfl, h⟩
  | v :: l, i + 1, k, x, h => by
    have : nthK l i k = .ok x := h
    simpa using nthK_ok this
noncomputable def dropK (l : List Value) (i : Nat) (k : List Value → R β) : R β :=
  @Nat.rec (fun _ => List Value → R β) k (fun _ ih l => @List.rec Value (fun _ => R β) (.error "drop") (fun _ t _ => ih t) l) i l
theorem dropK_ok : ∀ {i : Nat} {l : List Value} {k : List Value → R β} {x : β}, dropK l i k = .ok x → i ≤ l.length ∧ k (l.drop i) = .ok x
  | 0, l, k, x, h => ⟨Nat.zero_le _, h⟩
  | i + 1, [], k, x, h => by cases h
  | i + 1, v :: l, k, x, h => by
    have : dropK l i k = .ok x := h
    obtain ⟨h1, h2⟩ := dropK_ok this
    exact ⟨by simpa using h1, by simpa using h2⟩
noncomputable def takeK (n : Nat) (l : List Value) (k : List Value → R β) : R β :=
  @Nat.rec (fun _ => List Value → (List Value → R β) → R β) (fun _ k => k []) (fun _ ih l k => @List.rec Value (fun _ => R β) (.error "take") (fun v t _ => ih t fun r => k (v :: r)) l) n l k
theorem takeK_ok : ∀ {n : Nat} {l : List Value} {k : List Value → R β} {x : β}, takeK n l k = .ok x → n ≤ l.length ∧ k (l.take n) = .ok x
  | 0, l, k, x, h => ⟨Nat.zero_le _, by rw [List.take_zero]; exact h⟩
  | n + 1, [], k, x, h => by cases h
  | n + 1, v :: l, k, x, h => by
    have : takeK n l (fun r => k (v :: r)) = .ok x := h
    obtain ⟨h1, h2⟩ := takeK_ok this
    exact ⟨by simpa using h1, by simpa using h2⟩
/-- The row with some cells laid over it, each a cell. -/
def cellK (v : Value) (k : R β) : R β := match v with | .agg _ => .error "cell" | .tuple _ => .error "cell" | _ => k
theorem cellK_ok {v : Value} {k : R β} {x : β} (h : cellK v k = .ok x) : isCell v = true ∧ k = .ok x := by
  cases v <;> first | exact ⟨rfl, h⟩ | cases h
noncomputable def overK (xs vs : List Value) (k : List Value → R β) : R β :=
  @List.rec Value (fun _ => List Value → (List Value → R β) → R β) (fun vs k => k vs)
    (fun x _ ih vs k => @List.rec Value (fun _ => R β) (.error "over") (fun _ t _ => cellK x (ih t fun r => k (x :: r))) vs) xs vs k
theorem overK_ok : ∀ {xs vs : List Value} {k : List Value → R β} {z : β}, overK xs vs k = .ok z → xs.length ≤ vs.length ∧ xs.all isCell = true ∧ k (setAt vs 0 xs) = .ok z
  | [], vs, k, z, h => ⟨Nat.zero_le _, rfl, by cases vs <;> exact h⟩
  | x :: xs, [], k, z, h => by cases h
  | x :: xs, v :: vs, k, z, h => by
    have : cellK x (overK xs vs fun r => k (x :: r)) = .ok z := h
    obtain ⟨h0, h1⟩ := cellK_ok this
    obtain ⟨h2, h3, h4⟩ := overK_ok h1
    refine ⟨by simpa using h2, by simp [h0, h3], ?_⟩
    simpa [setAt] using h4
noncomputable def setAtK (i : Nat) (xs vs : List Value) (k : List Value → R β) : R β :=
  @Nat.rec (fun _ => List Value → (List Value → R β) → R β) (overK xs) (fun _ ih vs k => @List.rec Value (fun _ => R β) (.error "set") (fun v t _ => ih t fun r => k (v :: r)) vs) i vs k
theorem setAtK_ok : ∀ {i : Nat} {xs vs : List Value} {k : List Value → R β} {z : β}, setAtK i xs vs k = .ok z → i + xs.length ≤ vs.length ∧ xs.all isCell = true ∧ k (setAt vs i xs) = .ok z
  | 0, xs, vs, k, z, h => by
    obtain ⟨h1, h2, h3⟩ := overK_ok h
    exact ⟨by omega, h2, h3⟩
  | i + 1, xs, [], k, z, h => by cases h
  | i + 1, xs, v :: vs, k, z, h => by
    have : setAtK i xs vs (fun r => k (v :: r)) = .ok z := h
    obtain ⟨h1, h2, h3⟩ := setAtK_ok this
    refine ⟨by simp; omega, h2, ?_⟩
    cases xs with
    | nil => have e : ∀ l i, setAt l i [] = l := fun l i => by cases l <;> cases i <;> rfl
             rw [e] at h3; rw [e]; exact h3
    | cons x xs => simpa [setAt] using h3
noncomputable def lenN (l : List Value) : Nat := @List.rec Value (fun _ => Nat) 0 (fun _ _ n => Nat.succ n) l
theorem lenN_eq : ∀ {l : List Value}, lenN l = l.length
  | [] => rfl
  | v :: l => by show Nat.succ (lenN l) = _; rw [lenN_eq]; rfl
noncomputable def cellsK (l : List Value) (k : R β) : R β := @List.rec Value (fun _ => R β) k (fun v _ ih => cellK v ih) l
theorem cellsK_ok : ∀ {l : List Value} {k : R β} {x : β}, cellsK l k = .ok x → l.all isCell = true ∧ k = .ok x
  | [], k, x, h => ⟨rfl, h⟩
  | v :: l, k, x, h => by
    have : cellK v (cellsK l k) = .ok x := h
    obtain ⟨h0, h1⟩ := cellK_ok this
    obtain ⟨h2, h3⟩ := cellsK_ok h1
    exact ⟨by simp [h0, h2], h3⟩
noncomputable def appL (a b : List Value) : List Value := @List.rec Value (fun _ => List Value) b (fun v _ r => v :: r) a
theorem appL_eq : ∀ {a b : List Value}, appL a b = a ++ b
  | [], b => rfl
  | v :: a, b => by show v :: appL a b = _; rw [appL_eq]; rfl
noncomputable def nthD (l : List Value) : Nat → Value := @List.rec Value (fun _ => Nat → Value) (fun _ => undef) (fun v _ ih i => @Nat.rec (fun _ => Value) v (fun j _ => ih j) i) l
theorem nthD_eq : ∀ {l : List Value} {i : Nat}, nthD l i = l.getD i undef
  | [], i => by simp [nthD]
  | v :: l, 0 => rfl
  | v :: l, i + 1 => by
    show nthD l i = _
    rw [nthD_eq]; simp

/-! ### Integers -/
noncomputable def ltI (a b : Int) : Bool :=
  @Int.rec (fun _ => Bool) (fun m => @Int.rec (fun _ => Bool) (fun n => Nat.blt m n) (fun _ => false) b) (fun m => @Int.rec (fun _ => Bool) (fun _ => true) (fun n => Nat.blt n m) b) a
noncomputable def leI (a b : Int) : Bool :=
  @Int.rec (fun _ => Bool) (fun m => @Int.rec (fun _ => Bool) (fun n => Nat.ble m n) (fun _ => false) b) (fun m => @Int.rec (fun _ => Bool) (fun _ => true) (fun n => Nat.ble n m) b) a
noncomputable def eqI (a b : Int) : Bool :=
  @Int.rec (fun _ => Bool) (fun m => @Int.rec (fun _ => Bool) (fun n => Nat.beq m n) (fun _ => false) b) (fun m => @Int.rec (fun _ => Bool) (fun _ => false) (fun n => Nat.beq m n) b) a
theorem ltI_eq {a b : Int} : ltI a b = decide (a < b) := by
  cases a <;> cases b
  · rename_i m n; show Nat.blt m n = _
    cases h : Nat.blt m n with
    | true => have := blt_iff.1 h; simp; omega
    | false => have := blt_f.1 h; simp; omega
  · rename_i m n; show false = _; simp only [Int.ofNat_eq_natCast]; symm; simp; omega
  · rename_i m n; show true = _; symm; simp; omega
  · rename_i m n; show Nat.blt n m = _
    cases h : Nat.blt n m with
    | true => have := blt_iff.1 h; simp; omega
    | false => have := blt_f.1 h; simp; omega
theorem leI_eq {a b : Int} : leI a b = decide (a ≤ b) := by
  cases a <;> cases b
  · rename_i m n; show Nat.ble m n = _
    cases h : Nat.ble m n with
    | true => have := ble_iff.1 h; simp; omega
    | false => have := ble_f.1 h; simp; omega
  · rename_i m n; show false = _; simp only [Int.ofNat_eq_natCast]; symm; simp; omega
  · rename_i m n; show true = _; symm; simp; omega
  · rename_i m n; show Nat.ble n m = _
    cases h : Nat.ble n m with
    | true => have := ble_iff.1 h; simp; omega
    | false => have := ble_f.1 h; simp; omega
theorem eqI_eq {a b : Int} : eqI a b = (a == b) := by
  cases a <;> cases b
  · rename_i m n; show Nat.beq m n = _
    cases h : Nat.beq m n with
    | true => have := Nat.eq_of_beq_eq_true h; subst this; simp
    | false => have := Nat.ne_of_beq_eq_false h; symm; simp; omega
  · rename_i m n; show false = _; symm; simp
  · rename_i m n; show false = _; symm; simp
  · rename_i m n; show Nat.beq m n = _
    cases h : Nat.beq m n with
    | true => have := Nat.eq_of_beq_eq_true h; subst this; simp
    | false => have := Nat.ne_of_beq_eq_false h; symm; simp; omega
end
end Go.AM
