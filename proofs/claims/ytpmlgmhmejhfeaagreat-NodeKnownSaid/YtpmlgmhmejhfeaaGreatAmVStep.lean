/- A part of the abstract machine: definitions and lemmas for all programs, no claim of its own; no condition. -/
import Derived.Test.YtpmlgmhmejhfeaaGreatAmVOps
set_option linter.unusedVariables false
set_option linter.unusedSimpArgs false
namespace Go.AM
open Go

section
variable {β : Type} {P : Program}

/-! ### Operands -/
structure Opd where
  f : TT → Value
noncomputable def opdF : Operand → Option Opd
  | .tmp i => match Nat.blt i 512 with
    | true => some ⟨tg (D8.of (Nat.div i 64)) (D8.of (Nat.mod (Nat.div i 8) 8)) (D8.of (Nat.mod i 8))⟩
    | false => none
  | .const v => match plainV 20 v with
    | true => some ⟨fun _ => v⟩
    | false => none
  | .global _ => none
  | .func f => some ⟨fun _ => .func (.func f) #[] #[]⟩
theorem opdF_ok {x : Operand} {a : Opd} (h : opdF x = some a) (tt : TT) : ev (TT.fn tt) x = .ok (a.f tt) := by
  cases x with
  | tmp i =>
    simp only [opdF] at h
    split at h
    · rename_i hb; cases h; simp only [ev, TT.fn, hb]
    · cases h
  | const v =>
    simp only [opdF] at h
    split at h
    · rename_i hb; cases h; simp only [ev, hb]
    · cases h
  | global g => cases h
  | func f => simp only [opdF, Option.some.injEq] at h; subst h; rfl
noncomputable def opdL : List Operand → Option (List Opd)
  | [] => some []
  | x :: xs => match opdF x, opdL xs with
    | some a, some l => some (a :: l)
    | _, _ => none
noncomputable def valsL (tt : TT) (l : List Opd) : List Value := @List.rec Opd (fun _ => List Value) [] (fun a _ r => a.f tt :: r) l
theorem opdL_ok (tt : TT) : ∀ {xs : List Operand} {l : List Opd}, opdL xs = some l → evs (TT.fn tt) xs = .ok (valsL tt l)
  | [], l, h => by cases h; rfl
  | x :: xs, l, h => by
    simp only [opdL] at h
    split at h
    · rename_i a l' h1 h2
      cases h
      simp only [evs, opdF_ok h1, opdL_ok tt h2, bindR]
      rfl
    · cases h

/-! ### One operation -/
def stepW (P : Program) (r : Rec) (op : Op) (t : Tmps) (h : Heap) : R (Value × Heap) :=
  bindR (step P op t h) fun td =>
  match td with
  | .value v h => .ok (v, h)
  | .enter f args => r.call f args h
  | .round l args => r.round l args h
abbrev OpF (β : Type) := Rec → TT → Heap → (Value → Heap → R β) → R β
structure OpB (β : Type) where
  f : OpF β
def OpOk (P : Program) (op : Op) (b : OpB β) : Prop :=
  ∀ (r : Rec) (tt : TT) (h : Heap) (k : Value → Heap → R β) (x : β), b.f r tt h k = .ok x → ∃ v h', stepW P r op (TT.fn tt) h = .ok (v, h') ∧ k v h' = .ok x
theorem stepW_val {r : Rec} {op : Op} {t : Tmps} {h h' : Heap} {v : Value} (hs : step P op t h = .ok (.value v h')) : stepW P r op t h = .ok (v, h') := by
  simp only [stepW, hs, bindR]

noncomputable def pairK (k : Value → Heap → R β) (p : Value × Heap) : R β := @Prod.rec Value Heap (fun _ => R β) k p
noncomputable def tdK (r : Rec) (h : Heap) (k : Value → Heap → R β) (td : Todo) : R β :=
  @Todo.rec (fun _ => R β) k (fun f args => bx (r.call f args h) (pairK k)) (fun l args => bx (r.round l args h) (pairK k)) td
noncomputable def vGen (P : Program) (op : Op) : OpB β := ⟨fun r tt h k => bx (stepF P op (TT.fn tt) h) (tdK r h k)⟩
theorem gen_ok {op : Op} : OpOk P op (vGen (β := β) P op) := by
  intro r tt h k x hh
  simp only [vGen, bx_ok] at hh
  obtain ⟨td, h1, h2⟩ := hh
  rw [stepF_eq] at h1
  cases td with
  | value v h' => exact ⟨v, h', stepW_val h1, h2⟩
  | enter f args =>
    have h2' : bx (r.call f args h) (pairK k) = .ok x := h2
    obtain ⟨⟨v, h'⟩, h3, h4⟩ := bx_ok.1 h2'
    exact ⟨v, h', by simp only [stepW, h1, bindR]; exact h3, h4⟩
  | round l args =>
    have h2' : bx (r.round l args h) (pairK k) = .ok x := h2
    obtain ⟨⟨v, h'⟩, h3, h4⟩ := bx_ok.1 h2'
    exact ⟨v, h', by simp only [stepW, h1, bindR]; exact h3, h4⟩

noncomputable def on1 (x : Operand) (y : Opd → OpB β) (z : OpB β) : OpB β := match opdF x with | some a => y a | none => z
noncomputable def on2 (x x' : Operand) (y : Opd → Opd → OpB β) (z : OpB β) : OpB β := match opdF x, opdF x' with | some a, some b => y a b | _, _ => z
theorem on1_ok {op : Op} {x : Operand} {y : Opd → OpB β} (h : ∀ a, (∀ tt, ev (TT.fn tt) x = .ok (a.f tt)) → OpOk P op (y a)) : OpOk P op (on1 x y (vGen P op)) := by
  unfold on1
  split
  · rename_i a h1; exact h a (opdF_ok h1)
  · exact gen_ok
theorem on2_ok {op : Op} {x x' : Operand} {y : Opd → Opd → OpB β} (h : ∀ a b, (∀ tt, ev (TT.fn tt) x = .ok (a.f tt)) → (∀ tt, ev (TT.fn tt) x' = .ok (b.f tt)) → OpOk P op (y a b)) : OpOk P op (on2 x x' y (vGen P op)) := by
  unfold on2
  split
  · rename_i a b h1 h2; exact h a b (opdF_ok h1) (opdF_ok h2)
  · exact gen_ok
noncomputable def onR {α : Type} (x : R α) (y : α → OpB β) (z : OpB β) : OpB β := match x with | .ok a => y a | .error _ => z
theorem onR_ok {α : Type} {op : Op} {x : R α} {y : α → OpB β} (h : ∀ a, x = .ok a → OpOk P op (y a)) : OpOk P op (onR x y (vGen P op)) := by
  unfold onR
  split
  · exact h _ rfl
  · exact gen_ok

noncomputable def v_move (a : Opd) : OpB β := ⟨fun _ tt h k => k (a.f tt) h⟩
noncomputable def v_pick (c a b : Opd) : OpB β := ⟨fun _ tt h k => vB (c.f tt) (k (a.f tt) h) (k (b.f tt) h)⟩
theorem move_ok {x : Operand} {a : Opd} (ha : ∀ tt, ev (TT.fn tt) x = .ok (a.f tt)) : OpOk P (.move x) (v_move (β := β) a) := fun r tt h k z hh =>
  ⟨a.f tt, h, stepW_val (by simp only [step, ha, val, bindR]), hh⟩
theorem assign_ok {x : Operand} {a : Opd} (ha : ∀ tt, ev (TT.fn tt) x = .ok (a.f tt)) : OpOk P (.assign x) (v_move (β := β) a) := fun r tt h k z hh =>
  ⟨a.f tt, h, stepW_val (by simp only [step, ha, val, bindR]), hh⟩
theorem pick_ok {x y z : Operand} {c a b : Opd} (hc : ∀ tt, ev (TT.fn tt) x = .ok (c.f tt)) (ha : ∀ tt, ev (TT.fn tt) y = .ok (a.f tt)) (hb : ∀ tt, ev (TT.fn tt) z = .ok (b.f tt)) :
    OpOk P (.pick x y z) (v_pick (β := β) c a b) := fun r tt h k w hh => by
  rcases vB_ok hh with ⟨h1, h2⟩ | ⟨h1, h2⟩
  · exact ⟨_, h, stepW_val (by simp only [step, hc, ha, hb, val, bindR, h1, pickV]), h2⟩
  · exact ⟨_, h, stepW_val (by simp only [step, hc, ha, hb, val, bindR, h1, pickV]), h2⟩

/-! Integers -/
theorem bin_int {op : BinOp} {t : TypeId} {xo yo : Operand} {k : IntKind} {a b : Int} {v : Value} (hv : plainV 20 v = true) (h : binOp op t (.int k a) (.int k b) = pure v) :
    binV P op t xo yo (.int k a) (.int k b) = .ok v := by
  have : (eqGuard op t xo yo (.int k a) (.int k b) : Sem Unit).run P default = .ok () default := by
    unfold eqGuard
    split <;> simp
  have hp : ∀ a, plainV 20 (.int k a) = true := fun _ => rfl
  simp only [binV, hp, Bool.and_self, isPtr, Bool.or_self, Bool.not_false, Bool.or_true, plainOut, pureRun, Sem.run_bind, this, Result.andThen_ok, h, Sem.run_pure, bindR, hv, must]
def lim : IntKind → Nat
  | .i8 => 128 | .i16 => 32768 | .i32 => 2147483648 | .i64 => 9223372036854775808 | .u8 => 256 | .u16 => 65536 | .u32 => 4294967296 | .u64 => 18446744073709551616
theorem wrap_small {k : IntKind} {n : Nat} (h : n < lim k) : k.wrap (n : Int) = (n : Int) := by
  unfold IntKind.wrap
  cases k <;> simp only [lim] at h <;> simp only [IntKind.bits, IntKind.signed] <;> simp <;> omega

noncomputable def vII (x y : Value) (k : IntKind → Int → Int → R β) (z : R β) : R β :=
  vI x (fun kd a => vI y (fun kd' b => ifB (Nat.beq (kn kd) (kn kd')) (k kd a b) z) z) z
theorem vII_ok {x y : Value} {k : IntKind → Int → Int → R β} {z : R β} {w : β} (h : vII x y k z = .ok w) :
    (∃ kd a b, x = .int kd a ∧ y = .int kd b ∧ k kd a b = .ok w) ∨ z = .ok w := by
  unfold vII vI at h
  split at h
  · split at h
    · rename_i kd a _ kd' b
      dsimp only at h
      cases hb : Nat.beq (kn kd) (kn kd') with
      | true => rw [hb] at h; obtain rfl := kn_inj hb; exact .inl ⟨_, _, _, rfl, rfl, h⟩
      | false => rw [hb] at h; exact .inr h
    · exact .inr h
  · exact .inr h

noncomputable def v_cmp (P : Program) (op : Op) (c : Int → Int → Bool) (a b : Opd) : OpB β :=
  ⟨fun r tt h k => vII (a.f tt) (b.f tt) (fun _ m n => ifB (c m n) (k (.bool true) h) (k (.bool false) h)) ((vGen P op).f r tt h k)⟩
theorem cmp_ok {bop : BinOp} {ty yt : TypeId} {x y : Operand} {c : Int → Int → Bool} {a b : Opd} (ha : ∀ tt, ev (TT.fn tt) x = .ok (a.f tt)) (hb : ∀ tt, ev (TT.fn tt) y = .ok (b.f tt))
    (hc : ∀ kd m n, binOp bop ty (.int kd m) (.int kd n) = pure (.bool (c m n))) : OpOk P (.binOp bop ty x y yt) (v_cmp (β := β) P (.binOp bop ty x y yt) c a b) := fun r tt h k z hh => by
  rcases vII_ok hh with ⟨kd, m, n, h1, h2, h3⟩ | h1
  · refine ⟨.bool (c m n), h, stepW_val (by simp only [step, ha, hb, h1, h2, bindR, val, bin_int (P := P) rfl (hc kd m n)]), ?_⟩
    cases hcc : c m n with
    | true => rw [hcc] at h3; exact h3
    | false => rw [hcc] at h3; exact h3
  · exact gen_ok r tt h k z h1

noncomputable def v_ar (P : Program) (op : Op) (ok : Nat → Nat → Bool) (c : Nat → Nat → Nat) (a b : Opd) : OpB β :=
  ⟨fun r tt h k => vII (a.f tt) (b.f tt) (fun kd m n =>
    @Int.rec (fun _ => R β) (fun m => @Int.rec (fun _ => R β) (fun n => ifB (ok m n) (fN (c m n) fun l => ifB (Nat.blt l (lim kd)) (k (.int kd (.ofNat l)) h) ((vGen P op).f r tt h k)) ((vGen P op).f r tt h k)) (fun _ => (vGen P op).f r tt h k) n)
      (fun _ => (vGen P op).f r tt h k) m) ((vGen P op).f r tt h k)⟩
theorem ar_ok {bop : BinOp} {ty yt : TypeId} {x y : Operand} {ok : Nat → Nat → Bool} {c : Nat → Nat → Nat} {a b : Opd} (ha : ∀ tt, ev (TT.fn tt) x = .ok (a.f tt)) (hb : ∀ tt, ev (TT.fn tt) y = .ok (b.f tt))
    (hc : ∀ kd (m n : Nat), ok m n = true → c m n < lim kd → binOp bop ty (.int kd (.ofNat m)) (.int kd (.ofNat n)) = pure (.int kd (.ofNat (c m n)))) : OpOk P (.binOp bop ty x y yt) (v_ar (β := β) P (.binOp bop ty x y yt) ok c a b) := fun r tt h k z hh => by
  rcases vII_ok hh with ⟨kd, m, n, h1, h2, h3⟩ | h1
  · cases m with
    | negSucc m => exact gen_ok r tt h k z h3
    | ofNat m =>
      cases n with
      | negSucc n => exact gen_ok r tt h k z h3
      | ofNat n =>
        simp only at h3
        cases h4 : ok m n with
        | false => rw [h4] at h3; exact gen_ok r tt h k z h3
        | true =>
          rw [h4] at h3
          simp only [ifB, fN_eq] at h3
          cases h5 : Nat.blt (c m n) (lim kd) with
          | false => rw [h5] at h3; exact gen_ok r tt h k z h3
          | true =>
            rw [h5] at h3
            exact ⟨_, h, stepW_val (by simp only [step, ha, hb, h1, h2, bindR, val]; rw [bin_int (P := P) (v := .int kd (.ofNat (c m n))) rfl (hc kd m n h4 (blt_iff.1 h5))]), h3⟩
  · exact gen_ok r tt h k z h1

noncomputable def okT (_ _ : Nat) : Bool := true
noncomputable def okS (m n : Nat) : Bool := Nat.ble n m
noncomputable def okD (_ n : Nat) : Bool := Nat.blt 0 n
noncomputable def binB (P : Program) (bop : BinOp) (ty : TypeId) (x y : Operand) (yt : TypeId) : OpB β :=
  match bop with
  | .lss => on2 x y (fun a b => v_cmp P (.binOp .lss ty x y yt) ltI a b) (vGen P (.binOp .lss ty x y yt))
  | .leq => on2 x y (fun a b => v_cmp P (.binOp .leq ty x y yt) leI a b) (vGen P (.binOp .leq ty x y yt))
  | .gtr => on2 x y (fun a b => v_cmp P (.binOp .gtr ty x y yt) (fun m n => ltI n m) a b) (vGen P (.binOp .gtr ty x y yt))
  | .geq => on2 x y (fun a b => v_cmp P (.binOp .geq ty x y yt) (fun m n => leI n m) a b) (vGen P (.binOp .geq ty x y yt))
  | .eql => on2 x y (fun a b => v_cmp P (.binOp .eql ty x y yt) eqI a b) (vGen P (.binOp .eql ty x y yt))
  | .neq => on2 x y (fun a b => v_cmp P (.binOp .neq ty x y yt) (fun m n => @Bool.rec (fun _ => Bool) true false (eqI m n)) a b) (vGen P (.binOp .neq ty x y yt))
  | .add => on2 x y (fun a b => v_ar P (.binOp .add ty x y yt) okT Nat.add a b) (vGen P (.binOp .add ty x y yt))
  | .sub => on2 x y (fun a b => v_ar P (.binOp .sub ty x y yt) okS Nat.sub a b) (vGen P (.binOp .sub ty x y yt))
  | .mul => on2 x y (fun a b => v_ar P (.binOp .mul ty x y yt) okT Nat.mul a b) (vGen P (.binOp .mul ty x y yt))
  | .quo => on2 x y (fun a b => v_ar P (.binOp .quo ty x y yt) okD Nat.div a b) (vGen P (.binOp .quo ty x y yt))
  | .rem => on2 x y (fun a b => v_ar P (.binOp .rem ty x y yt) okD Nat.mod a b) (vGen P (.binOp .rem ty x y yt))
  | op => vGen P (.binOp op ty x y yt)
theorem binB_ok {bop : BinOp} {ty yt : TypeId} {x y : Operand} : OpOk P (.binOp bop ty x y yt) (binB (β := β) P bop ty x y yt) := by
  unfold binB
  split
  · exact on2_ok fun a b ha hb => cmp_ok ha hb fun kd m n => by simp [binOp, Op.intCmp, ltI_eq]
  · exact on2_ok fun a b ha hb => cmp_ok ha hb fun kd m n => by simp [binOp, Op.intCmp, leI_eq]
  · exact on2_ok fun a b ha hb => cmp_ok ha hb fun kd m n => by simp [binOp, Op.intCmp, ltI_eq]
  · exact on2_ok fun a b ha hb => cmp_ok ha hb fun kd m n => by simp [binOp, Op.intCmp, leI_eq]
  · exact on2_ok fun a b ha hb => cmp_ok ha hb fun kd m n => by simp [binOp, Op.intCmp, eqI_eq]
  · exact on2_ok fun a b ha hb => cmp_ok ha hb fun kd m n => by
      simp only [binOp, ne_eq, not_true_eq_false, if_false, Op.intCmp, eqI_eq, bne]
      cases (m == n) <;> rfl
  · exact on2_ok fun a b ha hb => ar_ok ha hb fun kd m n _ hl => by
      simp only [binOp, ne_eq, not_true_eq_false, if_false, Op.intArith]
      rw [show (Int.ofNat m + Int.ofNat n) = ((Nat.add m n : Nat) : Int) from rfl, wrap_small hl]; rfl
  · exact on2_ok fun a b ha hb => ar_ok ha hb fun kd m n ho hl => by
      have hle : n ≤ m := ble_iff.1 ho
      simp only [binOp, ne_eq, not_true_eq_false, if_false, Op.intArith]
      rw [show (Int.ofNat m - Int.ofNat n) = ((Nat.sub m n : Nat) : Int) from by show (m : Int) - (n : Int) = ((m - n : Nat) : Int); omega, wrap_small hl]; rfl
  · exact on2_ok fun a b ha hb => ar_ok ha hb fun kd m n _ hl => by
      simp only [binOp, ne_eq, not_true_eq_false, if_false, Op.intArith]
      rw [show (Int.ofNat m * Int.ofNat n) = ((Nat.mul m n : Nat) : Int) from rfl, wrap_small hl]; rfl
  · exact on2_ok fun a b ha hb => ar_ok ha hb fun kd m n ho hl => by
      have hlt : 0 < n := blt_iff.1 ho
      simp only [binOp, ne_eq, not_true_eq_false, if_false, Op.intDiv]
      rw [if_neg (by show ¬ (n : Int) = 0; omega), show Int.tdiv (Int.ofNat m) (Int.ofNat n) = ((Nat.div m n : Nat) : Int) from rfl, wrap_small hl]; rfl
  · exact on2_ok fun a b ha hb => ar_ok ha hb fun kd m n ho hl => by
      have hlt : 0 < n := blt_iff.1 ho
      simp only [binOp, ne_eq, not_true_eq_false, if_false, Op.intDiv]
      rw [if_neg (by show ¬ (n : Int) = 0; omega), show Int.tmod (Int.ofNat m) (Int.ofNat n) = Int.ofNat (Nat.mod m n) from rfl]
  · exact gen_ok

noncomputable def v_not (P : Program) (op : Op) (a : Opd) : OpB β := ⟨fun _ tt h k => vB (a.f tt) (k (.bool false) h) (k (.bool true) h)⟩
noncomputable def unB (P : Program) (uop : UnOp) (ut : TypeId) (x : Operand) : OpB β :=
  match uop with
  | .not => on1 x (fun a => v_not P (.unOp .not ut x) a) (vGen P (.unOp .not ut x))
  | op => vGen P (.unOp op ut x)
theorem un_not {b : Bool} : unV P .not (.bool b) = .ok (.bool !b) := by cases b <;> rfl
theorem unB_ok {uop : UnOp} {ut : TypeId} {x : Operand} : OpOk P (.unOp uop ut x) (unB (β := β) P uop ut x) := by
  unfold unB
  split
  · refine on1_ok fun a ha r tt h k z hh => ?_
    rcases vB_ok hh with ⟨h1, h2⟩ | ⟨h1, h2⟩
    · exact ⟨_, h, stepW_val (by simp only [step, ha, val, bindR, h1, un_not]; rfl), h2⟩
    · exact ⟨_, h, stepW_val (by simp only [step, ha, val, bindR, h1, un_not]; rfl), h2⟩
  · exact gen_ok
end
end Go.AM
