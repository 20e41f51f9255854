/- Of the abstract machine, for all programs: definitions and lemmas, no claim of its own; no condition. -/
import Derived.Test.YtlkddekecegfdaaGreatAmRel
import Derived.IntWalk
set_option linter.unusedVariables false
set_option linter.unusedSimpArgs false
namespace Go.AM
open Go

/-- An operation that doesn't look at the world: it hands back one value in whatever world, or it never ends well. -/
def Quiet {α : Type} (P : Program) (s : Sem α) : Prop :=
  (∃ a, ∀ w, s.run P w = .ok a w) ∨ (∀ w, ∃ x w', s.run P w = .halt x w')

section
variable {P : Program} {α β : Type}
theorem Quiet.pure (a : α) : Quiet P (Pure.pure a : Sem α) := .inl ⟨a, fun _ => rfl⟩
theorem Quiet.halt (x : Halt) : Quiet P (Sem.halt x : Sem α) := .inr fun w => ⟨x, w, rfl⟩
theorem Quiet.stuck (x : String) : Quiet P (Go.stuck x : Sem α) := .inr fun w => ⟨_, w, rfl⟩
theorem Quiet.unsupported (x : Unsupported) : Quiet P (Go.unsupported x : Sem α) := .inr fun w => ⟨_, w, rfl⟩
theorem Quiet.bind {s : Sem α} {f : α → Sem β} (h : Quiet P s) (hf : ∀ a, (∀ w, s.run P w = .ok a w) → Quiet P (f a)) : Quiet P (s >>= f) := by
  rcases h with ⟨a, ha⟩ | h
  · rcases hf a ha with ⟨b, hb⟩ | hb
    · exact .inl ⟨b, fun w => by simp [ha, hb]⟩
    · exact .inr fun w => by obtain ⟨x, w', e⟩ := hb w; exact ⟨x, w', by simp [ha, e]⟩
  · exact .inr fun w => by obtain ⟨x, w', e⟩ := h w; exact ⟨x, w', by simp [e]⟩
theorem Quiet.ite {c : Prop} [Decidable c] {x y : Sem α} (hx : Quiet P x) (hy : Quiet P y) : Quiet P (if c then x else y) := by
  split <;> assumption
theorem Quiet.ite' {c : Prop} [Decidable c] {x y : Sem α} (hx : c → Quiet P x) (hy : ¬ c → Quiet P y) : Quiet P (if c then x else y) := by
  split
  · exact hx ‹_›
  · exact hy ‹_›
theorem Quiet.runtimePanic (e : RuntimeError) : Quiet P (Go.runtimePanic e : Sem α) := by
  refine .inr fun w => ?_
  cases e <;> simp only [Go.runtimePanic, Sem.run_bind, run_program, Result.andThen_ok, run_goPanic]
  case typeAssertion i c a m =>
    cases hh : (elemOf P.rt.typeAssertionError).run P w with
    | ok e w1 => exact ⟨_, _, by simp [newVar, newRow]; exact ⟨rfl, rfl⟩⟩
    | halt x w1 => exact ⟨x, w1, rfl⟩
  case panicNil =>
    cases hh : (elemOf P.rt.panicNilError).run P w with
    | ok e w1 => exact ⟨_, _, by simp [newVar, newRow]; exact ⟨rfl, rfl⟩⟩
    | halt x w1 => exact ⟨x, w1, rfl⟩
  all_goals exact ⟨_, _, rfl⟩
theorem Quiet.program : Quiet P Go.program := .inl ⟨P, fun _ => rfl⟩
theorem Quiet.typeInfo (t : TypeId) : Quiet P (Go.typeInfo t) := by
  unfold Go.typeInfo
  refine .bind .program fun p _ => ?_
  split
  · exact .pure _
  · exact .stuck _
theorem Quiet.underlying (t : TypeId) : Quiet P (Go.underlying t) := by
  unfold Go.underlying
  refine .bind .program fun p _ => ?_
  split
  · exact .pure _
  · exact .stuck _
theorem Quiet.sizeOf (t : TypeId) : Quiet P (Go.sizeOf t) := .bind (.typeInfo t) fun _ _ => .pure _
theorem Quiet.typeStr (t : TypeId) : Quiet P (Go.typeStr t) := by
  unfold Go.typeStr
  refine .bind (.typeInfo t) fun i _ => ?_
  exact .ite (.unsupported _) (.pure _)
theorem Quiet.isAgg (t : TypeId) : Quiet P (Go.isAgg t) := by
  unfold Go.isAgg
  refine .bind (.underlying t) fun d _ => ?_
  split <;> exact .pure _
theorem Quiet.part (t : TypeId) (cs : Array Value) (off : Nat) : Quiet P (Go.part t cs off) := by
  unfold Go.part
  refine .bind (.isAgg t) fun b _ => ?_
  refine .ite (.bind (.sizeOf t) fun _ _ => .pure _) ?_
  split
  · exact .pure _
  · exact .stuck _
theorem Quiet.asBool (v : Value) : Quiet P (Go.asBool v) := by
  cases v <;> first | exact .pure _ | exact .stuck _
theorem Quiet.run {s : Sem α} (h : Quiet P s) {a : α} (hh : pureRun P s = .ok a) (w : World) : s.run P w = .ok a w := by
  rcases h with ⟨b, hb⟩ | h
  · simp [pureRun, hb] at hh; rw [hb, hh]
  · obtain ⟨x, w', e⟩ := h default; simp [pureRun, e] at hh

/-- Plain, at whatever depth. -/
def Pl (v : Value) : Prop := ∃ f, plainV f v = true
theorem Pl.refl {ρ : Ren} {v : Value} (h : Pl v) : VR ρ v v := let ⟨f, hf⟩ := h; plain_refl f v hf
theorem Pl.eq {ρ : Ren} {v c : Value} (h : Pl v) (hc : VR ρ v c) : c = v := let ⟨f, hf⟩ := h; plain_eq f v hf c hc
theorem Pl.iface {t : TypeId} {v : Value} (h : Pl (.iface t v)) : Pl v := by
  obtain ⟨f, hf⟩ := h
  cases f with
  | zero => simp [plainV] at hf
  | succ f => exact ⟨f, by simpa [plainV] using hf⟩
theorem Pl.agg {cs : Array Value} (h : Pl (.agg cs)) : ∀ v ∈ cs.toList, Pl v := by
  obtain ⟨f, hf⟩ := h
  cases f with
  | zero => simp [plainV] at hf
  | succ f =>
    simp only [plainV, List.all_eq_true] at hf
    exact fun v hv => ⟨f, hf v hv⟩
theorem plainV_mono : ∀ (f g : Nat) (v : Value), f ≤ g → plainV f v = true → plainV g v = true := by
  intro f
  induction f with
  | zero => intro g v _ h; simp [plainV] at h
  | succ f ih =>
    intro g v hg h
    cases g with
    | zero => omega
    | succ g =>
      have hfg : f ≤ g := by omega
      cases v with
      | iface t x => simp only [plainV] at h ⊢; exact ih g x hfg h
      | agg cs => simp only [plainV, List.all_eq_true] at h ⊢; exact fun x hx => ih g x hfg (h x hx)
      | bool b => rfl
      | int k n => rfl
      | string s => rfl
      | pointer a => cases a <;> simp_all [plainV]
      | slice a n c => cases a <;> cases n <;> cases c <;> simp_all [plainV]
      | map r => cases r <;> simp_all [plainV]
      | nilFunc => rfl
      | nilIface => rfl
      | _ => simp [plainV] at h
theorem Pl.of_list : ∀ (l : List Value), (∀ v ∈ l, Pl v) → ∃ f, ∀ v ∈ l, plainV f v = true
  | [], _ => ⟨0, fun v hv => by cases hv⟩
  | x :: l, h => by
    obtain ⟨f, hf⟩ := h x (List.mem_cons_self ..)
    obtain ⟨g, hg⟩ := Pl.of_list l fun v hv => h v (List.mem_cons_of_mem _ hv)
    refine ⟨Nat.max f g, fun v hv => ?_⟩
    rcases List.mem_cons.1 hv with rfl | hv
    · exact plainV_mono f _ _ (Nat.le_max_left _ _) hf
    · exact plainV_mono g _ _ (Nat.le_max_right _ _) (hg v hv)
theorem Pl.mk_agg {cs : Array Value} (h : ∀ v ∈ cs.toList, Pl v) : Pl (.agg cs) := by
  obtain ⟨f, hf⟩ := Pl.of_list _ h
  exact ⟨f + 1, by simp only [plainV, List.all_eq_true]; exact hf⟩
theorem Pl.part {t : TypeId} {cs : Array Value} {off : Nat} {v : Value} (h : ∀ v ∈ cs.toList, Pl v) (hv : ∀ w, (Go.part t cs off).run P w = .ok v w) : Pl v := by
  have := hv default
  simp only [Go.part, Sem.run_bind] at this
  cases ha : (Go.isAgg t).run P default with
  | halt x w => simp [ha] at this
  | ok b w =>
    simp only [ha, Result.andThen_ok] at this
    cases b with
    | true =>
      simp only [if_true, Sem.run_bind] at this
      cases hs : (Go.sizeOf t).run P w with
      | halt x w => simp [hs] at this
      | ok n w' =>
        simp only [hs, Result.andThen_ok, Sem.run_pure, Result.ok.injEq] at this
        rw [← this.1]
        refine Pl.mk_agg fun x hx => h x ?_
        simp only [Array.toList_extract, List.extract] at hx
        exact List.mem_of_mem_drop (List.mem_of_mem_take hx)
    | false =>
      simp only [Bool.false_eq_true, if_false] at this
      split at this
      · rename_i x hx
        simp only [Sem.run_pure, Result.ok.injEq] at this
        rw [← this.1]
        exact h _ (by have := Array.mem_of_getElem? hx; simpa using this)
      · simp at this

end
end Go.AM
namespace Go.AM
open Go

section
variable {P : Program}

theorem Pl.not_ptr {a : Addr} : ¬ Pl (.pointer (some a)) := by
  rintro ⟨f, hf⟩; cases f <;> simp [plainV] at hf
theorem Pl.not_float {k : FloatKind} {n : Nat} : ¬ Pl (.float k n) := by
  rintro ⟨f, hf⟩; cases f <;> simp [plainV] at hf

/-- A loop over a list whose rounds are quiet. -/
theorem Quiet.forInL {α σ : Type} (f : α → σ → Sem (ForInStep σ)) : ∀ (l : List α) (s : σ), (∀ a ∈ l, ∀ s, Quiet P (f a s)) → Quiet P (forIn l s f)
  | [], s, _ => by simp only [List.forIn_nil]; exact .pure s
  | a :: l, s, h => by
    simp only [List.forIn_cons]
    refine .bind (h a (List.mem_cons_self ..) s) fun x _ => ?_
    cases x with
    | done s => exact .pure s
    | yield s => exact Quiet.forInL f l s fun b hb => h b (List.mem_cons_of_mem _ hb)

theorem Quiet.forInA {α σ : Type} (f : α → σ → Sem (ForInStep σ)) (l : Array α) (s : σ) (h : ∀ a s, Quiet P (f a s)) : Quiet P (forIn l s f) := by
  rw [← Array.forIn_toList]
  exact Quiet.forInL f _ s fun a _ s => h a s

theorem Quiet.forInR {σ : Type} (f : Nat → σ → Sem (ForInStep σ)) (r : Std.Legacy.Range) (s : σ) (h : ∀ a s, Quiet P (f a s)) : Quiet P (forIn r s f) := by
  rw [Std.Legacy.Range.forIn_eq_forIn_range']
  exact Quiet.forInL f _ s fun a _ s => h a s

theorem Quiet.equalIn : ∀ (d : Nat) (t : TypeId) (x y : Value), Pl x → Pl y → Quiet P (Op.equalIn d t x y)
  | 0, t, x, y, _, _ => by unfold Op.equalIn; exact .unsupported _
  | d + 1, t, x, y, hx, hy => by
    unfold Op.equalIn
    refine .bind (.underlying t) fun u _ => ?_
    split
    all_goals first
      | exact .pure _
      | exact .unsupported _
      | exact .stuck _
      | (exfalso; exact Pl.not_ptr hx)
      | (exfalso; exact Pl.not_ptr hy)
      | (exfalso; exact Pl.not_float hx)
      | (split <;> first | exact .pure _ | exact .stuck _)
      | skip
    case h_14 a b _ =>
      cases a with
      | some a => exact (Pl.not_ptr hx).elim
      | none => cases b with
        | some b => exact (Pl.not_ptr hy).elim
        | none => exact .pure _
    case h_19 =>
      refine .ite (.pure _) (.bind (.typeInfo _) fun i _ => ?_)
      refine .ite' (fun _ => ?_) (fun _ => Quiet.equalIn d _ _ _ hx.iface hy.iface)
      refine .bind .program fun p _ => .bind .program fun p' _ => .ite' (fun _ => .unsupported _) (fun _ => .bind (.typeStr _) fun _ _ => .runtimePanic _)
    case h_20 fields xs ys _ =>
      refine .bind .program fun p _ => .ite (.unsupported _) ?_
      refine .bind (.forInA _ _ _ fun f s => ?_) fun r _ => ?_
      · refine .ite ?_ (.pure _)
        refine .bind (.part _ _ _) fun a ha => .bind (.part _ _ _) fun b hb => .bind (Quiet.equalIn d _ _ _ (Pl.part hx.agg ha) (Pl.part hy.agg hb)) fun e _ => ?_
        exact .ite (.pure _) (.pure _)
      · dsimp only; split <;> exact .pure _
    case h_21 len elem xs ys _ =>
      refine .bind (.sizeOf _) fun n _ => ?_
      refine .bind (.forInR _ _ _ fun f s => ?_) fun r _ => ?_
      · refine .bind (.part _ _ _) fun a ha => .bind (.part _ _ _) fun b hb => .bind (Quiet.equalIn d _ _ _ (Pl.part hx.agg ha) (Pl.part hy.agg hb)) fun e _ => ?_
        exact .ite (.pure _) (.pure _)
      · dsimp only; split <;> exact .pure _

theorem Quiet.eqGuardIn : ∀ (d : Nat) (t : TypeId) (x y : Value), Quiet P (Op.eqGuardIn d t x y)
  | 0, t, x, y => by unfold Op.eqGuardIn; exact .unsupported _
  | d + 1, t, x, y => by
    unfold Op.eqGuardIn
    refine .bind (.underlying t) fun u _ => ?_
    split
    · exact .pure _
    · refine .bind (.forInA _ _ _ fun f s => ?_) fun r _ => ?_
      · refine .ite ?_ (.pure _)
        exact .bind (.part _ _ _) fun a _ => .bind (.part _ _ _) fun b _ => .bind (Quiet.eqGuardIn d _ _ _) fun e _ => .ite (.pure _) (.pure _)
      · dsimp only; split <;> exact .pure _
    · refine .bind (.sizeOf _) fun n _ => ?_
      refine .bind (.forInR _ _ _ fun f s => ?_) fun r _ => ?_
      · exact .bind (.part _ _ _) fun a _ => .bind (.part _ _ _) fun b _ => .bind (Quiet.eqGuardIn d _ _ _) fun e _ => .ite (.pure _) (.pure _)
      · dsimp only; split <;> exact .pure _
    · exact .pure _

theorem Quiet.eqGuard (op : BinOp) (t : TypeId) (xo yo : Operand) (a b : Value) : Quiet P (Go.eqGuard op t xo yo a b) := by
  unfold Go.eqGuard
  refine .ite (.pure _) ?_
  split
  · refine .ite (.pure _) (.bind (.eqGuardIn _ _ _ _) fun e _ => .ite (.unsupported _) (.pure _))
  · refine .bind .program fun p _ => .bind .program fun p' _ => .ite (.pure _) (.bind (.eqGuardIn _ _ _ _) fun e _ => .ite (.unsupported _) (.pure _))
  · exact .pure _

theorem Quiet.intArith (op : BinOp) (k : IntKind) (x y : Int) : Quiet P (Op.intArith op k x y) := by
  cases op <;> first | exact .pure _ | exact .stuck _
theorem Quiet.intBits (op : BinOp) (k : IntKind) (x y : Int) : Quiet P (Op.intBits op k x y) := by
  cases op <;> first | exact .pure _ | exact .stuck _
theorem Quiet.intCmp (op : BinOp) (x y : Int) : Quiet P (Op.intCmp op x y) := by
  cases op <;> first | exact .pure _ | exact .stuck _
theorem Quiet.intDiv (op : BinOp) (k : IntKind) (x y : Int) : Quiet P (Op.intDiv op k x y) := by
  unfold Op.intDiv
  refine .ite (.runtimePanic _) ?_
  cases op <;> first | exact .pure _ | exact .stuck _
theorem Quiet.shift (op : BinOp) (k : IntKind) (x : Int) (yk : IntKind) (y : Int) : Quiet P (Op.shift op k x yk y) := by
  unfold Op.shift
  refine .ite (.runtimePanic _) ?_
  cases op <;> first | exact .pure _ | exact .stuck _
theorem Quiet.stringOp (op : BinOp) (x y : ByteArray) : Quiet P (Op.stringOp op x y) := by
  unfold Op.stringOp
  cases op <;> first | exact .pure _ | exact .stuck _ | exact .ite (.unsupported _) (.pure _)
theorem Pl.not_complex {k : FloatKind} {n m : Nat} : ¬ Pl (.complex k n m) := by
  rintro ⟨f, hf⟩; cases f <;> simp [plainV] at hf

theorem Quiet.binOp (op : BinOp) (t : TypeId) (x y : Value) (hx : Pl x) (hy : Pl y) (hp : (isEq op || !(isPtr x || isPtr y)) = true) : Quiet P (Go.binOp op t x y) := by
  unfold Go.binOp
  split
  all_goals first
    | exact .shift _ _ _ _ _
    | exact .stringOp _ _ _
    | (exfalso; exact Pl.not_ptr hx)
    | (exfalso; exact Pl.not_ptr hy)
    | (exfalso; exact Pl.not_float hx)
    | (exfalso; exact Pl.not_complex hx)
    | exact .unsupported _
    | exact .stuck _
    | (exact .bind (.equalIn _ _ _ _ hx hy) fun _ _ => .pure _)
    | (simp [isEq, isPtr] at hp; done)
    | skip
  refine .ite (.stuck _) ?_
  split
  · exact .intArith _ _ _ _
  · exact .intArith _ _ _ _
  · exact .intArith _ _ _ _
  · exact .intDiv _ _ _ _
  · exact .intDiv _ _ _ _
  · exact .intBits _ _ _ _
  · exact .intBits _ _ _ _
  · exact .intBits _ _ _ _
  · exact .intBits _ _ _ _
  · exact .intCmp _ _ _

theorem Quiet.unary (op : UnOp) (x : Value) (hx : Pl x) : Quiet P (Op.unary op x) := by
  unfold Op.unary
  split
  all_goals first
    | exact .pure _
    | exact .intArith _ _ _ _
    | exact .intBits _ _ _ _
    | exact .unsupported _
    | exact .stuck _
    | (exfalso; exact Pl.not_float hx)

theorem Quiet.max2 (x y : Value) (hx : Pl x) : Quiet P (Builtin.max2 x y) := by
  unfold Builtin.max2
  split
  · exact .pure _
  · exact (Pl.not_float hx).elim
  · exact .bind (.stringOp _ _ _) fun v _ => .bind (.asBool _) fun b _ => .pure _
  · exact .unsupported _
  · exact .unsupported _
  · exact .stuck _
theorem Quiet.min2 (x y : Value) (hx : Pl x) : Quiet P (Builtin.min2 x y) := by
  unfold Builtin.min2
  split
  · exact .pure _
  · exact (Pl.not_float hx).elim
  · exact .bind (.stringOp _ _ _) fun v _ => .bind (.asBool _) fun b _ => .pure _
  · exact .unsupported _
  · exact .unsupported _
  · exact .stuck _
end
end Go.AM
namespace Go.AM
open Go

section
variable {P : Program} {ρ : Ren} {h h' : Heap} {w : World}

theorem Pl.max2 {x y v : Value} (hx : Pl x) (hv : ∀ w, (Builtin.max2 x y).run P w = .ok v w) : Pl v := by
  have := hv default
  unfold Builtin.max2 at this
  split at this
  · simp only [Sem.run_pure, Result.ok.injEq] at this; rw [← this.1]; exact ⟨1, rfl⟩
  · exact (Pl.not_float hx).elim
  · rename_i a b
    simp only [Sem.run_bind] at this
    cases h1 : (Op.stringOp .geq a b).run P default with
    | halt _ _ => rw [h1] at this; simp at this
    | ok c w1 =>
      rw [h1] at this
      simp only [Result.andThen_ok] at this
      cases h2 : (asBool c).run P w1 with
      | halt _ _ => rw [h2] at this; simp at this
      | ok d w2 =>
        rw [h2] at this
        simp only [Result.andThen_ok, Sem.run_pure, Result.ok.injEq] at this
        rw [← this.1]; exact ⟨1, rfl⟩
  · simp at this
  · simp at this
  · simp at this
theorem Pl.min2 {x y v : Value} (hx : Pl x) (hv : ∀ w, (Builtin.min2 x y).run P w = .ok v w) : Pl v := by
  have := hv default
  unfold Builtin.min2 at this
  split at this
  · simp only [Sem.run_pure, Result.ok.injEq] at this; rw [← this.1]; exact ⟨1, rfl⟩
  · exact (Pl.not_float hx).elim
  · rename_i a b
    simp only [Sem.run_bind] at this
    cases h1 : (Op.stringOp .leq a b).run P default with
    | halt _ _ => rw [h1] at this; simp at this
    | ok c w1 =>
      rw [h1] at this
      simp only [Result.andThen_ok] at this
      cases h2 : (asBool c).run P w1 with
      | halt _ _ => rw [h2] at this; simp at this
      | ok d w2 =>
        rw [h2] at this
        simp only [Result.andThen_ok, Sem.run_pure, Result.ok.injEq] at this
        rw [← this.1]; exact ⟨1, rfl⟩
  · simp at this
  · simp at this
  · simp at this

theorem foldlM_quiet (f : Value → Value → Sem Value) (hq : ∀ x y, Pl x → Quiet P (f x y)) (hp : ∀ x y v, Pl x → (∀ w, (f x y).run P w = .ok v w) → Pl v) :
    ∀ (l : List Value) (x : Value), Pl x → Quiet P (l.foldlM f x) ∧ ∀ v, (∀ w, (l.foldlM f x).run P w = .ok v w) → Pl v
  | [], x, hx => ⟨.pure _, fun v hv => by have := hv default; simp at this; rw [← this]; exact hx⟩
  | y :: l, x, hx => by
    simp only [List.foldlM_cons]
    refine ⟨.bind (hq x y hx) fun a ha => (foldlM_quiet f hq hp l a (hp x y a hx ha)).1, fun v hv => ?_⟩
    rcases hq x y hx with ⟨a, ha⟩ | hd
    · exact (foldlM_quiet f hq hp l a (hp x y a hx ha)).2 v fun w => by have := hv w; simpa [ha] using this
    · obtain ⟨e, w', he⟩ := hd default
      have := hv default; simp [he] at this

theorem max_quiet (tys : Array TypeId) (t : TypeId) (args : List Value) (ha : ∀ v ∈ args, Pl v) : Quiet P (Builtin.max_ tys t args.toArray) ∧ ∀ v, (∀ w, (Builtin.max_ tys t args.toArray).run P w = .ok v w) → Pl v := by
  cases args with
  | nil => exact ⟨.stuck _, fun v hv => by have := hv default; simp [Builtin.max_] at this⟩
  | cons x l => exact foldlM_quiet _ (fun x y hx => .max2 x y hx) (fun x y v hx => Pl.max2 hx) l x (ha x (List.mem_cons_self ..))
theorem min_quiet (tys : Array TypeId) (t : TypeId) (args : List Value) (ha : ∀ v ∈ args, Pl v) : Quiet P (Builtin.min_ tys t args.toArray) ∧ ∀ v, (∀ w, (Builtin.min_ tys t args.toArray).run P w = .ok v w) → Pl v := by
  cases args with
  | nil => exact ⟨.stuck _, fun v hv => by have := hv default; simp [Builtin.min_] at this⟩
  | cons x l => exact foldlM_quiet _ (fun x y hx => .min2 x y hx) (fun x y v hx => Pl.min2 hx) l x (ha x (List.mem_cons_self ..))

theorem plainOut_ok {r : R Value} {v : Value} (hh : plainOut r = .ok v) : r = .ok v ∧ Pl v := by
  simp only [plainOut, bindR_ok, must_ok] at hh
  obtain ⟨a, ha, _, hp, e⟩ := hh
  cases e
  exact ⟨ha, 20, hp⟩

theorem nilVs_rel {x y cx cy : Value} (hx : VR ρ x cx) (hy : VR ρ y cy) : nilVs cx cy = nilVs x y := by
  cases hx <;> cases hy <;> first | rfl | (simp [nilVs]; done) | (simp only [nilVs]; split <;> simp_all)

theorem run_equal_nil {t : TypeId} {x y : Value} {d : TypeDesc} (hd : under P t = .ok d)
    (hk : (0 < nilVs x y ∧ nilVs x y = descKind d) ∨ (0 < nilVs y x ∧ nilVs y x = descKind d)) : (Op.equal t x y).run P w = .ok false w := by
  unfold Op.equal Op.maxDepth
  unfold Op.equalIn
  simp only [Sem.run_bind, run_under hd, Result.andThen_ok]
  rcases hk with ⟨h0, h1⟩ | ⟨h0, h1⟩
  all_goals
    unfold nilVs at h0 h1
    split at h0 <;> simp only at h1 <;> try omega
  all_goals
    cases d <;> simp only [descKind] at h1 <;> try omega
  all_goals simp

theorem eqGuard_nil {op : BinOp} {t : TypeId} {xo yo : Operand} {x y : Value} (hk : 0 < nilVs x y ∨ 0 < nilVs y x) : (eqGuard op t xo yo x y).run P w = .ok () w := by
  unfold eqGuard
  rcases hk with h0 | h0
  all_goals
    unfold nilVs at h0
    split at h0 <;> try omega
  all_goals simp

theorem binV_sound {op : BinOp} {t : TypeId} {xo yo : Operand} {x y cx cy v : Value} (hx : VR ρ x cx) (hy : VR ρ y cy) (hh : binV P op t xo yo x y = .ok v) :
    Same P ρ w (do eqGuard op t xo yo cx cy; binOp op t cx cy) v := by
  unfold binV at hh
  split at hh
  · rename_i hp
    simp only [Bool.and_eq_true] at hp
    obtain ⟨⟨hpx, hpy⟩, hop⟩ := hp
    have hPx : Pl x := ⟨20, hpx⟩
    have hPy : Pl y := ⟨20, hpy⟩
    obtain ⟨h1, h2⟩ := plainOut_ok hh
    rw [hPx.eq hx, hPy.eq hy]
    exact ⟨v, Quiet.run (.bind (.eqGuard _ _ _ _ _ _) fun _ _ => .binOp _ _ _ _ hPx hPy hop) h1 w, h2.refl⟩
  · split at hh
    · split at hh
      case h_2 => cases hh
      simp only [bindR_ok, nilEq, must_ok, Bool.or_eq_true, Bool.and_eq_true, blt_true] at hh
      obtain ⟨_, ⟨d, hd, hk⟩, he⟩ := hh
      cases he
      have hk' : (0 < nilVs cx cy ∧ nilVs cx cy = descKind d) ∨ (0 < nilVs cy cx ∧ nilVs cy cx = descKind d) := by
        rw [nilVs_rel hx hy, nilVs_rel hy hx]
        rcases hk with ⟨a, b⟩ | ⟨a, b⟩
        · exact .inl ⟨a, Nat.eq_of_beq_eq_true b⟩
        · exact .inr ⟨a, Nat.eq_of_beq_eq_true b⟩
      refine ⟨.bool false, ?_, .bool _⟩
      have h0 : 0 < nilVs cx cy ∨ 0 < nilVs cy cx := hk'.imp (·.1) (·.1)
      have heq := run_equal_nil (w := w) hd hk'
      simp only [Sem.run_bind, eqGuard_nil h0, Result.andThen_ok]
      clear hk hk' hx hy
      rcases h0 with h0 | h0
      all_goals
        unfold nilVs at h0
        split at h0 <;> try omega
      all_goals simp [binOp, heq]
    · split at hh
      case h_2 => cases hh
      simp only [bindR_ok, nilEq, must_ok, Bool.or_eq_true, Bool.and_eq_true, blt_true] at hh
      obtain ⟨_, ⟨d, hd, hk⟩, he⟩ := hh
      cases he
      have hk' : (0 < nilVs cx cy ∧ nilVs cx cy = descKind d) ∨ (0 < nilVs cy cx ∧ nilVs cy cx = descKind d) := by
        rw [nilVs_rel hx hy, nilVs_rel hy hx]
        rcases hk with ⟨a, b⟩ | ⟨a, b⟩
        · exact .inl ⟨a, Nat.eq_of_beq_eq_true b⟩
        · exact .inr ⟨a, Nat.eq_of_beq_eq_true b⟩
      refine ⟨.bool true, ?_, .bool _⟩
      have h0 : 0 < nilVs cx cy ∨ 0 < nilVs cy cx := hk'.imp (·.1) (·.1)
      have heq := run_equal_nil (w := w) hd hk'
      simp only [Sem.run_bind, eqGuard_nil h0, Result.andThen_ok]
      clear hk hk' hx hy
      rcases h0 with h0 | h0
      all_goals
        unfold nilVs at h0
        split at h0 <;> try omega
      all_goals simp [binOp, heq]
    · cases hh

theorem unV_sound {op : UnOp} {x cx v : Value} (hx : VR ρ x cx) (hh : unV P op x = .ok v) : Same P ρ w (Op.unary op cx) v := by
  unfold unV at hh
  split at hh
  · rename_i hp
    have hPx : Pl x := ⟨1, hp⟩
    obtain ⟨h1, h2⟩ := plainOut_ok hh
    rw [hPx.eq hx]
    exact ⟨v, Quiet.run (.unary _ _ hPx) h1 w, h2.refl⟩
  · cases hh

theorem VL.plain_eq {as bs : List Value} (hl : VL ρ as bs) (hp : ∀ v ∈ as, Pl v) : bs = as := by
  apply List.ext_getElem hl.1.symm
  intro i hi hi'
  have h1 := hl.2 i hi'
  have h2 := (hp _ (gl_mem hi')).eq h1
  simpa [gl, List.getD, List.getElem?_eq_getElem hi, List.getElem?_eq_getElem hi'] using h2
theorem VL.plain_refl {as : List Value} (hp : ∀ v ∈ as, Pl v) : VL ρ as as := ⟨rfl, fun i hi => (hp _ (gl_mem hi)).refl⟩
end
end Go.AM
namespace Go.AM
open Go

section
variable {P : Program} {ρ : Ren} {h h' : Heap} {w : World}

def PL (ρ : Ren) (as bs : List (Nat × Value)) : Prop := as.map (·.1) = bs.map (·.1) ∧ VL ρ (as.map (·.2)) (bs.map (·.2))
theorem PL.nil : PL ρ [] [] := ⟨rfl, .nil⟩
theorem PL.cons {i : Nat} {a b : Value} {as bs : List (Nat × Value)} (h : VR ρ a b) (hs : PL ρ as bs) : PL ρ ((i, a) :: as) ((i, b) :: bs) :=
  ⟨by simp [hs.1], by simpa using VL.cons h hs.2⟩
theorem PL.cases_cons {i : Nat} {a : Value} {as bs : List (Nat × Value)} (h : PL ρ ((i, a) :: as) bs) : ∃ b bs', bs = (i, b) :: bs' ∧ VR ρ a b ∧ PL ρ as bs' := by
  cases bs with
  | nil => have := h.1; simp at this
  | cons b bs =>
    obtain ⟨j, b⟩ := b
    have h1 := h.1
    simp only [List.map_cons, List.cons.injEq] at h1
    obtain ⟨rfl, h1⟩ := h1
    have h2 : VL ρ (a :: as.map (·.2)) (b :: bs.map (·.2)) := by simpa using h.2
    exact ⟨b, bs, rfl, h2.head, h1, h2.tail⟩

/-- 'cells' with those of v laid over it from place off on. -/
theorem overlay {ρ : Ren} (off : Nat) : ∀ (as bs : List Value) (j : Nat) (cs ds : Array Value), VL ρ as bs → VL ρ cs.toList ds.toList →
    VL ρ ((as.zipIdx j).foldl (fun cs (c : Value × Nat) => cs.setIfInBounds (off + c.2) c.1) cs).toList ((bs.zipIdx j).foldl (fun cs (c : Value × Nat) => cs.setIfInBounds (off + c.2) c.1) ds).toList
  | [], bs, j, cs, ds, h, hc => by obtain rfl := h.cases_nil; simpa using hc
  | a :: as, bs, j, cs, ds, h, hc => by
    obtain ⟨b, bs, rfl, h1, h2⟩ := h.cases_cons
    simp only [List.zipIdx_cons, List.foldl_cons]
    refine overlay off as bs (j + 1) _ _ h2 ?_
    refine ⟨by simpa using hc.1, fun i hi => ?_⟩
    simp only [Array.toList_setIfInBounds, List.length_set] at hi ⊢
    have hi' : i < ds.toList.length := hc.1 ▸ hi
    by_cases he : off + j = i
    · subst he
      simp only [gl, List.getD, List.getElem?_set_self hi, List.getElem?_set_self hi', Option.getD_some]; exact h1
    · have := hc.2 i hi
      simpa [gl, List.getD, List.getElem?_set_ne he] using this

theorem foldl_zipIdx {α : Type} (f : α → Value × Nat → α) (a : Array Value) (x : α) : Array.foldl f x a.zipIdx = a.toList.zipIdx.foldl f x := by
  rw [← Array.foldl_toList, Array.toList_zipIdx]

theorem fill_sound {place : Nat → Option (Nat × Nat)} : ∀ (as bs : List (Nat × Value)) (cs ds r : Array Value), PL ρ as bs → VL ρ cs.toList ds.toList → Instr.fill place cs as = some r →
    ∃ r', Instr.fill place ds bs = some r' ∧ VL ρ r.toList r'.toList
  | [], bs, cs, ds, r, hp, hc, hh => by
    have : bs = [] := by have := hp.1; cases bs with | nil => rfl | cons _ _ => simp at this
    subst this
    simp only [Instr.fill, Option.some.injEq] at hh ⊢
    subst hh
    exact ⟨ds, rfl, hc⟩
  | (i, v) :: as, bs, cs, ds, r, hp, hc, hh => by
    obtain ⟨b, bs, rfl, h1, h2⟩ := hp.cases_cons
    have hcl := cells_rel h1
    have hsz : v.cells.size = b.cells.size := by simpa using hcl.1
    have hcs : cs.size = ds.size := by simpa using hc.1
    simp only [Instr.fill] at hh ⊢
    cases hpl : place i with
    | none => rw [hpl] at hh; cases hh
    | some p =>
      obtain ⟨off, size⟩ := p
      rw [hpl] at hh
      simp only [] at hh ⊢
      by_cases hcond : (decide (v.cells.size ≠ size) || decide (off + v.cells.size > cs.size)) = true
      · rw [if_pos hcond] at hh; cases hh
      · rw [if_neg hcond] at hh
        rw [← hsz, ← hcs, if_neg hcond]
        refine fill_sound as bs _ _ r h2 ?_ hh
        have := overlay (ρ := ρ) off _ _ 0 cs ds hcl hc
        rw [foldl_zipIdx, foldl_zipIdx]
        exact this

theorem places_run : ∀ (fs : List Field) (l : List (Nat × Nat)), places P fs = .ok l → (fs.mapM (m := Sem) fun f => do pure (f.offset, ← sizeOf f.type)).run P w = .ok l w
  | [], l, hh => by simp only [places, Except.ok.injEq] at hh; subst hh; rfl
  | f :: fs, l, hh => by
    simp only [places, bindR_ok] at hh
    obtain ⟨n, hn, l', hl', he⟩ := hh
    cases he
    have ih := places_run fs l' hl'
    simp only [List.mapM_cons, Sem.run_bind, run_sizeOf hn, Result.andThen_ok, Sem.run_pure, ih]

theorem tzero_plain {t : TypeId} {z : Value} (hz : tzero P t = .ok z) : Pl z := ⟨20, (tzero_ok hz).1⟩
theorem Pl.cells {z : Value} (h : Pl z) : ∀ v ∈ z.cells.toList, Pl v := by
  cases z with
  | agg cs => exact h.agg
  | _ => intro v hv; simp [Value.cells] at hv; subst hv; exact h

theorem buildV_sound {t : TypeId} {as bs : List (Nat × Value)} {v : Value} (hp : PL ρ as bs) (hh : buildV P t as = .ok v) : Same P ρ w (Instr.build t bs.toArray) v := by
  simp only [buildV, bindR_ok] at hh
  obtain ⟨z, hz, d, hd, hh⟩ := hh
  have hzl : VL ρ z.cells.toList z.cells.toList := .plain_refl (tzero_plain hz).cells
  split at hh
  · rename_i fields
    simp only [bindR_ok, ofOpt_ok] at hh
    obtain ⟨pl, hpl, cs, hcs, he⟩ := hh
    cases he
    obtain ⟨r, hr, hv⟩ := fill_sound as bs _ _ _ hp hzl hcs
    refine ⟨.agg r, ?_, .agg' hv⟩
    have hm := places_run (w := w) _ _ hpl
    have hm' : (fields.mapM (m := Sem) fun f => do pure (f.offset, ← sizeOf f.type)).run P w = .ok pl.toArray w := by
      rw [Array.mapM_eq_mapM_toList]
      simp only [Sem.run_map, hm, Result.andThen_ok]
    simp only [Instr.build, Sem.run_bind, run_zeroValue hz, Result.andThen_ok, run_under hd, hm']
    simp [hr]
  · rename_i len e
    simp only [bindR_ok, ofOpt_ok] at hh
    obtain ⟨n, hn, cs, hcs, he⟩ := hh
    cases he
    obtain ⟨r, hr, hv⟩ := fill_sound as bs _ _ _ hp hzl hcs
    refine ⟨.agg r, ?_, .agg' hv⟩
    simp [Instr.build, run_zeroValue hz, run_under hd, run_sizeOf hn, hr]
  · cases hh

theorem zeros_plain {z : Array Value} {n : Nat} (hz : ∀ v ∈ z.toList, Pl v) : ∀ v ∈ (zeros z n).toList, Pl v := by
  intro v hv
  simp only [zeros, Array.toList_map, List.mem_map] at hv
  obtain ⟨i, _, rfl⟩ := hv
  simp only [getElem!_def]
  split
  · rename_i x hx
    exact hz _ (by have := Array.mem_of_getElem? hx; simpa using this)
  · exact ⟨1, rfl⟩
theorem zeroFor_ok {e : TypeId} {n : Nat} {z : Array Value} (hh : zeroFor P e n = .ok z) :
    (∀ v ∈ z.toList, Pl v) ∧ ((n = 0 ∧ z = #[]) ∨ (n ≠ 0 ∧ ∃ zv, tzero P e = .ok zv ∧ z = zv.cells)) := by
  unfold zeroFor at hh
  split at hh
  · rename_i hb
    have hn : n = 0 := Nat.eq_of_beq_eq_true hb
    cases hh
    exact ⟨by simp, .inl ⟨hn, rfl⟩⟩
  · rename_i hb
    have hn : n ≠ 0 := fun e => by subst e; simp at hb
    simp only [bindR_ok] at hh
    obtain ⟨z', hz, he⟩ := hh
    cases he
    exact ⟨(tzero_plain hz).cells, .inr ⟨hn, z', hz, rfl⟩⟩

theorem new_slice (hr : HR ρ h w) (hn : True) {vs cs : List Value} (hv : VL ρ vs cs) (e : TypeId) (len cap : Nat) (hc : cap < unk) :
    VR (ρ.add h.n ⟨w.heap.size, 0, cs.length, 0⟩) (.slice (some ⟨h.n, 0, none⟩) len cap) (.slice (some ⟨w.heap.size, 0, none⟩) len cap) ∧
    Post ρ h w (ρ.add h.n ⟨w.heap.size, 0, cs.length, 0⟩) (h.put (.cells vs e .exact)) { w with heap := w.heap.push (.cells cs.toArray e) } := by
  refine ⟨?_, ?_⟩
  · exact VR.slice (l := ⟨w.heap.size, 0, cs.length, 0⟩) (o := 0) Ren.add_same hc
  · exact Post.alloc hr hn (l := ⟨w.heap.size, 0, cs.length, 0⟩) rfl (new1_row e cs.toArray) (row_new (hv.mono (hr.sub_add _)) rfl rfl (fun es e => by cases e) (by simp))

theorem buildSliceV_sound (hr : HR ρ h w) {t : TypeId} {len : Nat} {as bs : List (Nat × Value)} {v : Value} (hp : PL ρ as bs) (hh : buildSliceV P h t len as = .ok (v, h')) :
    Out P ρ h w (Instr.buildSlice t len bs.toArray) v h' := by
  simp only [buildSliceV, bindR_ok] at hh
  obtain ⟨d, hd, hh⟩ := hh
  split at hh
  case h_2 => cases hh
  rename_i e
  simp only [bindR_ok, ofOpt_ok, must_ok, room_ok, Bool.and_eq_true, Nat.ble_eq, blt_true] at hh
  obtain ⟨n, hn, _, ⟨hsm, hlu⟩, z, hz, cs, hcs, _, hroom, _, hcell, he⟩ := hh
  simp only [Except.ok.injEq, Prod.mk.injEq] at he
  obtain ⟨rfl, rfl⟩ := he
  obtain ⟨hzp, hzr⟩ := zeroFor_ok hz
  have hzl : VL ρ (zeros z (len * n)).toList (zeros z (len * n)).toList := .plain_refl (zeros_plain hzp)
  obtain ⟨r, hfr, hv⟩ := fill_sound as bs _ _ _ hp hzl hcs
  obtain ⟨g1, g2⟩ := new_slice hr hroom hv e len len hlu
  refine ⟨_, _, _, ?_, g1, g2⟩
  have hsm' : ¬ len * n > 2 ^ 24 := by omega
  simp only [zeros] at hfr
  rcases hzr with ⟨h0, rfl⟩ | ⟨h0, zv, hzv, rfl⟩
  · simp only [Instr.buildSlice, Sem.run_bind, run_under hd, Result.andThen_ok, run_sizeOf hn, if_neg hsm', if_pos h0]
    simp only [Sem.run_bind, Sem.run_pure, Result.andThen_ok, hfr, newRow, run_newObj, Array.toArray_toList]
  · simp only [Instr.buildSlice, Sem.run_bind, run_under hd, Result.andThen_ok, run_sizeOf hn, if_neg hsm', if_neg h0]
    simp only [Sem.run_bind, Sem.run_pure, Result.andThen_ok, run_zeroValue hzv, hfr, newRow, run_newObj, Array.toArray_toList]

theorem makeSliceV_sound (hr : HR ρ h w) {t : TypeId} {l cl c cc v : Value} (hl : VR ρ l cl) (hc : VR ρ c cc) (hh : makeSliceV P h t l c = .ok (v, h')) :
    Out P ρ h w (Instr.makeSlice t cl cc) v h' := by
  simp only [makeSliceV, bindR_ok] at hh
  obtain ⟨d, hd, hh⟩ := hh
  split at hh
  case h_2 => cases hh
  rename_i e
  simp only [bindR_ok, must_ok, room_ok, Bool.and_eq_true, decide_eq_true_eq] at hh
  obtain ⟨li, hli, ci, hci, bytes, hby, _, ⟨⟨⟨h0, h1⟩, h2⟩, h3⟩, n, hn, z, hz, _, hroom, _, hcell, he⟩ := hh
  simp only [Except.ok.injEq, Prod.mk.injEq] at he
  obtain ⟨rfl, rfl⟩ := he
  obtain ⟨k1, rfl, rfl⟩ := intOf_sound hl hli
  obtain ⟨k2, rfl, rfl⟩ := intOf_sound hc hci
  obtain ⟨hzp, hzr⟩ := zeroFor_ok hz
  have hzl : VL ρ (zeros z (ci.toNat * n)).toList (zeros z (ci.toNat * n)).toList := .plain_refl (zeros_plain hzp)
  have hcu : ci.toNat < unk := by unfold unk; omega
  obtain ⟨g1, g2⟩ := new_slice hr hroom hzl e li.toNat ci.toNat hcu
  refine ⟨_, _, _, ?_, g1, g2⟩
  obtain ⟨i, hi, rfl⟩ := tbytes_ok.1 hby
  have wl : IntKind.i64.wrap li = li := IntWalk.i64_in _ (by omega)
  have wc : IntKind.i64.wrap ci = ci := IntWalk.i64_in _ (by omega)
  have c1 : ¬ ci < 0 := by omega
  have c2 : ¬ ((2 : Int) ^ 48 < (i.bytes : Int) * ci) := by omega
  have c3 : ¬ li < 0 := by omega
  have c4 : ¬ ci < li := by omega
  simp only [Instr.makeSlice, Sem.run_bind, run_under hd, Result.andThen_ok, asInt, asIntOf, Sem.run_pure, run_typeInfo hi, wl, wc]
  simp only [c1, c2, c3, c4, gt_iff_lt, decide_false, Bool.or_self, Bool.false_eq_true, if_false, Sem.run_bind, run_askRoom, Result.andThen_ok, run_sizeOf hn]
  rcases hzr with ⟨e0, rfl⟩ | ⟨e0, zv, hzv, rfl⟩
  · simp only [if_pos e0, Sem.run_bind, Sem.run_pure, Result.andThen_ok, newRow, run_newObj, zeros, Array.toArray_toList]
  · simp only [if_neg e0, Sem.run_bind, Sem.run_pure, Result.andThen_ok, run_zeroValue hzv, newRow, run_newObj, zeros, Array.toArray_toList]
end
end Go.AM
