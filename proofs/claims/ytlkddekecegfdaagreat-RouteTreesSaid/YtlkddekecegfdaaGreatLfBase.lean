/- Of the abstract machine, for all programs: definitions and lemmas, no claim of its own; no condition. -/
import Derived.Test.YtlkddekecegfdaaGreatAmRun
set_option linter.unusedVariables false
set_option linter.unusedSimpArgs false
namespace Go.AM
open Go
theorem blt_iff {m n : Nat} : Nat.blt m n = true ↔ m < n := blt_true
theorem ble_iff {m n : Nat} : Nat.ble m n = true ↔ m ≤ n := ⟨Nat.le_of_ble_eq_true, Nat.ble_eq_true_of_le⟩
section
variable {P : Program}
def valK : Op → Bool
  | .move _ | .assign _ | .pick _ _ _ | .alloc _ | .box _ _ | .build _ _ | .binOp _ _ _ _ _ | .unOp _ _ _ | .convert _ _ _ | .fieldAddr _ _ _ | .field _ _ _ | .indexAddr _ _ _ | .index _ _ _ | .extract _ _ | .makeFunc _ _ _ => true
  | _ => false
def loadK : Op → Bool
  | .load _ _ => true
  | _ => false
def actK : Op → Bool
  | .store _ _ _ => true
  | .call c => match c.callee with | .value _ => true | _ => false
  | _ => false

theorem blank_get {m i : Nat} : (blankN m).get i = .dead := by
  unfold Heap.get
  split
  · simp only [blankN, HT_none_get]
  · rfl
theorem still_load {ty : TypeId} {x : Operand} {o : Oper} (ho : o.op = .load ty x) {t : Tmps} {m : Nat} : ∃ e, stillOf P o t m = .error e := by
  unfold stillOf
  rw [ho]
  cases h1 : mustM "low" (lowL t m (Op.load ty x).operands.toList) with
  | error e => exact ⟨e, rfl⟩
  | ok u =>
    simp only [bindR, step]
    cases h2 : ev t x with
    | error e => exact ⟨e, rfl⟩
    | ok a =>
      have : ∃ e, loadV P (blankN m) ty a = .error e := by
        unfold loadV
        split
        · unfold loadA
          rw [blank_get]
          exact ⟨_, rfl⟩
        · exact ⟨_, rfl⟩
      obtain ⟨e, he⟩ := this
      exact ⟨e, by simp only [val, he, bindR]⟩
theorem still_act {o : Oper} (ho : actK o.op = true) {t : Tmps} {m : Nat} : (∃ e, stillOf P o t m = .error e) ∧ isRead o.op = false := by
  cases hop : o.op with
  | store ty a x =>
    refine ⟨?_, rfl⟩
    unfold stillOf
    rw [hop]
    cases h1 : mustM "low" (lowL t m (Op.store ty a x).operands.toList) with
    | error e => exact ⟨e, rfl⟩
    | ok u =>
      simp only [bindR, step]
      cases h2 : ev t a with
      | error e => exact ⟨e, rfl⟩
      | ok a' =>
        simp only
        cases h3 : ev t x with
        | error e => exact ⟨e, rfl⟩
        | ok x' =>
          have : ∃ e, storeV P (blankN m) ty a' x' = .error e := by
            unfold storeV
            split
            · cases h4 : tsize P ty with
              | error e => exact ⟨e, rfl⟩
              | ok n =>
                simp only [bindR]
                cases h5 : must (Nat.beq x'.cells.toList.length n) with
                | error e => exact ⟨e, rfl⟩
                | ok u =>
                  simp only [storeCells, blank_get]
                  exact ⟨_, rfl⟩
            · exact ⟨_, rfl⟩
          obtain ⟨e, he⟩ := this
          exact ⟨e, by simp only [valu, he, bindR]⟩
  | call c =>
    rw [hop] at ho
    simp only [actK] at ho
    cases hc : c.callee with
    | value f =>
      refine ⟨?_, by simp [isRead, hc]⟩
      unfold stillOf
      rw [hop]
      cases h1 : mustM "low" (lowL t m (Op.call c).operands.toList) with
      | error e => exact ⟨e, rfl⟩
      | ok u =>
        simp only [bindR, step, callStep, hc]
        cases h2 : evs t c.args.toList with
        | error e => exact ⟨e, rfl⟩
        | ok args =>
          simp only
          cases h3 : ev t f with
          | error e => exact ⟨e, rfl⟩
          | ok fv =>
            cases fv with
            | func fn first cap =>
              cases fn with
              | func g =>
                simp only [invokeV]
                cases h4 : callable P g with
                | error e => exact ⟨e, rfl⟩
                | ok u => exact ⟨_, rfl⟩
              | yield l => exact ⟨_, rfl⟩
              | _ => exact ⟨_, rfl⟩
            | _ => exact ⟨_, rfl⟩
    | invoke r m => rw [hc] at ho; cases ho
    | builtin b => rw [hc] at ho; cases ho
  | _ => rw [hop] at ho; cases ho

def fieldOff (P : Program) (s : TypeId) (f : Nat) : R Nat :=
  bindR (under P s) fun d =>
  match d with
  | .struct fields => bindR (ofOpt fields[f]?) fun fd => bindR (tsize P fd.type) fun n => bindR (must (Nat.blt 0 n)) fun _ => .ok fd.offset
  | _ => .error "fieldAddr"
theorem addr_add {b o n : Nat} : Addr.add ⟨b, o, none⟩ n = ⟨b, Nat.add o n, none⟩ := by
  unfold Addr.add
  split
  · rename_i h; subst h; rfl
  · rfl
def fieldW (P : Program) (s : TypeId) (f : Nat) : R (Nat × Option Nat) :=
  bindR (under P s) fun d =>
  match d with
  | .struct fields => bindR (ofOpt fields[f]?) fun fd => bindR (wide P fd.type) fun w => .ok (fd.offset, w)
  | _ => .error "field"
def rowSize (P : Program) (t : TypeId) : R Nat :=
  bindR (under P t) fun d =>
  match d with
  | .slice e => tsize P e
  | _ => .error "indexAddr"
def arrSize (P : Program) (t : TypeId) : R (Nat × Nat × Option Nat) :=
  bindR (under P t) fun d =>
  match d with
  | .array len e => bindR (tsize P e) fun n => bindR (wide P e) fun w => .ok (len, n, w)
  | _ => .error "index"
theorem bin_int {op : BinOp} {t : TypeId} {xo yo : Operand} {k : IntKind} {a b : Int} {v : Value} (hv : plainV 20 v = true) (h : binOp op t (.int k a) (.int k b) = pure v) :
    binV P op t xo yo (.int k a) (.int k b) = .ok v := by
  have : (eqGuard op t xo yo (.int k a) (.int k b) : Sem Unit).run P default = .ok () default := by
    unfold eqGuard
    split <;> simp
  have hp : ∀ a, plainV 20 (.int k a) = true := fun _ => rfl
  simp only [binV, hp, Bool.and_self, isPtr, Bool.or_self, Bool.not_false, Bool.or_true, plainOut, pureRun, Sem.run_bind, this, Result.andThen_ok, h, Sem.run_pure, bindR, hv, must]

theorem un_not {b : Bool} : unV P .not (.bool b) = .ok (.bool !b) := by cases b <;> rfl
end
end Go.AM
namespace Go.AM
open Go
def stepW (P : Program) (r : Rec) (op : Op) (t : Tmps) (h : Heap) : R (Value × Heap) :=
  bindR (step P op t h) fun td =>
  match td with
  | .value v h => .ok (v, h)
  | .enter f args => r.call f args h
  | .round l args => r.round l args h

section
variable {β : Type} {P : Program} {r : Rec} {L N : Nat} {rd : Option Nat} {t : Tmps} {h : Heap} {k : Kont β}

/-! ### The machine's equations, for proofs by rewriting -/
theorem bindR_ok' {α β : Type} (a : α) (f : α → R β) : bindR (.ok a) f = f a := rfl
def kSeq (P : Program) (r : Rec) (L N : Nat) (rd : Option Nat) (b : Code) (k : Kont β) : Kont β := fun e t h =>
  match e with
  | .normal => den P r L N rd b t h k
  | e => k e t h
def kBlock (id : Nat) (k : Kont β) : Kont β := fun e t h =>
  match e with
  | .exit i => match Nat.beq i id with
    | true => k .normal t h
    | false => k (.exit i) t h
  | e => k e t h
theorem kBlock_exit {id : Nat} : kBlock id k (.exit id) t h = k .normal t h := by simp [kBlock, Nat.beq_refl]
theorem kBlock_other {id i : Nat} (hi : i ≠ id) : kBlock id k (.exit i) t h = k (.exit i) t h := by
  cases hb : Nat.beq i id with
  | true => exact absurd (Nat.eq_of_beq_eq_true hb) hi
  | false => simp only [kBlock, hb]
def kCond (P : Program) (r : Rec) (L N : Nat) (rd : Option Nat) (a b : Code) (t : Tmps) (h : Heap) (k : Kont β) (c : Value) : R β :=
  match c with
  | .bool true => den P r L N rd a t h k
  | .bool false => den P r L N rd b t h k
  | _ => .error "cond"
theorem den_cond {x : Operand} {a b : Code} : den P r L N rd (.cond x a b) t h k = bindR (ev t x) (kCond P r L N rd a b t h k) := rfl
def loopD (P : Program) (r : Rec) (L N : Nat) (rd : Option Nat) (b : Code) (n : Nat) (t : Tmps) (h : Heap) (k : Kont β) : R β := loopK (fun t h k => den P r L N rd b t h k) n t h k
theorem den_loop {b : Code} : den P r L N rd (.loop b) t h k = loopD P r L N rd b L t h k := rfl
def kLoop (P : Program) (r : Rec) (L N : Nat) (rd : Option Nat) (b : Code) (n : Nat) (k : Kont β) : Kont β := fun e t h =>
  match e with
  | .normal => loopD P r L N rd b n t h k
  | e => k e t h
theorem loopD_succ {b : Code} {n : Nat} : loopD P r L N rd b (n + 1) t h k = den P r L N rd b t h (kLoop P r L N rd b n k) := rfl
/-! Regions -/
def opersL (P : Program) (r : Rec) (N : Nat) (ops : Array Oper) (os : List Oper) (k : Kont β) (t : Tmps) (h : Heap) : R β := opers P r N ops os t h k
def kOper (P : Program) (r : Rec) (N : Nat) (ops : Array Oper) (os : List Oper) (k : Kont β) (d : Option Tmp) (t : Tmps) (p : Value × Heap) : R β := opersL P r N ops os k (put N t d p.1) p.2
theorem oper_stepW {o : Oper} {k : Tmps → Heap → R β} : oper P r N o t h k = bindR (stepW P r o.op t h) fun p => k (put N t o.dst p.1) p.2 := by
  unfold oper stepW
  cases step P o.op t h with
  | error e => rfl
  | ok td => cases td <;> rfl
def guardV (ops : Array Oper) (j : Nat) (t : Tmps) : Value := match (ops[j]?).bind (·.dst) with | some d => t d | none => undef
def gate (want : Bool) (v : Value) (x y : R β) : R β := match v with | .bool b => if b = want then x else y | _ => y
/-! Temporaries -/
/-! Operations -/
def valW (h : Heap) (x : R Value) : R (Value × Heap) := bindR x fun v => .ok (v, h)
theorem bindR_stepW {α : Type} {op : Op} {x : R α} {f : α → R Todo} {g : α → R (Value × Heap)} (hs : step P op t h = bindR x f) (hg : ∀ a, (bindR (f a) fun td => match td with | .value v h => .ok (v, h) | .enter f args => r.call f args h | .round l args => r.round l args h) = g a) :
    stepW P r op t h = bindR x g := by
  simp only [stepW, hs]
  cases x with
  | error e => rfl
  | ok a => exact hg a
theorem valh_todo {x : R (Value × Heap)} : (bindR (valh x) fun td => match td with | .value v h => .ok (v, h) | .enter f args => r.call f args h | .round l args => r.round l args h : R (Value × Heap)) = x := by
  unfold valh; cases x with
  | error e => rfl
  | ok p => rfl
def unitW (x : R Heap) : R (Value × Heap) := bindR x fun h => .ok (undef, h)
theorem st_box {e : TypeId} {x : Operand} : stepW P r (.box e x) t h = bindR (ev t x) fun v => rowV h e v.cells.toList := bindR_stepW rfl fun _ => valh_todo
theorem st_alloc {e : TypeId} : stepW P r (.alloc e) t h = bindR (tzero P e) fun z => rowV h e z.cells.toList := bindR_stepW rfl fun _ => valh_todo
theorem st_makeSlice {ty : TypeId} {l c : Operand} : stepW P r (.makeSlice ty l c) t h = bindR (ev t l) fun l => bindR (ev t c) fun c => makeSliceV P h ty l c := by
  refine bindR_stepW rfl fun a => ?_
  cases ev t c with
  | error e => rfl
  | ok b => exact valh_todo
theorem st_builtin {c : Call} {b : Builtin} (hc : c.callee = .builtin b) : stepW P r (.call c) t h = bindR (evs t c.args.toList) fun args => builtinV P h b c.argTypes args := by
  refine bindR_stepW (x := evs t c.args.toList) (f := fun args => match c.callee with | .builtin b => valh (builtinV P h b c.argTypes args) | .value f => bindR (ev t f) fun f => invokeV P f args | .invoke _ _ => .error "invoke") rfl fun args => ?_
  simp only [hc]
  exact valh_todo
/-! Integers -/
section
variable {ty : TypeId} {xo yo : Operand} {kd : IntKind} {a b : Int}
theorem bin_add : binV P .add ty xo yo (.int kd a) (.int kd b) = .ok (.int kd (kd.wrap (a + b))) := bin_int rfl (by simp [binOp, Op.intArith])
theorem bin_sub : binV P .sub ty xo yo (.int kd a) (.int kd b) = .ok (.int kd (kd.wrap (a - b))) := bin_int rfl (by simp [binOp, Op.intArith])
theorem bin_mul : binV P .mul ty xo yo (.int kd a) (.int kd b) = .ok (.int kd (kd.wrap (a * b))) := bin_int rfl (by simp [binOp, Op.intArith])
theorem bin_quo (hb : b ≠ 0) : binV P .quo ty xo yo (.int kd a) (.int kd b) = .ok (.int kd (kd.wrap (a.tdiv b))) := bin_int rfl (by simp [binOp, Op.intDiv, hb])
theorem bin_rem (hb : b ≠ 0) : binV P .rem ty xo yo (.int kd a) (.int kd b) = .ok (.int kd (a.tmod b)) := bin_int rfl (by simp [binOp, Op.intDiv, hb])
theorem bin_lss : binV P .lss ty xo yo (.int kd a) (.int kd b) = .ok (.bool (decide (a < b))) := bin_int rfl (by simp [binOp, Op.intCmp])
theorem bin_leq : binV P .leq ty xo yo (.int kd a) (.int kd b) = .ok (.bool (decide (a ≤ b))) := bin_int rfl (by simp [binOp, Op.intCmp])
theorem bin_gtr : binV P .gtr ty xo yo (.int kd a) (.int kd b) = .ok (.bool (decide (b < a))) := bin_int rfl (by simp [binOp, Op.intCmp])
theorem bin_geq : binV P .geq ty xo yo (.int kd a) (.int kd b) = .ok (.bool (decide (b ≤ a))) := bin_int rfl (by simp [binOp, Op.intCmp])
theorem bin_eql : binV P .eql ty xo yo (.int kd a) (.int kd b) = .ok (.bool (decide (a = b))) := bin_int rfl (by simp [binOp, Op.intCmp]; rfl)
theorem bin_neq : binV P .neq ty xo yo (.int kd a) (.int kd b) = .ok (.bool (decide (a ≠ b))) := bin_int rfl (by simp [binOp, Op.intCmp, bne]; rfl)
theorem un_not' {b : Bool} : unV P .not (.bool b) = .ok (.bool !b) := un_not
theorem wrap64 {n : Int} (h1 : -9223372036854775808 ≤ n) (h2 : n < 9223372036854775808) : IntKind.i64.wrap n = n := by
  unfold IntKind.wrap
  simp only [IntKind.bits, IntKind.signed]
  simp
  omega
end
end
end Go.AM
namespace Go.AM
open Go

section
variable {P : Program} {r : Rec} {L N : Nat} {t : Tmps} {h h0 : Heap}

/-! The heap -/
theorem get_put_self {b : Blk} (hn : True) : (h.put b).get h.n = b := by rw [get_put hn, if_pos rfl]
theorem room_of (hn : True) : h.room = .ok () := rfl

/-! Memory -/
theorem rowV_ok {e : TypeId} {cs : List Value} (hn : True) (hc : cs.all isCell = true) : rowV h e cs = .ok (.pointer (some ⟨h.n, 0, none⟩), h.put (.cells cs e .exact)) := by
  simp only [rowV, room_of hn, bindR, hc, must]
theorem fieldAddr_ok {s : TypeId} {f off b o : Nat} (ho : fieldOff P s f = .ok off) : fieldAddrV P s (.pointer (some ⟨b, o, none⟩)) f = .ok (.pointer (some ⟨b, o + off, none⟩)) := by
  unfold fieldOff at ho
  obtain ⟨d, hd, ho⟩ := bindR_ok.1 ho
  split at ho
  · obtain ⟨fd, h4, ho⟩ := bindR_ok.1 ho
    obtain ⟨n, h5, ho⟩ := bindR_ok.1 ho
    obtain ⟨_, h6, ho⟩ := bindR_ok.1 ho
    cases ho
    simp only [bindR, fieldAddrV, hd, h4, h5, h6, addr_add]
    rfl
  · cases ho

/-! Functions -/
def kEnd (P : Program) (rs : List ResultVar) (c : Bool) (h0 : Heap) : Kont (Value × Heap) := fun e t h =>
  match e with
  | .normal => bindR (resultsV P rs t h) fun v => leaveC c h0 h v
  | .ret => bindR (resultsV P rs t h) fun v => leaveC c h0 h v
  | _ => .error "a jump out"
theorem callB_den {cut : Bool} {f : FuncId} {fn : Func} {c : Code} {args : Array Value} (hf : P.funcs[f]? = some fn) (hc : fn.body = some c) (ha : args.size ≤ fn.ntmps) :
    callB P r L cut f args h = den P r L fn.ntmps none c (tmpsOf args) (enterC cut h) (kEnd P fn.results.toList cut h) := by
  have hb : must (Nat.ble args.size fn.ntmps) = .ok () := must_ok.2 (ble_iff.2 ha)
  simp only [callB, hf, hc, ofOpt, bindR, hb]
  rfl
theorem callK_no {cut : FuncId → Cut} {f : FuncId} {fn : Func} {c : Code} {args : Array Value} (hf : P.funcs[f]? = some fn) (hc : fn.body = some c) (ha : args.size ≤ fn.ntmps) (hcut : cut f = .no) :
    callK P r L cut f args h = den P r L fn.ntmps none c (tmpsOf args) (enterC false h) (kEnd P fn.results.toList false h) := by
  unfold callK; rw [hcut]; exact callB_den hf hc ha
theorem callK_yes {cut : FuncId → Cut} {f : FuncId} {fn : Func} {c : Code} {args : Array Value} (hf : P.funcs[f]? = some fn) (hc : fn.body = some c) (ha : args.size ≤ fn.ntmps) (hcut : cut f = .yes) :
    callK P r L cut f args h = den P r L fn.ntmps none c (tmpsOf args) (enterC true h) (kEnd P fn.results.toList true h) := by
  unfold callK; rw [hcut]; exact callB_den hf hc ha
end
end Go.AM
