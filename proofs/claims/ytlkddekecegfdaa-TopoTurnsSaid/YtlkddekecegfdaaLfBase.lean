/- Of the abstract machine, for all programs: definitions and lemmas, no claim of its own; no condition. -/
import Derived.Test.YtlkddekecegfdaaAmRun
set_option linter.unusedVariables false
set_option linter.unusedSimpArgs false
namespace Go.AM
open Go
theorem blt_iff {m n : Nat} : Nat.blt m n = true ↔ m < n := blt_true
theorem ble_iff {m n : Nat} : Nat.ble m n = true ↔ m ≤ n := ⟨Nat.le_of_ble_eq_true, Nat.ble_eq_true_of_le⟩
section
variable {P : Program}
def valK : Op → Bool
  | .move _ | .assign _ | .pick _ _ _ | .alloc _ | .box _ _ | .build _ _ | .binOp _ _ _ _ _ | .unOp _ _ _ | .convert _ _ _ | .fieldAddr _ _ _ | .field _ _ _ | .indexAddr _ _ _ | .index _ _ _ | .extract _ _ | .makeFunc _ _ _ => true
  | _ => false
def loadK : Op → Bool
  | .load _ _ => true
  | _ => false
def actK : Op → Bool
  | .store _ _ _ => true
  | .call c => match c.callee with | .value _ => true | _ => false
  | _ => false

theorem valK_value {op : Op} (hv : valK op = true) {t : Tmps} {h : Heap} {td : Todo} (hs : step P op t h = .ok td) : ∃ v h', td = .value v h' := by
  have hval : ∀ {r : R Value} {h : Heap} {td : Todo}, val h r = .ok td → ∃ v h', td = .value v h' := fun hh => by
    obtain ⟨v, _, e⟩ := bindR_ok.1 hh; cases e; exact ⟨_, _, rfl⟩
  have hvalh : ∀ {r : R (Value × Heap)} {td : Todo}, valh r = .ok td → ∃ v h', td = .value v h' := fun hh => by
    obtain ⟨v, _, e⟩ := bindR_ok.1 hh; cases e; exact ⟨_, _, rfl⟩
  cases op <;> simp only [valK, reduceCtorEq, Bool.false_eq_true] at hv <;> simp only [step] at hs
  all_goals first
    | exact hval hs
    | exact hvalh hs
    | (obtain ⟨_, _, hs⟩ := bindR_ok.1 hs; first
        | exact hval hs
        | exact hvalh hs
        | (obtain ⟨_, _, hs⟩ := bindR_ok.1 hs; first
          | exact hval hs
          | exact hvalh hs
          | (obtain ⟨_, _, hs⟩ := bindR_ok.1 hs; exact hval hs)
          | (split at hs <;> first | (cases hs; exact ⟨_, _, rfl⟩) | cases hs)))

theorem blank_get {m i : Nat} : (blankN m).get i = .dead := by
  unfold Heap.get
  split
  · simp only [blankN, HT_none_get]
  · rfl
theorem still_load {ty : TypeId} {x : Operand} {o : Oper} (ho : o.op = .load ty x) {t : Tmps} {m : Nat} : ∃ e, stillOf P o t m = .error e := by
  unfold stillOf
  rw [ho]
  cases h1 : mustM "low" (lowL t m (Op.load ty x).operands.toList) with
  | error e => exact ⟨e, rfl⟩
  | ok u =>
    simp only [bindR, step]
    cases h2 : ev t x with
    | error e => exact ⟨e, rfl⟩
    | ok a =>
      have : ∃ e, loadV P (blankN m) ty a = .error e := by
        unfold loadV
        split
        · unfold loadA
          rw [blank_get]
          exact ⟨_, rfl⟩
        · exact ⟨_, rfl⟩
      obtain ⟨e, he⟩ := this
      exact ⟨e, by simp only [val, he, bindR]⟩
theorem still_act {o : Oper} (ho : actK o.op = true) {t : Tmps} {m : Nat} : (∃ e, stillOf P o t m = .error e) ∧ isRead o.op = false := by
  cases hop : o.op with
  | store ty a x =>
    refine ⟨?_, rfl⟩
    unfold stillOf
    rw [hop]
    cases h1 : mustM "low" (lowL t m (Op.store ty a x).operands.toList) with
    | error e => exact ⟨e, rfl⟩
    | ok u =>
      simp only [bindR, step]
      cases h2 : ev t a with
      | error e => exact ⟨e, rfl⟩
      | ok a' =>
        simp only
        cases h3 : ev t x with
        | error e => exact ⟨e, rfl⟩
        | ok x' =>
          have : ∃ e, storeV P (blankN m) ty a' x' = .error e := by
            unfold storeV
            split
            · cases h4 : tsize P ty with
              | error e => exact ⟨e, rfl⟩
              | ok n =>
                simp only [bindR]
                cases h5 : must (Nat.beq x'.cells.toList.length n) with
                | error e => exact ⟨e, rfl⟩
                | ok u =>
                  simp only [storeCells, blank_get]
                  exact ⟨_, rfl⟩
            · exact ⟨_, rfl⟩
          obtain ⟨e, he⟩ := this
          exact ⟨e, by simp only [valu, he, bindR]⟩
  | call c =>
    rw [hop] at ho
    simp only [actK] at ho
    cases hc : c.callee with
    | value f =>
      refine ⟨?_, by simp [isRead, hc]⟩
      unfold stillOf
      rw [hop]
      cases h1 : mustM "low" (lowL t m (Op.call c).operands.toList) with
      | error e => exact ⟨e, rfl⟩
      | ok u =>
        simp only [bindR, step, callStep, hc]
        cases h2 : evs t c.args.toList with
        | error e => exact ⟨e, rfl⟩
        | ok args =>
          simp only
          cases h3 : ev t f with
          | error e => exact ⟨e, rfl⟩
          | ok fv =>
            cases fv with
            | func fn first cap =>
              cases fn with
              | func g =>
                simp only [invokeV]
                cases h4 : callable P g with
                | error e => exact ⟨e, rfl⟩
                | ok u => exact ⟨_, rfl⟩
              | yield l => exact ⟨_, rfl⟩
              | _ => exact ⟨_, rfl⟩
            | _ => exact ⟨_, rfl⟩
    | invoke r m => rw [hc] at ho; cases ho
    | builtin b => rw [hc] at ho; cases ho
  | _ => rw [hop] at ho; cases ho

def fieldOff (P : Program) (s : TypeId) (f : Nat) : R Nat :=
  bindR (under P s) fun d =>
  match d with
  | .struct fields => bindR (ofOpt fields[f]?) fun fd => bindR (tsize P fd.type) fun n => bindR (must (Nat.blt 0 n)) fun _ => .ok fd.offset
  | _ => .error "fieldAddr"
theorem addr_add {b o n : Nat} : Addr.add ⟨b, o, none⟩ n = ⟨b, Nat.add o n, none⟩ := by
  unfold Addr.add
  split
  · rename_i h; subst h; rfl
  · rfl
def fieldW (P : Program) (s : TypeId) (f : Nat) : R (Nat × Option Nat) :=
  bindR (under P s) fun d =>
  match d with
  | .struct fields => bindR (ofOpt fields[f]?) fun fd => bindR (wide P fd.type) fun w => .ok (fd.offset, w)
  | _ => .error "field"
def rowSize (P : Program) (t : TypeId) : R Nat :=
  bindR (under P t) fun d =>
  match d with
  | .slice e => tsize P e
  | _ => .error "indexAddr"
def arrSize (P : Program) (t : TypeId) : R (Nat × Nat × Option Nat) :=
  bindR (under P t) fun d =>
  match d with
  | .array len e => bindR (tsize P e) fun n => bindR (wide P e) fun w => .ok (len, n, w)
  | _ => .error "index"
theorem bin_int {op : BinOp} {t : TypeId} {xo yo : Operand} {k : IntKind} {a b : Int} {v : Value} (hv : plainV 20 v = true) (h : binOp op t (.int k a) (.int k b) = pure v) :
    binV P op t xo yo (.int k a) (.int k b) = .ok v := by
  have : (eqGuard op t xo yo (.int k a) (.int k b) : Sem Unit).run P default = .ok () default := by
    unfold eqGuard
    split <;> simp
  have hp : ∀ a, plainV 20 (.int k a) = true := fun _ => rfl
  simp only [binV, hp, Bool.and_self, isPtr, Bool.or_self, Bool.not_false, Bool.or_true, plainOut, pureRun, Sem.run_bind, this, Result.andThen_ok, h, Sem.run_pure, bindR, hv, must]

theorem un_not {b : Bool} : unV P .not (.bool b) = .ok (.bool !b) := by cases b <;> rfl
end
end Go.AM
namespace Go.AM
open Go
def stepW (P : Program) (r : Rec) (op : Op) (t : Tmps) (h : Heap) : R (Value × Heap) :=
  bindR (step P op t h) fun td =>
  match td with
  | .value v h => .ok (v, h)
  | .enter f args => r.call f args h
  | .round l args => r.round l args h

section
variable {β : Type} {P : Program} {r : Rec} {L N : Nat} {rd : Option Nat} {t : Tmps} {h : Heap} {k : Kont β}

/-! ### The machine's equations, for proofs by rewriting -/
theorem bindR_ok' {α β : Type} (a : α) (f : α → R β) : bindR (.ok a) f = f a := rfl
def kSeq (P : Program) (r : Rec) (L N : Nat) (rd : Option Nat) (b : Code) (k : Kont β) : Kont β := fun e t h =>
  match e with
  | .normal => den P r L N rd b t h k
  | e => k e t h
theorem kSeq_normal {b : Code} : kSeq P r L N rd b k .normal t h = den P r L N rd b t h k := rfl
theorem kSeq_ret {b : Code} : kSeq P r L N rd b k .ret t h = k .ret t h := rfl
theorem kSeq_exit {b : Code} {i : Nat} : kSeq P r L N rd b k (.exit i) t h = k (.exit i) t h := rfl
theorem kSeq_goto {b : Code} {i : Nat} : kSeq P r L N rd b k (.goto i) t h = k (.goto i) t h := rfl
theorem den_seq {a b : Code} : den P r L N rd (.seq a b) t h k = den P r L N rd a t h (kSeq P r L N rd b k) := rfl
theorem den_skip : den P r L N rd .skip t h k = k .normal t h := rfl
theorem den_ret : den P r L N rd .ret t h k = k .ret t h := rfl
theorem den_exit {i : Nat} : den P r L N rd (.exit i) t h k = k (.exit i) t h := rfl
def kBlock (id : Nat) (k : Kont β) : Kont β := fun e t h =>
  match e with
  | .exit i => match Nat.beq i id with
    | true => k .normal t h
    | false => k (.exit i) t h
  | e => k e t h
theorem kBlock_normal {id : Nat} : kBlock id k .normal t h = k .normal t h := rfl
theorem kBlock_ret {id : Nat} : kBlock id k .ret t h = k .ret t h := rfl
theorem kBlock_exit {id : Nat} : kBlock id k (.exit id) t h = k .normal t h := by simp [kBlock, Nat.beq_refl]
theorem kBlock_other {id i : Nat} (hi : i ≠ id) : kBlock id k (.exit i) t h = k (.exit i) t h := by
  cases hb : Nat.beq i id with
  | true => exact absurd (Nat.eq_of_beq_eq_true hb) hi
  | false => simp only [kBlock, hb]
theorem den_block {id : Nat} {b : Code} : den P r L N rd (.block id b) t h k = den P r L N rd b t h (kBlock id k) := rfl
def kCond (P : Program) (r : Rec) (L N : Nat) (rd : Option Nat) (a b : Code) (t : Tmps) (h : Heap) (k : Kont β) (c : Value) : R β :=
  match c with
  | .bool true => den P r L N rd a t h k
  | .bool false => den P r L N rd b t h k
  | _ => .error "cond"
theorem den_cond {x : Operand} {a b : Code} : den P r L N rd (.cond x a b) t h k = bindR (ev t x) (kCond P r L N rd a b t h k) := rfl
theorem kCond_true {a b : Code} : kCond P r L N rd a b t h k (.bool true) = den P r L N rd a t h k := rfl
theorem kCond_false {a b : Code} : kCond P r L N rd a b t h k (.bool false) = den P r L N rd b t h k := rfl
theorem kCond_ite {a b : Code} {c : Bool} : kCond P r L N rd a b t h k (.bool c) = if c then den P r L N rd a t h k else den P r L N rd b t h k := by cases c <;> rfl
def loopD (P : Program) (r : Rec) (L N : Nat) (rd : Option Nat) (b : Code) (n : Nat) (t : Tmps) (h : Heap) (k : Kont β) : R β := loopK (fun t h k => den P r L N rd b t h k) n t h k
theorem den_loop {b : Code} : den P r L N rd (.loop b) t h k = loopD P r L N rd b L t h k := rfl
def kLoop (P : Program) (r : Rec) (L N : Nat) (rd : Option Nat) (b : Code) (n : Nat) (k : Kont β) : Kont β := fun e t h =>
  match e with
  | .normal => loopD P r L N rd b n t h k
  | e => k e t h
theorem loopD_succ {b : Code} {n : Nat} : loopD P r L N rd b (n + 1) t h k = den P r L N rd b t h (kLoop P r L N rd b n k) := rfl
theorem kLoop_normal {b : Code} {n : Nat} : kLoop P r L N rd b n k .normal t h = loopD P r L N rd b n t h k := rfl
theorem kLoop_ret {b : Code} {n : Nat} : kLoop P r L N rd b n k .ret t h = k .ret t h := rfl
theorem kLoop_exit {b : Code} {n i : Nat} : kLoop P r L N rd b n k (.exit i) t h = k (.exit i) t h := rfl

/-! Regions -/
def opersL (P : Program) (r : Rec) (N : Nat) (ops : Array Oper) (os : List Oper) (k : Kont β) (t : Tmps) (h : Heap) : R β := opers P r N ops os t h k
theorem den_region {id : Nat} {ops : Array Oper} : den P r L N rd (.region id ops false) t h k = opersL P r N ops ops.toList k t h := rfl
theorem opersL_nil {ops : Array Oper} : opersL P r N ops [] k t h = k .normal t h := rfl
def kOper (P : Program) (r : Rec) (N : Nat) (ops : Array Oper) (os : List Oper) (k : Kont β) (d : Option Tmp) (t : Tmps) (p : Value × Heap) : R β := opersL P r N ops os k (put N t d p.1) p.2
theorem oper_stepW {o : Oper} {k : Tmps → Heap → R β} : oper P r N o t h k = bindR (stepW P r o.op t h) fun p => k (put N t o.dst p.1) p.2 := by
  unfold oper stepW
  cases step P o.op t h with
  | error e => rfl
  | ok td => cases td <;> rfl
theorem opersL_plain {ops : Array Oper} {d : Option Tmp} {op : Op} {ty : TypeId} {pos : String} {af : Array Edge} {os : List Oper} :
    opersL P r N ops (⟨d, op, ty, pos, af, none⟩ :: os) k t h = bindR (stepW P r op t h) (kOper P r N ops os k d t) := by
  simp only [opersL, opers, wanted, oper_stepW]
  rfl
def guardV (ops : Array Oper) (j : Nat) (t : Tmps) : Value := match (ops[j]?).bind (·.dst) with | some d => t d | none => undef
def gate (want : Bool) (v : Value) (x y : R β) : R β := match v with | .bool b => if b = want then x else y | _ => y
theorem opersL_guard {ops : Array Oper} {d : Option Tmp} {op : Op} {ty : TypeId} {pos : String} {af : Array Edge} {j : Nat} {want : Bool} {os : List Oper} :
    opersL P r N ops (⟨d, op, ty, pos, af, some (j, want)⟩ :: os) k t h =
      gate want (guardV ops j t) (bindR (stepW P r op t h) (kOper P r N ops os k d t)) (opersL P r N ops os k (put N t d undef) h) := by
  simp only [opersL, opers, wanted, guardV, oper_stepW]
  cases (ops[j]?).bind (·.dst) with
  | none => rfl
  | some d' =>
    simp only [gate]
    cases t d' with
    | bool b => cases b <;> cases want <;> rfl
    | _ => rfl
theorem gate_yes {want : Bool} {x y : R β} : gate want (.bool want) x y = x := by simp [gate]
theorem gate_tf {x y : R β} : gate true (.bool false) x y = y := rfl
theorem gate_ft {x y : R β} : gate false (.bool true) x y = y := rfl
theorem kOper_mk {ops : Array Oper} {os : List Oper} {d : Option Tmp} {v : Value} {h' : Heap} : kOper P r N ops os k d t (v, h') = opersL P r N ops os k (put N t d v) h' := rfl

/-! Temporaries -/
theorem put_none {v : Value} : put N t none v = t := rfl
theorem put_same {d : Tmp} {v : Value} (hd : Nat.blt d N = true) : put N t (some d) v d = v := by
  simp only [put, hd, Nat.beq_refl]
theorem put_ne {d i : Tmp} {v : Value} (hi : Nat.beq i d = false) : put N t (some d) v i = t i := by
  simp only [put]
  cases Nat.blt d N with
  | true => simp only [hi]
  | false => rfl
theorem ev_tmp {i : Tmp} : ev t (.tmp i) = .ok (t i) := rfl
theorem ev_const {v : Value} (hv : plainV 20 v = true) : ev t (.const v) = .ok v := by simp only [ev, hv]
theorem ev_func {f : FuncId} : ev t (.func f) = .ok (.func (.func f) #[] #[]) := rfl

/-! Operations -/
theorem st_move {x : Operand} : stepW P r (.move x) t h = bindR (ev t x) fun v => .ok (v, h) := by
  simp only [stepW, step, val]; cases ev t x <;> rfl
theorem st_assign {x : Operand} : stepW P r (.assign x) t h = bindR (ev t x) fun v => .ok (v, h) := by
  simp only [stepW, step, val]; cases ev t x <;> rfl
def valW (h : Heap) (x : R Value) : R (Value × Heap) := bindR x fun v => .ok (v, h)
theorem valW_ok {v : Value} : valW h (.ok v) = .ok (v, h) := rfl
theorem stepW_of_val {op : Op} {x : R Value} (hs : step P op t h = val h x) : stepW P r op t h = valW h x := by
  simp only [stepW, hs, val, valW]; cases x <;> rfl
theorem stepW_of_valh {op : Op} {x : R (Value × Heap)} (hs : step P op t h = valh x) : stepW P r op t h = x := by
  simp only [stepW, hs, valh]
  cases x with
  | error e => rfl
  | ok p => rfl
theorem bindR_stepW {α : Type} {op : Op} {x : R α} {f : α → R Todo} {g : α → R (Value × Heap)} (hs : step P op t h = bindR x f) (hg : ∀ a, (bindR (f a) fun td => match td with | .value v h => .ok (v, h) | .enter f args => r.call f args h | .round l args => r.round l args h) = g a) :
    stepW P r op t h = bindR x g := by
  simp only [stepW, hs]
  cases x with
  | error e => rfl
  | ok a => exact hg a
theorem val_todo {x : R Value} : (bindR (val h x) fun td => match td with | .value v h => .ok (v, h) | .enter f args => r.call f args h | .round l args => r.round l args h : R (Value × Heap)) = valW h x := by
  unfold val valW; cases x <;> rfl
theorem valh_todo {x : R (Value × Heap)} : (bindR (valh x) fun td => match td with | .value v h => .ok (v, h) | .enter f args => r.call f args h | .round l args => r.round l args h : R (Value × Heap)) = x := by
  unfold valh; cases x with
  | error e => rfl
  | ok p => rfl
def unitW (x : R Heap) : R (Value × Heap) := bindR x fun h => .ok (undef, h)
theorem unitW_ok {h' : Heap} : unitW (.ok h') = .ok (undef, h') := rfl
theorem valu_todo {x : R Heap} : (bindR (valu x) fun td => match td with | .value v h => .ok (v, h) | .enter f args => r.call f args h | .round l args => r.round l args h : R (Value × Heap)) = unitW x := by
  unfold valu unitW; cases x <;> rfl
theorem st_pick {c a b : Operand} : stepW P r (.pick c a b) t h = bindR (ev t c) fun c => bindR (ev t a) fun a => bindR (ev t b) fun b => valW h (pickV c a b) := by
  refine bindR_stepW rfl fun c => ?_
  cases ev t a with
  | error e => rfl
  | ok a => cases ev t b with
    | error e => rfl
    | ok b => exact val_todo
theorem st_bin {op : BinOp} {ty yt : TypeId} {x y : Operand} : stepW P r (.binOp op ty x y yt) t h = bindR (ev t x) fun a => bindR (ev t y) fun b => valW h (binV P op ty x y a b) := by
  refine bindR_stepW rfl fun a => ?_
  cases ev t y with
  | error e => rfl
  | ok b => exact val_todo
theorem st_un {op : UnOp} {ty : TypeId} {x : Operand} : stepW P r (.unOp op ty x) t h = bindR (ev t x) fun a => valW h (unV P op a) := bindR_stepW rfl fun _ => val_todo
theorem st_load {ty : TypeId} {a : Operand} : stepW P r (.load ty a) t h = bindR (ev t a) fun a => valW h (loadV P h ty a) := bindR_stepW rfl fun _ => val_todo
theorem st_store {ty : TypeId} {a x : Operand} : stepW P r (.store ty a x) t h = bindR (ev t a) fun a => bindR (ev t x) fun x => unitW (storeV P h ty a x) := by
  refine bindR_stepW rfl fun a => ?_
  cases ev t x with
  | error e => rfl
  | ok x => exact valu_todo
theorem st_fieldAddr {s : TypeId} {x : Operand} {f : Nat} : stepW P r (.fieldAddr s x f) t h = bindR (ev t x) fun x => valW h (fieldAddrV P s x f) := bindR_stepW rfl fun _ => val_todo
theorem st_field {s : TypeId} {x : Operand} {f : Nat} : stepW P r (.field s x f) t h = bindR (ev t x) fun x => valW h (fieldV P s x f) := bindR_stepW rfl fun _ => val_todo
theorem st_indexAddr {ty : TypeId} {x i : Operand} : stepW P r (.indexAddr ty x i) t h = bindR (ev t x) fun x => bindR (ev t i) fun i => valW h (indexAddrV P ty x i) := by
  refine bindR_stepW rfl fun a => ?_
  cases ev t i with
  | error e => rfl
  | ok b => exact val_todo
theorem st_index {ty : TypeId} {x i : Operand} : stepW P r (.index ty x i) t h = bindR (ev t x) fun x => bindR (ev t i) fun i => valW h (indexV P ty x i) := by
  refine bindR_stepW rfl fun a => ?_
  cases ev t i with
  | error e => rfl
  | ok b => exact val_todo
theorem st_extract {x : Operand} {i : Nat} : stepW P r (.extract x i) t h = bindR (ev t x) fun x => valW h (extractV x i) := bindR_stepW rfl fun _ => val_todo
theorem st_box {e : TypeId} {x : Operand} : stepW P r (.box e x) t h = bindR (ev t x) fun v => rowV h e v.cells.toList := bindR_stepW rfl fun _ => valh_todo
theorem st_alloc {e : TypeId} : stepW P r (.alloc e) t h = bindR (tzero P e) fun z => rowV h e z.cells.toList := bindR_stepW rfl fun _ => valh_todo
theorem st_build {ty : TypeId} {ps : Array (Nat × Operand)} : stepW P r (.build ty ps) t h = bindR (evp t ps.toList) fun l => valW h (buildV P ty l) := bindR_stepW rfl fun _ => val_todo
theorem st_makeSlice {ty : TypeId} {l c : Operand} : stepW P r (.makeSlice ty l c) t h = bindR (ev t l) fun l => bindR (ev t c) fun c => makeSliceV P h ty l c := by
  refine bindR_stepW rfl fun a => ?_
  cases ev t c with
  | error e => rfl
  | ok b => exact valh_todo
theorem st_slice {ty : TypeId} {x : Operand} {lo hi mx : Option Operand} : stepW P r (.slice ty x lo hi mx) t h = bindR (ev t x) fun x => bindR (evo t lo) fun lo => bindR (evo t hi) fun hi => bindR (evo t mx) fun mx => valW h (sliceV P h ty x lo hi mx) := by
  refine bindR_stepW rfl fun a => ?_
  cases evo t lo with
  | error e => rfl
  | ok lo => cases evo t hi with
    | error e => rfl
    | ok hi => cases evo t mx with
      | error e => rfl
      | ok mx => exact val_todo
theorem st_call {c : Call} {g : FuncId} (hc : c.callee = .value (.func g)) (hg : callable P g = .ok ()) : stepW P r (.call c) t h = bindR (evs t c.args.toList) fun args => r.call g args.toArray h := by
  refine bindR_stepW (x := evs t c.args.toList) (f := fun args => match c.callee with | .builtin b => valh (builtinV P h b c.argTypes args) | .value f => bindR (ev t f) fun f => invokeV P f args | .invoke _ _ => .error "invoke") rfl fun args => ?_
  simp only [hc, ev, bindR, invokeV, hg]
  congr 1
  simp
theorem st_builtin {c : Call} {b : Builtin} (hc : c.callee = .builtin b) : stepW P r (.call c) t h = bindR (evs t c.args.toList) fun args => builtinV P h b c.argTypes args := by
  refine bindR_stepW (x := evs t c.args.toList) (f := fun args => match c.callee with | .builtin b => valh (builtinV P h b c.argTypes args) | .value f => bindR (ev t f) fun f => invokeV P f args | .invoke _ _ => .error "invoke") rfl fun args => ?_
  simp only [hc]
  exact valh_todo
theorem evs_nil : evs t [] = .ok [] := rfl
theorem evs_cons {x : Operand} {xs : List Operand} : evs t (x :: xs) = bindR (ev t x) fun v => bindR (evs t xs) fun vs => .ok (v :: vs) := rfl
theorem evo_none : evo t none = .ok none := rfl
theorem evo_some {x : Operand} : evo t (some x) = bindR (ev t x) fun v => .ok (some v) := rfl
theorem evp_nil : evp t [] = .ok [] := rfl
theorem evp_cons {i : Nat} {x : Operand} {xs : List (Nat × Operand)} : evp t ((i, x) :: xs) = bindR (ev t x) fun v => bindR (evp t xs) fun vs => .ok ((i, v) :: vs) := rfl
theorem pickV_true {a b : Value} : pickV (.bool true) a b = .ok a := rfl
theorem pickV_false {a b : Value} : pickV (.bool false) a b = .ok b := rfl

/-! Integers -/
section
variable {ty : TypeId} {xo yo : Operand} {kd : IntKind} {a b : Int}
theorem bin_add : binV P .add ty xo yo (.int kd a) (.int kd b) = .ok (.int kd (kd.wrap (a + b))) := bin_int rfl (by simp [binOp, Op.intArith])
theorem bin_sub : binV P .sub ty xo yo (.int kd a) (.int kd b) = .ok (.int kd (kd.wrap (a - b))) := bin_int rfl (by simp [binOp, Op.intArith])
theorem bin_mul : binV P .mul ty xo yo (.int kd a) (.int kd b) = .ok (.int kd (kd.wrap (a * b))) := bin_int rfl (by simp [binOp, Op.intArith])
theorem bin_quo (hb : b ≠ 0) : binV P .quo ty xo yo (.int kd a) (.int kd b) = .ok (.int kd (kd.wrap (a.tdiv b))) := bin_int rfl (by simp [binOp, Op.intDiv, hb])
theorem bin_rem (hb : b ≠ 0) : binV P .rem ty xo yo (.int kd a) (.int kd b) = .ok (.int kd (a.tmod b)) := bin_int rfl (by simp [binOp, Op.intDiv, hb])
theorem bin_lss : binV P .lss ty xo yo (.int kd a) (.int kd b) = .ok (.bool (decide (a < b))) := bin_int rfl (by simp [binOp, Op.intCmp])
theorem bin_leq : binV P .leq ty xo yo (.int kd a) (.int kd b) = .ok (.bool (decide (a ≤ b))) := bin_int rfl (by simp [binOp, Op.intCmp])
theorem bin_gtr : binV P .gtr ty xo yo (.int kd a) (.int kd b) = .ok (.bool (decide (b < a))) := bin_int rfl (by simp [binOp, Op.intCmp])
theorem bin_geq : binV P .geq ty xo yo (.int kd a) (.int kd b) = .ok (.bool (decide (b ≤ a))) := bin_int rfl (by simp [binOp, Op.intCmp])
theorem bin_eql : binV P .eql ty xo yo (.int kd a) (.int kd b) = .ok (.bool (decide (a = b))) := bin_int rfl (by simp [binOp, Op.intCmp]; rfl)
theorem bin_neq : binV P .neq ty xo yo (.int kd a) (.int kd b) = .ok (.bool (decide (a ≠ b))) := bin_int rfl (by simp [binOp, Op.intCmp, bne]; rfl)
theorem un_not' {b : Bool} : unV P .not (.bool b) = .ok (.bool !b) := un_not
theorem wrap64 {n : Int} (h1 : -9223372036854775808 ≤ n) (h2 : n < 9223372036854775808) : IntKind.i64.wrap n = n := by
  unfold IntKind.wrap
  simp only [IntKind.bits, IntKind.signed]
  simp
  omega
end
end
end Go.AM
namespace Go.AM
open Go

section
variable {P : Program} {r : Rec} {L N : Nat} {t : Tmps} {h h0 : Heap}

/-! The heap -/
theorem n_put {b : Blk} : (h.put b).n = h.n + 1 := rfl
theorem n_write {i m : Nat} {b : Blk} : (h.write i b m).n = h.n := rfl
theorem n_enter : (enter h).n = h.n := rfl
theorem wr_put {b : Blk} : (h.put b).wr = h.wr := rfl
theorem wr_enter : (enter h).wr = h.n := rfl
theorem base_put {b : Blk} : (h.put b).base = h.base := rfl
theorem base_write {i m : Nat} {b : Blk} : (h.write i b m).base = h.base := rfl
theorem base_enter : (enter h).base = h.n := rfl
theorem get_put_self {b : Blk} (hn : True) : (h.put b).get h.n = b := by rw [get_put hn, if_pos rfl]
theorem get_put_at {i : Nat} {b : Blk} (hi : i = h.n) (hn : True) : (h.put b).get i = b := by rw [get_put hn, if_pos hi]
theorem get_put_old {i : Nat} {b : Blk} (hi : i ≠ h.n) (hn : True) : (h.put b).get i = h.get i := by rw [get_put hn, if_neg hi]
theorem get_write_self {i m : Nat} {b : Blk} (hi : i < h.n) (hn : True) : (h.write i b m).get i = b := by rw [get_write hn hi, if_pos rfl]
theorem get_write_other {i j m : Nat} {b : Blk} (hj : j ≠ i) (hi : i < h.n) (hn : True) : (h.write i b m).get j = h.get j := by rw [get_write hn hi, if_neg hj]
theorem room_of (hn : True) : h.room = .ok () := rfl

/-! Memory -/
theorem loadV_ptr {ty : TypeId} {b o : Nat} {vs : List Value} {e : TypeId} {m : Mode} (hg : h.get b = .cells vs e m) : loadV P h ty (.pointer (some ⟨b, o, none⟩)) = bindR (wide P ty) fun w => readW vs o w := by
  simp only [loadV, loadA, hg]
theorem readW_none {vs : List Value} {o : Nat} {v : Value} (hv : vs[o]? = some v) : readW vs o none = .ok v := by simp only [readW, cell, hv]
theorem rowV_ok {e : TypeId} {cs : List Value} (hn : True) (hc : cs.all isCell = true) : rowV h e cs = .ok (.pointer (some ⟨h.n, 0, none⟩), h.put (.cells cs e .exact)) := by
  simp only [rowV, room_of hn, bindR, hc, must]
theorem fieldAddr_ok {s : TypeId} {f off b o : Nat} (ho : fieldOff P s f = .ok off) : fieldAddrV P s (.pointer (some ⟨b, o, none⟩)) f = .ok (.pointer (some ⟨b, o + off, none⟩)) := by
  unfold fieldOff at ho
  obtain ⟨d, hd, ho⟩ := bindR_ok.1 ho
  split at ho
  · obtain ⟨fd, h4, ho⟩ := bindR_ok.1 ho
    obtain ⟨n, h5, ho⟩ := bindR_ok.1 ho
    obtain ⟨_, h6, ho⟩ := bindR_ok.1 ho
    cases ho
    simp only [bindR, fieldAddrV, hd, h4, h5, h6, addr_add]
    rfl
  · cases ho

/-! Functions -/
def kEnd (P : Program) (rs : List ResultVar) (c : Bool) (h0 : Heap) : Kont (Value × Heap) := fun e t h =>
  match e with
  | .normal => bindR (resultsV P rs t h) fun v => leaveC c h0 h v
  | .ret => bindR (resultsV P rs t h) fun v => leaveC c h0 h v
  | _ => .error "a jump out"
theorem callB_den {cut : Bool} {f : FuncId} {fn : Func} {c : Code} {args : Array Value} (hf : P.funcs[f]? = some fn) (hc : fn.body = some c) (ha : args.size ≤ fn.ntmps) :
    callB P r L cut f args h = den P r L fn.ntmps none c (tmpsOf args) (enterC cut h) (kEnd P fn.results.toList cut h) := by
  have hb : must (Nat.ble args.size fn.ntmps) = .ok () := must_ok.2 (ble_iff.2 ha)
  simp only [callB, hf, hc, ofOpt, bindR, hb]
  rfl
theorem callK_no {cut : FuncId → Cut} {f : FuncId} {fn : Func} {c : Code} {args : Array Value} (hf : P.funcs[f]? = some fn) (hc : fn.body = some c) (ha : args.size ≤ fn.ntmps) (hcut : cut f = .no) :
    callK P r L cut f args h = den P r L fn.ntmps none c (tmpsOf args) (enterC false h) (kEnd P fn.results.toList false h) := by
  unfold callK; rw [hcut]; exact callB_den hf hc ha
theorem callK_yes {cut : FuncId → Cut} {f : FuncId} {fn : Func} {c : Code} {args : Array Value} (hf : P.funcs[f]? = some fn) (hc : fn.body = some c) (ha : args.size ≤ fn.ntmps) (hcut : cut f = .yes) :
    callK P r L cut f args h = den P r L fn.ntmps none c (tmpsOf args) (enterC true h) (kEnd P fn.results.toList true h) := by
  unfold callK; rw [hcut]; exact callB_den hf hc ha
theorem tmps1_0 {a : Value} : tmpsOf #[a] 0 = a := rfl
theorem tmps2_0 {a b : Value} : tmpsOf #[a, b] 0 = a := rfl
theorem tmps2_1 {a b : Value} : tmpsOf #[a, b] 1 = b := rfl
theorem tmps3_0 {a b c : Value} : tmpsOf #[a, b, c] 0 = a := rfl
theorem tmps3_1 {a b c : Value} : tmpsOf #[a, b, c] 1 = b := rfl
theorem tmps3_2 {a b c : Value} : tmpsOf #[a, b, c] 2 = c := rfl
theorem tmps4_0 {a b c d : Value} : tmpsOf #[a, b, c, d] 0 = a := rfl
theorem tmps4_1 {a b c d : Value} : tmpsOf #[a, b, c, d] 1 = b := rfl
theorem tmps4_2 {a b c d : Value} : tmpsOf #[a, b, c, d] 2 = c := rfl
theorem tmps4_3 {a b c d : Value} : tmpsOf #[a, b, c, d] 3 = d := rfl
theorem cells_agg {cs : Array Value} : (Value.agg cs).cells = cs := rfl
theorem cells_int {k : IntKind} {n : Int} : (Value.int k n).cells = #[.int k n] := rfl
theorem cells_bool {b : Bool} : (Value.bool b).cells = #[.bool b] := rfl
theorem cells_slice {a : Option Addr} {n c : Nat} : (Value.slice a n c).cells = #[.slice a n c] := rfl
theorem cells_ptr {a : Option Addr} : (Value.pointer a).cells = #[.pointer a] := rfl
theorem cells_nilFunc : (Value.nilFunc).cells = #[.nilFunc] := rfl
theorem cells_func {f : Fn} {a b : Array Value} : (Value.func f a b).cells = #[.func f a b] := rfl
end
end Go.AM
