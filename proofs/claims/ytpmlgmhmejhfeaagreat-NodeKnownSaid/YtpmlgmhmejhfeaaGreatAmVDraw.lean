/- A part of the abstract machine: definitions and lemmas for all programs, no claim of its own; no condition. -/
import Derived.Test.YtpmlgmhmejhfeaaGreatAmVDst
set_option linter.unusedVariables false
set_option linter.unusedSimpArgs false
namespace Go.AM
open Go

section
variable {β : Type} {P : Program} {N : Nat}

/-! ### Regions that draw, by compiled operations -/
noncomputable def bitB (m i : Nat) : Bool := Nat.beq (Nat.land (Nat.shiftRight m i) 1) 1
theorem bitB_eq {m i : Nat} : bitB m i = bit m i := by
  unfold bitB bit Nat.testBit
  have h1 : Nat.land (Nat.shiftRight m i) 1 = (m >>> i) % 2 := by
    show (m >>> i) &&& 1 = _
    rw [Nat.and_one_is_mod]
  have h2 : 1 &&& (m >>> i) = (m >>> i) % 2 := by rw [Nat.and_comm, Nat.and_one_is_mod]
  rw [h1, h2]
  have : (m >>> i) % 2 = 0 ∨ (m >>> i) % 2 = 1 := by omega
  rcases this with h | h <;> rw [h] <;> rfl

def valK : Op → Bool
  | .move _ | .assign _ | .pick _ _ _ | .alloc _ | .box _ _ | .build _ _ | .binOp _ _ _ _ _ | .unOp _ _ _ | .convert _ _ _ | .fieldAddr _ _ _ | .field _ _ _ | .indexAddr _ _ _ | .index _ _ _ | .extract _ _ | .makeFunc _ _ _ => true
  | _ => false
def loadK : Op → Bool
  | .load _ _ => true
  | _ => false
def actK : Op → Bool
  | .store _ _ _ => true
  | .call c => match c.callee with | .value _ => true | _ => false
  | _ => false

theorem valK_value {op : Op} (hv : valK op = true) {t : Tmps} {h : Heap} {td : Todo} (hs : step P op t h = .ok td) : ∃ v h', td = .value v h' := by
  have hval : ∀ {r : R Value} {h : Heap} {td : Todo}, val h r = .ok td → ∃ v h', td = .value v h' := fun hh => by
    obtain ⟨v, _, e⟩ := bindR_ok.1 hh; cases e; exact ⟨_, _, rfl⟩
  have hvalh : ∀ {r : R (Value × Heap)} {td : Todo}, valh r = .ok td → ∃ v h', td = .value v h' := fun hh => by
    obtain ⟨v, _, e⟩ := bindR_ok.1 hh; cases e; exact ⟨_, _, rfl⟩
  cases op <;> simp only [valK, reduceCtorEq, Bool.false_eq_true] at hv <;> simp only [step] at hs
  all_goals first
    | exact hval hs
    | exact hvalh hs
    | (obtain ⟨_, _, hs⟩ := bindR_ok.1 hs; first
        | exact hval hs
        | exact hvalh hs
        | (obtain ⟨_, _, hs⟩ := bindR_ok.1 hs; first
          | exact hval hs
          | exact hvalh hs
          | (obtain ⟨_, _, hs⟩ := bindR_ok.1 hs; exact hval hs)
          | (split at hs <;> first | (cases hs; exact ⟨_, _, rfl⟩) | cases hs)))

theorem blank_get {m i : Nat} : (blankN m).get i = .dead := by
  unfold Heap.get
  split
  · simp only [blankN, HT_none_get]
  · rfl
theorem still_load {ty : TypeId} {x : Operand} {o : Oper} (ho : o.op = .load ty x) {t : Tmps} {m : Nat} : ∃ e, stillOf P o t m = .error e := by
  unfold stillOf
  rw [ho]
  cases h1 : mustM "low" (lowL t m (Op.load ty x).operands.toList) with
  | error e => exact ⟨e, rfl⟩
  | ok u =>
    simp only [bindR, step]
    cases h2 : ev t x with
    | error e => exact ⟨e, rfl⟩
    | ok a =>
      have : ∃ e, loadV P (blankN m) ty a = .error e := by
        unfold loadV
        split
        · unfold loadA
          rw [blank_get]
          exact ⟨_, rfl⟩
        · exact ⟨_, rfl⟩
      obtain ⟨e, he⟩ := this
      exact ⟨e, by simp only [val, he, bindR]⟩
theorem still_act {o : Oper} (ho : actK o.op = true) {t : Tmps} {m : Nat} : (∃ e, stillOf P o t m = .error e) ∧ isRead o.op = false := by
  cases hop : o.op with
  | store ty a x =>
    refine ⟨?_, rfl⟩
    unfold stillOf
    rw [hop]
    cases h1 : mustM "low" (lowL t m (Op.store ty a x).operands.toList) with
    | error e => exact ⟨e, rfl⟩
    | ok u =>
      simp only [bindR, step]
      cases h2 : ev t a with
      | error e => exact ⟨e, rfl⟩
      | ok a' =>
        simp only
        cases h3 : ev t x with
        | error e => exact ⟨e, rfl⟩
        | ok x' =>
          have : ∃ e, storeV P (blankN m) ty a' x' = .error e := by
            unfold storeV
            split
            · cases h4 : tsize P ty with
              | error e => exact ⟨e, rfl⟩
              | ok n =>
                simp only [bindR]
                cases h5 : must (Nat.beq x'.cells.toList.length n) with
                | error e => exact ⟨e, rfl⟩
                | ok u =>
                  simp only [storeCells, blank_get]
                  exact ⟨_, rfl⟩
            · exact ⟨_, rfl⟩
          obtain ⟨e, he⟩ := this
          exact ⟨e, by simp only [valu, he, bindR]⟩
  | call c =>
    rw [hop] at ho
    simp only [actK] at ho
    cases hc : c.callee with
    | value f =>
      refine ⟨?_, by simp [isRead, hc]⟩
      unfold stillOf
      rw [hop]
      cases h1 : mustM "low" (lowL t m (Op.call c).operands.toList) with
      | error e => exact ⟨e, rfl⟩
      | ok u =>
        simp only [bindR, step, callStep, hc]
        cases h2 : evs t c.args.toList with
        | error e => exact ⟨e, rfl⟩
        | ok args =>
          simp only
          cases h3 : ev t f with
          | error e => exact ⟨e, rfl⟩
          | ok fv =>
            cases fv with
            | func fn first cap =>
              cases fn with
              | func g =>
                simp only [invokeV]
                cases h4 : callable P g with
                | error e => exact ⟨e, rfl⟩
                | ok u => exact ⟨_, rfl⟩
              | yield l => exact ⟨_, rfl⟩
              | _ => exact ⟨_, rfl⟩
            | _ => exact ⟨_, rfl⟩
    | invoke r m => rw [hc] at ho; cases ho
    | builtin b => rw [hc] at ho; cases ho
  | _ => rw [hop] at ho; cases ho

structure SpB (β : Type) where
  i : Nat
  pw : Nat
  m : Nat
  o : Oper
  ops : List Operand
  g : Option GB
  v : Bool
  l : Bool
  a : Bool
  op : OpB β
  dst : DstB β
noncomputable def gOf (ops : Array Oper) (o : Oper) : Option GB := match o.guard with | none => none | some (j, want) => some (guardF ops j want)
noncomputable def spB (P : Program) (N : Nat) (ops : Array Oper) (x : Spot) : SpB β :=
  ⟨x.1, Nat.pow 2 x.1, x.2.1, x.2.2, x.2.2.op.operands.toList, gOf ops x.2.2, valK x.2.2.op, loadK x.2.2.op, actK x.2.2.op, opB P x.2.2.op, dstB N x.2.2.dst⟩
noncomputable def spL (P : Program) (N : Nat) (ops : Array Oper) (l : List Spot) : List (SpB β) := @List.rec Spot (fun _ => List (SpB β)) [] (fun x _ r => spB P N ops x :: r) l
noncomputable def wantB (g : Option GB) (tt : TT) : Bool := @Option.rec GB (fun _ => Bool) true (fun g => g.f tt) g
theorem wantB_eq {ops : Array Oper} {o : Oper} {tt : TT} : wantB (gOf ops o) tt = wanted ops o (TT.fn tt) := by
  unfold gOf
  split
  · rename_i h; simp only [wantB, wanted, h]
  · rename_i j want h
    exact (guardF_ok h tt).symm

structure Rd where
  i : Nat
  o : Oper
  tt : TT
  v : Value
  fresh : Bool
structure D2 where
  done : Nat
  tt : TT
  h : Heap
  rd : List Rd
noncomputable def rdOf (x : Rd) : Nat × Oper × Tmps × Value := (x.i, x.o, TT.fn x.tt, x.v)
noncomputable def stale (l : List Rd) : List Rd := @List.rec Rd (fun _ => List Rd) [] (fun x _ r => ⟨x.i, x.o, x.tt, x.v, false⟩ :: r) l
theorem stale_map : ∀ {l : List Rd}, (stale l).map rdOf = l.map rdOf
  | [] => rfl
  | x :: l => by show rdOf _ :: (stale l).map rdOf = _; rw [stale_map]; rfl
theorem stale_fresh : ∀ {l : List Rd}, ∀ y ∈ stale l, y.fresh = false
  | [], y, h => by cases h
  | x :: l, y, h => by
    have h' : y ∈ (⟨x.i, x.o, x.tt, x.v, false⟩ : Rd) :: stale l := h
    rcases List.mem_cons.1 h' with rfl | h'
    · rfl
    · exact stale_fresh y h'
def FreshOk (P : Program) (d : D2) : Prop := ∀ y ∈ d.rd, y.fresh = true → ∃ h', step P y.o.op (TT.fn y.tt) d.h = .ok (.value y.v h')
noncomputable def D2.ds (d : D2) : DS := ⟨d.done, TT.fn d.tt, d.h, d.rd.map rdOf⟩

noncomputable def low1 (n : Nat) (v : Value) : Bool := match v with | .bool _ => true | .int _ _ => true | .string _ => true | v => Nat.ble (ids v) n
theorem low1_eq {n : Nat} {v : Value} (h : low1 n v = true) : Nat.ble (ids v) n = true := by
  unfold low1 at h
  split at h
  · exact ble_iff.2 (Nat.zero_le _)
  · exact ble_iff.2 (Nat.zero_le _)
  · exact ble_iff.2 (Nat.zero_le _)
  · exact h
noncomputable def lowB (tt : TT) (n : Nat) (l : List Operand) (k : R β) : R β :=
  @List.rec Operand (fun _ => R β) k (fun x _ ih => match x with | .tmp i => ifB (low1 n (TT.fn tt i)) ih (.error "low") | _ => ih) l
theorem lowB_ok {tt : TT} {n : Nat} {k : R β} {z : β} : ∀ {l : List Operand}, lowB tt n l k = .ok z → lowL (TT.fn tt) n l = true ∧ k = .ok z
  | [], h => ⟨rfl, h⟩
  | x :: l, h => by
    have h' : (match x with | .tmp i => ifB (low1 n (TT.fn tt i)) (lowB tt n l k) (.error "low") | _ => lowB tt n l k) = .ok z := h
    cases x with
    | tmp i =>
      obtain ⟨h1, h2⟩ := ifB_ok h'
      obtain ⟨h3, h4⟩ := lowB_ok h2
      exact ⟨by simp only [lowL, low1_eq h1, h3], h4⟩
    | const v => obtain ⟨h3, h4⟩ := lowB_ok h'; exact ⟨by simp only [lowL, h3], h4⟩
    | global g => obtain ⟨h3, h4⟩ := lowB_ok h'; exact ⟨by simp only [lowL, h3], h4⟩
    | func f => obtain ⟨h3, h4⟩ := lowB_ok h'; exact ⟨by simp only [lowL, h3], h4⟩

noncomputable def freshB (m : Nat) (hb : Heap) (k : Option Blk → R β) : R β := bx (freshOf m hb) k
noncomputable def setB (x : SpB β) (d : D2) (v : Value) (h : Heap) (rd : List Rd) (k : D2 → R β) : R β := x.dst.f d.tt v fun tt => k ⟨Nat.lor x.pw d.done, tt, h, rd⟩
noncomputable def putB (x : SpB β) (d : D2) (v : Value) (k : D2 → R β) (b : Option Blk) : R β :=
  @Option.rec Blk (fun _ => R β) (setB x d v d.h d.rd k) (fun b => hput d.h b fun h => setB x d v h (stale d.rd) k) b
noncomputable def readB (P : Program) (x : SpB β) (d : D2) (k : D2 → R β) : R β :=
  bx (step P x.o.op (TT.fn d.tt) d.h) fun td => match td with | .value v _ => setB x d v d.h (⟨x.i, x.o, d.tt, v, true⟩ :: d.rd) k | _ => .error "read"
noncomputable def genB (P : Program) (x : SpB β) (d : D2) (k : D2 → R β) : R β :=
  match stillOf P x.o (TT.fn d.tt) d.h.n with
  | .ok (v, b) => putB x d v k b
  | .error _ => match isRead x.o.op with
    | false => k d
    | true => readB P x d k
noncomputable def oneW (P : Program) (r : Rec) (x : SpB β) (d : D2) (k : D2 → R β) : R β :=
  ifB x.a (k d) (ifB x.v (lowB d.tt d.h.n x.ops (x.op.f r d.tt (blankN d.h.n) fun v hb => freshB d.h.n hb (putB x d v k)))
    (ifB x.l (x.op.f r d.tt d.h fun v _ => setB x d v d.h (⟨x.i, x.o, d.tt, v, true⟩ :: d.rd) k) (genB P x d k)))
noncomputable def oneB (P : Program) (r : Rec) (x : SpB β) (d : D2) (k : D2 → R β) : R β := ifB (wantB x.g d.tt) (oneW P r x d k) (setB x d undef d.h d.rd k)
noncomputable def passB (P : Program) (r : Rec) (l : List (SpB β)) (d : D2) (k : D2 → R β) : R β :=
  @List.rec (SpB β) (fun _ => D2 → (D2 → R β) → R β) (fun d k => k d)
    (fun x _ ih d k => @Bool.rec (fun _ => R β) (ifB (Nat.beq (Nat.lor x.m d.done) d.done) (oneB P r x d fun d => ih d k) (ih d k)) (ih d k) (bitB d.done x.i)) l d k

theorem setB_ok (hN : N ≤ 512) {ops : Array Oper} {x : Spot} {d : D2} {v : Value} {h : Heap} {rd : List Rd} {k : D2 → R β} {z : β} (hh : setB (spB P N ops x) d v h rd k = .ok z) :
    ∃ d' : D2, d'.ds = ⟨Nat.lor (Nat.pow 2 x.1) d.done, put N (TT.fn d.tt) x.2.2.dst v, h, rd.map rdOf⟩ ∧ (d'.h = h ∧ d'.rd = rd) ∧ k d' = .ok z := by
  obtain ⟨tt', h1, h2⟩ := dstB_ok hN (show (dstB N x.2.2.dst).f d.tt v _ = .ok z from hh)
  exact ⟨_, by simp only [D2.ds, h1]; rfl, ⟨rfl, rfl⟩, h2⟩
theorem putB_ok (hN : N ≤ 512) {ops : Array Oper} {x : Spot} {d : D2} {v : Value} {b : Option Blk} {k : D2 → R β} {z : β} (hw : wanted ops x.2.2 (TT.fn d.tt) = true) (hs : stillOf P x.2.2 (TT.fn d.tt) d.h.n = .ok (v, b))
    (hf : FreshOk P d) (hh : putB (spB P N ops x) d v k b = .ok z) : ∃ d' : D2, passOne P N ops x d.ds = .ok d'.ds ∧ FreshOk P d' ∧ k d' = .ok z := by
  cases b with
  | none =>
    obtain ⟨d', h1, ⟨e1, e2⟩, h2⟩ := setB_ok hN (show setB (spB P N ops x) d v d.h d.rd k = .ok z from hh)
    refine ⟨d', ?_, (fun y hy hy' => by rw [e1]; exact hf y (e2 ▸ hy) hy'), h2⟩
    rw [h1]
    unfold passOne
    simp only [D2.ds, hw, hs]
  | some b =>
    obtain ⟨h3, h4⟩ := hput_ok (show hput d.h b _ = .ok z from hh)
    obtain ⟨d', h1, ⟨e1, e2⟩, h2⟩ := setB_ok hN h4
    refine ⟨d', ?_, (fun y hy hy' => by rw [e2] at hy; rw [stale_fresh y hy] at hy'; cases hy'), h2⟩
    rw [h1, stale_map]
    unfold passOne
    simp only [D2.ds, hw, hs, h3, bindR]
theorem oneB_ok (hN : N ≤ 512) {r : Rec} {ops : Array Oper} {x : Spot} {d : D2} {k : D2 → R β} {z : β} (hf : FreshOk P d) (hh : oneB P r (spB P N ops x) d k = .ok z) :
    ∃ d' : D2, passOne P N ops x d.ds = .ok d'.ds ∧ FreshOk P d' ∧ k d' = .ok z := by
  have hh' : ifB (wantB (gOf ops x.2.2) d.tt) (oneW P r (spB P N ops x) d k) (setB (spB P N ops x) d undef d.h d.rd k) = .ok z := hh
  rw [wantB_eq] at hh'
  cases hw : wanted ops x.2.2 (TT.fn d.tt) with
  | false =>
    rw [hw] at hh'
    obtain ⟨d', h1, ⟨e1, e2⟩, h2⟩ := setB_ok hN (show setB (spB P N ops x) d undef d.h d.rd k = .ok z from hh')
    refine ⟨d', ?_, (fun y hy hy' => by rw [e1]; exact hf y (e2 ▸ hy) hy'), h2⟩
    rw [h1]
    unfold passOne
    simp only [D2.ds, hw]
  | true =>
    rw [hw] at hh'
    have hone : oneW P r (spB P N ops x) d k = .ok z := hh'
    have hread : ∀ v h', step P x.2.2.op (TT.fn d.tt) d.h = .ok (.value v h') → (∃ e, stillOf P x.2.2 (TT.fn d.tt) d.h.n = .error e) → isRead x.2.2.op = true →
        setB (spB P N ops x) d v d.h (⟨x.1, x.2.2, d.tt, v, true⟩ :: d.rd) k = .ok z → ∃ d' : D2, passOne P N ops x d.ds = .ok d'.ds ∧ FreshOk P d' ∧ k d' = .ok z := by
      intro v h' hs he hr hset
      obtain ⟨e, he⟩ := he
      obtain ⟨d', h1, ⟨e1, e2⟩, h2⟩ := setB_ok hN hset
      refine ⟨d', ?_, (fun y hy hy' => by
        rw [e1]; rw [e2] at hy
        rcases List.mem_cons.1 hy with rfl | hy
        · exact ⟨h', hs⟩
        · exact hf y hy hy'), h2⟩
      rw [h1]
      unfold passOne
      simp only [D2.ds, hw, he, hr, hs, bindR]
      rfl
    have hone' : ifB (actK x.2.2.op) (k d) (ifB (valK x.2.2.op) (lowB d.tt d.h.n x.2.2.op.operands.toList ((opB P x.2.2.op).f r d.tt (blankN d.h.n) fun v hb => freshB d.h.n hb (putB (spB P N ops x) d v k)))
      (ifB (loadK x.2.2.op) ((opB P x.2.2.op).f r d.tt d.h fun v _ => setB (spB P N ops x) d v d.h (⟨x.1, x.2.2, d.tt, v, true⟩ :: d.rd) k) (genB P (spB P N ops x) d k))) = .ok z := hone
    cases ha : actK x.2.2.op with
    | true =>
      rw [ha] at hone'
      obtain ⟨⟨e, h1⟩, h2⟩ := still_act (P := P) ha (t := TT.fn d.tt) (m := d.h.n)
      refine ⟨d, ?_, hf, hone'⟩
      unfold passOne
      simp only [D2.ds, hw, h1, h2]
    | false =>
      rw [ha] at hone'
      simp only [ifB] at hone'
      cases hv : valK x.2.2.op with
      | true =>
        rw [hv] at hone'
        simp only at hone'
        obtain ⟨h1, h2⟩ := lowB_ok hone'
        obtain ⟨v, hb, h3, h4⟩ := opB_ok (P := P) r d.tt (blankN d.h.n) _ z h2
        obtain ⟨b, h5, h6⟩ := bx_ok.1 h4
        refine putB_ok hN hw ?_ hf h6
        unfold stepW at h3
        obtain ⟨td, h7, h8⟩ := bindR_ok.1 h3
        obtain ⟨v', hb', rfl⟩ := valK_value hv h7
        simp only [Except.ok.injEq, Prod.mk.injEq] at h8
        obtain ⟨rfl, rfl⟩ := h8
        unfold stillOf
        simp only [mustM, h1, bindR, h7, h5]
      | false =>
        rw [hv] at hone'
        simp only at hone'
        cases hl : loadK x.2.2.op with
        | true =>
          rw [hl] at hone'
          simp only at hone'
          obtain ⟨v, h', h3, h4⟩ := opB_ok (P := P) r d.tt d.h _ z hone'
          cases hop : x.2.2.op with
          | load ty a =>
            unfold stepW at h3
            rw [hop] at h3
            obtain ⟨td, h7, h8⟩ := bindR_ok.1 h3
            have : ∃ v h', td = .value v h' := by
              simp only [step] at h7
              obtain ⟨_, _, h7⟩ := bindR_ok.1 h7
              obtain ⟨v, _, e⟩ := bindR_ok.1 h7; cases e; exact ⟨_, _, rfl⟩
            obtain ⟨v', hb', rfl⟩ := this
            simp only [Except.ok.injEq, Prod.mk.injEq] at h8
            obtain ⟨rfl, rfl⟩ := h8
            exact hread v' hb' (by rw [hop]; exact h7) (still_load hop) (by rw [hop]; rfl) h4
          | _ => rw [hop] at hl; cases hl
        | false =>
          rw [hl] at hone'
          have hg : genB P (spB P N ops x) d k = .ok z := hone'
          unfold genB at hg
          split at hg
          · rename_i v b hs
            exact putB_ok hN hw hs hf hg
          · rename_i e hs
            have hs' : stillOf P x.2.2 (TT.fn d.tt) d.h.n = .error e := hs
            split at hg
            · rename_i hr
              have hr' : isRead x.2.2.op = false := hr
              refine ⟨d, ?_, hf, hg⟩
              unfold passOne
              simp only [D2.ds, hw, hs', hr']
            · rename_i hr
              obtain ⟨td, h1, h2⟩ := bx_ok.1 (show bx (step P x.2.2.op (TT.fn d.tt) d.h) _ = .ok z from hg)
              split at h2
              · exact hread _ _ h1 ⟨e, hs'⟩ hr h2
              · cases h2

theorem passB_ok (hN : N ≤ 512) {r : Rec} {ops : Array Oper} : ∀ {l : List Spot} {d : D2} {k : D2 → R β} {z : β}, FreshOk P d → passB P r (spL P N ops l) d k = .ok z →
    ∃ d' : D2, pass P N ops l d.ds = .ok d'.ds ∧ FreshOk P d' ∧ k d' = .ok z
  | [], d, k, z, hf, hh => ⟨d, rfl, hf, hh⟩
  | x :: l, d, k, z, hf, hh => by
    have hh' : (@Bool.rec (fun _ => R β) (ifB (Nat.beq (Nat.lor x.2.1 d.done) d.done) (oneB P r (spB P N ops x) d fun d => passB P r (spL P N ops l) d k) (passB P r (spL P N ops l) d k)) (passB P r (spL P N ops l) d k) (bitB d.done x.1)) = .ok z := hh
    rw [bitB_eq] at hh'
    simp only [pass]
    have e1 : d.ds.done = d.done := rfl
    rw [e1]
    cases hb : bit d.done x.1 with
    | true => rw [hb] at hh'; exact passB_ok hN hf hh'
    | false =>
      rw [hb] at hh'
      have hh'' : ifB (Nat.beq (Nat.lor x.2.1 d.done) d.done) (oneB P r (spB P N ops x) d fun d => passB P r (spL P N ops l) d k) (passB P r (spL P N ops l) d k) = .ok z := hh'
      have e2 : sub x.2.1 d.done = Nat.beq (Nat.lor x.2.1 d.done) d.done := rfl
      rw [e2]
      cases hs : Nat.beq (Nat.lor x.2.1 d.done) d.done with
      | false => rw [hs] at hh''; exact passB_ok hN hf hh''
      | true =>
        rw [hs] at hh''
        obtain ⟨d', h1, hf', h2⟩ := oneB_ok hN hf (show oneB P r (spB P N ops x) d _ = .ok z from hh'')
        obtain ⟨d'', h3, hf'', h4⟩ := passB_ok hN hf' h2
        exact ⟨d'', bindR_ok.2 ⟨d'.ds, h1, h3⟩, hf'', h4⟩

def selfOk (v : Value) : Bool := match v with | .bool _ => true | .int _ _ => true | .string _ => true | .pointer _ => true | .slice _ _ _ => true | .map _ => true | v => sameV 20 v v
theorem selfOk_ok {v : Value} (h : selfOk v = true) : sameV 20 v v = true := by
  unfold selfOk at h
  split at h <;> first | exact h | simp [sameV, Nat.beq_refl]
noncomputable def sameF (v u : Value) : Bool :=
  match v with
  | .int k a => (match u with | .int l b => @Bool.rec (fun _ => Bool) false (eqI a b) (Nat.beq (kn k) (kn l)) | _ => false)
  | .slice (some ⟨b, o, none⟩) n c => (match u with | .slice (some ⟨b', o', none⟩) n' c' => Nat.beq b b' && (Nat.beq o o' && (Nat.beq n n' && Nat.beq c c')) | _ => false)
  | v => sameV 20 v u
theorem sameF_ok {v u : Value} (h : sameF v u = true) : sameV 20 v u = true := by
  unfold sameF at h
  split at h
  · split at h
    · rename_i k a _ l b
      cases hb : Nat.beq (kn k) (kn l) with
      | false => rw [hb] at h; cases h
      | true =>
        rw [hb] at h
        have h' : eqI a b = true := h
        rw [eqI_eq] at h'
        obtain rfl := kn_inj hb
        simp only [sameV, h', Bool.and_true]
        simp
    · cases h
  · split at h
    · rename_i b o n c b' o' n' c'
      simp only [Bool.and_eq_true] at h
      obtain ⟨h1, h2, h3, h4⟩ := h
      obtain rfl := Nat.eq_of_beq_eq_true h1
      obtain rfl := Nat.eq_of_beq_eq_true h2
      simp [sameV, h3, h4]
    · cases h
  · exact h
noncomputable def recB (P : Program) (r : Rec) (h : Heap) (l : List Rd) (k : R β) : R β :=
  @List.rec Rd (fun _ => R β) k (fun x _ ih => ifB x.fresh (ifB (selfOk x.v) ih (.error "recheck"))
    (ifB (loadK x.o.op) ((opB P x.o.op).f r x.tt h fun u _ => ifB (sameF x.v u) ih (.error "recheck")) (bx (step P x.o.op (TT.fn x.tt) h) fun td => match td with | .value u _ => ifB (sameF x.v u) ih (.error "recheck") | _ => .error "recheck"))) l
theorem recB_ok {r : Rec} {h : Heap} {k : R β} {z : β} : ∀ {l : List Rd}, (∀ y ∈ l, y.fresh = true → ∃ h', step P y.o.op (TT.fn y.tt) h = .ok (.value y.v h')) → recB P r h l k = .ok z → recheck P h (l.map rdOf) = .ok () ∧ k = .ok z
  | [], _, hh => ⟨rfl, hh⟩
  | x :: l, hf, hh => by
    have hf' : ∀ y ∈ l, y.fresh = true → ∃ h', step P y.o.op (TT.fn y.tt) h = .ok (.value y.v h') := fun y hy => hf y (List.mem_cons_of_mem _ hy)
    have fin : ∀ u h', step P x.o.op (TT.fn x.tt) h = .ok (.value u h') → sameV 20 x.v u = true → recB P r h l k = .ok z → recheck P h ((x :: l).map rdOf) = .ok () ∧ k = .ok z := by
      intro u h' h1 h2 h3
      obtain ⟨h4, h5⟩ := recB_ok hf' h3
      refine ⟨?_, h5⟩
      simp only [List.map_cons, rdOf, recheck, h1, bindR, mustM, h2]
      exact h4
    have hh' : ifB x.fresh (ifB (selfOk x.v) (recB P r h l k) (.error "recheck"))
      (ifB (loadK x.o.op) ((opB P x.o.op).f r x.tt h fun u _ => ifB (sameF x.v u) (recB P r h l k) (.error "recheck")) (bx (step P x.o.op (TT.fn x.tt) h) fun td => match td with | .value u _ => ifB (sameF x.v u) (recB P r h l k) (.error "recheck") | _ => .error "recheck")) = .ok z := hh
    cases hfr : x.fresh with
    | true =>
      rw [hfr] at hh'
      obtain ⟨h1, h2⟩ := ifB_ok (show ifB (selfOk x.v) (recB P r h l k) (.error "recheck") = .ok z from hh')
      obtain ⟨h', h3⟩ := hf x (List.mem_cons_self ..) hfr
      exact fin _ _ h3 (selfOk_ok h1) h2
    | false =>
      rw [hfr] at hh'
      simp only [ifB] at hh'
      cases hl : loadK x.o.op with
      | true =>
        rw [hl] at hh'
        simp only at hh'
        obtain ⟨u, h', h1, h2⟩ := opB_ok (P := P) r x.tt h _ z hh'
        obtain ⟨h3, h4⟩ := ifB_ok (show ifB (sameF x.v u) (recB P r h l k) (.error "recheck") = .ok z from h2)
        cases hop : x.o.op with
        | load ty a =>
          unfold stepW at h1
          rw [hop] at h1
          obtain ⟨td, h7, h8⟩ := bindR_ok.1 h1
          have : ∃ v h', td = .value v h' := by
            simp only [step] at h7
            obtain ⟨_, _, h7⟩ := bindR_ok.1 h7
            obtain ⟨v, _, e⟩ := bindR_ok.1 h7; cases e; exact ⟨_, _, rfl⟩
          obtain ⟨v', hb', rfl⟩ := this
          simp only [Except.ok.injEq, Prod.mk.injEq] at h8
          obtain ⟨rfl, rfl⟩ := h8
          exact fin v' hb' (by rw [hop]; exact h7) (sameF_ok h3) h4
        | _ => rw [hop] at hl; cases hl
      | false =>
        rw [hl] at hh'
        obtain ⟨td, h1, h2⟩ := bx_ok.1 (show bx (step P x.o.op (TT.fn x.tt) h) _ = .ok z from hh')
        split at h2
        · rename_i u h'
          obtain ⟨h3, h4⟩ := ifB_ok (show ifB (sameF x.v u) (recB P r h l k) (.error "recheck") = .ok z from h2)
          exact fin _ _ h1 (sameF_ok h3) h4
        · cases h2

noncomputable def undK (done : Nat) (l : List (SpB β)) (k0 : R β) (k1 : SpB β → List (SpB β) → R β) : R β :=
  @List.rec (SpB β) (fun _ => R β) k0 (fun x t ih => @Bool.rec (fun _ => R β) (k1 x t) ih (bitB done x.i)) l
noncomputable def allK (done : Nat) (l : List (SpB β)) (k : R β) : R β :=
  @List.rec (SpB β) (fun _ => R β) k (fun x _ ih => @Bool.rec (fun _ => R β) (ifB (Nat.beq (Nat.lor x.m done) done) (.error "drawW") ih) ih (bitB done x.i)) l
noncomputable def filtB (m : Nat) (l : List Rd) : List Rd := @List.rec Rd (fun _ => List Rd) [] (fun x _ r => @Bool.rec (fun _ => List Rd) (⟨x.i, x.o, x.tt, x.v, false⟩ :: r) r (bitB m x.i)) l
theorem filtB_map {m : Nat} : ∀ {l : List Rd}, (filtB m l).map rdOf = (l.map rdOf).filter fun y => !bit m y.1
  | [] => rfl
  | x :: l => by
    have e : filtB m (x :: l) = @Bool.rec (fun _ => List Rd) (⟨x.i, x.o, x.tt, x.v, false⟩ :: filtB m l) (filtB m l) (bitB m x.i) := rfl
    rw [e, bitB_eq, List.map_cons, List.filter_cons]
    have e2 : (rdOf x).1 = x.i := rfl
    rw [e2]
    cases bit m x.i with
    | true => simp only [Bool.not_true, Bool.false_eq_true, if_false]; exact filtB_map
    | false => simp only [Bool.not_false, if_true, List.map_cons]; rw [filtB_map]; rfl
theorem filtB_fresh {m : Nat} : ∀ {l : List Rd}, ∀ y ∈ filtB m l, y.fresh = false
  | [], y, h => by cases h
  | x :: l, y, h => by
    have e : filtB m (x :: l) = @Bool.rec (fun _ => List Rd) (⟨x.i, x.o, x.tt, x.v, false⟩ :: filtB m l) (filtB m l) (bitB m x.i) := rfl
    rw [e] at h
    cases hb : bitB m x.i with
    | true => rw [hb] at h; exact filtB_fresh y h
    | false =>
      rw [hb] at h
      rcases List.mem_cons.1 (show y ∈ (⟨x.i, x.o, x.tt, x.v, false⟩ : Rd) :: filtB m l from h) with rfl | h
      · rfl
      · exact filtB_fresh y h
theorem allK_ok {ops : Array Oper} {done : Nat} {k : R β} {z : β} : ∀ {l : List Spot}, allK done (spL P N ops l) k = .ok z → ((undone done l).all fun y => !sub y.2.1 done) = true ∧ k = .ok z
  | [], h => ⟨rfl, h⟩
  | x :: l, h => by
    have h' : (@Bool.rec (fun _ => R β) (ifB (Nat.beq (Nat.lor x.2.1 done) done) (.error "drawW") (allK done (spL P N ops l) k)) (allK done (spL P N ops l) k) (bitB done x.1)) = .ok z := h
    rw [bitB_eq] at h'
    simp only [undone]
    cases hb : bit done x.1 with
    | true => rw [hb] at h'; exact allK_ok h'
    | false =>
      rw [hb] at h'
      have h'' : ifB (Nat.beq (Nat.lor x.2.1 done) done) (.error "drawW") (allK done (spL P N ops l) k) = .ok z := h'
      cases hs : Nat.beq (Nat.lor x.2.1 done) done with
      | true => rw [hs] at h''; cases h''
      | false =>
        rw [hs] at h''
        obtain ⟨h1, h2⟩ := allK_ok (show allK done (spL P N ops l) k = .ok z from h'')
        refine ⟨?_, h2⟩
        have e2 : sub x.2.1 done = false := hs
        simp only [List.all_cons, e2, h1, Bool.not_false, Bool.and_self]

abbrev Kont2' (β : Type) := AExit → TT → Heap → R β
noncomputable def drawWB (P : Program) (r : Rec) (l : List (SpB β)) (rec : D2 → (D2 → R β) → R β) (d : D2) (k : D2 → R β) : R β :=
  undK d.done l (k d) fun x t => allK d.done t (ifB (Nat.beq (Nat.lor x.m d.done) d.done) (ifB (wantB x.g d.tt)
    (x.op.f r d.tt d.h fun v h => x.dst.f d.tt v fun tt => rec ⟨Nat.lor x.pw d.done, tt, h, filtB x.m d.rd⟩ k) (.error "drawW")) (.error "drawW"))
noncomputable def drawLB (P : Program) (r : Rec) (l : List (SpB β)) (n : Nat) : D2 → (D2 → R β) → R β :=
  @Nat.rec (fun _ => D2 → (D2 → R β) → R β) (fun _ _ => .error "fuel") (fun _ ih d k => passB P r l d fun d => recB P r d.h d.rd (drawWB P r l ih d k)) n
theorem drawWB_ok (hN : N ≤ 512) {r : Rec} {ops : Array Oper} {pl : List Spot} {rec : D2 → (D2 → R β) → R β} {rc : DS → R β} {d : D2} {k : D2 → R β} {kk : Kont β} {z : β}
    (hrec : ∀ d, FreshOk P d → rec d k = .ok z → rc d.ds = .ok z) (hk : ∀ d : D2, k d = .ok z → kk .normal (TT.fn d.tt) d.h = .ok z) :
    ∀ {l : List Spot}, undone d.done l = undone d.done pl → undK d.done (spL P N ops l) (k d) (fun x t => allK d.done t (ifB (Nat.beq (Nat.lor x.m d.done) d.done) (ifB (wantB x.g d.tt)
    (x.op.f r d.tt d.h fun v h => x.dst.f d.tt v fun tt => rec ⟨Nat.lor x.pw d.done, tt, h, filtB x.m d.rd⟩ k) (.error "drawW")) (.error "drawW"))) = .ok z → drawW P r N ops pl rc d.ds kk = .ok z
  | [], hu, hh => by
    unfold drawW
    rw [show undone d.ds.done pl = [] from hu.symm]
    exact hk d hh
  | x :: l, hu, hh => by
    have hh' : (@Bool.rec (fun _ => R β) (allK d.done (spL P N ops l) (ifB (Nat.beq (Nat.lor x.2.1 d.done) d.done) (ifB (wantB (gOf ops x.2.2) d.tt)
      ((opB P x.2.2.op).f r d.tt d.h fun v h => (dstB N x.2.2.dst).f d.tt v fun tt => rec ⟨Nat.lor (Nat.pow 2 x.1) d.done, tt, h, filtB x.2.1 d.rd⟩ k) (.error "drawW")) (.error "drawW")))
      (undK d.done (spL P N ops l) (k d) (fun x t => allK d.done t (ifB (Nat.beq (Nat.lor x.m d.done) d.done) (ifB (wantB x.g d.tt)
    (x.op.f r d.tt d.h fun v h => x.dst.f d.tt v fun tt => rec ⟨Nat.lor x.pw d.done, tt, h, filtB x.m d.rd⟩ k) (.error "drawW")) (.error "drawW")))) (bitB d.done x.1)) = .ok z := hh
    rw [bitB_eq] at hh'
    cases hb : bit d.done x.1 with
    | true =>
      rw [hb] at hh'
      refine drawWB_ok hN hrec hk (l := l) ?_ hh'
      rw [← hu]; simp only [undone, hb]
    | false =>
      rw [hb] at hh'
      obtain ⟨h1, h2⟩ := allK_ok (show allK d.done (spL P N ops l) _ = .ok z from hh')
      obtain ⟨h3, h4⟩ := ifB_ok h2
      obtain ⟨h5, h6⟩ := ifB_ok h4
      obtain ⟨v, h', h7, h8⟩ := opB_ok (P := P) r d.tt d.h _ z h6
      obtain ⟨tt', h9, h10⟩ := dstB_ok hN h8
      rw [wantB_eq] at h5
      unfold drawW
      rw [show undone d.ds.done pl = x :: undone d.done l by rw [show d.ds.done = d.done from rfl, ← hu]; simp only [undone, hb]]
      simp only
      have e1 : sub x.2.1 d.ds.done = true := h3
      have e2 : wanted ops x.2.2 d.ds.t = true := h5
      have e3 : ((undone d.done l).all fun y => !sub y.2.1 d.ds.done) = true := h1
      rw [e1, e2, e3]
      refine bindR_ok.2 ⟨(), rfl, bindR_ok.2 ⟨(v, h'), h7, ?_⟩⟩
      have := hrec _ (fun y hy hy' => by rw [filtB_fresh y hy] at hy'; cases hy') h10
      simp only [D2.ds, h9, filtB_map] at this
      exact this
theorem drawLB_ok (hN : N ≤ 512) {r : Rec} {ops : Array Oper} {pl : List Spot} {k : D2 → R β} {kk : Kont β} {z : β} (hk : ∀ d : D2, k d = .ok z → kk .normal (TT.fn d.tt) d.h = .ok z) :
    ∀ {n : Nat} {d : D2}, FreshOk P d → drawLB P r (spL P N ops pl) n d k = .ok z → drawL P r N ops pl kk n d.ds = .ok z
  | 0, d, _, hh => by cases hh
  | n + 1, d, hf, hh => by
    have hh' : passB P r (spL P N ops pl) d (fun d => recB P r d.h d.rd (drawWB P r (spL P N ops pl) (drawLB P r (spL P N ops pl) n) d k)) = .ok z := hh
    obtain ⟨d', h1, hf', h2⟩ := passB_ok hN hf hh'
    obtain ⟨h3, h4⟩ := recB_ok hf' h2
    simp only [drawL]
    refine bindR_ok.2 ⟨d'.ds, h1, bindR_ok.2 ⟨(), h3, ?_⟩⟩
    exact drawWB_ok hN (fun d hd hx => drawLB_ok hN hk hd hx) hk rfl h4

noncomputable def c_drawB (P : Program) (N : Nat) (ops : Array Oper) : DenB β :=
  @Bool.rec (fun _ => DenB β) ⟨fun _ _ _ _ => .error "static"⟩ ⟨fun v tt h k => drawLB P v.r (spL P N ops (planL ops.toList 0 [])) (Nat.succ ops.size) ⟨0, tt, h, []⟩ fun d => k .normal d.tt d.h⟩
    (P.follows .mixedOrders && static ops N (planL ops.toList 0 []))
theorem drawB_ok (hN : N ≤ 512) {ops : Array Oper} {v : Env} {tt : TT} {h : Heap} {k2 : Kont2 β} {k : Kont β} {x : β} (hk : ∀ e tt h, k2 e tt h = .ok x → k e (TT.fn tt) h = .ok x)
    (hh : (c_drawB P N ops).f v tt h k2 = .ok x) : drawK P v.r N ops (TT.fn tt) h k = .ok x := by
  unfold c_drawB at hh
  unfold drawK
  cases hs : (P.follows .mixedOrders && static ops N (planL ops.toList 0 [])) with
  | false => rw [hs] at hh; cases hh
  | true =>
    rw [hs] at hh
    refine bindR_ok.2 ⟨(), rfl, ?_⟩
    exact drawLB_ok hN (fun d hd => hk _ _ _ hd) (d := ⟨0, tt, h, []⟩) (fun y hy => by cases hy) hh
end
end Go.AM
