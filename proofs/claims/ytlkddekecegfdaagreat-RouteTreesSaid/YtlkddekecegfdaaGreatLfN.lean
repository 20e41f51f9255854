/- Of the abstract machine, for all programs: definitions and lemmas, no claim of its own; no condition. -/
import Derived.Test.YtlkddekecegfdaaGreatLfK
set_option linter.unusedVariables false
set_option linter.unusedSimpArgs false
namespace Go.AM
open Go

/-! ### Regions that draw, in the machine's own order -/
noncomputable def dgo {β : Type} (P : Program) (r : Rec) (N : Nat) (ops : Array Oper) (k : Kont β) (n : Nat) (xs : List Spot) (d : DS) : R β :=
  bindR (pass P N ops xs d) fun d => bindR (recheck P d.h d.rd) fun _ => drawW P r N ops (planL ops.toList 0 []) (drawL P r N ops (planL ops.toList 0 []) k n) d k
section
variable {δ ε β : Type} {P : Program} {r : Rec} {L N n m : Nat} {rd : Option Nat} {env : Env} {t0 : Tmps} {h h' : Heap} {k : Kont β} {Q : δ → β → Prop} {M : R δ} {φ φ' : Fz} {lo : Nat} {own : OwnL}
variable {ops : Array Oper} {xs : List Spot} {i j mk done : Nat} {d : Tmp} {ty : TypeId} {pos : String} {af : Array Edge} {g : Option (Nat × Bool)} {v : Value} {op : Op} {X : R Value} {rl : List (Nat × Oper × Tmps × Value)} {o : Oper}
theorem dgo_start {id : Nat} {t : Tmps} (hn : ops.size = n) (hst : (P.follows .mixedOrders && static ops N (planL ops.toList 0 [])) = true) (hk : Sim (dgo P r N ops k n (planL ops.toList 0 []) ⟨0, t, h, []⟩) M Q) : Sim (den P r L N rd (.region id ops true) t h k) M Q := by
  subst hn
  have : den P r L N rd (.region id ops true) t h k = dgo P r N ops k ops.size (planL ops.toList 0 []) ⟨0, t, h, []⟩ := by
    show drawK P r N ops t h k = _
    unfold drawK
    rw [hst]
    rfl
  rw [this]; exact hk
theorem dgo_skip {x : Spot} {s : DS} (hk : Sim (dgo P r N ops k n xs s) M Q) (hs : (bit s.done x.1 || !sub x.2.1 s.done) = true := by first | rfl | kernel_rfl) : Sim (dgo P r N ops k n (x :: xs) s) M Q := by
  have : dgo P r N ops k n (x :: xs) s = dgo P r N ops k n xs s := by
    unfold dgo
    rw [pass]
    cases h1 : bit s.done x.1 <;> cases h2 : sub x.2.1 s.done <;> simp_all
  rw [this]; exact hk
theorem dgo_one {x : Spot} {s s' : DS} (hr : (!bit s.done x.1 && sub x.2.1 s.done) = true) (ho : passOne P N ops x s = .ok s') : dgo P r N ops k n (x :: xs) s = dgo P r N ops k n xs s' := by
  unfold dgo
  rw [pass]
  simp only [Bool.and_eq_true, Bool.not_eq_true'] at hr
  rw [hr.1, hr.2]
  simp only [ho, bindR]
theorem gpure (hw : wanted ops ⟨some d, op, ty, pos, af, g⟩ (TT env t0) = true) (hX : PureOk P op (TT env t0) X) (hl : lowL (TT env t0) h.n op.operands.toList = true) (hv : X = .ok v) (hd : Nat.blt d N = true)
    (hk : Sim (dgo P r N ops k n xs ⟨Nat.lor (Nat.pow 2 i) done, TT ((d, v) :: env) t0, h, rl⟩) M Q) (hr : (!bit done i && sub mk done) = true := by first | rfl | kernel_rfl) :
    Sim (dgo P r N ops k n ((i, mk, ⟨some d, op, ty, pos, af, g⟩) :: xs) ⟨done, TT env t0, h, rl⟩) M Q := by
  have hs : stillOf P ⟨some d, op, ty, pos, af, g⟩ (TT env t0) h.n = .ok (v, none) := by
    unfold stillOf
    simp only [hl, hX v hv (blankN h.n), mustM, bindR, freshOf_blank]
  rw [dgo_one hr (s' := ⟨Nat.lor (Nat.pow 2 i) done, TT ((d, v) :: env) t0, h, rl⟩) (by simp only [passOne, hw, hs, put_TT hd])]
  exact hk
theorem gload {a : Operand} {ty' : TypeId} (hw : wanted ops ⟨some d, .load ty' a, ty, pos, af, g⟩ (TT env t0) = true) (hX : ReadOk P (.load ty' a) (TT env t0) h X) (hv : X = .ok v) (hd : Nat.blt d N = true)
    (hk : Sim (dgo P r N ops k n xs ⟨Nat.lor (Nat.pow 2 i) done, TT ((d, v) :: env) t0, h, (i, ⟨some d, .load ty' a, ty, pos, af, g⟩, TT env t0, v) :: rl⟩) M Q) (hr : (!bit done i && sub mk done) = true := by first | rfl | kernel_rfl) :
    Sim (dgo P r N ops k n ((i, mk, ⟨some d, .load ty' a, ty, pos, af, g⟩) :: xs) ⟨done, TT env t0, h, rl⟩) M Q := by
  obtain ⟨e, he⟩ := still_load (P := P) (o := ⟨some d, .load ty' a, ty, pos, af, g⟩) rfl (t := TT env t0) (m := h.n)
  rw [dgo_one hr (s' := ⟨Nat.lor (Nat.pow 2 i) done, TT ((d, v) :: env) t0, h, (i, ⟨some d, .load ty' a, ty, pos, af, g⟩, TT env t0, v) :: rl⟩) (by
    simp only [passOne, hw, he, isRead, hX v hv, bindR, put_TT hd])]
  exact hk
theorem still_fresh {t : Tmps} {blk : Blk} (hl : lowL t m o.op.operands.toList = true) (hs : step P o.op t (blankN m) = .ok (.value v ((blankN m).put blk))) (ho : owned blk = true) : stillOf P o t m = .ok (v, some blk) := by
  have h1 : ((blankN m).put blk).n = Nat.succ m := rfl
  have h2 : ((blankN m).put blk).get m = blk := get_put_self (h := blankN m) trivial
  unfold stillOf
  rw [hl, hs]
  simp only [mustM, bindR, freshOf, h1, h2, ho]
  have h3 : Nat.beq (Nat.succ m) m = false := by
    cases hb : Nat.beq (Nat.succ m) m with
    | false => rfl
    | true => have := Nat.eq_of_beq_eq_true hb; omega
  rw [h3]
  simp
theorem gfresh {blk : Blk} (hw : wanted ops ⟨some d, op, ty, pos, af, g⟩ (TT env t0) = true) (hl : lowL (TT env t0) h.n op.operands.toList = true) (hs : step P op (TT env t0) (blankN h.n) = .ok (.value v ((blankN h.n).put blk))) (ho : owned blk = true) (hd : Nat.blt d N = true)
    (hS : St φ lo h own) (hk : ∀ h', h' = h.put blk → St φ lo h' ((some h.n, blk) :: own) → Sim (dgo P r N ops k n xs ⟨Nat.lor (Nat.pow 2 i) done, TT ((d, v) :: env) t0, h', rl⟩) M Q) (hr : (!bit done i && sub mk done) = true) :
    Sim (dgo P r N ops k n ((i, mk, ⟨some d, op, ty, pos, af, g⟩) :: xs) ⟨done, TT env t0, h, rl⟩) M Q := by
  have hst := still_fresh (o := ⟨some d, op, ty, pos, af, g⟩) hl hs ho
  rw [dgo_one hr (s' := ⟨Nat.lor (Nat.pow 2 i) done, TT ((d, v) :: env) t0, h.put blk, rl⟩) (by
    simp only [passOne, hw, hst, Heap.room, bindR, put_TT hd])]
  exact hk _ rfl (hS.put _)
/-- One that must wait. -/
theorem gwait {t : Tmps} (hw : wanted ops o t = true) (he : ∃ e, stillOf P o t h.n = .error e) (hr' : isRead o.op = false) (hk : Sim (dgo P r N ops k n xs ⟨done, t, h, rl⟩) M Q) (hr : (!bit done i && sub mk done) = true := by first | rfl | kernel_rfl) :
    Sim (dgo P r N ops k n ((i, mk, o) :: xs) ⟨done, t, h, rl⟩) M Q := by
  obtain ⟨e, he⟩ := he
  rw [dgo_one hr (s' := ⟨done, t, h, rl⟩) (by simp only [passOne, hw, he, hr'])]
  exact hk
theorem still_call {t : Tmps} {c : Call} {f : FuncId} (ho : o.op = .call c) (hc : c.callee = .value (.func f)) (hcal : callable P f = .ok ()) (ha : okL c.args.toList = true) : ∃ e, stillOf P o t m = .error e := by
  unfold stillOf
  rw [ho]
  cases h1 : mustM "low" (lowL t m (Op.call c).operands.toList) with
  | error e => exact ⟨e, rfl⟩
  | ok u => exact ⟨"still", by simp only [bindR, step, callStep, evs_ok ha, hc, ev, invokeV, hcal]⟩
end
end Go.AM
namespace Go.AM
open Go
section
variable {δ ε β : Type} {P : Program} {r : Rec} {L N n m : Nat} {rd : Option Nat} {env : Env} {t0 : Tmps} {h h' : Heap} {k : Kont β} {Q : δ → β → Prop} {M : R δ} {φ φ' : Fz} {lo : Nat} {own : OwnL}
variable {ops : Array Oper} {xs us : List Spot} {i j mk done : Nat} {d : Tmp} {ty : TypeId} {pos : String} {af : Array Edge} {g : Option (Nat × Bool)} {v : Value} {op : Op} {X : R Value} {XH : R (Value × Heap)} {rl : List (Nat × Oper × Tmps × Value)} {o : Oper} {t : Tmps}
theorem rk_nil : recheck P h [] = .ok () := rfl
theorem rk_cons {q : Nat} (hX : ReadOk P o.op t h X) (hv : X = .ok v) (hs : sameV 20 v v = true) (hk : recheck P h rl = .ok ()) : recheck P h ((q, o, t, v) :: rl) = .ok () := by
  simp only [recheck, hX v hv, bindR, hs, mustM, hk]
theorem gend {t : Tmps} (hrk : recheck P h rl = .ok ()) (hk : Sim (k .normal t h) M Q) (hu : undone done (planL ops.toList 0 []) = [] := by first | rfl | kernel_rfl) : Sim (dgo P r N ops k n [] ⟨done, t, h, rl⟩) M Q := by
  have : dgo P r N ops k n [] ⟨done, t, h, rl⟩ = k .normal t h := by
    unfold dgo
    simp only [pass, bindR, hrk, drawW, hu]
  rw [this]; exact hk
theorem dgo_act {t : Tmps} (hrk : recheck P h rl = .ok ()) (hu : undone done (planL ops.toList 0 []) = (i, mk, o) :: us) (hs : (sub mk done && us.all fun y => !sub y.2.1 done) = true) (hw : wanted ops o t = true) (hn : n = m + 1) :
    dgo P r N ops k n [] ⟨done, t, h, rl⟩ = bindR (stepV P r o t h) fun p => dgo P r N ops k m (planL ops.toList 0 []) ⟨Nat.lor (Nat.pow 2 i) done, put N t o.dst p.1, p.2, rl.filter fun y => !bit mk y.1⟩ := by
  subst hn
  simp only [Bool.and_eq_true] at hs
  obtain ⟨h1, h2⟩ := hs
  unfold dgo
  simp only [pass, bindR, hrk, drawW, hu, h1, h2, hw, mustM, Bool.and_self]
  cases stepV P r o t h with
  | error e => rfl
  | ok p => rfl
def pickL {α : Type} : List Bool → List α → List α
  | true :: ks, x :: l => x :: pickL ks l
  | false :: ks, _ :: l => pickL ks l
  | _, _ => []
theorem filter_pick {α : Type} {p : α → Bool} : ∀ {l : List α} {ks : List Bool}, l.map p = ks → l.filter p = pickL ks l
  | [], ks, h => by subst h; rfl
  | x :: l, ks, h => by
    subst h
    simp only [List.map_cons, List.filter_cons]
    cases hp : p x with
    | true => simp only [if_true, pickL]; rw [filter_pick rfl]
    | false => simp only [Bool.false_eq_true, if_false, pickL]; rw [filter_pick rfl]
theorem gcall {c : Call} {f : FuncId} {args : Array Value} {M1 : R ε} {Q1 : ε → Value × Heap → Prop} {F : ε → R δ} (ks : List Bool) (hrk : recheck P h rl = .ok ()) (hu : undone done (planL ops.toList 0 []) = (i, mk, ⟨some d, .call c, ty, pos, af, g⟩) :: us) (hs : (sub mk done && us.all fun y => !sub y.2.1 done) = true)
    (hw : wanted ops ⟨some d, .call c, ty, pos, af, g⟩ (TT env t0) = true) (hn : n = m + 1) (hc : c.callee = .value (.func f)) (hcal : callable P f = .ok ())
    (ha : okL c.args.toList = true) (hv : (oevL (TT env t0) c.args.toList).toArray = args) (hsim : Sim (r.call f args h) M1 Q1) (hd : Nat.blt d N = true)
    (hk : ∀ e v h', Q1 e (v, h') → Sim (dgo P r N ops k m (planL ops.toList 0 []) ⟨Nat.lor (Nat.pow 2 i) done, TT ((d, v) :: env) t0, h', pickL ks rl⟩) (F e) Q) (hks : (rl.map fun y => !bit mk y.1) = ks := by first | rfl | kernel_rfl) :
    Sim (dgo P r N ops k n [] ⟨done, TT env t0, h, rl⟩) (bindR M1 F) Q := by
  have h1 : stepV P r ⟨some d, .call c, ty, pos, af, g⟩ (TT env t0) h = r.call f args h := by
    rw [← hv]
    simp only [stepV, step, callStep, evs_ok ha, bindR, hc, ev, invokeV, hcal]; simp
  rw [dgo_act hrk hu hs hw hn, h1, filter_pick hks]
  simp only [put_TT hd]
  exact Sim.bind hsim fun e p hq => hk e p.1 p.2 hq
end
end Go.AM
namespace Go.AM
open Go
section
variable {δ ε β : Type} {P : Program} {r : Rec} {L N n m : Nat} {rd : Option Nat} {env : Env} {t0 : Tmps} {h h' : Heap} {k : Kont β} {Q : δ → β → Prop} {M : R δ} {φ φ' : Fz} {lo : Nat} {own : OwnL}
variable {ops : Array Oper} {xs us : List Spot} {i j mk done : Nat} {d : Tmp} {ty : TypeId} {pos : String} {af : Array Edge} {g : Option (Nat × Bool)} {v : Value} {op : Op} {X : R Value} {XH : R (Value × Heap)} {rl rl' : List (Nat × Oper × Tmps × Value)} {o : Oper} {t : Tmps}
/-! More fuel, and fewer reads to look at again -/
theorem recheck_sub (hs : rl'.Sublist rl) (hk : recheck P h rl = .ok ()) : recheck P h rl' = .ok () := by
  induction hs with
  | slnil => exact hk
  | cons a _ ih =>
    obtain ⟨q, o, t, v⟩ := a
    simp only [recheck] at hk
    obtain ⟨td, h1, hk⟩ := bindR_ok.1 hk
    cases td with
    | value u _ => obtain ⟨_, _, hk⟩ := bindR_ok.1 hk; exact ih hk
    | enter _ _ => cases hk
    | round _ _ => cases hk
  | cons_cons a _ ih =>
    obtain ⟨q, o, t, v⟩ := a
    simp only [recheck] at hk ⊢
    obtain ⟨td, h1, hk⟩ := bindR_ok.1 hk
    rw [h1]
    cases td with
    | value u _ =>
      obtain ⟨w, h2, hk⟩ := bindR_ok.1 hk
      simp only [bindR, h2]; exact ih hk
    | enter _ _ => cases hk
    | round _ _ => cases hk
def DSub (s' s : DS) : Prop := s'.done = s.done ∧ s'.t = s.t ∧ s'.h = s.h ∧ s'.rd.Sublist s.rd
theorem passOne_sub {x : Spot} {s s' s1 : DS} (hs : DSub s' s) (h : passOne P N ops x s = .ok s1) : ∃ s1', passOne P N ops x s' = .ok s1' ∧ DSub s1' s1 := by
  obtain ⟨d1, t1, h1, r1⟩ := s
  obtain ⟨d2, t2, h2, r2⟩ := s'
  obtain ⟨rfl, rfl, rfl, hr⟩ := hs
  simp only at hr
  unfold passOne at h ⊢
  simp only at h ⊢
  split at h
  · cases h; exact ⟨_, rfl, rfl, rfl, rfl, hr⟩
  · split at h
    · cases h; exact ⟨_, rfl, rfl, rfl, rfl, hr⟩
    · obtain ⟨u, hu, h⟩ := bindR_ok.1 h
      cases h; exact ⟨⟨_, _, _, r2⟩, by simp only [hu, bindR], rfl, rfl, rfl, hr⟩
    · split at h
      · cases h; exact ⟨_, rfl, rfl, rfl, rfl, hr⟩
      · obtain ⟨td, hu, h⟩ := bindR_ok.1 h
        cases td with
        | value v _ => cases h; exact ⟨⟨_, _, _, _ :: r2⟩, by simp only [hu, bindR], rfl, rfl, rfl, hr.cons_cons _⟩
        | enter _ _ => cases h
        | round _ _ => cases h
theorem pass_sub : ∀ (xs : List Spot) {s s' s1 : DS}, DSub s' s → pass P N ops xs s = .ok s1 → ∃ s1', pass P N ops xs s' = .ok s1' ∧ DSub s1' s1
  | [], s, s', s1, hs, h => by cases h; exact ⟨_, rfl, hs⟩
  | x :: xs, s, s', s1, hs, h => by
    rw [pass] at h ⊢
    rw [hs.1]
    cases h1 : bit s.done x.1 <;> cases h2 : sub x.2.1 s.done <;> simp only [h1, h2] at h ⊢
    case false.true =>
      obtain ⟨s2, h3, h4⟩ := bindR_ok.1 h
      obtain ⟨s2', h5, h6⟩ := passOne_sub hs h3
      obtain ⟨s3, h7, h8⟩ := pass_sub xs h6 h4
      exact ⟨s3, by simp only [h5, bindR, h7], h8⟩
    all_goals exact pass_sub xs hs h
theorem dgo_sub : ∀ (n m : Nat) (xs : List Spot) {s s' : DS} {x : β}, n ≤ m → DSub s' s → dgo P r N ops k n xs s = .ok x → dgo P r N ops k m xs s' = .ok x := by
  intro n
  induction n with
  | zero =>
    intro m xs s s' x hm hs h
    unfold dgo at h ⊢
    obtain ⟨s1, h1, h⟩ := bindR_ok.1 h
    obtain ⟨u, h2, h⟩ := bindR_ok.1 h
    obtain ⟨s2, h3, h4⟩ := pass_sub xs hs h1
    obtain ⟨e1, e2, e3, e4⟩ := h4
    rw [h3]
    simp only [bindR]
    rw [e3, recheck_sub e4 h2]
    unfold drawW at h ⊢
    rw [e1]
    split at h
    · rename_i hu; simp only [hu]; rw [e2, e3]; exact h
    · rename_i x' xs' hu
      obtain ⟨u2, h5, h⟩ := bindR_ok.1 h
      obtain ⟨p, h6, h⟩ := bindR_ok.1 h
      cases h
  | succ n ih =>
    intro m xs s s' x hm hs h
    obtain ⟨m, rfl⟩ : ∃ q, m = q + 1 := ⟨m - 1, by omega⟩
    unfold dgo at h ⊢
    obtain ⟨s1, h1, h⟩ := bindR_ok.1 h
    obtain ⟨u, h2, h⟩ := bindR_ok.1 h
    obtain ⟨s2, h3, h4⟩ := pass_sub xs hs h1
    obtain ⟨e1, e2, e3, e4⟩ := h4
    rw [h3]
    simp only [bindR]
    rw [e3, recheck_sub e4 h2]
    unfold drawW at h ⊢
    rw [e1]
    split at h
    · rename_i hu; simp only [hu]; rw [e2, e3]; exact h
    · rename_i x' xs' hu
      obtain ⟨u2, h5, h⟩ := bindR_ok.1 h
      obtain ⟨p, h6, h⟩ := bindR_ok.1 h
      simp only [hu]
      rw [e2, e3, h5, h6]
      simp only [bindR]
      exact ih m _ (s := ⟨Nat.lor (Nat.pow 2 x'.1) s1.done, put N s1.t x'.2.2.dst p.1, p.2, s1.rd.filter fun y => !bit x'.2.1 y.1⟩) (by omega) ⟨rfl, rfl, rfl, e4.filter _⟩ h
theorem dgo_skips : ∀ (pre : List Spot) {s : DS}, (pre.all fun y => bit s.done y.1 || !sub y.2.1 s.done) = true → dgo P r N ops k n (pre ++ xs) s = dgo P r N ops k n xs s
  | [], _, _ => rfl
  | y :: pre, s, h => by
    simp only [List.all_cons, Bool.and_eq_true] at h
    obtain ⟨h1, h2⟩ := h
    have : dgo P r N ops k n (y :: (pre ++ xs)) s = dgo P r N ops k n (pre ++ xs) s := by
      unfold dgo
      rw [pass]
      cases h3 : bit s.done y.1 <;> cases h4 : sub y.2.1 s.done <;> simp_all
    rw [List.cons_append, this]
    exact dgo_skips pre h2
/-- One that is done at once, or waits: it is the same. -/
theorem geither (hr' : isRead op = false) (hst : ∀ v' b', stillOf P ⟨some d, op, ty, pos, af, g⟩ (TT env t0) h.n = .ok (v', b') → v' = v ∧ b' = none ∧ h' = h)
    (hrk : recheck P h rl = .ok ()) (hw : wanted ops ⟨some d, op, ty, pos, af, g⟩ (TT env t0) = true) (hX : HeapOk P r op (TT env t0) h XH) (hv : XH = .ok (v, h')) (hd : Nat.blt d N = true)
    (hk : Sim (dgo P r N ops k m xs ⟨Nat.lor (Nat.pow 2 i) done, TT ((d, v) :: env) t0, h', rl⟩) M Q)
    (hn : n = m + 1 := by first | rfl | kernel_rfl) (hr : (!bit done i && sub mk done) = true := by first | rfl | kernel_rfl) (hu : undone done (planL ops.toList 0 []) = (i, mk, ⟨some d, op, ty, pos, af, g⟩) :: us := by first | rfl | kernel_rfl)
    (hs : (sub mk done && us.all fun y => !sub y.2.1 done) = true := by first | rfl | kernel_rfl) (hxs : (xs.all fun y => bit done y.1 || !sub y.2.1 done) = true := by first | rfl | kernel_rfl)
    (hx : (planL ops.toList 0 []).drop (Nat.succ i) = xs := by first | rfl | kernel_rfl) (hp : (((planL ops.toList 0 []).take (Nat.succ i)).all fun y => bit (Nat.lor (Nat.pow 2 i) done) y.1 || !sub y.2.1 (Nat.lor (Nat.pow 2 i) done)) = true := by first | rfl | kernel_rfl) :
    Sim (dgo P r N ops k n ((i, mk, ⟨some d, op, ty, pos, af, g⟩) :: xs) ⟨done, TT env t0, h, rl⟩) M Q := fun z hz => by
  obtain ⟨y, h1, h2⟩ := hk z hz
  refine ⟨y, ?_, h2⟩
  cases hstill : stillOf P ⟨some d, op, ty, pos, af, g⟩ (TT env t0) h.n with
  | ok p =>
    obtain ⟨v', b'⟩ := p
    obtain ⟨e1, e2, e3⟩ := hst _ _ hstill
    subst e1 e2 e3
    rw [dgo_one hr (s' := ⟨Nat.lor (Nat.pow 2 i) done, TT ((d, v') :: env) t0, h', rl⟩) (by simp only [passOne, hw, hstill, put_TT hd])]
    exact dgo_sub m n xs (by omega) ⟨rfl, rfl, rfl, List.Sublist.refl _⟩ h1
  | error e =>
    rw [dgo_one hr (s' := ⟨done, TT env t0, h, rl⟩) (by simp only [passOne, hw, hstill, hr'])]
    have e1 := dgo_skips (P := P) (r := r) (N := N) (ops := ops) (k := k) (n := n) (xs := []) xs (s := ⟨done, TT env t0, h, rl⟩) hxs
    rw [List.append_nil] at e1
    rw [e1, dgo_act hrk hu hs hw hn]
    have h3 : stepV P r ⟨some d, op, ty, pos, af, g⟩ (TT env t0) h = .ok (v, h') := hX _ hv
    rw [h3]
    simp only [bindR, put_TT hd]
    have e2 : planL ops.toList 0 [] = (planL ops.toList 0 []).take (Nat.succ i) ++ xs := by rw [← hx]; exact (List.take_append_drop _ _).symm
    have e3 := dgo_skips (P := P) (r := r) (N := N) (ops := ops) (k := k) (n := m) (xs := xs) ((planL ops.toList 0 []).take (Nat.succ i)) (s := ⟨Nat.lor (Nat.pow 2 i) done, TT ((d, v) :: env) t0, h', rl.filter fun y => !bit mk y.1⟩) hp
    rw [← e2] at e3
    rw [e3]
    exact dgo_sub m m xs (s := ⟨Nat.lor (Nat.pow 2 i) done, TT ((d, v) :: env) t0, h', rl⟩) (Nat.le_refl _) ⟨rfl, rfl, rfl, List.filter_sublist⟩ h1
end
end Go.AM
namespace Go.AM
open Go
section
variable {δ ε β : Type} {P : Program} {r : Rec} {L N n m : Nat} {env : Env} {t0 : Tmps} {h h' : Heap} {k : Kont β} {Q : δ → β → Prop} {M : R δ} {φ φ' : Fz} {lo : Nat} {own : OwnL}
variable {ops : Array Oper} {xs us : List Spot} {i j mk done : Nat} {d : Tmp} {ty : TypeId} {pos : String} {af : Array Edge} {g : Option (Nat × Bool)} {v : Value} {op : Op} {rl : List (Nat × Oper × Tmps × Value)} {o : Oper} {t : Tmps}
theorem append_blank {ts : Array TypeId} {a xa : Option Addr} {l c xl xc : Nat} {v' : Value} {hb : Heap} (he : appendV P (blankN m) ts [.slice a l c, .slice xa xl xc] = .ok (v', hb)) :
    v' = .slice a l c ∧ hb = blankN m ∧ ∀ H, appendV P H ts [.slice a l c, .slice xa xl xc] = .ok (v', H) := by
  unfold appendV at he
  simp only at he
  obtain ⟨st, h1, he⟩ := bindR_ok.1 he
  obtain ⟨d, h2, he⟩ := bindR_ok.1 he
  cases d with
  | slice e =>
    simp only at he
    obtain ⟨u, h3, he⟩ := bindR_ok.1 he
    obtain ⟨size, h4, he⟩ := bindR_ok.1 he
    obtain ⟨n, h5, he⟩ := bindR_ok.1 he
    obtain ⟨new, h6, he⟩ := bindR_ok.1 he
    cases h5
    cases hn : Nat.beq xl 0 with
    | true =>
      rw [hn] at he
      simp only at he
      obtain ⟨u2, h7, he⟩ := bindR_ok.1 he
      cases he
      refine ⟨rfl, rfl, fun H => ?_⟩
      have hx0 := Nat.eq_of_beq_eq_true hn
      subst hx0
      have hr : readCells H size 0 (.slice xa 0 xc) = .ok [] := by
        cases xa with
        | none => rfl
        | some a => simp only [readCells, Nat.zero_mul, Nat.beq_refl]
      exact bindR_ok.2 ⟨st, h1, bindR_ok.2 ⟨_, h2, bindR_ok.2 ⟨u, h3, bindR_ok.2 ⟨size, h4, bindR_ok.2 ⟨0, rfl, bindR_ok.2 ⟨[], hr, bindR_ok.2 ⟨u2, h7, rfl⟩⟩⟩⟩⟩⟩⟩
    | false =>
      rw [hn] at he
      simp only at he
      obtain ⟨bytes, h7, he⟩ := bindR_ok.1 he
      obtain ⟨z, h8, he⟩ := bindR_ok.1 he
      obtain ⟨u2, h9, he⟩ := bindR_ok.1 he
      have h9 := must_ok.1 h9
      simp only [Bool.and_eq_true] at h9
      have hxl : 0 < xl := by
        cases xl with
        | zero => cases hn
        | succ x => omega
      have hsz : 0 < size := blt_true.1 h9.1.1.1.2
      have hnew : new.length = xl * size := Nat.eq_of_beq_eq_true h9.2
      have hpos : 0 < xl * size := Nat.mul_pos hxl hsz
      exfalso
      cases xa with
      | none => cases h6; simp at hnew; omega
      | some a =>
        simp only [readCells] at h6
        have : Nat.beq (xl * size) 0 = false := by
          cases hb : Nat.beq (xl * size) 0 with
          | false => rfl
          | true => have := Nat.eq_of_beq_eq_true hb; omega
        rw [this] at h6
        simp only [get_blank] at h6
        cases h6
  | _ => cases he
theorem append_still {c : Call} {a xa : Option Addr} {l cc xl xc : Nat} (ho : o.op = .call c) (hc : c.callee = .builtin .append) (hok : okL c.args.toList = true) (hv : oevL t c.args.toList = [.slice a l cc, .slice xa xl xc]) (hX : appendV P h c.argTypes [.slice a l cc, .slice xa xl xc] = .ok (v, h')) :
    ∀ v' b', stillOf P o t h.n = .ok (v', b') → v' = v ∧ b' = none ∧ h' = h := by
  intro v' b' hs
  unfold stillOf at hs
  obtain ⟨u, _, hs⟩ := bindR_ok.1 hs
  obtain ⟨td, h2, hs⟩ := bindR_ok.1 hs
  rw [ho] at h2
  have h3 : step P (.call c) t (blankN h.n) = valh (appendV P (blankN h.n) c.argTypes [.slice a l cc, .slice xa xl xc]) := by
    simp only [step, callStep, evs_ok hok, bindR, hc, hv, builtinV]
  rw [h3] at h2
  cases hA : appendV P (blankN h.n) c.argTypes [.slice a l cc, .slice xa xl xc] with
  | error e => rw [hA] at h2; cases h2
  | ok p =>
    obtain ⟨v1, hb⟩ := p
    obtain ⟨e1, e2, e3⟩ := append_blank hA
    rw [hA] at h2
    cases h2
    rw [e3 h] at hX
    cases hX
    simp only at hs
    subst e2
    rw [freshOf_blank] at hs
    cases hs
    exact ⟨rfl, rfl, rfl⟩
end
section
variable {δ β α : Type} {P : Program} {r : Rec} {N n m : Nat} {env : Env} {t0 : Tmps} {h h' : Heap} {k : Kont β} {Q : δ → β → Prop} {M : R δ} {φ φ' : Fz} {lo : Nat} {own : OwnL} {E : Enc α}
variable {ops : Array Oper} {xs us : List Spot} {i mk done : Nat} {d : Tmp} {ty : TypeId} {pos : String} {af : Array Edge} {g : Option (Nat × Bool)} {rl : List (Nat × Oper × Tmps × Value)}
theorem lay_at {t te : TypeId} {z : Value} {zs cs : List Value} {l : List α} {n len : Nat} {parts : List (Nat × Value)} (hu : under P t = .ok (.slice te)) (hn : tsize P te = .ok n) (hes : n = E.es) (h0 : Nat.blt 0 n = true) (hlim : (Nat.ble (len * n) 16777216 && Nat.blt len unk) = true)
    (hz : tzero P te = .ok z) (hzs : z.cells.toList = zs) (hf : fillL (fun i => some (i * n, n)) (List.replicate len zs).flatten parts = some cs) (hR : RowD E φ cs l) (hl : l.length = len) (hzn : zs.length = n) :
    (∀ H : Heap, buildSliceV P H t len parts = .ok (.slice (some ⟨H.n, 0, none⟩) len len, H.put (.cells cs te .exact))) ∧ ∀ b, OSl E φ te (some b) (.cells cs te .exact) (.slice (some ⟨b, 0, none⟩) len len) l := by
  subst hes
  subst hl
  have h0 := blt_true.1 h0
  have hsz : z.cells.size = E.es := by rw [← hzn, ← hzs]; simp
  obtain ⟨zz, h1, h2⟩ : ∃ zz, zeroFor P te (l.length * E.es) = .ok zz ∧ (zeros zz (l.length * E.es)).toList = (List.replicate l.length zs).flatten := by
    unfold zeroFor
    by_cases hc0 : l.length = 0
    · exact ⟨#[], by rw [hc0, Nat.zero_mul], by rw [hc0, Nat.zero_mul]; simp [zeros]⟩
    · have : Nat.beq (l.length * E.es) 0 = false := by
        cases hbq : Nat.beq (l.length * E.es) 0 with
        | false => rfl
        | true =>
          have := Nat.eq_of_beq_eq_true hbq
          have : 0 < l.length * E.es := Nat.mul_pos (by omega) h0
          omega
      refine ⟨z.cells, by simp only [this, hz, bindR], ?_⟩
      rw [← hsz, zeros_list (by omega), hzs]
  have hfill : Instr.fill (fun i => some (i * E.es, E.es)) (zeros zz (l.length * E.es)) parts = some cs.toArray := fill_of (by rw [h2]; exact hf)
  refine ⟨fun H => ?_, fun b => .inr ⟨b, cs, .exact, l.length, rfl, rfl, rfl, ?_, .inl ⟨rfl, ?_, Nat.le_refl _, hR.len⟩⟩⟩
  · unfold buildSliceV
    simp only [hu, bindR_ok', hn, hlim, must, h1, hfill, ofOpt, Heap.room, List.toList_toArray, hR.cells]
  · rw [List.take_of_length_le (by rw [hR.len]; exact Nat.le_refl _)]; exact hR
  · simp only [Bool.and_eq_true] at hlim
    exact blt_true.1 hlim.2
theorem glay {t te : TypeId} {cs : List Value} {len : Nat} {parts : List (Nat × Value)} {ps : Array (Nat × Operand)} (hw : wanted ops ⟨some d, .buildSlice t len ps, ty, pos, af, g⟩ (TT env t0) = true) (ha : okP ps.toList = true) (hp : oevP (TT env t0) ps.toList = parts)
    (hb : ∀ H : Heap, buildSliceV P H t len parts = .ok (.slice (some ⟨H.n, 0, none⟩) len len, H.put (.cells cs te .exact))) (hl : lowL (TT env t0) h.n (Op.buildSlice t len ps).operands.toList = true)
    (hd : Nat.blt d N = true) (hS : St φ lo h own) (hk : ∀ b h', St φ lo h' ((some b, .cells cs te .exact) :: own) → Sim (dgo P r N ops k n xs ⟨Nat.lor (Nat.pow 2 i) done, TT ((d, .slice (some ⟨b, 0, none⟩) len len) :: env) t0, h', rl⟩) M Q) (hr : (!bit done i && sub mk done) = true := by first | rfl | kernel_rfl) :
    Sim (dgo P r N ops k n ((i, mk, ⟨some d, .buildSlice t len ps, ty, pos, af, g⟩) :: xs) ⟨done, TT env t0, h, rl⟩) M Q :=
  gfresh (v := .slice (some ⟨h.n, 0, none⟩) len len) (blk := .cells cs te .exact) hw hl (by
    simp only [step, evp_ok ha, bindR, hp, hb]; rfl) rfl hd hS (fun h' _ X => hk _ h' X) hr
end
end Go.AM
namespace Go.AM
open Go
end Go.AM
namespace Go.AM
open Go
/-- The library's sort of integers, as data. -/
def m_sort (l : List Int) : R (List Int) := bindR (must (okLen l.length)) fun _ => .ok (sortI l)
theorem RowD.ints {φ : Fz} : ∀ {l : List Int} {vs : List Value}, RowD (eInt .i64) φ vs l → vs = l.map (Value.int .i64)
  | [], vs, h => h
  | a :: l, vs, ⟨c, vs', h, h1, h2⟩ => by
    have h1 : c = [.int .i64 a] := h1
    rw [h, h1, RowD.ints h2]; rfl
theorem RowD.of_ints {φ : Fz} : ∀ (l : List Int), RowD (eInt .i64) φ (l.map (Value.int .i64)) l
  | [] => rfl
  | a :: l => ⟨[.int .i64 a], _, rfl, rfl, RowD.of_ints l⟩
theorem intsOf_map : ∀ (l : List Int), intsOf (l.map (Value.int .i64)) = .ok l
  | [] => rfl
  | a :: l => by
    show bindR (intsOf (l.map (Value.int .i64))) _ = _
    rw [intsOf_map l]; rfl
section
variable {P : Program} {cut : FuncId → Cut} {n : Nat} {φ : Fz} {lo : Nat} {h : Heap} {own : OwnL}
theorem sort_ok {f : FuncId} (hcut : cut f = .sort) {te : TypeId} {ob : Option Nat} {blk : Blk} {v : Value} (X : St φ lo h ((ob, blk) :: own)) (l : List Int) (O : OSl (eInt .i64) φ te ob blk v l) :
    Sim ((recN P LL cut (n + 1)).call f #[v] h) (m_sort l) (fun (d : List Int) p => ∃ (φ2 : Fz) (blk2 : Blk), Fz.le φ φ2 ∧ St φ2 lo p.2 ((ob, blk2) :: own) ∧ p.1 = .tuple #[] ∧ OSl (eInt .i64) φ2 te ob blk2 v d) := by
  refine Sim.mustM fun hl => ?_
  show Sim (callK P _ LL cut f #[v] h) _ _
  unfold callK
  rw [hcut]
  rcases O with ⟨h1, h2, h3⟩ | ⟨b, vs, m, c, h1, h2, h3, h4, h5⟩
  · subst h2 h3
    exact Sim.ret ⟨φ, blk, φ.le_refl, X, rfl, .inl ⟨h1, rfl, rfl⟩⟩
  · subst h1 h2 h3
    cases hn : l.length with
    | zero =>
      have : l = [] := List.length_eq_zero_iff.1 hn
      subst this
      exact Sim.ret ⟨φ, _, φ.le_refl, X, rfl, .inr ⟨b, vs, m, c, rfl, rfl, rfl, h4, h5⟩⟩
    | succ k =>
      have hlen := h4.len
      have hes : (eInt .i64).es = 1 := rfl
      rw [hes, Nat.mul_one, List.length_take] at hlen
      have hvs : vs.take l.length = l.map (Value.int .i64) := by
        have := RowD.ints h4
        rwa [hes, Nat.mul_one] at this
      have hb := X.at (j := 0) rfl
      have hmm : m = .exact ∨ ∃ es, m = .grown es := by rcases h5 with ⟨h, _⟩ | ⟨h, _⟩ <;> simp [h]
      have hst : storeCells h b 0 ((sortI l).map (Value.int .i64)) = .ok (h.write b (.cells (setAt vs 0 ((sortI l).map (Value.int .i64))) te m) (idsL ((sortI l).map (Value.int .i64)))) := by
        unfold storeCells
        rw [hb.2.2.1]
        have hq : (Nat.ble (0 + ((sortI l).map (Value.int .i64)).length) vs.length && ((sortI l).map (Value.int .i64)).all isCell) = true := by
          rw [Bool.and_eq_true]
          exact ⟨ble_iff.2 (by simp [sortI_length]; omega), List.all_eq_true.2 fun v hv => by obtain ⟨z, _, rfl⟩ := List.mem_map.1 hv; rfl⟩
        rcases hmm with rfl | ⟨es, rfl⟩ <;> simp only [hq, must, bindR]
      have hev : sortC [.slice (some ⟨b, 0, none⟩) (k + 1) c] h = .ok (.tuple #[], h.write b (.cells (setAt vs 0 ((sortI l).map (Value.int .i64))) te m) (idsL ((sortI l).map (Value.int .i64)))) := by
        unfold sortC
        simp only [hb.2.2.1]
        have hok := ble_iff.1 hl
        have hq : (Nat.ble (0 + (k + 1)) vs.length && Nat.blt k 1000000000000) = true := by
          rw [Bool.and_eq_true]
          exact ⟨ble_iff.2 (by omega), blt_iff.2 (by omega)⟩
        have ht : (vs.drop 0).take (k + 1) = l.map (Value.int .i64) := by rw [List.drop_zero, ← hn]; exact hvs
        rw [hq, ht, intsOf_map]
        simp only [must, bindR, hst]
      show Sim (sortC [.slice (some ⟨b, 0, none⟩) (k + 1) c] h) _ _
      rw [hev]
      refine Sim.ret ⟨φ, _, φ.le_refl, X.write (j := 0) rfl _ _, rfl, .inr ⟨b, _, m, c, rfl, rfl, ?_, ?_, ?_⟩⟩
      · rw [sortI_length, hn]
      · rw [sortI_length, hes, Nat.mul_one, setAt_take (by simp [sortI_length]), hvs]
        have e : setAt (l.map (Value.int .i64)) 0 ((sortI l).map (Value.int .i64)) = (sortI l).map (Value.int .i64) := by
          have := setAt_hd (c := l.map (Value.int .i64)) (xs := (sortI l).map (Value.int .i64)) (vs := []) (by simp [sortI_length])
          simpa using this
        rw [e]; exact RowD.of_ints _
      · rw [sortI_length, setAt_length]; exact h5
end
end Go.AM
namespace Go.AM
open Go
section
variable {φ : Fz} {v : Value} {α : Type} {E : Enc α}
theorem OSl.iaB {te : TypeId} {b : Nat} {blk : Blk} {l : List α} (hO : OSl E φ te (some b) blk v l) {ix : Int} {a : α} (hi : idx l ix = .ok a) {kd : IntKind} {n : Nat} (hn : n = E.es) :
    ∃ vs m off cs, blk = .cells vs te m ∧ AM.iaC n v (.int kd ix) = .ok (.pointer (some ⟨b, off, none⟩)) ∧ (vs.drop off).take cs.length = cs ∧ E.R φ cs a ∧ off + cs.length ≤ vs.length ∧ wrM m = true ∧
      ∀ (xs : List Value) (a' : α), E.R φ xs a' → OSl E φ te (some b) (.cells (setAt vs off xs) te m) v (l.set ix.toNat a') := by
  obtain ⟨b', vs, m, off, cs, h1, h2, h3, h4, h5, h6, h7, h8⟩ := hO.ia hi (kd := kd) hn
  cases h1
  exact ⟨vs, m, off, cs, h2, h3, h4, h5, h6, h7, h8⟩
end
end Go.AM
namespace Go.AM
open Go
/-- The library's compaction of integers, as data. -/
def m_compact (l : List Int) : R (List Int) := bindR (must (okLen l.length)) fun _ => .ok (compactI l)
section
variable {P : Program} {cut : FuncId → Cut} {n : Nat} {φ : Fz} {lo : Nat} {h : Heap} {own : OwnL}
theorem compact_ok {f : FuncId} (hcut : cut f = .compact) {te : TypeId} {ob : Option Nat} {blk : Blk} {a0 : Option Addr} {n0 c0 : Nat} (X : St φ lo h ((ob, blk) :: own)) (l : List Int) (O : OSl (eInt .i64) φ te ob blk (.slice a0 n0 c0) l) :
    Sim ((recN P LL cut (n + 1)).call f #[.slice a0 n0 c0] h) (m_compact l) (fun (d : List Int) p => ∃ (φ2 : Fz) (a : Option Addr) (k c : Nat) (ob2 : Option Nat) (blk2 : Blk), Fz.le φ φ2 ∧ St φ2 lo p.2 ((ob2, blk2) :: own) ∧ p.1 = .slice a k c ∧ OSl (eInt .i64) φ2 te ob2 blk2 (.slice a k c) d) := by
  refine Sim.mustM fun hl => ?_
  show Sim (callK P _ LL cut f #[.slice a0 n0 c0] h) _ _
  unfold callK
  rw [hcut]
  rcases O with ⟨h1, h2, h3⟩ | ⟨b, vs, m, c, h1, h2, h3, h4, h5⟩
  · cases h2; subst h3
    exact Sim.ret ⟨φ, none, 0, 0, ob, blk, φ.le_refl, X, rfl, .inl ⟨h1, rfl, rfl⟩⟩
  · subst h1 h2
    cases h3
    cases hn : l.length with
    | zero =>
      have : l = [] := List.length_eq_zero_iff.1 hn
      subst this
      exact Sim.ret ⟨φ, _, 0, c0, _, _, φ.le_refl, X, rfl, .inr ⟨b, vs, m, c0, rfl, rfl, rfl, h4, h5⟩⟩
    | succ k =>
      have hlen := h4.len
      have hes : (eInt .i64).es = 1 := rfl
      rw [hes, Nat.mul_one, List.length_take] at hlen
      have hvs : vs.take l.length = l.map (Value.int .i64) := by
        have := RowD.ints h4
        rwa [hes, Nat.mul_one] at this
      have hb := X.at (j := 0) rfl
      have hmm : m = .exact ∨ ∃ es, m = .grown es := by rcases h5 with ⟨h, _⟩ | ⟨h, _⟩ <;> simp [h]
      have hcl := compactI_length l
      generalize hzz : compactI l ++ List.replicate (k + 1 - (compactI l).length) 0 = zz
      have hzl : zz.length = k + 1 := by rw [← hzz]; simp; omega
      have hst : storeCells h b 0 (zz.map (Value.int .i64)) = .ok (h.write b (.cells (setAt vs 0 (zz.map (Value.int .i64))) te m) (idsL (zz.map (Value.int .i64)))) := by
        unfold storeCells
        rw [hb.2.2.1]
        have hq : (Nat.ble (0 + (zz.map (Value.int .i64)).length) vs.length && (zz.map (Value.int .i64)).all isCell) = true := by
          rw [Bool.and_eq_true]
          exact ⟨ble_iff.2 (by simp [hzl]; omega), List.all_eq_true.2 fun v hv => by obtain ⟨z, _, rfl⟩ := List.mem_map.1 hv; rfl⟩
        rcases hmm with rfl | ⟨es, rfl⟩ <;> simp only [hq, must, bindR]
      have hok := ble_iff.1 hl
      have hcap : k + 1 ≤ c0 := by rcases h5 with ⟨_, _, h, _⟩ | ⟨_, h, _⟩ <;> first | omega | (rw [h]; unfold unk; omega)
      have hev : compactC [.slice (some ⟨b, 0, none⟩) (k + 1) c0] h = .ok (.slice (some ⟨b, 0, none⟩) (compactI l).length c0,
          match (generalizing := false) m with
          | .grown _ => (h.write b (.cells (setAt vs 0 (zz.map (Value.int .i64))) te m) (idsL (zz.map (Value.int .i64)))).write b (.cells ((setAt vs 0 (zz.map (Value.int .i64))).take (0 + (compactI l).length)) te m) 0
          | _ => h.write b (.cells (setAt vs 0 (zz.map (Value.int .i64))) te m) (idsL (zz.map (Value.int .i64)))) := by
        unfold compactC
        simp only [hb.2.2.1]
        have hq : (Nat.ble (0 + (k + 1)) vs.length && Nat.blt k 1000000000000 && Nat.ble (k + 1) c0) = true := by
          simp only [Bool.and_eq_true]
          exact ⟨⟨ble_iff.2 (by omega), blt_iff.2 (by omega)⟩, ble_iff.2 hcap⟩
        have ht : (vs.drop 0).take (k + 1) = l.map (Value.int .i64) := by rw [List.drop_zero, ← hn]; exact hvs
        rw [hq, ht, intsOf_map]
        simp only [must, bindR, hzz, hst]
        rfl
      show Sim (compactC [.slice (some ⟨b, 0, none⟩) (k + 1) c0] h) _ _
      rw [hev]
      have htk : (setAt vs 0 (zz.map (Value.int .i64))).take (compactI l).length = (compactI l).map (Value.int .i64) := by
        have e0 : (setAt vs 0 (zz.map (Value.int .i64))).take (k + 1) = zz.map (Value.int .i64) := by
          rw [setAt_take (by simp [hzl]), ← hn, hvs]
          have := setAt_hd (c := l.map (Value.int .i64)) (xs := zz.map (Value.int .i64)) (vs := []) (by simp [hzl, hn])
          simpa using this
        have e1 : (setAt vs 0 (zz.map (Value.int .i64))).take (compactI l).length = ((setAt vs 0 (zz.map (Value.int .i64))).take (k + 1)).take (compactI l).length := by
          rw [List.take_take, Nat.min_eq_left (by omega)]
        rw [e1, e0, ← hzz, List.map_append, List.take_append_of_le_length (by simp)]
        rw [← List.length_map (f := Value.int .i64) (as := compactI l), List.take_length]
      rcases h5 with ⟨rfl, h6, h7, h8⟩ | ⟨rfl, h6, h7⟩
      · refine Sim.ret ⟨φ, _, _, c0, some b, _, φ.le_refl, X.write (j := 0) rfl _ _, rfl, .inr ⟨b, _, .exact, c0, rfl, rfl, rfl, ?_, .inl ⟨rfl, h6, by omega, by rw [setAt_length]; exact h8⟩⟩⟩
        rw [hes, Nat.mul_one, htk]; exact RowD.of_ints _
      · refine Sim.ret ⟨φ, _, _, c0, some b, _, φ.le_refl, (X.write (j := 0) rfl _ _).write (j := 0) rfl _ _, rfl, .inr ⟨b, _, .grown (eInt .i64).es, c0, rfl, rfl, rfl, ?_, .inr ⟨rfl, h6, ?_⟩⟩⟩
        · rw [hes, Nat.mul_one, Nat.zero_add, List.take_take, Nat.min_self, htk]; exact RowD.of_ints _
        · rw [List.length_take, setAt_length, hes]; omega
end
end Go.AM
namespace Go.AM
open Go
section
variable {P : Program} {φ : Fz} {lo0 : Nat} {h : Heap} {own : OwnL} {v : Value} {α : Type} {E : Enc α}
theorem sbounds3 {len cap lo' hi' mx' : Nat} {lo : Option Value} {hi mx : Value} (hl : BndOk lo 0 lo') (hh : ∃ k x, hi = .int k x ∧ 0 ≤ x ∧ x.toNat = hi') (hm : ∃ k x, mx = .int k x ∧ 0 ≤ x ∧ x.toNat = mx') (h1 : lo' ≤ hi') (h2 : hi' ≤ mx') (h3 : mx' ≤ cap) :
    sbounds len cap lo (some hi) (some mx) = .ok (lo', hi', mx') := by
  obtain ⟨k, x, rfl, hx, rfl⟩ := hh
  obtain ⟨k2, y, rfl, hy, rfl⟩ := hm
  unfold sbounds
  rcases hl with ⟨rfl, rfl⟩ | ⟨k', z, rfl, hz, rfl⟩
  · simp only [bindR_ok', sbound_ok hy h3, sbound_ok hx h2]
  · simp only [bindR_ok', sbound_ok hy h3, sbound_ok hx h2, sbound_ok hz h1]
/-- A part of a row, with a bound on its capacity. -/
theorem RSl.slice3 {t te : TypeId} {l : List α} {n lo' hi' mx' : Nat} {lo : Option Value} {hi mx : Value} (hR : RSl E φ v l) (hu : under P t = .ok (.slice te)) (hn : tsize P te = .ok n) (hes : n = E.es)
    (hl : BndOk lo 0 lo') (hh : ∃ k x, hi = .int k x ∧ 0 ≤ x ∧ x.toNat = hi') (hm : ∃ k x, mx = .int k x ∧ 0 ≤ x ∧ x.toNat = mx') (h1 : lo' ≤ hi') (h2 : hi' ≤ mx') (h3 : mx' ≤ l.length) (h0 : 0 < l.length) (hu' : l.length < unk) :
    ∃ a m c, sliceV P none0 t v lo (some hi) (some mx) = .ok (.slice a m c) ∧ RSl E φ (.slice a m c) ((l.take hi').drop lo') ∧ c < unk := by
  subst hes
  rcases hR with ⟨g1, g2⟩ | ⟨b, off, c, vs, e, m, g1, g2, g3, g4, g5, g6⟩ | ⟨_, _, _, _, g2, _⟩
  · subst g2; simp at h0
  · subst g1
    have hlen : ((l.take hi').drop lo').length = hi' - lo' := by rw [List.length_drop, List.length_take]; omega
    have hmul : lo' * E.es + (hi' - lo') * E.es ≤ l.length * E.es := by rw [← Nat.add_mul]; exact Nat.mul_le_mul_right _ (by omega)
    have hrow : RowD E φ ((vs.drop (off + lo' * E.es)).take ((hi' - lo') * E.es)) ((l.take hi').drop lo') := by
      have := (g6.take hi').drop lo'
      have e1 : (((vs.drop off).take (l.length * E.es)).take (hi' * E.es)).drop (lo' * E.es) = (vs.drop (off + lo' * E.es)).take ((hi' - lo') * E.es) := by
        have : hi' * E.es ≤ l.length * E.es := Nat.mul_le_mul_right _ (by omega)
        rw [List.take_take, Nat.min_eq_left this, List.drop_take, List.drop_drop, Nat.sub_mul]
      rw [← e1]; exact this
    have key : ∀ w : R Value, w = .ok (.slice (if mx' = lo' then some ⟨b, off, none⟩ else some ⟨b, off + lo' * E.es, none⟩) (hi' - lo') (mx' - lo')) → ∃ a m c, w = .ok (.slice a m c) ∧ RSl E φ (.slice a m c) ((l.take hi').drop lo') ∧ c < unk := fun w hw => by
      by_cases he : mx' = lo'
      · rw [if_pos he] at hw
        refine ⟨_, _, _, hw, .inr (.inl ⟨b, off, mx' - lo', vs, e, m, by rw [hlen], g2, fun _ => by rw [hlen]; omega, ?_, fun h => absurd h (by omega), ?_⟩), by omega⟩
        · intro hp; rw [hlen] at hp; omega
        · have e0 : (l.take hi').drop lo' = [] := List.length_eq_zero_iff.1 (by rw [hlen]; omega)
          rw [e0]; simp [RowD]
      · rw [if_neg he] at hw
        refine ⟨_, _, _, hw, .inr (.inl ⟨b, off + lo' * E.es, mx' - lo', vs, e, m, by rw [hlen], g2, fun _ => by rw [hlen]; omega, fun hp => by rw [hlen] at hp ⊢; have := g4 (by omega); omega, fun h => absurd h (by omega), ?_⟩), by omega⟩
        rw [hlen]; exact hrow
    unfold sliceV
    simp only [hu, hn, bindR_ok']
    cases hc : Nat.ble unk c with
    | true =>
      have hm' : must (Nat.blt 0 l.length && Nat.blt l.length unk) = .ok () := by rw [must_ok, Bool.and_eq_true]; exact ⟨blt_iff.2 h0, blt_iff.2 hu'⟩
      simp only [hm', bindR_ok', sbounds3 (len := l.length) (cap := l.length) hl hh hm h1 h2 h3, Option.map_some, addr_add]
      exact key _ rfl
    | false =>
      have hc' := ble_false.1 hc
      have hlc := g3 hc'
      have hm' : must (Nat.ble l.length c) = .ok () := by rw [ble_iff.2 hlc]; rfl
      simp only [hm', bindR_ok', sbounds3 (len := l.length) (cap := c) hl hh hm h1 h2 (by omega), Option.map_some, addr_add]
      exact key _ rfl
  · subst g2; simp at h0
theorem slice3_any {t : TypeId} {v u : Value} {lo hi : Option Value} {mx : Value} (hv : ∃ a n c, v = .slice a n c) (h0 : sliceV P none0 t v lo hi (some mx) = .ok u) (h : Heap) : sliceV P h t v lo hi (some mx) = .ok u := by
  obtain ⟨a, n, c, rfl⟩ := hv
  rw [← h0]
  unfold sliceV
  cases under P t with
  | error e => rfl
  | ok d =>
    cases d with
    | slice e =>
      show (bindR (tsize P e) fun size => _) = (bindR (tsize P e) fun size => _)
      cases tsize P e with
      | error e => rfl
      | ok z =>
        simp only [bindR]
        cases Nat.ble unk c <;> rfl
    | _ => rfl
theorem p_slice3 {ty : TypeId} {a mx : Operand} {lo hi : Option Operand} {t : Tmps} (hs : ∃ b n c, oev t a = .slice b n c) (ha : okO a = true) (h1 : evo t lo = .ok (lo.map (oev t))) (h2 : evo t hi = .ok (hi.map (oev t))) (h3 : okO mx = true) :
    PureOk P (.slice ty a lo hi (some mx)) t (sliceV P none0 ty (oev t a) (lo.map (oev t)) (hi.map (oev t)) (some (oev t mx))) := fun v hv h => by
  have h4 := slice3_any hs hv h
  have h5 : evo t (some mx) = .ok (some (oev t mx)) := evo_ok h3
  simp only [step, ev_ok ha, bindR, h1, h2, h5, h4, val]
end
end Go.AM
namespace Go.AM
open Go
section
variable {δ ε β : Type} {P : Program} {L N n m fu : Nat} {cut : FuncId → Cut} {env : Env} {t0 : Tmps} {h h' : Heap} {k : Kont β} {Q : δ → β → Prop} {M : R δ} {φ φ' : Fz} {lo : Nat} {own : OwnL}
variable {ops : Array Oper} {xs us : List Spot} {i j mk done : Nat} {d : Tmp} {ty : TypeId} {pos : String} {af : Array Edge} {g : Option (Nat × Bool)} {v : Value} {rl : List (Nat × Oper × Tmps × Value)}
theorem ground {c : Call} {gf : Operand} {l : Nat} {x y : Array Value} {q : ALoop} {ps : Array Tmp} {a b : Code} {env' e' : Env} {t0' : Tmps} {N' dfs : Nat} {args : List Value} (ks : List Bool) (hrk : recheck P h rl = .ok ())
    (hu : undone done (planL ops.toList 0 []) = (i, mk, ⟨some d, .call c, ty, pos, af, g⟩) :: us) (hs : (sub mk done && us.all fun y => !sub y.2.1 done) = true)
    (hw : wanted ops ⟨some d, .call c, ty, pos, af, g⟩ (TT env t0) = true) (hn : fu = m + 1) (hc : c.callee = .value gf) (hok : okO gf = true)
    (hgv : oev (TT env t0) gf = .func (.yield l) x y) (ha : okL c.args.toList = true) (hv : oevL (TT env t0) c.args.toList = args) (hS : St φ lo h own) (hj : own[j]? = some (some l, rdy q)) (hq : QIs N' ps a b (TT env' t0') dfs q) (hsz : Nat.beq ps.size args.length = true)
    (hps : ps.toList.all (fun p => Nat.blt p N') = true) (he : setE ps.toList args env' = e') (hlt : e'.all (fun p => Nat.blt p.1 N') = true) (hd : Nat.blt d N = true)
    (hk : ∀ t1, Sim (den P (recN P L cut n) L N' (some l) a (TT e' t1) h (kAsg P (recN P L cut n) L N' l b fun v h' => dgo P (recN P L cut (n + 1)) N ops k m (planL ops.toList 0 []) ⟨Nat.lor (Nat.pow 2 i) done, TT ((d, v) :: env) t0, h', pickL ks rl⟩)) M Q)
    (hks : (rl.map fun y => !bit mk y.1) = ks := by first | rfl | kernel_rfl) :
    Sim (dgo P (recN P L cut (n + 1)) N ops k fu [] ⟨done, TT env t0, h, rl⟩) M Q := by
  have h1 : stepV P (recN P L cut (n + 1)) ⟨some d, .call c, ty, pos, af, g⟩ (TT env t0) h = roundK P (recN P L cut n) L l args.toArray h := by
    simp only [stepV, step, callStep, evs_ok ha, bindR, hc, ev_ok hok, invokeV, hgv, hv, recN]
  rw [dgo_act hrk hu hs hw hn, h1, filter_pick hks]
  simp only [put_TT hd]
  unfold roundK
  rw [(hS.at hj).2.2.1]
  simp only [rdy]
  have hb : must (Nat.beq q.params.size args.toArray.size) = .ok () := by rw [must_ok, hq.params]; simpa using hsz
  rw [hb]
  simp only [bindR]
  rw [hq.ntmps, hq.params, hq.assign, hq.body, hq.tmps, List.toList_toArray, setAll_TT hps, he, cutT_TT hlt]
  show Sim (bindR (den P (recN P L cut n) L N' (some l) a (TT e' (cutT N' t0')) h _) _) M Q
  rw [den_bind]
  refine Sim.of_eqX ?_ (hk (cutT N' t0'))
  congr 1
  funext e t h
  unfold kB kAsg
  cases e with
  | normal =>
    simp only
    cases hg : h.get l with
    | loop q' =>
      simp only
      cases hst : q'.state with
      | ready =>
        simp only
        rw [den_bind]
        rfl
      | _ => rfl
    | _ => rfl
  | _ => rfl
theorem ginl {c : Call} {gf : Operand} {f : FuncId} {first captured : Array Value} {fn : Func} {code : Code} {e' : Env} (ks : List Bool) (hrk : recheck P h rl = .ok ())
    (hu : undone done (planL ops.toList 0 []) = (i, mk, ⟨some d, .call c, ty, pos, af, g⟩) :: us) (hs : (sub mk done && us.all fun y => !sub y.2.1 done) = true)
    (hw : wanted ops ⟨some d, .call c, ty, pos, af, g⟩ (TT env t0) = true) (hn : fu = m + 1) (hc : c.callee = .value gf) (hok : okO gf = true)
    (hgv : oev (TT env t0) gf = .func (.func f) first captured) (hcal : callable P f = .ok ()) (ha : okL c.args.toList = true) (hf : P.funcs[f]? = some fn) (hb : fn.body = some code) (hcut : cut f = .no)
    (hsz : Nat.ble ((first ++ (oevL (TT env t0) c.args.toList).toArray) ++ captured).size fn.ntmps = true) (he : envA 0 ((first ++ (oevL (TT env t0) c.args.toList).toArray) ++ captured).toList = e') (hd : Nat.blt d N = true)
    (hk : Sim (den P (recN P L cut n) L fn.ntmps none code (TT e' undefT) h (kIn P fn.results.toList fun v h' => dgo P (recN P L cut (n + 1)) N ops k m (planL ops.toList 0 []) ⟨Nat.lor (Nat.pow 2 i) done, TT ((d, v) :: env) t0, h', pickL ks rl⟩)) M Q)
    (hks : (rl.map fun y => !bit mk y.1) = ks := by first | rfl | kernel_rfl) :
    Sim (dgo P (recN P L cut (n + 1)) N ops k fu [] ⟨done, TT env t0, h, rl⟩) M Q := by
  have h1 : stepV P (recN P L cut (n + 1)) ⟨some d, .call c, ty, pos, af, g⟩ (TT env t0) h = (recN P L cut (n + 1)).call f ((first ++ (oevL (TT env t0) c.args.toList).toArray) ++ captured) h := by
    simp only [stepV, step, callStep, evs_ok ha, bindR, hc, ev_ok hok, invokeV, hgv, hcal]
  rw [dgo_act hrk hu hs hw hn, h1, filter_pick hks]
  simp only [put_TT hd]
  exact call_in hf hb hcut hsz he hk
theorem gcallv {r : Rec} {c : Call} {gf : Operand} {f : FuncId} {args : Array Value} {M1 : R ε} {Q1 : ε → Value × Heap → Prop} {F : ε → R δ} (ks : List Bool) (hrk : recheck P h rl = .ok ()) (hu : undone done (planL ops.toList 0 []) = (i, mk, ⟨some d, .call c, ty, pos, af, g⟩) :: us) (hs : (sub mk done && us.all fun y => !sub y.2.1 done) = true)
    (hw : wanted ops ⟨some d, .call c, ty, pos, af, g⟩ (TT env t0) = true) (hn : fu = m + 1) (hc : c.callee = .value gf) (hok : okO gf = true) (hgv : oev (TT env t0) gf = .func (.func f) #[] #[]) (hcal : callable P f = .ok ())
    (ha : okL c.args.toList = true) (hv : (oevL (TT env t0) c.args.toList).toArray = args) (hsim : Sim (r.call f args h) M1 Q1) (hd : Nat.blt d N = true)
    (hk : ∀ e v h', Q1 e (v, h') → Sim (dgo P r N ops k m (planL ops.toList 0 []) ⟨Nat.lor (Nat.pow 2 i) done, TT ((d, v) :: env) t0, h', pickL ks rl⟩) (F e) Q) (hks : (rl.map fun y => !bit mk y.1) = ks := by first | rfl | kernel_rfl) :
    Sim (dgo P r N ops k fu [] ⟨done, TT env t0, h, rl⟩) (bindR M1 F) Q := by
  have h1 : stepV P r ⟨some d, .call c, ty, pos, af, g⟩ (TT env t0) h = r.call f args h := by
    rw [← hv]
    simp only [stepV, step, callStep, evs_ok ha, bindR, hc, ev_ok hok, hgv, invokeV, hcal]; simp
  rw [dgo_act hrk hu hs hw hn, h1, filter_pick hks]
  simp only [put_TT hd]
  exact Sim.bind hsim fun e p hq => hk e p.1 p.2 hq
end
end Go.AM
