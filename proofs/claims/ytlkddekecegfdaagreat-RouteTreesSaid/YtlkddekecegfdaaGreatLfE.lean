/- Of the abstract machine, for all programs: definitions and lemmas, no claim of its own; no condition. -/
import Derived.Test.YtlkddekecegfdaaGreatLfA
set_option linter.unusedVariables false
set_option linter.unusedSimpArgs false
namespace Go.AM
open Go

/-! ### Calls -/
def undefT : Tmps := fun _ => undef
def envA : Nat → List Value → Env
  | _, [] => []
  | i, v :: vs => (i, v) :: envA (i + 1) vs
theorem TT_envA : ∀ (l : List Value) (i j : Nat), TT (envA i l) undefT (i + j) = (l[j]?).getD undef
  | [], i, j => rfl
  | v :: l, i, j => by
    show (match Nat.beq (i + j) i with | true => v | false => TT (envA (i + 1) l) undefT (i + j)) = _
    cases j with
    | zero => rw [Nat.add_zero, Nat.beq_refl]; rfl
    | succ j =>
      have : Nat.beq (i + (j + 1)) i = false := by
        cases hb : Nat.beq (i + (j + 1)) i with
        | false => rfl
        | true => have := Nat.eq_of_beq_eq_true hb; omega
      rw [this]
      show TT (envA (i + 1) l) undefT (i + (j + 1)) = _
      rw [show i + (j + 1) = (i + 1) + j by omega, TT_envA l (i + 1) j]
      simp
theorem tmps_TT {args : Array Value} {env : Env} (he : envA 0 args.toList = env) : tmpsOf args = TT env undefT := by
  subst he
  funext j
  have := TT_envA args.toList 0 j
  rw [Nat.zero_add] at this
  rw [this]
  simp [tmpsOf, Array.getD_eq_getD_getElem?]
/-- The end of a function that is read in its caller's text. -/
def kIn {β : Type} (P : Program) (rs : List ResultVar) (K : Value → Heap → R β) : Kont β := fun e t h =>
  match e with
  | .normal => bindR (resultsV P rs t h) fun v => K v h
  | .ret => bindR (resultsV P rs t h) fun v => K v h
  | _ => .error "a jump out"

section
variable {δ ε β : Type} {P : Program} {r : Rec} {L N n : Nat} {cut : FuncId → Cut} {rd : Option Nat} {env : Env} {t0 : Tmps} {h h' : Heap} {k : Kont β} {Q : δ → β → Prop} {M : R δ} {φ φ' : Fz} {lo : Nat} {own : OwnL}
variable {ops : Array Oper} {os : List Oper} {i : Tmp} {ty : TypeId} {pos : String} {af : Array Edge} {g : Option (Nat × Bool)} {v : Value}

/-- A function's text, in its caller's. -/
theorem call_in {f : FuncId} {fn : Func} {c : Code} {args : Array Value} {e' : Env} {K : Value → Heap → R β} (hf : P.funcs[f]? = some fn) (hc : fn.body = some c) (hcut : cut f = .no) (ha : Nat.ble args.size fn.ntmps = true) (he : envA 0 args.toList = e')
    (hk : Sim (den P (recN P L cut n) L fn.ntmps none c (TT e' undefT) h (kIn P fn.results.toList K)) M Q) : Sim (bindR ((recN P L cut (n + 1)).call f args h) fun p => K p.1 p.2) M Q := by
  show Sim (bindR (callK P (recN P L cut n) L cut f args h) fun p => K p.1 p.2) M Q
  rw [callK_no hf hc (ble_iff.1 ha) hcut, den_bind, tmps_TT he]
  have : kB (kEnd P fn.results.toList false h) (fun p : Value × Heap => K p.1 p.2) = kIn P fn.results.toList K := by
    funext e t h
    unfold kB kEnd kIn
    cases e <;> first | (rw [bindR_assoc]; rfl) | rfl
  rw [this]; exact hk
theorem linl {c : Call} {gf : Operand} {f : FuncId} {first captured : Array Value} {fn : Func} {code : Code} {e' : Env} (hw : wanted ops ⟨some i, .call c, ty, pos, af, g⟩ (TT env t0) = true) (hc : c.callee = .value gf) (hok : okO gf = true)
    (hgv : oev (TT env t0) gf = .func (.func f) first captured) (hcal : callable P f = .ok ()) (ha : okL c.args.toList = true) (hf : P.funcs[f]? = some fn) (hb : fn.body = some code) (hcut : cut f = .no)
    (hsz : Nat.ble ((first ++ (oevL (TT env t0) c.args.toList).toArray) ++ captured).size fn.ntmps = true) (he : envA 0 ((first ++ (oevL (TT env t0) c.args.toList).toArray) ++ captured).toList = e') (hd : Nat.blt i N = true)
    (hk : Sim (den P (recN P L cut n) L fn.ntmps none code (TT e' undefT) h (kIn P fn.results.toList fun v h' => opersL P (recN P L cut (n + 1)) N ops os k (TT ((i, v) :: env) t0) h')) M Q) :
    Sim (opersL P (recN P L cut (n + 1)) N ops (⟨some i, .call c, ty, pos, af, g⟩ :: os) k (TT env t0) h) M Q := by
  rw [opersL_want hw]
  have h1 : stepW P (recN P L cut (n + 1)) (.call c) (TT env t0) h = (recN P L cut (n + 1)).call f ((first ++ (oevL (TT env t0) c.args.toList).toArray) ++ captured) h := by
    simp only [stepW, step, callStep, evs_ok ha, bindR, hc, ev_ok hok, invokeV, hgv, hcal]
  simp only [h1, put_TT hd]
  exact call_in hf hb hcut hsz he hk
/-- A call of a function whose text is known. -/
theorem lcall {c : Call} {f : FuncId} {args : Array Value} {M1 : R ε} {Q1 : ε → Value × Heap → Prop} {F : ε → R δ} (hw : wanted ops ⟨some i, .call c, ty, pos, af, g⟩ (TT env t0) = true) (hc : c.callee = .value (.func f)) (hcal : callable P f = .ok ())
    (ha : okL c.args.toList = true) (hv : (oevL (TT env t0) c.args.toList).toArray = args) (hs : Sim (r.call f args h) M1 Q1) (hd : Nat.blt i N = true)
    (hk : ∀ e v h', Q1 e (v, h') → Sim (opersL P r N ops os k (TT ((i, v) :: env) t0) h') (F e) Q) :
    Sim (opersL P r N ops (⟨some i, .call c, ty, pos, af, g⟩ :: os) k (TT env t0) h) (bindR M1 F) Q := by
  rw [opersL_want hw]
  have h1 : stepW P r (.call c) (TT env t0) h = r.call f args h := by rw [← hv]; simp only [stepW, step, callStep, evs_ok ha, bindR, hc, ev, invokeV, hcal]; simp
  simp only [h1, put_TT hd]
  exact Sim.bind hs fun e p hq => hk e p.1 p.2 hq
/-! The end of a function -/
theorem kin_r {rs : List ResultVar} {K : Value → Heap → R β} {t : Tmps} (hr : resultsV P rs t h = .ok v) (hk : Sim (K v h) M Q) : Sim (kIn P rs K .ret t h) M Q := by
  unfold kIn; rw [hr]; exact hk
theorem kin_n {rs : List ResultVar} {K : Value → Heap → R β} {t : Tmps} (hr : resultsV P rs t h = .ok v) (hk : Sim (K v h) M Q) : Sim (kIn P rs K .normal t h) M Q := by
  unfold kIn; rw [hr]; exact hk
theorem resC {t : Tmps} {j : Tmp} {cty : TypeId} {w : Option Nat} (hw : wide P cty = .ok w) (hv : ldC w h (t j) = .ok v) : resultV P t h (.cell j cty) = .ok v := by
  unfold ldC at hv
  split at hv
  · rename_i b o e
    split at hv
    · rename_i vs te m hg
      simp only [resultV, e, loadV, loadA, hg, hw, bindR, hv]
    · cases hv
  · cases hv
theorem resT {t : Tmps} {j : Tmp} : resultV P t h (.tmp j) = .ok (t j) := rfl
theorem res_1 {t : Tmps} {a : ResultVar} (h1 : resultV P t h a = .ok v) : resultsV P [a] t h = .ok v := by simp only [resultsV, resultsL, h1, bindR]
theorem res_0 {t : Tmps} : resultsV P [] t h = .ok (.tuple #[]) := rfl
theorem res_2 {t : Tmps} {a b : ResultVar} {v1 v2 : Value} (h1 : resultV P t h a = .ok v1) (h2 : resultV P t h b = .ok v2) : resultsV P [a, b] t h = .ok (.tuple #[v1, v2]) := by simp only [resultsV, resultsL, h1, h2, bindR]
theorem res_3 {t : Tmps} {a b c : ResultVar} {v1 v2 v3 : Value} (h1 : resultV P t h a = .ok v1) (h2 : resultV P t h b = .ok v2) (h3 : resultV P t h c = .ok v3) : resultsV P [a, b, c] t h = .ok (.tuple #[v1, v2, v3]) := by simp only [resultsV, resultsL, h1, h2, h3, bindR]
end
section
variable {δ : Type} {P : Program} {r : Rec} {L N n : Nat} {cut : FuncId → Cut} {env : Env} {t0 : Tmps} {h h0 : Heap} {Q : δ → Value × Heap → Prop} {M : R δ} {φ : Fz} {lo : Nat} {own : OwnL} {v : Value}
/-- A function that leaves nothing behind. -/
theorem fcut {f : FuncId} {fn : Func} {c : Code} {args : Array Value} {e' : Env} (hf : P.funcs[f]? = some fn) (hc : fn.body = some c) (hcut : cut f = .yes) (ha : Nat.ble args.size fn.ntmps = true) (he : envA 0 args.toList = e') (hS : St φ lo h own)
    (hk : ∀ h1, St φ h.n h1 [] → Sim (den P (recN P L cut n) L fn.ntmps none c (TT e' undefT) h1 (kEnd P fn.results.toList true h)) M Q) : Sim ((recN P L cut (n + 1)).call f args h) M Q := by
  show Sim (callK P (recN P L cut n) L cut f args h) M Q
  rw [callK_yes hf hc (ble_iff.1 ha) hcut, tmps_TT he]
  exact hk (enter h) ⟨hS.fz, Nat.le_refl _, Nat.le_refl _, fun p hp => (by cases hp), List.Pairwise.nil⟩
theorem fopen {f : FuncId} {fn : Func} {c : Code} {args : Array Value} {e' : Env} (hf : P.funcs[f]? = some fn) (hc : fn.body = some c) (hcut : cut f = .no) (ha : Nat.ble args.size fn.ntmps = true) (he : envA 0 args.toList = e')
    (hk : Sim (den P (recN P L cut n) L fn.ntmps none c (TT e' undefT) h (kEnd P fn.results.toList false h)) M Q) : Sim ((recN P L cut (n + 1)).call f args h) M Q := by
  show Sim (callK P (recN P L cut n) L cut f args h) M Q
  rw [callK_no hf hc (ble_iff.1 ha) hcut, tmps_TT he]
  exact hk
theorem kcut_r {rs : List ResultVar} {t : Tmps} {d : δ} (hr : resultsV P rs t h = .ok v) (hS : St φ h0.n h own) (hl : lowV 20 h0.n v = true) (hq : Q d (v, h0)) : Sim (kEnd P rs true h0 .ret t h) (.ok d) Q := by
  unfold kEnd
  simp only [hr, bindR, leaveC, hl, ble_iff.2 hS.wr]
  exact .ret hq
theorem kopen_r {rs : List ResultVar} {t : Tmps} {d : δ} (hr : resultsV P rs t h = .ok v) (hq : Q d (v, h)) : Sim (kEnd P rs false h0 .ret t h) (.ok d) Q := by
  unfold kEnd
  simp only [hr, bindR, leaveC]
  exact .ret hq
end

/-! ### Ranging over functions -/
theorem cutT_TT {N : Nat} : ∀ {env : Env} {t0 : Tmps}, env.all (fun p => Nat.blt p.1 N) = true → cutT N (TT env t0) = TT env (cutT N t0)
  | [], t0, _ => rfl
  | (j, v) :: env, t0, h => by
    simp only [List.all_cons, Bool.and_eq_true] at h
    funext i
    have ih := congrFun (cutT_TT (t0 := t0) h.2) i
    simp only [cutT] at ih ⊢
    show (match Nat.blt i N with | true => (match Nat.beq i j with | true => v | false => TT env t0 i) | false => undef) = (match Nat.beq i j with | true => v | false => TT env (cutT N t0) i)
    cases hb : Nat.beq i j with
    | true => rw [Nat.eq_of_beq_eq_true hb, h.1]
    | false => exact ih
/-- A round as it was laid down. -/
structure QIs (N : Nat) (ps : Array Tmp) (a b : Code) (t : Tmps) (dfs : Nat) (q : ALoop) : Prop where
  ntmps : q.ntmps = N
  params : q.params = ps
  assign : q.assign = a
  body : q.body = b
  tmps : q.tmps = t
  defers : q.defers = dfs
def rdy (q : ALoop) : Blk := .loop { q with state := .ready, pending := none }
def bsy (q : ALoop) : Blk := .loop { q with state := .busy, pending := none }
def dne (q : ALoop) (c : Code) : Blk := .loop { q with state := .done, pending := some c }
def exh (q : ALoop) : Blk := .dead

section
variable {δ β : Type} {P : Program} {r : Rec} {L N n : Nat} {cut : FuncId → Cut} {rd : Option Nat} {env : Env} {t0 : Tmps} {h h' : Heap} {k : Kont β} {Q : δ → β → Prop} {M : R δ} {φ φ' : Fz} {lo : Nat} {own : OwnL}
variable {ops : Array Oper} {os : List Oper} {i : Tmp} {ty : TypeId} {pos : String} {af : Array Edge} {g : Option (Nat × Bool)} {v : Value}
def kRange {β : Type} (l : Nat) (t : Tmps) (k : Kont β) : Value → Heap → R β := fun _ h => rangeEnd l t h k
theorem drange {gf : Operand} {ps : Array Tmp} {a b : Code} {f : FuncId} {first captured : Array Value} {fn : Func} {code : Code} (hok : okO gf = true) (hgv : oev (TT env t0) gf = .func (.func f) first captured) (hcal : callable P f = .ok ())
    (hf : P.funcs[f]? = some fn) (hb : fn.body = some code) (hcut : cut f = .no) (hS : St φ lo h own) (hsz : ∀ l : Nat, Nat.ble ((first ++ #[Value.func (.yield l) #[] #[]]) ++ captured).size fn.ntmps = true)
    (hk : ∀ l q dfs h', QIs N ps a b (TT env t0) dfs q → St φ lo h' ((some l, rdy q) :: (some dfs, .defs) :: own) →
      Sim (den P (recN P L cut n) L fn.ntmps none code (TT (envA 0 ((first ++ #[Value.func (.yield l) #[] #[]]) ++ captured).toList) undefT) h' (kIn P fn.results.toList (kRange l (TT env t0) k))) M Q) :
    Sim (den P (recN P L cut (n + 1)) L N none (.rangeFunc gf ps a b) (TT env t0) h k) M Q := by
  show Sim (rangeK P (recN P L cut (n + 1)) N gf ps a b (TT env t0) h none k) M Q
  unfold rangeK
  simp only [ev_ok hok, bindR, Heap.room, rangeCall, invokeV, hgv, hcal]
  have hX := (hS.put .defs).put (rdy { state := .ready, pending := none, ntmps := N, tmps := TT env t0, params := ps, assign := a, body := b, defers := h.n })
  refine call_in (K := fun _ h' => rangeEnd (h.n + 1) (TT env t0) h' k) hf hb hcut (hsz _) rfl ?_
  exact hk (h.n + 1) _ h.n _ ⟨rfl, rfl, rfl, rfl, rfl, rfl⟩ hX
/-- The function has come back. -/
theorem rend_n {l j : Nat} {q : ALoop} {u : Value} {t : Tmps} (hS : St φ lo h own) (hj : own[j]? = some (some l, rdy q)) (hk : ∀ h', St φ lo h' (own.set j (none, .dead)) → Sim (k .normal t h') M Q) : Sim (kRange l t k u h) M Q := by
  unfold kRange rangeEnd
  rw [(hS.at hj).2.2.1]
  have hX := hS.write hj (.loop { q with state := .exhausted, pending := none }) 0
  refine hk _ (hX.sel (List.range own.length) List.nodup_range fun k p hk => ?_)
  have hlen := (List.getElem?_eq_some_iff.1 hj).1
  have hk2 := (List.getElem?_eq_some_iff.1 hk).1
  rw [List.length_set] at hk2
  refine ⟨k, by simp [hk2], ?_⟩
  by_cases e : j = k
  · subst e
    rw [List.getElem?_set_self hlen] at hk
    cases hk; exact .inr rfl
  · rw [List.getElem?_set_ne e] at hk ⊢
    exact .inl hk
theorem rend_d {l j : Nat} {q : ALoop} {u : Value} {t : Tmps} {e : AExit} {c : Code} (hS : St φ lo h own) (hj : own[j]? = some (some l, dne q c)) (he : (c = .ret ∧ e = .ret) ∨ (∃ i, c = .exit i ∧ e = .exit i)) (hk : ∀ h', St φ lo h' (own.set j (none, .dead)) → Sim (k e t h') M Q) : Sim (kRange l t k u h) M Q := by
  unfold kRange rangeEnd
  rw [(hS.at hj).2.2.1]
  have hX := hS.write hj (.loop { q with state := .exhausted, pending := some c }) 0
  have hY : St φ lo (h.write l (.loop { q with state := .exhausted, pending := some c }) 0) (own.set j (none, .dead)) := by
    refine hX.sel (List.range own.length) List.nodup_range fun k p hk => ?_
    have hlen := (List.getElem?_eq_some_iff.1 hj).1
    have hk2 := (List.getElem?_eq_some_iff.1 hk).1
    rw [List.length_set] at hk2
    refine ⟨k, by simp [hk2], ?_⟩
    by_cases e : j = k
    · subst e
      rw [List.getElem?_set_self hlen] at hk
      cases hk; exact .inr rfl
    · rw [List.getElem?_set_ne e] at hk ⊢
      exact .inl hk
  rcases he with ⟨rfl, rfl⟩ | ⟨i, rfl, rfl⟩
  · exact hk _ hY
  · exact hk _ hY

/-! A round -/
def kRnd {β : Type} (l : Nat) (K : Value → Heap → R β) : Kont β := fun e _ h => bindR (roundEnd l e h) fun p => K p.1 p.2
def kAsg {β : Type} (P : Program) (r : Rec) (L N : Nat) (l : Nat) (b : Code) (K : Value → Heap → R β) : Kont β := fun e t h =>
  match e, h.get l with
  | .normal, .loop q' =>
    match q'.state with
    | .ready => den P r L N (some l) b t (h.write l (.loop { q' with state := .busy }) 0) (kRnd l K)
    | _ => .error "yield: not ready"
  | _, _ => .error "round"
def setE : List Tmp → List Value → Env → Env
  | d :: ds, v :: vs, env => setE ds vs ((d, v) :: env)
  | _, _, env => env
theorem setAll_TT {N : Nat} {t0 : Tmps} : ∀ {ps : List Tmp} {vs : List Value} {env : Env}, ps.all (fun p => Nat.blt p N) = true → setAll N (TT env t0) ps vs = TT (setE ps vs env) t0
  | [], vs, env, _ => by cases vs <;> rfl
  | p :: ps, [], env, _ => rfl
  | p :: ps, v :: vs, env, h => by
    simp only [List.all_cons, Bool.and_eq_true] at h
    simp only [setAll, setE]
    rw [put_TT h.1]
    exact setAll_TT h.2
theorem lround {c : Call} {gf : Operand} {l j : Nat} {x y : Array Value} {q : ALoop} {ps : Array Tmp} {a b : Code} {env' e' : Env} {t0' : Tmps} {N' dfs : Nat} {args : List Value} (hw : wanted ops ⟨some i, .call c, ty, pos, af, g⟩ (TT env t0) = true) (hc : c.callee = .value gf) (hok : okO gf = true)
    (hgv : oev (TT env t0) gf = .func (.yield l) x y) (ha : okL c.args.toList = true) (hv : oevL (TT env t0) c.args.toList = args) (hS : St φ lo h own) (hj : own[j]? = some (some l, rdy q)) (hq : QIs N' ps a b (TT env' t0') dfs q) (hsz : Nat.beq ps.size args.length = true)
    (hps : ps.toList.all (fun p => Nat.blt p N') = true) (he : setE ps.toList args env' = e') (hlt : e'.all (fun p => Nat.blt p.1 N') = true) (hd : Nat.blt i N = true)
    (hk : ∀ t1, Sim (den P (recN P L cut n) L N' (some l) a (TT e' t1) h (kAsg P (recN P L cut n) L N' l b fun v h' => opersL P (recN P L cut (n + 1)) N ops os k (TT ((i, v) :: env) t0) h')) M Q) :
    Sim (opersL P (recN P L cut (n + 1)) N ops (⟨some i, .call c, ty, pos, af, g⟩ :: os) k (TT env t0) h) M Q := by
  rw [opersL_want hw]
  have h1 : stepW P (recN P L cut (n + 1)) (.call c) (TT env t0) h = roundK P (recN P L cut n) L l args.toArray h := by
    simp only [stepW, step, callStep, evs_ok ha, bindR, hc, ev_ok hok, invokeV, hgv, hv, recN]
  simp only [h1, put_TT hd]
  unfold roundK
  rw [(hS.at hj).2.2.1]
  simp only [rdy]
  have hb : must (Nat.beq q.params.size args.toArray.size) = .ok () := by rw [must_ok, hq.params]; simpa using hsz
  rw [hb]
  simp only [bindR]
  rw [hq.ntmps, hq.params, hq.assign, hq.body, hq.tmps, List.toList_toArray, setAll_TT hps, he, cutT_TT hlt]
  have key : ∀ {X Y : R (Value × Heap)} {K : Value × Heap → R β}, bindR X K = (match X with | .ok a => K a | .error e => .error e) := fun {X _ _} => by cases X <;> rfl
  show Sim (bindR (den P (recN P L cut n) L N' (some l) a (TT e' (cutT N' t0')) h _) _) M Q
  rw [den_bind]
  refine Sim.of_eqX ?_ (hk (cutT N' t0'))
  congr 1
  funext e t h
  unfold kB kAsg
  cases e with
  | normal =>
    simp only
    cases hg : h.get l with
    | loop q' =>
      simp only
      cases hst : q'.state with
      | ready =>
        simp only
        rw [den_bind]
        rfl
      | _ => rfl
    | _ => rfl
  | _ => rfl
theorem basg {l j : Nat} {q : ALoop} {b : Code} {K : Value → Heap → R β} {t : Tmps} (hS : St φ lo h own) (hj : own[j]? = some (some l, rdy q)) (hk : ∀ h', St φ lo h' (own.set j (some l, bsy q)) → Sim (den P r L N (some l) b t h' (kRnd l K)) M Q) :
    Sim (kAsg P r L N l b K .normal t h) M Q := by
  unfold kAsg
  rw [(hS.at hj).2.2.1]
  exact hk _ (hS.write hj (bsy q) 0)
theorem nrnd {l j : Nat} {q : ALoop} {K : Value → Heap → R β} {t : Tmps} (hS : St φ lo h own) (hj : own[j]? = some (some l, bsy q)) (hk : ∀ h', St φ lo h' (own.set j (some l, rdy q)) → Sim (K (.bool true) h') M Q) : Sim (kRnd l K .normal t h) M Q := by
  unfold kRnd roundEnd
  rw [(hS.at hj).2.2.1]
  exact hk _ (hS.write hj (rdy q) 0)
theorem ernd {l j id : Nat} {q : ALoop} {K : Value → Heap → R β} {t : Tmps} (hS : St φ lo h own) (hj : own[j]? = some (some l, bsy q)) (hk : ∀ h', St φ lo h' (own.set j (some l, dne q (.exit id))) → Sim (K (.bool false) h') M Q) : Sim (kRnd l K (.exit id) t h) M Q := by
  unfold kRnd roundEnd
  rw [(hS.at hj).2.2.1]
  exact hk _ (hS.write hj (dne q (.exit id)) 0)
end
end Go.AM
namespace Go.AM
open Go
section
variable {δ ε β : Type} {P : Program} {r : Rec} {L N n : Nat} {rd : Option Nat} {env : Env} {t0 : Tmps} {h h' : Heap} {k : Kont β} {Q : δ → β → Prop} {M : R δ} {φ φ' : Fz} {lo : Nat} {own : OwnL}
variable {ops : Array Oper} {os : List Oper} {i j : Nat} {d : Tmp} {ty : TypeId} {pos : String} {af : Array Edge} {g : Option (Nat × Bool)} {v : Value} {op : Op} {X : R Value} {chg chs prd : Nat} {KK : Tmps → Heap → R β}

/-! ### What is low, what is itself -/
theorem lo_t {t : Tmps} {m : Nat} {i : Tmp} {xs : List Operand} (h : lowV 20 m (t i) = true) (hs : lowL t m xs = true) : lowL t m (.tmp i :: xs) = true := by
  simp only [lowL, h]; exact hs
theorem lo_c {t : Tmps} {m : Nat} {c : Value} {xs : List Operand} (hs : lowL t m xs = true) : lowL t m (.const c :: xs) = true := hs
theorem all_nil {f : Value → Bool} : [].all f = true := rfl
theorem all_cons {f : Value → Bool} {x : Value} {l : List Value} (h : f x = true) (hs : l.all f = true) : (x :: l).all f = true := by simp only [List.all_cons, h, hs]; rfl
theorem lo_agg {f m : Nat} {cs : Array Value} (h : cs.toList.all (lowV f m) = true) : lowV (f + 1) m (.agg cs) = true := h
theorem lo_own {f : Nat} (hS : St φ lo h own) {j b o : Nat} {s : Option (List Nat)} {blk : Blk} (hj : own[j]? = some (some b, blk)) : Nat.blt b h.n = true := blt_true.2 (hS.at hj).2.1
theorem lo_sl {α : Type} {E : Enc α} {l : List α} {f : Nat} (hS : St φ lo h own) (hR : RSl E φ v l) : lowV (f + 1) h.n v = true := (hR.good (Nat.succ_pos f)).low _ hS.fzlt
theorem lo_slF {α : Type} {E : Enc α} {l : List α} {f m : Nat} (hm : ∀ i b, φ i = some b → i < m) (hR : RSl E φ v l) : lowV (f + 1) m v = true := (hR.good (Nat.succ_pos f)).low _ hm
theorem lo_osl {α : Type} {E : Enc α} {l : List α} {f te : Nat} {ob : Option Nat} {blk : Blk} (hS : St φ lo h own) (hj : own[j]? = some (ob, blk)) (hR : OSl E φ te ob blk v l) : lowV (f + 1) h.n v = true := by
  rcases hR with ⟨_, h1, _⟩ | ⟨b, vs, m, c, h1, h2, h3, _⟩
  · subst h1; rfl
  · subst h3; subst h1; exact blt_true.2 (hS.at hj).2.1
def okS : Nat → Value → Bool
  | 0, _ => false
  | f + 1, v => match v with
    | .bool _ | .int _ _ | .string _ | .pointer _ | .slice _ _ _ | .map _ | .nilFunc | .nilIface => true
    | .func (.func _) a b => a.toList.all (okS f) && b.toList.all (okS f)
    | .iface _ x => okS f x
    | .agg cs => cs.toList.all (okS f)
    | .tuple cs => cs.toList.all (okS f)
    | _ => false
theorem sameL_self {f : Value → Value → Bool} : ∀ {l : List Value}, (∀ x ∈ l, f x x = true) → sameL f l l = true
  | [], _ => rfl
  | x :: l, h => by
    simp only [sameL, h x (List.mem_cons_self ..)]
    exact sameL_self fun y hy => h y (List.mem_cons_of_mem _ hy)
theorem same_self : ∀ (f : Nat) {v : Value}, okS f v = true → sameV f v v = true := by
  intro f
  induction f with
  | zero => intro v h; cases h
  | succ f ih =>
    intro v h
    have hl : ∀ {l : List Value}, l.all (okS f) = true → sameL (sameV f) l l = true := fun hl => sameL_self fun x hx => ih ((List.all_eq_true.1 hl) x hx)
    unfold okS at h
    split at h
    · simp [sameV]
    · simp [sameV]
    · simp [sameV]
    · simp [sameV]
    · simp [sameV]
    · simp [sameV]
    · rfl
    · rfl
    · simp only [Bool.and_eq_true] at h
      simp only [sameV, hl h.1, hl h.2, Bool.and_self, Bool.and_true, Nat.beq_refl]
    · simp only [sameV, ih h, Bool.and_true, BEq.rfl]
    · simp only [sameV]; exact hl h
    · simp only [sameV]; exact hl h
    · cases h

/-! ### Regions that draw -/
theorem ddraw {id : Nat} (chg chs prd : Nat) {t : Tmps} (hst : drawSt P N ops chg chs prd = true) (hk : Sim (sil P r N ops chg chs prd ops.toList 0 t h (fun t h => k .normal t h)) M Q) : Sim (den P r L N rd (.region id ops true) t h k) M Q := fun d hd => by
  obtain ⟨x, h1, h2⟩ := hk d hd
  exact ⟨x, D_draw chg chs prd hst h1, h2⟩
theorem spure (hw : wanted ops ⟨some d, op, ty, pos, af, g⟩ (TT env t0) = true) (hX : PureOk P op (TT env t0) X) (hl : lowL (TT env t0) h.n op.operands.toList = true) (hv : X = .ok v) (hd : Nat.blt d N = true)
    (hk : Sim (sil P r N ops chg chs prd os (i + 1) (TT ((d, v) :: env) t0) h KK) M Q) : Sim (sil P r N ops chg chs prd (⟨some d, op, ty, pos, af, g⟩ :: os) i (TT env t0) h KK) M Q := by
  have hs : stillOf P ⟨some d, op, ty, pos, af, g⟩ (TT env t0) h.n = .ok (v, none) := by
    unfold stillOf
    simp only [hl, hX v hv (blankN h.n), mustM, bindR, freshOf_blank]
  rw [sil_pure hw hs, put_TT hd]; exact hk
theorem sskip (hw : wanted ops ⟨some d, op, ty, pos, af, g⟩ (TT env t0) = false) (hd : Nat.blt d N = true)
    (hk : Sim (sil P r N ops chg chs prd os (i + 1) (TT ((d, undef) :: env) t0) h KK) M Q) : Sim (sil P r N ops chg chs prd (⟨some d, op, ty, pos, af, g⟩ :: os) i (TT env t0) h KK) M Q := by
  rw [sil_off hw, put_TT hd]; exact hk
theorem sload {a : Operand} {ty' : TypeId} (hw : wanted ops ⟨some d, .load ty' a, ty, pos, af, g⟩ (TT env t0) = true) (hp : bit prd i = false) (hX : ReadOk P (.load ty' a) (TT env t0) h X) (hv : X = .ok v) (hs : sameV 20 v v = true) (hd : Nat.blt d N = true)
    (hk : Sim (sil P r N ops chg chs prd os (i + 1) (TT ((d, v) :: env) t0) h KK) M Q) : Sim (sil P r N ops chg chs prd (⟨some d, .load ty' a, ty, pos, af, g⟩ :: os) i (TT env t0) h KK) M Q := by
  obtain ⟨e, he⟩ := still_load (P := P) (o := ⟨some d, .load ty' a, ty, pos, af, g⟩) rfl (t := TT env t0) (m := h.n)
  rw [sil_read hw he rfl (hX v hv) hs hp, put_TT hd]; exact hk
theorem sstore {a x : Operand} {n j b o : Nat} {vs xs : List Value} {e sty : TypeId} {m : Mode} (hw : wanted ops ⟨none, .store sty a x, ty, pos, af, g⟩ (TT env t0) = true) (hb : bit chg i = true) (hn : tsize P sty = .ok n) (hok : (okO a && okO x) = true)
    (ha : oev (TT env t0) a = .pointer (some ⟨b, o, none⟩)) (hj : own[j]? = some (some b, .cells vs e m)) (hm : wrM m = true) (hx : (oev (TT env t0) x).cells.toList = xs) (hl : Nat.beq xs.length n = true)
    (ho : Nat.ble (o + xs.length) vs.length = true) (hc : xs.all isCell = true) (hS : St φ lo h own)
    (hk : ∀ h', St φ lo h' (own.set j (some b, .cells (setAt vs o xs) e m)) → Sim (sil P r N ops chg chs prd os (i + 1) (TT env t0) h' KK) M Q) :
    Sim (sil P r N ops chg chs prd (⟨none, .store sty a x, ty, pos, af, g⟩ :: os) i (TT env t0) h KK) M Q := by
  obtain ⟨h', h1, h2⟩ := hS.st hj hm hx hl ho hc
  have hs : stepW P r (.store sty a x) (TT env t0) h = .ok (undef, h') := h_store hn hok _ (by rw [ha]; exact h1)
  have hn' : h'.n = h.n := by
    unfold stC at h1
    obtain ⟨_, _, h1⟩ := bindR_ok.1 h1
    obtain ⟨h2, h3, h1⟩ := bindR_ok.1 h1
    cases h1
    unfold storeCells at h3
    split at h3
    · split at h3
      · cases h3
      · obtain ⟨_, _, h3⟩ := bindR_ok.1 h3
        cases h3; rfl
    · cases h3
  rw [sil_act hw rfl hs ⟨.inr hb, fun _ => hn'⟩, put_TTn]; exact hk _ h2
theorem scall {c : Call} {f : FuncId} {args : Array Value} {M1 : R ε} {F : ε → R δ} {en : ε → Value} (hw : wanted ops ⟨some d, .call c, ty, pos, af, g⟩ (TT env t0) = true) (hc : c.callee = .value (.func f)) (hcal : callable P f = .ok ())
    (ha : okL c.args.toList = true) (hv : (oevL (TT env t0) c.args.toList).toArray = args) (hs : Sim (r.call f args h) M1 (fun e p => p = (en e, h))) (hd : Nat.blt d N = true)
    (hk : ∀ e, Sim (sil P r N ops chg chs prd os (i + 1) (TT ((d, en e) :: env) t0) h KK) (F e) Q) :
    Sim (sil P r N ops chg chs prd (⟨some d, .call c, ty, pos, af, g⟩ :: os) i (TT env t0) h KK) (bindR M1 F) Q := fun x hx => by
  obtain ⟨e, h1, h2⟩ := bindR_ok.1 hx
  obtain ⟨p, h3, h4⟩ := hs e h1
  subst h4
  have hst : stepW P r (.call c) (TT env t0) h = .ok (en e, h) := by rw [← h3, ← hv]; simp only [stepW, step, callStep, evs_ok ha, bindR, hc, ev, invokeV, hcal]; simp
  have hact : actK (.call c) = true := by simp only [actK, hc]
  rw [sil_act hw hact hst ⟨.inl rfl, fun _ => rfl⟩, put_TT hd]
  exact hk e x h2
theorem send (hk : Sim (KK (TT env t0) h) M Q) : Sim (sil P r N ops chg chs prd [] i (TT env t0) h KK) M Q := by rw [sil]; exact hk
end
end Go.AM
namespace Go.AM
open Go

/-! ### The text's loops, and ways that meet -/
def loopM {τ δ : Type} (F : (τ → R δ) → τ → R δ) : Nat → τ → R δ
  | 0, _ => .error "fuel"
  | n + 1, p => F (loopM F n) p
def LL : Nat := 1000000
abbrev w64 (x : Int) : Int := IntKind.wrap .i64 x
/-- In another order they may not be; some may be left out, and some that are none put in. -/
inductive Pick : OwnL → OwnL → Prop
  | refl (own : OwnL) : Pick own own
  | nil (own : OwnL) : Pick own []
  | keep (p : Option Nat × Blk) {o o' : OwnL} : Pick o o' → Pick (p :: o) (p :: o')
  | skip (p : Option Nat × Blk) {o o' : OwnL} : Pick o o' → Pick (p :: o) o'
  | none (b : Blk) {o o' : OwnL} : Pick o o' → Pick o ((none, b) :: o')
theorem Pick.mem {o o' : OwnL} (h : Pick o o') : ∀ p ∈ o', p ∈ o ∨ p.1 = Option.none := by
  induction h with
  | refl own => exact fun p hp => .inl hp
  | nil own => exact fun p hp => by cases hp
  | keep q h ih =>
    intro p hp
    rcases List.mem_cons.1 hp with rfl | hp
    · exact .inl (List.mem_cons_self ..)
    · exact (ih p hp).imp (List.mem_cons_of_mem _) id
  | skip q h ih => exact fun p hp => (ih p hp).imp (List.mem_cons_of_mem _) id
  | none b h ih =>
    intro p hp
    rcases List.mem_cons.1 hp with rfl | hp
    · exact .inr rfl
    · exact ih p hp
theorem St.pick {φ : Fz} {lo : Nat} {h : Heap} {own own' : OwnL} (X : St φ lo h own) (hp : Pick own own') : St φ lo h own' := by
  refine ⟨X.fz, X.n, X.wr, fun p hm i hi => ?_, ?_⟩
  · rcases hp.mem p hm with h | h
    · exact X.mem p h i hi
    · rw [h] at hi; cases hi
  · have nd := X.nd
    clear X
    induction hp with
    | refl own => exact nd
    | nil own => exact .nil
    | keep q h ih =>
      obtain ⟨h1, h2⟩ := List.pairwise_cons.1 nd
      refine .cons (fun p hp i hi => ?_) (ih h2)
      rcases h.mem p hp with hm | hm
      · exact h1 p hm i hi
      · rw [hm]; intro e; cases e
    | skip q h ih => exact ih (List.pairwise_cons.1 nd).2
    | none b h ih => exact .cons (fun p hp i hi => by cases hi) (ih nd)

section
variable {δ β : Type} {P : Program} {r : Rec} {L N n : Nat} {rd : Option Nat} {env : Env} {t0 : Tmps} {h h' : Heap} {k : Kont β} {Q : δ → β → Prop} {M M1 M2 : R δ}
variable {ops : Array Oper} {os : List Oper} {i : Nat} {chg chs prd : Nat} {KK : Tmps → Heap → R β} {v : Value}
theorem dloopM {τ σ : Type} (E : τ → σ → Env) (S : τ → σ → Heap → Prop) {F : (τ → R δ) → τ → R δ} {b : Code} (x : τ) (y : σ) (hE : ∀ p ∈ E x y, TT env t0 p.1 = p.2) (hS : S x y h)
    (hstep : ∀ n, (∀ x y t0 h, S x y h → Sim (loopD P r L N rd b n (TT (E x y) t0) h k) (loopM F n x) Q) → ∀ x y t0 h, S x y h → Sim (den P r L N rd b (TT (E x y) t0) h (kLoop P r L N rd b n k)) (F (loopM F n) x) Q) :
    Sim (den P r L N rd (.loop b) (TT env t0) h k) (loopM F L x) Q := by
  have key : ∀ n x y t0 h, S x y h → Sim (loopD P r L N rd b n (TT (E x y) t0) h k) (loopM F n x) Q := by
    intro n
    induction n with
    | zero => intro x y t0 h _ d hd; cases hd
    | succ n ih => intro x y t0 h hS; rw [loopD_succ]; exact hstep n ih x y t0 h hS
  rw [den_loop, TT_sub hE]
  exact key L x y _ h hS
theorem kbackM {τ σ : Type} {E : τ → σ → Env} {S : τ → σ → Heap → Prop} {F : τ → R δ} {b : Code} {n : Nat} (ih : ∀ x y t0 h, S x y h → Sim (loopD P r L N rd b n (TT (E x y) t0) h k) (F x) Q) (x : τ) (y : σ) (hE : ∀ p ∈ E x y, TT env t0 p.1 = p.2) (hS : S x y h) :
    Sim (kLoop P r L N rd b n k .normal (TT env t0) h) (F x) Q := by
  show Sim (loopD P r L N rd b n (TT env t0) h k) (F x) Q
  rw [TT_sub hE]
  exact ih x y _ h hS
theorem djoinM {τ σ : Type} (E : τ → σ → Env) (S : τ → σ → Heap → Prop) {F : τ → R δ} {G : (τ → R δ) → R δ} {c : Code} {t : Tmps} (hj : ∀ x y t0 h, S x y h → Sim (k .normal (TT (E x y) t0) h) (F x) Q)
    (hc : ∀ J : τ → R δ, (∀ x y t0 h, S x y h → Sim (k .normal (TT (E x y) t0) h) (J x) Q) → Sim (den P r L N rd c t h k) (G J) Q) : Sim (den P r L N rd c t h k) (sh F G) Q := hc F hj
theorem jmpM {τ σ : Type} {E : τ → σ → Env} {S : τ → σ → Heap → Prop} {F : τ → R δ} (J : ∀ x y t0 h, S x y h → Sim (k .normal (TT (E x y) t0) h) (F x) Q) (x : τ) (y : σ) (hE : ∀ p ∈ E x y, TT env t0 p.1 = p.2) (hS : S x y h) :
    Sim (k .normal (TT env t0) h) (F x) Q := by
  rw [TT_sub hE]
  exact J x y _ h hS
theorem ljoinM {τ σ : Type} (E : τ → σ → Env) (S : τ → σ → Heap → Prop) (n : Nat) {F : τ → R δ} {G : (τ → R δ) → R δ} {t : Tmps} (hj : ∀ x y t0 h, S x y h → Sim (opersL P r N ops (os.drop n) k (TT (E x y) t0) h) (F x) Q)
    (hc : ∀ J : τ → R δ, (∀ x y t0 h, S x y h → Sim (opersL P r N ops (os.drop n) k (TT (E x y) t0) h) (J x) Q) → Sim (opersL P r N ops os k t h) (G J) Q) : Sim (opersL P r N ops os k t h) (sh F G) Q := hc F hj
theorem ljmpM {τ σ : Type} {E : τ → σ → Env} {S : τ → σ → Heap → Prop} {F : τ → R δ} (J : ∀ x y t0 h, S x y h → Sim (opersL P r N ops os k (TT (E x y) t0) h) (F x) Q) (x : τ) (y : σ) (hE : ∀ p ∈ E x y, TT env t0 p.1 = p.2) (hS : S x y h) :
    Sim (opersL P r N ops os k (TT env t0) h) (F x) Q := by
  rw [TT_sub hE]
  exact J x y _ h hS
theorem sjoinM {τ σ : Type} (E : τ → σ → Env) (S : τ → σ → Heap → Prop) (n i' : Nat) {F : τ → R δ} {G : (τ → R δ) → R δ} {t : Tmps} (hj : ∀ x y t0 h, S x y h → Sim (sil P r N ops chg chs prd (os.drop n) i' (TT (E x y) t0) h KK) (F x) Q)
    (hc : ∀ J : τ → R δ, (∀ x y t0 h, S x y h → Sim (sil P r N ops chg chs prd (os.drop n) i' (TT (E x y) t0) h KK) (J x) Q) → Sim (sil P r N ops chg chs prd os i t h KK) (G J) Q) : Sim (sil P r N ops chg chs prd os i t h KK) (sh F G) Q := hc F hj
theorem sjmpM {τ σ : Type} {E : τ → σ → Env} {S : τ → σ → Heap → Prop} {F : τ → R δ} (J : ∀ x y t0 h, S x y h → Sim (sil P r N ops chg chs prd os i (TT (E x y) t0) h KK) (F x) Q) (x : τ) (y : σ) (hE : ∀ p ∈ E x y, TT env t0 p.1 = p.2) (hS : S x y h) :
    Sim (sil P r N ops chg chs prd os i (TT env t0) h KK) (F x) Q := by
  rw [TT_sub hE]
  exact J x y _ h hS
/-- A value that is computed in several ways, and named. -/
theorem lsh {τ σ : Type} (E : τ → σ → Env) (S : τ → σ → Heap → Prop) (n : Nat) {F : τ → R δ} {a : τ} {t : Tmps} (hj : ∀ x y t0 h, S x y h → Sim (opersL P r N ops (os.drop n) k (TT (E x y) t0) h) (F x) Q)
    (hc : ∀ J : τ → R δ, (∀ x y t0 h, S x y h → Sim (opersL P r N ops (os.drop n) k (TT (E x y) t0) h) (J x) Q) → Sim (opersL P r N ops os k t h) (J a) Q) : Sim (opersL P r N ops os k t h) (sh a F) Q := hc F hj
theorem ssh {τ σ : Type} (E : τ → σ → Env) (S : τ → σ → Heap → Prop) (n i' : Nat) {F : τ → R δ} {a : τ} {t : Tmps} (hj : ∀ x y t0 h, S x y h → Sim (sil P r N ops chg chs prd (os.drop n) i' (TT (E x y) t0) h KK) (F x) Q)
    (hc : ∀ J : τ → R δ, (∀ x y t0 h, S x y h → Sim (sil P r N ops chg chs prd (os.drop n) i' (TT (E x y) t0) h KK) (J x) Q) → Sim (sil P r N ops chg chs prd os i t h KK) (J a) Q) : Sim (sil P r N ops chg chs prd os i t h KK) (sh a F) Q := hc F hj
theorem TT_again {i : Nat} (hv : TT env t0 i = v) : TT env t0 = TT ((i, v) :: env) t0 := by
  funext j
  show TT env t0 j = match Nat.beq j i with | true => v | false => TT env t0 j
  cases hb : Nat.beq j i with
  | true => rw [Nat.eq_of_beq_eq_true hb]; exact hv
  | false => rfl
theorem lcase {i : Nat} {b : Bool} (hv : TT env t0 i = .bool b) (h1 : b = true → Sim (opersL P r N ops os k (TT ((i, .bool true) :: env) t0) h) M Q) (h2 : b = false → Sim (opersL P r N ops os k (TT ((i, .bool false) :: env) t0) h) M Q) : Sim (opersL P r N ops os k (TT env t0) h) M Q := by
  rw [TT_again hv]
  cases b with
  | true => exact h1 rfl
  | false => exact h2 rfl
theorem scase {j : Nat} {b : Bool} (hv : TT env t0 j = .bool b) (h1 : b = true → Sim (sil P r N ops chg chs prd os i (TT ((j, .bool true) :: env) t0) h KK) M Q) (h2 : b = false → Sim (sil P r N ops chg chs prd os i (TT ((j, .bool false) :: env) t0) h KK) M Q) : Sim (sil P r N ops chg chs prd os i (TT env t0) h KK) M Q := by
  rw [TT_again hv]
  cases b with
  | true => exact h1 rfl
  | false => exact h2 rfl
theorem lif {i : Nat} {b : Bool} (hv : TT env t0 i = .bool b) (h1 : b = true → Sim (opersL P r N ops os k (TT ((i, .bool true) :: env) t0) h) M1 Q) (h2 : b = false → Sim (opersL P r N ops os k (TT ((i, .bool false) :: env) t0) h) M2 Q) : Sim (opersL P r N ops os k (TT env t0) h) (if b = true then M1 else M2) Q := by
  rw [TT_again hv]
  cases b with
  | true => exact h1 rfl
  | false => exact h2 rfl
theorem sif {j : Nat} {b : Bool} (hv : TT env t0 j = .bool b) (h1 : b = true → Sim (sil P r N ops chg chs prd os i (TT ((j, .bool true) :: env) t0) h KK) M1 Q) (h2 : b = false → Sim (sil P r N ops chg chs prd os i (TT ((j, .bool false) :: env) t0) h KK) M2 Q) : Sim (sil P r N ops chg chs prd os i (TT env t0) h KK) (if b = true then M1 else M2) Q := by
  rw [TT_again hv]
  cases b with
  | true => exact h1 rfl
  | false => exact h2 rfl
end
end Go.AM
