/- Of the abstract machine, for all programs: definitions and lemmas, no claim of its own; no condition. -/
import Derived.Test.YtlkddekecegfdaaGreatLfBase
set_option linter.unusedVariables false
set_option linter.unusedSimpArgs false
namespace Go.AM
open Go

section
variable {P : Program} {r : Rec} {N : Nat} {ops : Array Oper} {h h' : Heap}

/-! ### Regions that draw, in order, at one heap -/
def minK : Op → Bool
  | .call c => match c.callee with | .builtin .min => true | .builtin .max => true | _ => false
  | _ => false
def actW (op : Op) : Bool := !valK op && (!isRead op && !minK op)
/-- What the i-th operation does in order, at the heap H i. -/
def OpRes (P : Program) (r : Rec) (ops : Array Oper) (chg chs prd : Nat) (H : Nat → Heap) (i : Nat) (o : Oper) (t : Tmps) (v : Value) : Prop :=
  (wanted ops o t = false ∧ v = undef ∧ H (i + 1) = H i) ∨
  (wanted ops o t = true ∧ stillOf P o t (H i).n = .ok (v, none) ∧ H (i + 1) = H i) ∨
  (wanted ops o t = true ∧ (∃ e, stillOf P o t (H i).n = .error e) ∧ isRead o.op = true ∧ step P o.op t (H i) = .ok (.value v (H i)) ∧ (sameV 20 v v = true ∧ bit prd i = false) ∧ H (i + 1) = H i) ∨
  (wanted ops o t = true ∧ (∃ e, stillOf P o t (H i).n = .error e) ∧ actW o.op = true ∧ stepV P r o t (H i) = .ok (v, H (i + 1)) ∧ (bit chg i = false → H (i + 1) = H i) ∧ (bit chs i = true → (H (i + 1)).n = (H i).n))

/-- The trace of a run in order. -/
structure Trace (P : Program) (r : Rec) (N : Nat) (ops : Array Oper) (chg chs prd : Nat) (t : Tmps) (E : Nat → Tmps) (V : Nat → Value) (H : Nat → Heap) : Prop where
  zero : E 0 = t
  step : ∀ (i : Nat) (o : Oper), ops[i]? = some o → E (i + 1) = put N (E i) o.dst (V i) ∧ OpRes P r ops chg chs prd H i o (E i) (V i)

/-- Whatever may write is ordered towards all else that may; what changes the heap comes after whatever reads ahead of it, and before whatever stands behind it. -/
def staticW (ops : Array Oper) (chg chs prd : Nat) (pl : List Spot) : Bool :=
  (pl.all fun x => !actW x.2.2.op || pl.all fun y => !actW y.2.2.op || (Nat.beq x.1 y.1 || (bit x.2.1 y.1 || bit y.2.1 x.1))) &&
  (pl.all fun x => !bit chg x.1 || pl.all fun y => (!(isRead y.2.2.op && (!bit prd y.1 && Nat.blt y.1 x.1)) || bit x.2.1 y.1) && (!Nat.blt x.1 y.1 || (bit y.2.1 x.1 || (bit chs x.1 && valK y.2.2.op))))

theorem planL_sorted : ∀ (os : List Oper) (i : Nat) (acc : List Spot), (planL os i acc).Pairwise (fun x y => x.1 < y.1) ∧ ∀ x ∈ planL os i acc, i ≤ x.1
  | [], i, acc => ⟨.nil, fun x hx => by simp [planL] at hx⟩
  | o :: os, i, acc => by
    obtain ⟨h1, h2⟩ := planL_sorted os (i + 1) ((i, maskE acc o.after.toList, o) :: acc)
    simp only [planL]
    refine ⟨.cons (fun y hy => by have := h2 y hy; omega) h1, fun x hx => ?_⟩
    rcases List.mem_cons.1 hx with rfl | hx
    · exact Nat.le_refl _
    · have := h2 x hx; omega
theorem undone_sorted {done : Nat} : ∀ {pl : List Spot}, pl.Pairwise (fun x y => x.1 < y.1) → (undone done pl).Pairwise (fun x y => x.1 < y.1)
  | [], _ => .nil
  | x :: pl, h => by
    obtain ⟨h1, h2⟩ := List.pairwise_cons.1 h
    simp only [undone]
    split
    · exact undone_sorted h2
    · exact .cons (fun y hy => h1 y (mem_undone.1 hy).1) (undone_sorted h2)

section
variable {t : Tmps} {E : Nat → Tmps} {V : Nat → Value} {H : Nat → Heap} {pl : List Spot} {chg chs prd : Nat}

theorem mask_lt (hp : PlanOk ops N pl) {x : Spot} (hx : x ∈ pl) {y : Nat} (hy : bit x.2.1 y = true) : y < x.1 := by
  refine (hp.ok x hx).2 (fun j => j < x.1) (fun j o ho hj e he hb => ?_) (fun e he hb => hp.back x hx e he hb) y hy
  obtain ⟨b, hb'⟩ := hp.all j o ho
  have := hp.back _ hb' e he hb
  omega

theorem spot_op (hp : PlanOk ops N pl) {x : Spot} (hx : x ∈ pl) : ops[x.1]? = some x.2.2 := (hp.ok x hx).1
theorem env_char (hp : PlanOk ops N pl) (T : Trace P r N ops chg chs prd t E V H) : ∀ (i : Nat), i ≤ ops.size → ∀ j,
    (∀ y ∈ pl, y.1 < i → y.2.2.dst = some j → E i j = V y.1) ∧ ((∀ y ∈ pl, y.1 < i → y.2.2.dst ≠ some j) → E i j = t j)
  | 0, _, j => ⟨fun y _ hy => by omega, fun _ => by rw [T.zero]⟩
  | i + 1, hi, j => by
    obtain ⟨ih1, ih2⟩ := env_char hp T i (by omega) j
    have ho : ops[i]? = some ops[i] := Array.getElem?_eq_getElem (by omega)
    obtain ⟨b, hb⟩ := hp.all i _ ho
    have hE := (T.step i _ ho).1
    have hat : E (i + 1) j = if ops[i].dst = some j then V i else E i j := by
      rw [hE]
      exact put_at (d := ⟨0, E i, H 0, []⟩) (hp.dstN _ hb) j
    refine ⟨fun y hy hlt hd => ?_, fun hn => ?_⟩
    · by_cases e : y.1 = i
      · have : y = (i, b, ops[i]) := hp.uniq y hy _ hb e
        subst this
        rw [hat, if_pos hd]
      · have hne : ops[i].dst ≠ some j := fun hd' => e (hp.dist _ hb y hy j hd' hd)
        rw [hat, if_neg hne]
        exact ih1 y hy (by omega) hd
    · rw [hat, if_neg (hn _ hb (by omega))]
      exact ih2 fun y hy hlt => hn y hy (by omega)

def IsW (P : Program) (r : Rec) (ops : Array Oper) (H : Nat → Heap) (E : Nat → Tmps) (V : Nat → Value) (x : Spot) : Prop :=
  wanted ops x.2.2 (E x.1) = true ∧ (∃ e, stillOf P x.2.2 (E x.1) (H x.1).n = .error e) ∧ actW x.2.2.op = true ∧ stepV P r x.2.2 (E x.1) (H x.1) = .ok (V x.1, H (x.1 + 1))

structure InvS (P : Program) (r : Rec) (ops : Array Oper) (chg prd : Nat) (pl : List Spot) (t : Tmps) (E : Nat → Tmps) (V : Nat → Value) (H : Nat → Heap) (d : DS) : Prop where
  closed : ∀ x ∈ pl, bit d.done x.1 = true → ∀ y, bit x.2.1 y = true → bit d.done y = true
  set : ∀ j, (∀ x ∈ pl, bit d.done x.1 = true → x.2.2.dst = some j → d.t j = V x.1) ∧ ((∀ x ∈ pl, bit d.done x.1 = true → x.2.2.dst ≠ some j) → d.t j = t j)
  heap : ∀ i, i ≤ ops.size → (∀ c ∈ pl, bit chg c.1 = true → IsW P r ops H E V c → (c.1 < i ↔ bit d.done c.1 = true)) → d.h = H i
  lastW : ∀ x ∈ pl, bit chg x.1 = true → IsW P r ops H E V x → bit d.done x.1 = true → ∀ y ∈ pl, y.1 < x.1 → bit d.done y.1 = true
  rd : ∀ q ∈ d.rd, step P q.2.1.op q.2.2.1 d.h = .ok (.value q.2.2.2 d.h) ∧ sameV 20 q.2.2.2 q.2.2.2 = true ∧ ∃ x ∈ pl, x.1 = q.1 ∧ isRead x.2.2.op = true ∧ bit prd x.1 = false ∧ bit d.done x.1 = true

theorem env_ready (hp : PlanOk ops N pl) (T : Trace P r N ops chg chs prd t E V H) {d : DS} (I : InvS P r ops chg prd pl t E V H d) {x : Spot} (hx : x ∈ pl) (hnd : bit d.done x.1 = false) (hb : sub x.2.1 d.done = true) :
    ∀ j ∈ x.2.2.looksAt ops, d.t j = E x.1 j := by
  intro j hj
  have hlt : x.1 < ops.size := (Array.getElem?_eq_some_iff.1 (spot_op hp hx)).1
  obtain ⟨e1, e2⟩ := env_char hp T x.1 (by omega) j
  obtain ⟨s1, s2⟩ := I.set j
  by_cases hw : ∃ y ∈ pl, y.2.2.dst = some j
  · obtain ⟨y, hy, hd⟩ := hw
    rcases hp.look x hx y hy j hj hd with h1 | h1
    · have hyd := sub_of_true hb h1
      rw [s1 y hy hyd hd, e1 y hy (mask_lt hp hx h1) hd]
    · have hyx := mask_lt hp hy h1
      have hy0 : ∀ z ∈ pl, z.2.2.dst = some j → z.1 = y.1 := fun z hz hdz => hp.dist y hy z hz j hd hdz
      rw [s2 fun z hz hzd hdz => ?_, e2 fun z hz hlt hdz => ?_]
      · have := hy0 z hz hdz; omega
      · have hzy := hp.uniq z hz y hy (hy0 z hz hdz)
        subst hzy
        have := I.closed z hz hzd _ h1
        rw [hnd] at this; cases this
  · rw [s2 fun z hz _ hdz => hw ⟨z, hz, hdz⟩, e2 fun z hz _ hdz => hw ⟨z, hz, hdz⟩]

theorem wanted_congr {o : Oper} {t t' : Tmps} (h : ∀ j ∈ o.looksAt ops, t j = t' j) : wanted ops o t = wanted ops o t' := by
  unfold wanted
  cases hg : o.guard with
  | none => rfl
  | some g =>
    obtain ⟨j, want⟩ := g
    simp only
    cases hd : (ops[j]?).bind (·.dst) with
    | none => rfl
    | some d =>
      have : d ∈ o.looksAt ops := by
        simp only [Oper.looksAt, hg, hd]
        simp
      simp only [h d this]
theorem ev_congr {o : Oper} {t t' : Tmps} (h : ∀ j ∈ o.looksAt ops, t j = t' j) : ∀ x ∈ o.op.operands.toList, ev t x = ev t' x := by
  intro x hx
  cases x with
  | tmp i => simp only [ev, h i (looks_op hx)]
  | const v => rfl
  | global g => rfl
  | func f => rfl
theorem low_congr {m : Nat} {t t' : Tmps} : ∀ {l : List Operand}, (∀ i, Operand.tmp i ∈ l → t i = t' i) → lowL t m l = lowL t' m l
  | [], _ => rfl
  | x :: l, h => by
    have ih := low_congr (m := m) (l := l) fun i hi => h i (List.mem_cons_of_mem _ hi)
    cases x with
    | tmp i => simp only [lowL, h i (List.mem_cons_self ..), ih]
    | const v => simp only [lowL, ih]
    | global g => simp only [lowL, ih]
    | func f => simp only [lowL, ih]
theorem still_congr {o : Oper} {m : Nat} {t t' : Tmps} (h : ∀ j ∈ o.looksAt ops, t j = t' j) : stillOf P o t m = stillOf P o t' m := by
  unfold stillOf
  rw [low_congr fun i hi => h i (looks_op hi), step_congr _ (ev_congr h)]
theorem stepV_congr {o : Oper} {t t' : Tmps} {h₁ : Heap} (h : ∀ j ∈ o.looksAt ops, t j = t' j) : stepV P r o t h₁ = stepV P r o t' h₁ := by
  unfold stepV
  rw [step_congr _ (ev_congr h)]

/-- One operation more is done. -/
theorem InvS.one (hp : PlanOk ops N pl) {d d' : DS} (I : InvS P r ops chg prd pl t E V H d) {x : Spot} (hx : x ∈ pl) (hnd : bit d.done x.1 = false) (hb : sub x.2.1 d.done = true)
    (h1 : d'.done = Nat.lor (Nat.pow 2 x.1) d.done) (h2 : d'.t = put N d.t x.2.2.dst (V x.1))
    (h3 : ∀ i, i ≤ ops.size → (∀ c ∈ pl, bit chg c.1 = true → IsW P r ops H E V c → (c.1 < i ↔ bit d'.done c.1 = true)) → d'.h = H i)
    (h6 : ∀ y ∈ pl, bit chg y.1 = true → IsW P r ops H E V y → bit d'.done y.1 = true → ∀ z ∈ pl, z.1 < y.1 → bit d'.done z.1 = true)
    (h5 : ∀ q ∈ d'.rd, step P q.2.1.op q.2.2.1 d'.h = .ok (.value q.2.2.2 d'.h) ∧ sameV 20 q.2.2.2 q.2.2.2 = true ∧ ∃ x ∈ pl, x.1 = q.1 ∧ isRead x.2.2.op = true ∧ bit prd x.1 = false ∧ bit d'.done x.1 = true) : InvS P r ops chg prd pl t E V H d' := by
  have hdone : ∀ y, bit d'.done y = true ↔ x.1 = y ∨ bit d.done y = true := fun y => by rw [h1]; exact bit_add
  refine ⟨fun y hy hyd z hz => ?_, fun j => ?_, h3, h6, h5⟩
  · rw [hdone] at hyd ⊢
    rcases hyd with e | hyd
    · have := hp.uniq x hx y hy e
      subst this
      exact .inr (sub_of_true hb hz)
    · exact .inr (I.closed y hy hyd z hz)
  · obtain ⟨s1, s2⟩ := I.set j
    have hat : d'.t j = if x.2.2.dst = some j then V x.1 else d.t j := by
      rw [h2]; exact put_at (hp.dstN x hx) j
    refine ⟨fun y hy hyd hd => ?_, fun hn => ?_⟩
    · rw [hat]
      rcases (hdone y.1).1 hyd with e | hyd
      · have := hp.uniq x hx y hy e
        subst this
        rw [if_pos hd]
      · by_cases e : x.2.2.dst = some j
        · have := hp.dist x hx y hy j e hd
          rw [this] at hyd; rw [hnd] at hyd; cases hyd
        · rw [if_neg e]; exact s1 y hy hyd hd
    · rw [hat, if_neg (hn x hx ((hdone _).2 (.inl rfl)))]
      exact s2 fun y hy hyd => hn y hy ((hdone _).2 (.inr hyd))

theorem Nat.find_spec_min {p : Nat → Prop} (h : ∃ n, p n) : ∃ n, p n ∧ ∀ m, m < n → ¬ p m := by
  obtain ⟨n, hn⟩ := h
  induction n using Nat.strongRecOn with
  | ind n ih =>
    by_cases hm : ∃ m, m < n ∧ p m
    · obtain ⟨m, hlt, hp⟩ := hm; exact ih m hlt hp
    · exact ⟨n, hn, fun m hlt hp => hm ⟨m, hlt, hp⟩⟩

/-- Where an operation is ready, the heap is the one that it has in order; of one that asks nothing of the heap: it is as great. -/
theorem heap_ready (hp : PlanOk ops N pl) (hW : staticW ops chg chs prd pl = true) {d : DS} (I : InvS P r ops chg prd pl t E V H d) {x : Spot} (hx : x ∈ pl) (hnd : bit d.done x.1 = false) (hb : sub x.2.1 d.done = true) (hv : valK x.2.2.op = false) : d.h = H x.1 := by
  have hxs : x.1 < ops.size := (Array.getElem?_eq_some_iff.1 (spot_op hp hx)).1
  refine I.heap x.1 (by omega) fun c hc hcc hcw => ⟨fun hlt => ?_, fun hd => ?_⟩
  · simp only [staticW, Bool.and_eq_true, List.all_eq_true] at hW
    have := hW.2 c hc
    rw [hcc] at this
    simp only [Bool.not_true, Bool.false_or, List.all_eq_true] at this
    have := (Bool.and_eq_true_iff.1 (this x hx)).2
    rw [blt_iff.2 hlt, hv] at this
    exact sub_of_true hb (by simpa using this)
  · rcases Nat.lt_trichotomy c.1 x.1 with h | h | h
    · exact h
    · rw [h, hnd] at hd; cases hd
    · have := I.lastW c hc hcc hcw hd x hx h
      rw [hnd] at this; cases this
theorem heap_readyN (hp : PlanOk ops N pl) (hW : staticW ops chg chs prd pl = true) (T : Trace P r N ops chg chs prd t E V H) {d : DS} (I : InvS P r ops chg prd pl t E V H d) {x : Spot} (hx : x ∈ pl) (hnd : bit d.done x.1 = false) (hb : sub x.2.1 d.done = true) :
    d.h.n = (H x.1).n := by
  have hxs : x.1 < ops.size := (Array.getElem?_eq_some_iff.1 (spot_op hp hx)).1
  have key : ∀ c0, c0 ≤ x.1 → (∀ c ∈ pl, bit chg c.1 = true → IsW P r ops H E V c → (c.1 < c0 ↔ bit d.done c.1 = true)) → d.h.n = (H x.1).n := by
    intro c0 hc0 hc
    have h0 := I.heap c0 (by omega) hc
    have : ∀ k, c0 + k ≤ x.1 → (H c0).n = (H (c0 + k)).n := by
      intro k
      induction k with
      | zero => intro _; rfl
      | succ k ih =>
        intro hk
        rw [ih (by omega)]
        have ho : ops[c0 + k]? = some (ops[c0 + k]'(by omega)) := Array.getElem?_eq_getElem (by omega)
        obtain ⟨b, hb'⟩ := hp.all _ _ ho
        obtain ⟨_, hr⟩ := T.step _ _ ho
        show (H (c0 + k)).n = (H (c0 + k + 1)).n
        rcases hr with g | g | g | g
        · rw [g.2.2]
        · rw [g.2.2]
        · rw [g.2.2.2.2.2]
        · cases hck : bit chg (c0 + k) with
          | false => rw [g.2.2.2.2.1 hck]
          | true =>
            have hiw : IsW P r ops H E V (c0 + k, b, ops[c0 + k]'(by omega)) := ⟨g.1, g.2.1, g.2.2.1, g.2.2.2.1⟩
            have hnot : bit d.done (c0 + k) = false := by
              cases hd : bit d.done (c0 + k) with
              | false => rfl
              | true => have := (hc _ hb' hck hiw).2 hd; simp only at this; omega
            simp only [staticW, Bool.and_eq_true, List.all_eq_true] at hW
            have := hW.2 _ hb'
            rw [hck] at this
            simp only [Bool.not_true, Bool.false_or, List.all_eq_true] at this
            have := (Bool.and_eq_true_iff.1 (this x hx)).2
            rw [blt_iff.2 (show c0 + k < x.1 by omega)] at this
            simp only [Bool.not_true, Bool.false_or, Bool.or_eq_true, Bool.and_eq_true] at this
            rcases this with e | ⟨e, _⟩
            · have := sub_of_true hb e; rw [hnot] at this; cases this
            · rw [g.2.2.2.2.2 e]
    rw [h0, this (x.1 - c0) (by omega)]
    rw [show c0 + (x.1 - c0) = x.1 by omega]
  -- the first change that is not done yet, ahead of x
  by_cases hex : ∃ c ∈ pl, bit chg c.1 = true ∧ IsW P r ops H E V c ∧ bit d.done c.1 = false ∧ c.1 < x.1
  · have : ∃ n, ∃ c ∈ pl, c.1 = n ∧ bit chg c.1 = true ∧ IsW P r ops H E V c ∧ bit d.done c.1 = false ∧ c.1 < x.1 := by
      obtain ⟨c, h1, h2⟩ := hex; exact ⟨c.1, c, h1, rfl, h2⟩
    have hmin := Nat.find_spec_min this
    obtain ⟨n, ⟨c, hc, rfl, g1, g2, g3, g4⟩, hmin⟩ := hmin
    refine key c.1 (by omega) fun e he hec hew => ⟨fun hlt => ?_, fun hd => ?_⟩
    · cases hd : bit d.done e.1 with
      | true => rfl
      | false => exact absurd ⟨e, he, rfl, hec, hew, hd, by omega⟩ (hmin e.1 hlt)
    · rcases Nat.lt_trichotomy e.1 c.1 with h | h | h
      · exact h
      · rw [h, g3] at hd; cases hd
      · have := I.lastW e he hec hew hd c hc h; rw [g3] at this; cases this
  · refine key x.1 (Nat.le_refl _) fun c hc hcc hcw => ⟨fun hlt => ?_, fun hd => ?_⟩
    · cases hd : bit d.done c.1 with
      | true => rfl
      | false => exact absurd ⟨c, hc, hcc, hcw, hd, hlt⟩ hex
    · rcases Nat.lt_trichotomy c.1 x.1 with h | h | h
      · exact h
      · rw [h, hnd] at hd; cases hd
      · have := I.lastW c hc hcc hcw hd x hx h
        rw [hnd] at this; cases this

theorem one_pass (hp : PlanOk ops N pl) (hW : staticW ops chg chs prd pl = true) (T : Trace P r N ops chg chs prd t E V H) {d : DS} (I : InvS P r ops chg prd pl t E V H d) {x : Spot} (hx : x ∈ pl) (hnd : bit d.done x.1 = false) (hb : sub x.2.1 d.done = true) :
    ∃ d', passOne P N ops x d = .ok d' ∧ InvS P r ops chg prd pl t E V H d' ∧ (∀ y, bit d.done y = true → bit d'.done y = true) ∧ (∀ y, bit d'.done y = true → y = x.1 ∨ bit d.done y = true) ∧
      ((bit d'.done x.1 = true) ∨ (d' = d ∧ IsW P r ops H E V x)) := by
  have henv := env_ready hp T I hx hnd hb
  have hhn : d.h.n = (H x.1).n := heap_readyN hp hW T I hx hnd hb
  have hh : valK x.2.2.op = false → d.h = H x.1 := heap_ready hp hW I hx hnd hb
  have hxs : x.1 < ops.size := (Array.getElem?_eq_some_iff.1 (spot_op hp hx)).1
  obtain ⟨hE, hres⟩ := T.step x.1 x.2.2 (spot_op hp hx)
  have hw := wanted_congr henv
  have hs := still_congr (P := P) (m := d.h.n) henv
  rw [hhn] at hs
  -- what goes for each of the three ways in which the pass does the operation
  have fin : ∀ rd' : List (Nat × Oper × Tmps × Value), ¬ IsW P r ops H E V x →
      (∀ q ∈ rd', step P q.2.1.op q.2.2.1 d.h = .ok (.value q.2.2.2 d.h) ∧ sameV 20 q.2.2.2 q.2.2.2 = true ∧ ∃ y ∈ pl, y.1 = q.1 ∧ isRead y.2.2.op = true ∧ bit prd y.1 = false ∧ (y.1 = x.1 ∨ bit d.done y.1 = true)) →
      passOne P N ops x d = .ok ⟨Nat.lor (Nat.pow 2 x.1) d.done, put N d.t x.2.2.dst (V x.1), d.h, rd'⟩ →
      ∃ d', passOne P N ops x d = .ok d' ∧ InvS P r ops chg prd pl t E V H d' ∧ (∀ y, bit d.done y = true → bit d'.done y = true) ∧ (∀ y, bit d'.done y = true → y = x.1 ∨ bit d.done y = true) ∧
        ((bit d'.done x.1 = true) ∨ (d' = d ∧ IsW P r ops H E V x)) := by
    intro rd' hnw hrd hpass
    have hdone : ∀ y, bit (Nat.lor (Nat.pow 2 x.1) d.done) y = true ↔ x.1 = y ∨ bit d.done y = true := fun y => bit_add
    have hiff : ∀ c ∈ pl, IsW P r ops H E V c → (bit (Nat.lor (Nat.pow 2 x.1) d.done) c.1 = true ↔ bit d.done c.1 = true) := by
      intro c hc hcw
      rw [hdone]
      refine ⟨fun e => ?_, .inr⟩
      rcases e with e | e
      · have := hp.uniq x hx c hc e
        subst this
        exact absurd hcw hnw
      · exact e
    refine ⟨_, hpass, I.one hp hx hnd hb rfl rfl (fun i hi hc => I.heap i hi fun c hcm hcc hcw => ?_) (fun y hy hyc hyw hyd z hz hlt => ?_) (fun q hq => ?_), fun y hy => (hdone y).2 (.inr hy), fun y hy => ((hdone y).1 hy).imp Eq.symm id, .inl ((hdone _).2 (.inl rfl))⟩
    · rw [← hiff c hcm hcw]; exact hc c hcm hcc hcw
    · exact (hdone _).2 (.inr (I.lastW y hy hyc hyw ((hiff y hy hyw).1 hyd) z hz hlt))
    · obtain ⟨g1, g2, y, hy, g3, g4, g6, g5⟩ := hrd q hq
      exact ⟨g1, g2, y, hy, g3, g4, g6, (hdone _).2 (g5.imp Eq.symm id)⟩
  have hold : ∀ q ∈ d.rd, step P q.2.1.op q.2.2.1 d.h = .ok (.value q.2.2.2 d.h) ∧ sameV 20 q.2.2.2 q.2.2.2 = true ∧ ∃ y ∈ pl, y.1 = q.1 ∧ isRead y.2.2.op = true ∧ bit prd y.1 = false ∧ (y.1 = x.1 ∨ bit d.done y.1 = true) := by
    intro q hq
    obtain ⟨g1, g2, y, hy, g3, g4, g6, g5⟩ := I.rd q hq
    exact ⟨g1, g2, y, hy, g3, g4, g6, .inr g5⟩
  rcases hres with ⟨g1, g2, g3⟩ | ⟨g1, g2, g3⟩ | ⟨g1, ⟨e, g2⟩, g3, g4, g5, g6⟩ | ⟨g1, ⟨e, g2⟩, g3, g4, g5, g7⟩
  · refine fin d.rd (fun hw' => by have := hw'.1; rw [g1] at this; cases this) hold ?_
    unfold passOne
    rw [hw, g1, g2]
  · refine fin d.rd (fun hw' => by obtain ⟨_, ⟨e, he⟩, _⟩ := hw'; rw [g2] at he; cases he) hold ?_
    unfold passOne
    rw [hw, g1, hhn]
    simp only [hs, g2]
  · have hnv : valK x.2.2.op = false := by
      cases hv : valK x.2.2.op with
      | false => rfl
      | true => cases hop : x.2.2.op <;> rw [hop] at hv g3 <;> simp [valK, isRead] at hv g3
    have hh := hh hnv
    refine fin ((x.1, x.2.2, d.t, V x.1) :: d.rd) (fun hw' => by have := hw'.2.2.1; simp [actW, g3] at this) ?_ ?_
    · intro q hq
      rcases List.mem_cons.1 hq with rfl | hq
      · exact ⟨by simp only; rw [hh, step_congr _ (ev_congr henv)]; exact g4, g5.1, x, hx, rfl, g3, g5.2, .inl rfl⟩
      · exact hold q hq
    · have hst : step P x.2.2.op d.t (H x.1) = .ok (.value (V x.1) (H x.1)) := by rw [step_congr _ (ev_congr henv)]; exact g4
      unfold passOne
      rw [hw, g1, hh]
      simp only [hs, g2, g3, hst, bindR]
  · refine ⟨d, ?_, I, fun y hy => hy, fun y hy => .inr hy, .inr ⟨rfl, g1, ⟨e, g2⟩, g3, g4⟩⟩
    unfold passOne
    rw [hw, g1, hhn]
    have : isRead x.2.2.op = false := by
      simp only [actW, Bool.and_eq_true, Bool.not_eq_true'] at g3
      exact g3.2.1
    simp only [hs, g2, this]

theorem pass_all (hp : PlanOk ops N pl) (hW : staticW ops chg chs prd pl = true) (T : Trace P r N ops chg chs prd t E V H) (hsort : pl.Pairwise (fun x y => x.1 < y.1)) : ∀ (xs pre : List Spot) (d : DS), pre ++ xs = pl → InvS P r ops chg prd pl t E V H d →
    (∀ y ∈ pre, bit d.done y.1 = true ∨ sub y.2.1 d.done = false ∨ IsW P r ops H E V y) →
    ∃ d', pass P N ops xs d = .ok d' ∧ InvS P r ops chg prd pl t E V H d' ∧ (∀ y, bit d.done y = true → bit d'.done y = true) ∧ (∀ y ∈ pl, bit d'.done y.1 = true ∨ sub y.2.1 d'.done = false ∨ IsW P r ops H E V y)
  | [], pre, d, hpl, I, hq => ⟨d, rfl, I, fun y hy => hy, fun y hy => hq y (by rw [← hpl] at hy; simpa using hy)⟩
  | x :: xs, pre, d, hpl, I, hq => by
    have hx : x ∈ pl := by rw [← hpl]; simp
    have hlow : ∀ y ∈ pre, y.1 < x.1 := by
      intro y hy
      rw [← hpl] at hsort
      exact (List.pairwise_append.1 hsort).2.2 y hy x (List.mem_cons_self ..)
    have next : ∀ d₁ : DS, InvS P r ops chg prd pl t E V H d₁ → (∀ y, bit d.done y = true → bit d₁.done y = true) → (∀ y, bit d₁.done y = true → y = x.1 ∨ bit d.done y = true) →
        (bit d₁.done x.1 = true ∨ sub x.2.1 d₁.done = false ∨ IsW P r ops H E V x) →
        ∃ d', pass P N ops xs d₁ = .ok d' ∧ InvS P r ops chg prd pl t E V H d' ∧ (∀ y, bit d.done y = true → bit d'.done y = true) ∧ (∀ y ∈ pl, bit d'.done y.1 = true ∨ sub y.2.1 d'.done = false ∨ IsW P r ops H E V y) := by
      intro d₁ I₁ hm hm' hx'
      obtain ⟨d', h1, h2, h3, h4⟩ := pass_all hp hW T hsort xs (pre ++ [x]) d₁ (by rw [← hpl]; simp) I₁ (fun y hy => by
        rcases List.mem_append.1 hy with hy | hy
        · rcases hq y hy with h | h | h
          · exact .inl (hm _ h)
          · refine .inr (.inl ?_)
            have hyp : y ∈ pl := by rw [← hpl]; exact List.mem_append_left _ hy
            cases hsb : sub y.2.1 d₁.done with
            | false => rfl
            | true =>
              have : sub y.2.1 d.done = true := sub_of fun i hi => by
                rcases hm' i (sub_of_true hsb hi) with e | e
                · have := mask_lt hp hyp hi; have := hlow y hy; omega
                · exact e
              rw [h] at this; cases this
          · exact .inr (.inr h)
        · rw [List.mem_singleton] at hy; subst hy; exact hx')
      exact ⟨d', h1, h2, fun y hy => h3 y (hm y hy), h4⟩
    simp only [pass]
    cases hbd : bit d.done x.1 with
    | true => exact next d I (fun y hy => hy) (fun y hy => .inr hy) (.inl hbd)
    | false =>
      cases hsb : sub x.2.1 d.done with
      | false => exact next d I (fun y hy => hy) (fun y hy => .inr hy) (.inr (.inl hsb))
      | true =>
        obtain ⟨d₁, g1, g2, g3, g4, g5⟩ := one_pass hp hW T I hx hbd hsb
        obtain ⟨d', h1, h2, h3, h4⟩ := next d₁ g2 g3 g4 (by
          rcases g5 with h | ⟨_, h⟩
          · exact .inl h
          · exact .inr (.inr h))
        exact ⟨d', bindR_ok.2 ⟨d₁, g1, h1⟩, h2, h3, h4⟩

theorem recheck_all {h₁ : Heap} : ∀ {l : List (Nat × Oper × Tmps × Value)}, (∀ q ∈ l, step P q.2.1.op q.2.2.1 h₁ = .ok (.value q.2.2.2 h₁) ∧ sameV 20 q.2.2.2 q.2.2.2 = true) → recheck P h₁ l = .ok ()
  | [], _ => rfl
  | (j, o, te, v) :: l, hq => by
    obtain ⟨h1, h2⟩ := hq _ (List.mem_cons_self ..)
    simp only at h1 h2
    simp only [recheck, h1, bindR, h2, mustM]
    exact recheck_all fun q hm => hq q (List.mem_cons_of_mem _ hm)

theorem undone_le {m m' : Nat} (hm : ∀ y, bit m y = true → bit m' y = true) : ∀ (l : List Spot), (undone m' l).length ≤ (undone m l).length
  | [] => by simp [undone]
  | y :: l => by
    have ih := undone_le hm l
    simp only [undone]
    cases hy : bit m y.1 with
    | true => rw [hm _ hy]; exact ih
    | false => cases bit m' y.1 <;> simp <;> omega
theorem undone_lt {m m' : Nat} (hm : ∀ y, bit m y = true → bit m' y = true) {x : Spot} (h1 : bit m x.1 = false) (h2 : bit m' x.1 = true) : ∀ (l : List Spot), x ∈ l → (undone m' l).length < (undone m l).length
  | [], h => by cases h
  | y :: l, h => by
    simp only [undone]
    rcases List.mem_cons.1 h with rfl | h
    · rw [h1, h2]
      have := undone_le hm l
      simp; omega
    · have ih := undone_lt hm h1 h2 l h
      cases hy : bit m y.1 with
      | true => rw [hm _ hy]; exact ih
      | false => cases bit m' y.1 <;> simp <;> omega
theorem draw_all {β : Type} {k : Kont β} (hp : PlanOk ops N pl) (T : Trace P r N ops chg chs prd t E V H) (hsort : pl.Pairwise (fun x y => x.1 < y.1)) (hW : staticW ops chg chs prd pl = true) :
    ∀ (n : Nat) (d : DS), (undone d.done pl).length < n → InvS P r ops chg prd pl t E V H d → drawL P r N ops pl k n d = k .normal (E ops.size) (H ops.size)
  | 0, d, hlt, _ => by omega
  | n + 1, d, hlt, I => by
    obtain ⟨d₁, h1, I₁, h3, h4⟩ := pass_all hp hW T hsort pl [] d rfl I (fun y hy => by cases hy)
    simp only [drawL, h1, bindR]
    rw [recheck_all fun q hq => ⟨(I₁.rd q hq).1, (I₁.rd q hq).2.1⟩]
    simp only
    have hsub : (undone d₁.done pl).length ≤ (undone d.done pl).length := undone_le h3 pl
    unfold drawW
    split
    · rename_i hu
      have hall : ∀ x ∈ pl, bit d₁.done x.1 = true := by
        intro x hx
        cases hb : bit d₁.done x.1 with
        | true => rfl
        | false => have := mem_undone.2 ⟨hx, hb⟩; rw [hu] at this; cases this
      have ht : d₁.t = E ops.size := by
        funext j
        obtain ⟨s1, s2⟩ := I₁.set j
        obtain ⟨e1, e2⟩ := env_char hp T ops.size (Nat.le_refl _) j
        by_cases hw : ∃ y ∈ pl, y.2.2.dst = some j
        · obtain ⟨y, hy, hd⟩ := hw
          rw [s1 y hy (hall y hy) hd, e1 y hy (Array.getElem?_eq_some_iff.1 (spot_op hp hy)).1 hd]
        · rw [s2 fun z hz _ hdz => hw ⟨z, hz, hdz⟩, e2 fun z hz _ hdz => hw ⟨z, hz, hdz⟩]
      rw [ht, I₁.heap ops.size (Nat.le_refl _) fun c hc _ _ => ⟨fun _ => hall c hc, fun _ => (Array.getElem?_eq_some_iff.1 (spot_op hp hc)).1⟩]
    · rename_i x xs hu
      have hxu : x ∈ undone d₁.done pl := by rw [hu]; exact List.mem_cons_self ..
      obtain ⟨hx, hnd⟩ := mem_undone.1 hxu
      have hs' := undone_sorted (done := d₁.done) hsort
      rw [hu] at hs'
      obtain ⟨hfirst, _⟩ := List.pairwise_cons.1 hs'
      have hxs : x.1 < ops.size := (Array.getElem?_eq_some_iff.1 (spot_op hp hx)).1
      have hlow : ∀ y ∈ pl, y.1 < x.1 → bit d₁.done y.1 = true := by
        intro y hy hlt'
        cases hb : bit d₁.done y.1 with
        | true => rfl
        | false =>
          have hm := mem_undone.2 ⟨hy, hb⟩
          rw [hu] at hm
          rcases List.mem_cons.1 hm with rfl | hm
          · omega
          · have := hfirst y hm; omega
      have hb : sub x.2.1 d₁.done = true := sub_of fun i hi => by
        have hi' := mask_lt hp hx hi
        have ho : ops[i]? = some (ops[i]'(by omega)) := Array.getElem?_eq_getElem (by omega)
        obtain ⟨b, hb'⟩ := hp.all _ _ ho
        exact hlow _ hb' hi'
      have hxW : IsW P r ops H E V x := by
        rcases h4 x hx with h | h | h
        · rw [hnd] at h; cases h
        · rw [hb] at h; cases h
        · exact h
      have henv := env_ready hp T I₁ hx hnd hb
      have hh : d₁.h = H x.1 := heap_ready hp hW I₁ hx hnd hb (by have := hxW.2.2.1; simp only [actW, Bool.and_eq_true, Bool.not_eq_true'] at this; exact this.1)
      have hWW := hW
      simp only [staticW, Bool.and_eq_true, List.all_eq_true] at hW
      have hothers : (xs.all fun y => !sub y.2.1 d₁.done) = true := by
        rw [List.all_eq_true]
        intro y hy
        have hyu : y ∈ undone d₁.done pl := by rw [hu]; exact List.mem_cons_of_mem _ hy
        obtain ⟨hyp, hynd⟩ := mem_undone.1 hyu
        have hlt' := hfirst y hy
        rcases h4 y hyp with h | h | h
        · rw [hynd] at h; cases h
        · rw [h]; rfl
        · cases hsb : sub y.2.1 d₁.done with
          | false => rfl
          | true =>
            exfalso
            have := hW.1 x hx
            rw [hxW.2.2.1] at this
            simp only [Bool.not_true, Bool.false_or, List.all_eq_true] at this
            have := this y hyp
            rw [h.2.2.1] at this
            simp only [Bool.not_true, Bool.false_or, Bool.or_eq_true] at this
            rcases this with e | e | e
            · have := Nat.eq_of_beq_eq_true e; omega
            · have := mask_lt hp hx e; omega
            · have := sub_of_true hsb e; rw [hnd] at this; cases this
      have e1 : (sub x.2.1 d₁.done && wanted ops x.2.2 d₁.t && xs.all fun y => !sub y.2.1 d₁.done) = true := by
        rw [hb, wanted_congr henv, hxW.1, hothers]; rfl
      rw [e1]
      simp only [mustM, bindR]
      have e2 : stepV P r x.2.2 d₁.t d₁.h = .ok (V x.1, H (x.1 + 1)) := by rw [stepV_congr henv, hh]; exact hxW.2.2.2
      rw [e2]
      simp only
      have hdone : ∀ y, bit (Nat.lor (Nat.pow 2 x.1) d₁.done) y = true ↔ x.1 = y ∨ bit d₁.done y = true := fun y => bit_add
      refine draw_all hp T hsort hWW n _ ?_ ?_
      · have := undone_lt (m' := Nat.lor (Nat.pow 2 x.1) d₁.done) (fun y hy => (hdone y).2 (.inr hy)) hnd ((hdone _).2 (.inl rfl)) pl hx
        show (undone (Nat.lor (Nat.pow 2 x.1) d₁.done) pl).length < n
        omega
      · obtain ⟨_, hres⟩ := T.step x.1 x.2.2 (spot_op hp hx)
        have hHx : bit chg x.1 = false → H (x.1 + 1) = H x.1 := by
          rcases hres with g | g | g | g
          · exact fun _ => g.2.2
          · exact fun _ => g.2.2
          · exact fun _ => g.2.2.2.2.2
          · exact g.2.2.2.2.1
        refine I₁.one hp hx hnd hb rfl rfl (fun i hi hc => ?_) (fun y hy hyc hyw hyd z hz hlt => ?_) (fun q hq => ?_)
        · show H (x.1 + 1) = H i
          cases hcx : bit chg x.1 with
          | false =>
            rw [hHx hcx, ← hh]
            refine I₁.heap i hi fun c hcm hcc hcw => ?_
            rw [hc c hcm hcc hcw, hdone]
            refine ⟨fun e => ?_, .inr⟩
            rcases e with e | e
            · rw [e, hcc] at hcx; cases hcx
            · exact e
          | true =>
            -- the heap is the same from here on to i
            have hxi : x.1 < i := (hc x hx hcx hxW).2 ((hdone _).2 (.inl rfl))
            have : ∀ k, x.1 + 1 + k ≤ i → H (x.1 + 1) = H (x.1 + 1 + k) := by
              intro k
              induction k with
              | zero => intro _; rfl
              | succ k ih =>
                intro hk
                rw [ih (by omega)]
                have ho : ops[x.1 + 1 + k]? = some (ops[x.1 + 1 + k]'(by omega)) := Array.getElem?_eq_getElem (by omega)
                obtain ⟨b, hb'⟩ := hp.all _ _ ho
                obtain ⟨_, hr⟩ := T.step _ _ ho
                show H (x.1 + 1 + k) = H (x.1 + 1 + k + 1)
                rcases hr with g | g | g | g
                · exact g.2.2.symm
                · exact g.2.2.symm
                · exact g.2.2.2.2.2.symm
                · cases hck : bit chg (x.1 + 1 + k) with
                  | false => exact (g.2.2.2.2.1 hck).symm
                  | true =>
                    have hd := (hc _ hb' hck ⟨g.1, g.2.1, g.2.2.1, g.2.2.2.1⟩).1 (by simp only; omega)
                    rcases (hdone _).1 hd with e | e
                    · simp only at e; omega
                    · have := I₁.lastW _ hb' hck ⟨g.1, g.2.1, g.2.2.1, g.2.2.2.1⟩ e x hx (by simp only; omega)
                      rw [hnd] at this; cases this
            have := this (i - (x.1 + 1)) (by omega)
            rw [show x.1 + 1 + (i - (x.1 + 1)) = i by omega] at this
            exact this
        · rcases (hdone _).1 hyd with e | hyd
          · exact (hdone _).2 (.inr (hlow z hz (by omega)))
          · exact (hdone _).2 (.inr (I₁.lastW y hy hyc hyw hyd z hz hlt))
        · obtain ⟨hq1, hq2⟩ := List.mem_filter.1 hq
          obtain ⟨g1, g2, y, hy, g3, g4, g6, g5⟩ := I₁.rd q hq1
          cases hcx : bit chg x.1 with
          | true =>
            exfalso
            have := hW.2 x hx
            rw [hcx] at this
            simp only [Bool.not_true, Bool.false_or, List.all_eq_true] at this
            obtain ⟨k1, k2⟩ := Bool.and_eq_true_iff.1 (this y hy)
            rcases Nat.lt_trichotomy y.1 x.1 with hlt | heq | hgt
            · rw [g4, g6, blt_iff.2 hlt] at k1
              simp only [Bool.not_false, Bool.and_self, Bool.not_true, Bool.false_or] at k1
              rw [g3] at k1
              rw [k1] at hq2; cases hq2
            · rw [heq, hnd] at g5; cases g5
            · have hyv : valK y.2.2.op = false := by
                cases hv : valK y.2.2.op with
                | false => rfl
                | true => cases hop : y.2.2.op <;> rw [hop] at hv g4 <;> simp [valK, isRead] at hv g4
              rw [blt_iff.2 hgt, hyv] at k2
              simp only [Bool.not_true, Bool.false_or, Bool.and_false, Bool.or_false] at k2
              have := I₁.closed y hy g5 _ k2
              rw [hnd] at this; cases this
          | false =>
            rw [hh] at g1
            show step P q.2.1.op q.2.2.1 (H (x.1 + 1)) = _ ∧ _
            rw [hHx hcx]
            exact ⟨g1, g2, y, hy, g3, g4, g6, (hdone _).2 (.inr g5)⟩

/-- In order and silent: so whatever the order. -/
theorem drawK_trace {β : Type} {k : Kont β} {t : Tmps} {chg chs prd : Nat} {E : Nat → Tmps} {V : Nat → Value} {H : Nat → Heap} (T : Trace P r N ops chg chs prd t E V H)
    (hs : (P.follows .mixedOrders && (static ops N (planL ops.toList 0 []) && staticW ops chg chs prd (planL ops.toList 0 []))) = true) :
    drawK P r N ops t (H 0) k = k .normal (E ops.size) (H ops.size) := by
  simp only [Bool.and_eq_true] at hs
  obtain ⟨h1, h2, h3⟩ := hs
  have hp := planOk h2
  obtain ⟨hsort, _⟩ := planL_sorted ops.toList 0 []
  unfold drawK
  rw [h1, h2]
  simp only [Bool.and_self, mustM, bindR]
  have hlen : (planL ops.toList 0 []).length = ops.size := by
    have : ∀ (os : List Oper) (i : Nat) (acc : List Spot), (planL os i acc).length = os.length := by
      intro os
      induction os with
      | nil => intro i acc; rfl
      | cons o os ih => intro i acc; simp only [planL, List.length_cons]; rw [ih]
    rw [this]; simp
  refine draw_all hp T hsort h3 _ _ ?_ ?_
  · have : ∀ (l : List Spot), (undone 0 l).length ≤ l.length := by
      intro l
      induction l with
      | nil => simp [undone]
      | cons y l ih => simp only [undone, bit_zero]; simp; omega
    have := this (planL ops.toList 0 [])
    simp only
    omega
  · refine ⟨fun x hx hb => ?_, fun j => ⟨fun x hx hb => ?_, fun _ => rfl⟩, fun i hi hc => ?_, fun x hx _ _ hb => ?_, fun q hq => by cases hq⟩
    · rw [bit_zero] at hb; cases hb
    · rw [bit_zero] at hb; cases hb
    · -- nothing changes the heap ahead of i
      have : ∀ k, k ≤ i → H 0 = H k := by
        intro k
        induction k with
        | zero => intro _; rfl
        | succ k ih =>
          intro hk
          rw [ih (by omega)]
          have ho : ops[k]? = some (ops[k]'(by omega)) := Array.getElem?_eq_getElem (by omega)
          obtain ⟨b, hb'⟩ := hp.all _ _ ho
          obtain ⟨_, hr⟩ := T.step _ _ ho
          rcases hr with g | g | g | g
          · exact g.2.2.symm
          · exact g.2.2.symm
          · exact g.2.2.2.2.2.symm
          · cases hck : bit chg k with
            | false => exact (g.2.2.2.2.1 hck).symm
            | true =>
              have := (hc _ hb' hck ⟨g.1, g.2.1, g.2.2.1, g.2.2.2.1⟩).1 (by simp only; omega)
              rw [bit_zero] at this; cases this
      exact this i (Nat.le_refl _)
    · rw [bit_zero] at hb; cases hb
end
end
end Go.AM
namespace Go.AM
open Go

section
variable {β : Type} {P : Program} {r : Rec} {L N : Nat} {rd : Option Nat} {t : Tmps} {h : Heap} {k : Kont β} {x : β} {ops : Array Oper}

/-! ### Shallow functions: what an operation does, on values -/
def oev (t : Tmps) : Operand → Value
  | .tmp i => t i
  | .const v => v
  | .global _ => undef
  | .func f => .func (.func f) #[] #[]
def okO : Operand → Bool
  | .tmp _ => true
  | .const v => plainV 20 v
  | .global _ => false
  | .func _ => true
theorem ev_ok {o : Operand} (ho : okO o = true) : ev t o = .ok (oev t o) := by
  cases o with
  | tmp i => rfl
  | const v => simp only [okO] at ho; simp only [ev, oev, ho]
  | global g => cases ho
  | func f => rfl
def oevL (t : Tmps) : List Operand → List Value
  | [] => []
  | o :: os => oev t o :: oevL t os
def okL : List Operand → Bool
  | [] => true
  | o :: os => okO o && okL os
theorem evs_ok : ∀ {l : List Operand}, okL l = true → evs t l = .ok (oevL t l)
  | [], _ => rfl
  | o :: os, h => by
    simp only [okL, Bool.and_eq_true] at h
    simp only [evs, ev_ok h.1, evs_ok h.2, bindR, oevL]

/-- The same at whatever heap, which stays. -/
def PureOk (P : Program) (op : Op) (t : Tmps) (X : R Value) : Prop := ∀ v, X = .ok v → ∀ h, step P op t h = .ok (.value v h)
def HeapOk (P : Program) (r : Rec) (op : Op) (t : Tmps) (h : Heap) (X : R (Value × Heap)) : Prop := ∀ p, X = .ok p → stepW P r op t h = .ok p
def ReadOk (P : Program) (op : Op) (t : Tmps) (h : Heap) (X : R Value) : Prop := ∀ v, X = .ok v → step P op t h = .ok (.value v h)

def bind2 {β : Type} (X : R (Value × Heap)) (K : Value → Heap → R β) : R β := bindR X fun p => K p.1 p.2
def gateC (want : Bool) (g : Value) (X : R Value) : R Value := gate want g X (.ok undef)
def gateH (want : Bool) (g : Value) (h : Heap) (X : R (Value × Heap)) : R (Value × Heap) := gate want g X (.ok (undef, h))

theorem PureOk.stepW {op : Op} {X : R Value} (hX : PureOk P op t X) {v : Value} (hv : X = .ok v) : stepW P r op t h = .ok (v, h) := by
  simp only [AM.stepW, hX v hv h, bindR]
theorem ReadOk.stepW {op : Op} {X : R Value} (hX : ReadOk P op t h X) {v : Value} (hv : X = .ok v) : stepW P r op t h = .ok (v, h) := by
  simp only [AM.stepW, hX v hv, bindR]

/-! Regions in order -/
section
variable {d : Option Tmp} {op : Op} {ty : TypeId} {pos : String} {af : Array Edge} {os : List Oper} {j : Nat} {want : Bool}
end

/-! Regions that draw -/
/-- In order; what stands at a place that 'chg' has may leave another heap. -/
noncomputable def sil (P : Program) (r : Rec) (N : Nat) (ops : Array Oper) (chg chs prd : Nat) (os : List Oper) (i : Nat) (t : Tmps) (h : Heap) (K : Tmps → Heap → R β) : R β :=
  match os with
  | [] => K t h
  | o :: os =>
    match wanted ops o t with
    | false => sil P r N ops chg chs prd os (i + 1) (put N t o.dst undef) h K
    | true =>
      match stillOf P o t h.n with
      | .ok (v, none) => sil P r N ops chg chs prd os (i + 1) (put N t o.dst v) h K
      | .ok (_, some _) => .error "still"
      | .error _ =>
        match isRead o.op, actW o.op with
        | true, _ => bindR (step P o.op t h) fun td => match td with
          | .value v h' => open Classical in if h' = h ∧ sameV 20 v v = true ∧ bit prd i = false then sil P r N ops chg chs prd os (i + 1) (put N t o.dst v) h K else .error "read"
          | _ => .error "read"
        | false, true => bindR (stepV P r o t h) fun p => open Classical in if (p.2 = h ∨ bit chg i = true) ∧ (bit chs i = true → p.2.n = h.n) then sil P r N ops chg chs prd os (i + 1) (put N t o.dst p.1) p.2 K else .error "heap"
        | _, _ => .error "op"

theorem sil_trace {chg chs prd : Nat} {K : Tmps → Heap → R β} : ∀ (os : List Oper) (i : Nat) (t : Tmps) (h : Heap), (∀ k, os[k]? = ops[i + k]?) → i + os.length = ops.size → sil P r N ops chg chs prd os i t h K = .ok x → ∃ (E : Nat → Tmps) (V : Nat → Value) (H : Nat → Heap), E i = t ∧ H i = h ∧
    (∀ (j : Nat) (o : Oper), i ≤ j → ops[j]? = some o → E (j + 1) = put N (E j) o.dst (V j) ∧ OpRes P r ops chg chs prd H j o (E j) (V j)) ∧ K (E ops.size) (H ops.size) = .ok x
  | [], i, t, h, hk, hlen, hh => by
    have hsz : i = ops.size := by simpa using hlen
    unfold sil at hh
    refine ⟨fun _ => t, fun _ => undef, fun _ => h, rfl, rfl, fun j o hj ho => ?_, hh⟩
    have := (Array.getElem?_eq_some_iff.1 ho).1
    omega
  | o :: os, i, t, h, hk, hlen, hh => by
    have hi : i < ops.size := by simp only [List.length_cons] at hlen; omega
    have ho : ops[i]? = some o := by have := hk 0; simpa using this.symm
    have hk' : ∀ k, os[k]? = ops[i + 1 + k]? := fun k => by have := hk (k + 1); rw [show i + 1 + k = i + (k + 1) by omega]; simpa using this
    have hlen' : i + 1 + os.length = ops.size := by simp only [List.length_cons] at hlen; omega
    have comb : ∀ v h', (∀ H : Nat → Heap, H i = h → H (i + 1) = h' → OpRes P r ops chg chs prd H i o t v) → sil P r N ops chg chs prd os (i + 1) (put N t o.dst v) h' K = .ok x → ∃ (E : Nat → Tmps) (V : Nat → Value) (H : Nat → Heap), E i = t ∧ H i = h ∧
        (∀ (j : Nat) (o : Oper), i ≤ j → ops[j]? = some o → E (j + 1) = put N (E j) o.dst (V j) ∧ OpRes P r ops chg chs prd H j o (E j) (V j)) ∧ K (E ops.size) (H ops.size) = .ok x := by
      intro v h' hres hs
      obtain ⟨E, V, H, h1, h0, h2, h5⟩ := sil_trace os (i + 1) _ h' hk' hlen' hs
      refine ⟨fun j => if j = i then t else E j, fun j => if j = i then v else V j, fun j => if j = i then h else H j, by simp, by simp, fun j o' hj ho' => ?_, ?_⟩
      · by_cases e : j = i
        · subst e
          rw [ho] at ho'; cases ho'
          simp only [if_true]
          rw [if_neg (by omega), h1]
          exact ⟨rfl, hres _ (by simp) (by rw [if_neg (by omega)]; exact h0)⟩
        · simp only [if_neg e]
          rw [if_neg (by omega)]
          obtain ⟨g1, g2⟩ := h2 j o' (by omega) ho'
          refine ⟨g1, ?_⟩
          unfold OpRes at g2 ⊢
          simp only
          rw [if_neg e, if_neg (by omega)]
          exact g2
      · simp only
        rw [if_neg (by omega), if_neg (by omega)]
        exact h5
    unfold sil at hh
    split at hh
    · rename_i hw
      exact comb undef h (fun H e1 e2 => .inl ⟨hw, rfl, by rw [e1, e2]⟩) hh
    · rename_i hw
      split at hh
      · rename_i v hs
        exact comb v h (fun H e1 e2 => .inr (.inl ⟨hw, by rw [e1]; exact hs, by rw [e1, e2]⟩)) hh
      · cases hh
      · rename_i e hs
        split at hh
        · rename_i hr
          obtain ⟨td, g1, g2⟩ := bindR_ok.1 hh
          split at g2
          · rename_i v h'
            split at g2
            · rename_i hc
              obtain ⟨rfl, hv⟩ := hc
              exact comb v h' (fun H e1 e2 => .inr (.inr (.inl ⟨hw, by rw [e1]; exact ⟨e, hs⟩, hr, by rw [e1]; exact g1, hv, by rw [e1, e2]⟩))) g2
            · cases g2
          · cases g2
        · rename_i hr ha
          obtain ⟨⟨v, h'⟩, g1, g2⟩ := bindR_ok.1 hh
          simp only at g2
          split at g2
          · rename_i hc
            have k1 : bit chg i = false → h' = h := fun hb => by
              rcases hc.1 with hc | hc
              · exact hc
              · rw [hb] at hc; cases hc
            exact comb v h' (fun H e1 e2 => .inr (.inr (.inr ⟨hw, by rw [e1]; exact ⟨e, hs⟩, ha, by rw [e1, e2]; exact g1, fun hb => by rw [e1, e2]; exact k1 hb, fun hb => by rw [e1, e2]; exact hc.2 hb⟩))) g2
          · cases g2
        · cases hh

def drawSt (P : Program) (N : Nat) (ops : Array Oper) (chg chs prd : Nat) : Bool := P.follows .mixedOrders && (static ops N (planL ops.toList 0 []) && staticW ops chg chs prd (planL ops.toList 0 []))
theorem D_draw {id : Nat} (chg chs prd : Nat) (hst : drawSt P N ops chg chs prd = true) (hk : sil P r N ops chg chs prd ops.toList 0 t h (fun t h => k .normal t h) = .ok x) : den P r L N rd (.region id ops true) t h k = .ok x := by
  obtain ⟨E, V, H, h1, h0, h2, h5⟩ := sil_trace ops.toList 0 t h (fun k => by simp) (by simp) hk
  show drawK P r N ops t h k = .ok x
  subst h0
  rw [drawK_trace (E := E) (V := V) (H := H) (chg := chg) (chs := chs) (prd := prd) ⟨h1, fun i o ho => h2 i o (Nat.zero_le _) ho⟩ hst]
  exact h5
end
end Go.AM
namespace Go.AM
open Go

section
variable {β : Type} {P : Program} {r : Rec} {L N : Nat} {rd : Option Nat} {t : Tmps} {h : Heap} {k : Kont β} {x : β} {ops : Array Oper}

theorem PureOk.read {op : Op} {X : R Value} (hX : PureOk P op t X) : ReadOk P op t h X := fun v hv => hX v hv h
theorem pure_of_val {op : Op} {X : R Value} (hs : ∀ h, step P op t h = val h X) : PureOk P op t X := fun v hv h => by rw [hs, hv]; rfl
theorem pure_le {op : Op} {X Y : R Value} (hX : PureOk P op t Y) (hle : ∀ v, X = .ok v → Y = .ok v) : PureOk P op t X := fun v hv => hX v (hle v hv)

/-! Operations on values -/
theorem p_move {a : Operand} (ha : okO a = true) : PureOk P (.move a) t (.ok (oev t a)) := pure_of_val fun h => by simp only [step, ev_ok ha]
theorem p_assign {a : Operand} (ha : okO a = true) : PureOk P (.assign a) t (.ok (oev t a)) := pure_of_val fun h => by simp only [step, ev_ok ha]
theorem p_pick {c a b : Operand} (ha : (okO c && (okO a && okO b)) = true) : PureOk P (.pick c a b) t (pickV (oev t c) (oev t a) (oev t b)) := pure_of_val fun h => by
  simp only [Bool.and_eq_true] at ha
  simp only [step, ev_ok ha.1, ev_ok ha.2.1, ev_ok ha.2.2, bindR]
theorem p_bin {op : BinOp} {ty yt : TypeId} {a b : Operand} (ha : (okO a && okO b) = true) : PureOk P (.binOp op ty a b yt) t (binV P op ty a b (oev t a) (oev t b)) := pure_of_val fun h => by
  simp only [Bool.and_eq_true] at ha
  simp only [step, ev_ok ha.1, ev_ok ha.2, bindR]
theorem p_un {op : UnOp} {ty : TypeId} {a : Operand} (ha : okO a = true) : PureOk P (.unOp op ty a) t (unV P op (oev t a)) := pure_of_val fun h => by simp only [step, ev_ok ha, bindR]
/-- Two integers of one kind. -/
def int2 (x y : Value) (f : IntKind → Int → Int → R Value) : R Value := match x, y with | .int k a, .int k' b => if k = k' then f k a b else .error "int" | _, _ => .error "int"
theorem int2_ok {x y v : Value} {f : IntKind → Int → Int → R Value} (h : int2 x y f = .ok v) : ∃ k a b, x = .int k a ∧ y = .int k b ∧ f k a b = .ok v := by
  unfold int2 at h
  split at h
  · split at h
    · rename_i e; subst e; exact ⟨_, _, _, rfl, rfl, h⟩
    · cases h
  · cases h
def addC (x y : Value) : R Value := int2 x y fun k a b => .ok (.int k (k.wrap (a + b)))
def subC (x y : Value) : R Value := int2 x y fun k a b => .ok (.int k (k.wrap (a - b)))
def mulC (x y : Value) : R Value := int2 x y fun k a b => .ok (.int k (k.wrap (a * b)))
def quoC (x y : Value) : R Value := int2 x y fun k a b => if b = 0 then .error "quo" else .ok (.int k (k.wrap (a.tdiv b)))
def remC (x y : Value) : R Value := int2 x y fun k a b => if b = 0 then .error "rem" else .ok (.int k (a.tmod b))
def ltC (x y : Value) : R Value := int2 x y fun _ a b => .ok (.bool (decide (a < b)))
def leC (x y : Value) : R Value := int2 x y fun _ a b => .ok (.bool (decide (a ≤ b)))
def gtC (x y : Value) : R Value := int2 x y fun _ a b => .ok (.bool (decide (b < a)))
def geC (x y : Value) : R Value := int2 x y fun _ a b => .ok (.bool (decide (b ≤ a)))
def eqC (x y : Value) : R Value := int2 x y fun _ a b => .ok (.bool (decide (a = b)))
def neC (x y : Value) : R Value := int2 x y fun _ a b => .ok (.bool (decide (a ≠ b)))
section
variable {ty yt : TypeId} {a b : Operand}
theorem p_int2 {op : BinOp} {f : IntKind → Int → Int → R Value} (hf : ∀ k m n v, f k m n = .ok v → binV P op ty a b (.int k m) (.int k n) = .ok v) (ha : (okO a && okO b) = true) :
    PureOk P (.binOp op ty a b yt) t (int2 (oev t a) (oev t b) f) := pure_le (p_bin ha) fun v hv => by
  obtain ⟨k, m, n, h1, h2, h3⟩ := int2_ok hv
  rw [h1, h2]; exact hf k m n v h3
theorem p_add (ha : (okO a && okO b) = true) : PureOk P (.binOp .add ty a b yt) t (addC (oev t a) (oev t b)) := p_int2 (fun k m n v hv => by rw [bin_add]; exact hv) ha
theorem p_sub (ha : (okO a && okO b) = true) : PureOk P (.binOp .sub ty a b yt) t (subC (oev t a) (oev t b)) := p_int2 (fun k m n v hv => by rw [bin_sub]; exact hv) ha
theorem p_mul (ha : (okO a && okO b) = true) : PureOk P (.binOp .mul ty a b yt) t (mulC (oev t a) (oev t b)) := p_int2 (fun k m n v hv => by rw [bin_mul]; exact hv) ha
theorem p_quo (ha : (okO a && okO b) = true) : PureOk P (.binOp .quo ty a b yt) t (quoC (oev t a) (oev t b)) := p_int2 (fun k m n v hv => by
  by_cases e : n = 0
  · rw [if_pos e] at hv; cases hv
  · rw [if_neg e] at hv; rw [bin_quo e]; exact hv) ha
theorem p_rem (ha : (okO a && okO b) = true) : PureOk P (.binOp .rem ty a b yt) t (remC (oev t a) (oev t b)) := p_int2 (fun k m n v hv => by
  by_cases e : n = 0
  · rw [if_pos e] at hv; cases hv
  · rw [if_neg e] at hv; rw [bin_rem e]; exact hv) ha
theorem p_lt (ha : (okO a && okO b) = true) : PureOk P (.binOp .lss ty a b yt) t (ltC (oev t a) (oev t b)) := p_int2 (fun k m n v hv => by rw [bin_lss]; exact hv) ha
theorem p_le (ha : (okO a && okO b) = true) : PureOk P (.binOp .leq ty a b yt) t (leC (oev t a) (oev t b)) := p_int2 (fun k m n v hv => by rw [bin_leq]; exact hv) ha
theorem p_gt (ha : (okO a && okO b) = true) : PureOk P (.binOp .gtr ty a b yt) t (gtC (oev t a) (oev t b)) := p_int2 (fun k m n v hv => by rw [bin_gtr]; exact hv) ha
theorem p_ge (ha : (okO a && okO b) = true) : PureOk P (.binOp .geq ty a b yt) t (geC (oev t a) (oev t b)) := p_int2 (fun k m n v hv => by rw [bin_geq]; exact hv) ha
theorem p_eq (ha : (okO a && okO b) = true) : PureOk P (.binOp .eql ty a b yt) t (eqC (oev t a) (oev t b)) := p_int2 (fun k m n v hv => by rw [bin_eql]; exact hv) ha
theorem p_ne (ha : (okO a && okO b) = true) : PureOk P (.binOp .neq ty a b yt) t (neC (oev t a) (oev t b)) := p_int2 (fun k m n v hv => by rw [bin_neq]; exact hv) ha
end
def notC (x : Value) : R Value := match x with | .bool b => .ok (.bool !b) | _ => .error "not"
theorem p_not {ty : TypeId} {a : Operand} (ha : okO a = true) : PureOk P (.unOp .not ty a) t (notC (oev t a)) := pure_le (p_un ha) fun v hv => by
  unfold notC at hv
  split at hv
  · rename_i b e; rw [e, un_not']; exact hv
  · cases hv
def faC (off : Nat) (x : Value) : R Value := match x with | .pointer (some ⟨b, o, none⟩) => .ok (.pointer (some ⟨b, o + off, none⟩)) | _ => .error "fieldAddr"
theorem p_fa {s : TypeId} {f off : Nat} {a : Operand} (ho : fieldOff P s f = .ok off) (ha : okO a = true) : PureOk P (.fieldAddr s a f) t (faC off (oev t a)) :=
  pure_le (pure_of_val (X := fieldAddrV P s (oev t a) f) fun h => by simp only [step, ev_ok ha, bindR]) fun v hv => by
    unfold faC at hv
    split at hv
    · rename_i b o e; rw [e, fieldAddr_ok ho]; exact hv
    · cases hv
def fldC (p : Nat × Option Nat) (x : Value) : R Value := match x with | .agg cs => readW cs.toList p.1 p.2 | _ => .error "field"
def iaC (n : Nat) (x i : Value) : R Value := match x, i with
  | .slice (some ⟨b, o, none⟩) len _, .int _ j => bindR (inRange j len) fun j => .ok (.pointer (some ⟨b, o + j * n, none⟩))
  | _, _ => .error "indexAddr"
theorem p_ia {ty : TypeId} {n : Nat} {a b : Operand} (hn : rowSize P ty = .ok n) (ha : (okO a && okO b) = true) : PureOk P (.indexAddr ty a b) t (iaC n (oev t a) (oev t b)) := by
  simp only [Bool.and_eq_true] at ha
  refine pure_le (pure_of_val (X := indexAddrV P ty (oev t a) (oev t b)) fun h => by simp only [step, ev_ok ha.1, ev_ok ha.2, bindR]) fun v hv => ?_
  unfold iaC at hv
  split at hv
  · rename_i b' o len c k j e1 e2
    rw [e1, e2]
    obtain ⟨i, h1, h2⟩ := bindR_ok.1 hv
    unfold rowSize at hn
    obtain ⟨d, hd, hn⟩ := bindR_ok.1 hn
    split at hn
    · cases h2
      simp only [indexAddrV, intOf, bindR, hd, h1, hn, addr_add]; rfl
    · cases hn
  · cases hv
def iaAC (p : Nat × Nat × Option Nat) (x i : Value) : R Value := match x, i with
  | .pointer (some ⟨b, o, none⟩), .int _ j => bindR (inRange j p.1) fun j => .ok (.pointer (some ⟨b, o + j * p.2.1, none⟩))
  | _, _ => .error "indexAddr"
def ixC (p : Nat × Nat × Option Nat) (x i : Value) : R Value := match x, i with
  | .agg cs, .int _ j => bindR (inRange j p.1) fun j => readW cs.toList (j * p.2.1) p.2.2
  | _, _ => .error "index"
theorem p_index {ty : TypeId} {p : Nat × Nat × Option Nat} {a b : Operand} (hn : arrSize P ty = .ok p) (ha : (okO a && okO b) = true) : PureOk P (.index ty a b) t (ixC p (oev t a) (oev t b)) := by
  simp only [Bool.and_eq_true] at ha
  refine pure_le (pure_of_val (X := indexV P ty (oev t a) (oev t b)) fun h => by simp only [step, ev_ok ha.1, ev_ok ha.2, bindR]) fun v hv => ?_
  unfold ixC at hv
  split at hv
  · rename_i cs k j e1 e2
    rw [e1, e2]
    obtain ⟨i, h1, h2⟩ := bindR_ok.1 hv
    unfold arrSize at hn
    obtain ⟨d, hd, hn⟩ := bindR_ok.1 hn
    split at hn
    · obtain ⟨m, h7, hn⟩ := bindR_ok.1 hn
      obtain ⟨w, h8, hn⟩ := bindR_ok.1 hn
      cases hn
      simp only at h1 h2
      simp only [indexV, intOf, bindR, hd, h1, h7, partV, h8, h2]
    · cases hn
  · cases hv
theorem p_extract {a : Operand} {i : Nat} (ha : okO a = true) : PureOk P (.extract a i) t (extractV (oev t a) i) := pure_of_val fun h => by simp only [step, ev_ok ha, bindR]
def oevP (t : Tmps) : List (Nat × Operand) → List (Nat × Value)
  | [] => []
  | (i, o) :: os => (i, oev t o) :: oevP t os
def okP : List (Nat × Operand) → Bool
  | [] => true
  | (_, o) :: os => okO o && okP os
theorem evp_ok : ∀ {l : List (Nat × Operand)}, okP l = true → evp t l = .ok (oevP t l)
  | [], _ => rfl
  | (i, o) :: os, h => by
    simp only [okP, Bool.and_eq_true] at h
    simp only [evp, ev_ok h.1, evp_ok h.2, bindR, oevP]
theorem p_build {ty : TypeId} {ps : Array (Nat × Operand)} (ha : okP ps.toList = true) : PureOk P (.build ty ps) t (buildV P ty (oevP t ps.toList)) := pure_of_val fun h => by simp only [step, evp_ok ha, bindR]
theorem p_makeFunc {f : FuncId} {first captured : Array Operand} (ha : (okL first.toList && okL captured.toList) = true) : PureOk P (.makeFunc (.func f) first captured) t (.ok (.func (.func f) (oevL t first.toList).toArray (oevL t captured.toList).toArray)) := fun v hv h => by
  simp only [Bool.and_eq_true] at ha
  cases hv
  simp only [step, evs_ok ha.1, evs_ok ha.2, bindR]
def convC (k : IntKind) (x : Value) : R Value := match x with | .int _ n => .ok (.int k (k.wrap n)) | _ => .error "convert"
def lenC (x : Value) : R Value := match x with | .slice _ n _ => .ok (.int .i64 n) | _ => .error "len"
theorem p_len {c : Call} {a : Operand} {ty e : TypeId} (hc : c.callee = .builtin .len) (hl : c.args.toList = [a]) (ht : c.argTypes[0]? = some ty) (hu : under P ty = .ok (.slice e)) (ha : okO a = true) : PureOk P (.call c) t (lenC (oev t a)) := fun v hv h => by
  unfold lenC at hv
  split at hv
  · rename_i s n cp e'
    cases hv
    simp only [step, callStep, hl, evs, ev_ok ha, bindR, hc, builtinV, lenV, ht, ofOpt, hu, e', valh]
  · cases hv
def minC (x y : Value) : R Value := int2 x y fun k a b => .ok (.int k (min a b))
theorem p_min {c : Call} {a b : Operand} (hc : c.callee = .builtin .min) (hl : c.args.toList = [a, b]) (ha : (okO a && okO b) = true) : PureOk P (.call c) t (minC (oev t a) (oev t b)) := fun v hv h => by
  simp only [Bool.and_eq_true] at ha
  obtain ⟨k, m, n, h1, h2, h3⟩ := int2_ok hv
  cases h3
  have hm : (if n < m then n else m) = min m n := by rw [Int.min_def]; split <;> split <;> omega
  have : pureRun P (Builtin.min_ c.argTypes 0 [Value.int k m, .int k n].toArray) = .ok (.int k (min m n)) := by
    simp [pureRun, Builtin.min_, Builtin.min2, hm]
  have hp : ([Value.int k m, .int k n].all (plainV 1)) = true := rfl
  simp only [step, callStep, hl, evs, ev_ok ha.1, ev_ok ha.2, bindR, hc, builtinV, h1, h2, hp, must, this, plainOut, show plainV 20 (Value.int k (min m n)) = true from rfl, valh]

/-- A slice of a slice whose capacity is known. -/
def slC (n : Nat) (x : Value) (lo hi mx : Option Value) : R Value := match x with
  | .slice a len cap => match Nat.ble unk cap with
    | true => .error "slice"
    | false => bindR (must (Nat.ble len cap)) fun _ => bindR (sbounds len cap lo hi mx) fun (l, h, m) => .ok (.slice (if m = l then a else a.map (·.add (l * n))) (h - l) (m - l))
  | _ => .error "slice"
theorem p_slice {ty : TypeId} {n : Nat} {a : Operand} {lo hi mx : Option Operand} (hn : rowSize P ty = .ok n) (ha : okO a = true) (h1 : evo t lo = .ok (lo.map (oev t))) (h2 : evo t hi = .ok (hi.map (oev t))) (h3 : evo t mx = .ok (mx.map (oev t))) :
    PureOk P (.slice ty a lo hi mx) t (slC n (oev t a) (lo.map (oev t)) (hi.map (oev t)) (mx.map (oev t))) := fun v hv h => by
  unfold slC at hv
  split at hv
  · rename_i b len cap e
    split at hv
    · cases hv
    · rename_i hb
      unfold rowSize at hn
      obtain ⟨d, hd, hn⟩ := bindR_ok.1 hn
      split at hn
      · simp only [step, ev_ok ha, bindR, h1, h2, h3, sliceV, hd, e, hn, hb, val]
        simp only [bindR] at hv
        cases hm : must (Nat.ble len cap) with
        | error e' => rw [hm] at hv; cases hv
        | ok u =>
          rw [hm] at hv
          simp only at hv ⊢
          cases hs : sbounds len cap (lo.map (oev t)) (hi.map (oev t)) (mx.map (oev t)) with
          | error e' => rw [hs] at hv; cases hv
          | ok q => rw [hs] at hv; simp only at hv ⊢; cases hv; rfl
      · cases hn
  · cases hv

/-! Memory -/
def ldC (w : Option Nat) (h : Heap) (x : Value) : R Value := match x with
  | .pointer (some ⟨b, o, none⟩) => match h.get b with
    | .cells vs _ _ => readW vs o w
    | _ => .error "load"
  | _ => .error "load"
theorem q_load {ty : TypeId} {w : Option Nat} {a : Operand} (hw : wide P ty = .ok w) (ha : okO a = true) : ReadOk P (.load ty a) t h (ldC w h (oev t a)) := fun v hv => by
  unfold ldC at hv
  split at hv
  · rename_i b o e
    split at hv
    · rename_i vs e' m hg
      simp only [step, ev_ok ha, bindR, e, loadV, loadA, hg, hw, hv, val]
    · cases hv
  · cases hv
def stC (n : Nat) (h : Heap) (a x : Value) : R (Value × Heap) := match a with
  | .pointer (some ⟨b, o, none⟩) => bindR (must (Nat.beq x.cells.toList.length n)) fun _ => bindR (storeCells h b o x.cells.toList) fun h' => .ok (undef, h')
  | _ => .error "store"
theorem h_store {ty : TypeId} {n : Nat} {a b : Operand} (hn : tsize P ty = .ok n) (ha : (okO a && okO b) = true) : HeapOk P r (.store ty a b) t h (stC n h (oev t a) (oev t b)) := fun p hp => by
  simp only [Bool.and_eq_true] at ha
  unfold stC at hp
  split at hp
  · rename_i b' o e
    obtain ⟨_, h1, hp⟩ := bindR_ok.1 hp
    obtain ⟨h', h2, hp⟩ := bindR_ok.1 hp
    cases hp
    simp only [stepW, step, ev_ok ha.1, ev_ok ha.2, bindR, e, storeV, hn, h1, h2, valu]
  · cases hp
theorem h_box {e : TypeId} {a : Operand} (ha : okO a = true) : HeapOk P r (.box e a) t h (rowV h e (oev t a).cells.toList) := fun p hp => by
  rw [st_box, ev_ok ha]; exact hp
theorem h_alloc {e : TypeId} {z : Value} (hz : tzero P e = .ok z) : HeapOk P r (.alloc e) t h (rowV h e z.cells.toList) := fun p hp => by
  rw [st_alloc, hz]; exact hp
theorem h_makeSlice {ty : TypeId} {a b : Operand} (ha : (okO a && okO b) = true) : HeapOk P r (.makeSlice ty a b) t h (makeSliceV P h ty (oev t a) (oev t b)) := fun p hp => by
  simp only [Bool.and_eq_true] at ha
  rw [st_makeSlice, ev_ok ha.1]
  simp only [bindR, ev_ok ha.2]; exact hp
theorem h_buildSlice {ty : TypeId} {len : Nat} {ps : Array (Nat × Operand)} (ha : okP ps.toList = true) : HeapOk P r (.buildSlice ty len ps) t h (buildSliceV P h ty len (oevP t ps.toList)) := fun p hp => by
  simp only [stepW, step, evp_ok ha, bindR, hp, valh]
theorem h_builtin {c : Call} {b : Builtin} (hc : c.callee = .builtin b) (ha : okL c.args.toList = true) : HeapOk P r (.call c) t h (builtinV P h b c.argTypes (oevL t c.args.toList)) := fun p hp => by
  rw [st_builtin hc, evs_ok ha]; exact hp
/-- A function value is called. -/
def cvC (P : Program) (r : Rec) (f : Value) (args : List Value) (h : Heap) : R (Value × Heap) := match f with
  | .func (.func g) first captured => bindR (callable P g) fun _ => r.call g ((first ++ args.toArray) ++ captured) h
  | .func (.yield l) _ _ => r.round l args.toArray h
  | _ => .error "call"
theorem q_slice {ty : TypeId} {a : Operand} {lo hi mx : Option Operand} (ha : okO a = true) (h1 : evo t lo = .ok (lo.map (oev t))) (h2 : evo t hi = .ok (hi.map (oev t))) (h3 : evo t mx = .ok (mx.map (oev t))) :
    ReadOk P (.slice ty a lo hi mx) t h (sliceV P h ty (oev t a) (lo.map (oev t)) (hi.map (oev t)) (mx.map (oev t))) := fun v hv => by
  simp only [step, ev_ok ha, bindR, h1, h2, h3, hv, val]
theorem evo_ok {o : Option Operand} (ho : (match o with | some o => okO o | none => true) = true) : evo t o = .ok (o.map (oev t)) := by
  cases o with
  | none => rfl
  | some o => simp only [evo, ev_ok ho, bindR, Option.map]

/-! Drawing regions, one operation at a time -/
section
variable {d : Option Tmp} {op : Op} {ty : TypeId} {pos : String} {af : Array Edge} {os : List Oper} {i j : Nat} {want : Bool} {chg chs prd : Nat} {KK : Tmps → Heap → R β}
def lowT (m : Nat) : List Value → Bool
  | [] => true
  | v :: vs => match lowV 20 m v with | true => lowT m vs | false => false
def lowC (m : Nat) (vs : List Value) (X : R Value) : R Value := match lowT m vs with | true => X | false => .error "low"
def selfC (X : R Value) : R Value := bindR X fun v => match sameV 20 v v with | true => .ok v | false => .error "self"
noncomputable def sameH (h : Heap) (X : R (Value × Heap)) : R Value := bindR X fun p => open Classical in if p.2 = h then .ok p.1 else .error "heap"
noncomputable def sameN (h : Heap) (X : R (Value × Heap)) : R (Value × Heap) := bindR X fun p => match Nat.beq p.2.n h.n with | true => .ok p | false => .error "heap"

theorem freshOf_blank {m : Nat} : freshOf m (blankN m) = .ok none := by
  unfold freshOf
  rw [show (blankN m).n = m from rfl, Nat.beq_refl]
/-- What an operation of a drawing region does, and the rest. -/
theorem sil_pure {o : Oper} (hw : wanted ops o t = true) {v : Value} (hs : stillOf P o t h.n = .ok (v, none)) : sil P r N ops chg chs prd (o :: os) i t h KK = sil P r N ops chg chs prd os (i + 1) (put N t o.dst v) h KK := by
  rw [sil]; simp only [hw, hs]
theorem sil_off {o : Oper} (hw : wanted ops o t = false) : sil P r N ops chg chs prd (o :: os) i t h KK = sil P r N ops chg chs prd os (i + 1) (put N t o.dst undef) h KK := by
  rw [sil]; simp only [hw]
theorem sil_read {o : Oper} (hw : wanted ops o t = true) {e : String} (hs : stillOf P o t h.n = .error e) (hr : isRead o.op = true) {v : Value} (hv : step P o.op t h = .ok (.value v h)) (hv' : sameV 20 v v = true) (hp : bit prd i = false) :
    sil P r N ops chg chs prd (o :: os) i t h KK = sil P r N ops chg chs prd os (i + 1) (put N t o.dst v) h KK := by
  rw [sil]; simp only [hw, hs, hr, hv, bindR]
  rw [if_pos ⟨trivial, hv', hp⟩]
theorem sil_act {o : Oper} (hw : wanted ops o t = true) (ha : actK o.op = true) {v : Value} {h' : Heap} (hv : stepW P r o.op t h = .ok (v, h')) (hc : (h' = h ∨ bit chg i = true) ∧ (bit chs i = true → h'.n = h.n)) :
    sil P r N ops chg chs prd (o :: os) i t h KK = sil P r N ops chg chs prd os (i + 1) (put N t o.dst v) h' KK := by
  obtain ⟨⟨e, h1⟩, h2⟩ := still_act (P := P) ha (t := t) (m := h.n)
  have h3 : actW o.op = true := by
    unfold actW
    rw [h2]
    cases hop : o.op <;> rw [hop] at ha <;> first | rfl | (simp [actK] at ha; done) | skip
    rename_i c
    simp only [actK] at ha
    cases hc : c.callee <;> rw [hc] at ha <;> first | (simp [valK, minK, hc]; done) | cases ha
  have h4 : stepV P r o t h = .ok (v, h') := hv
  rw [sil]; simp only [hw, h1, h2, h3, h4, bindR]
  rw [if_pos hc]

end
end
end Go.AM
