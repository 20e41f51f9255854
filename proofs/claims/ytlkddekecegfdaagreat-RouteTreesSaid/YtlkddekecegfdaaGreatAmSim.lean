/- Of the abstract machine, for all programs: definitions and lemmas, no claim of its own; no condition. -/
import Derived.Test.YtlkddekecegfdaaGreatAmStep
import Derived.OrdersIn
import Derived.TacticsIn
import Derived.RangeFuncNested
import Derived.Sort.Grow
import Derived.Lib.SlicesCompact
set_option linter.unusedVariables false
set_option linter.unusedSimpArgs false
namespace Go.AM
open Go

section
variable {P : Program} {r : Rec} {N : Nat} {ops : Array Oper} {pl : List Spot} {ρ₀ : Ren} {h₀ : Heap} {w₀ : World} {s : Nat}

def Lst (listed : Array Bool) (i : Nat) : Prop := listed.getD i false = true
def Pn (d : DS) (listed : Array Bool) (i : Nat) : Prop := bit d.done i = true ∧ ¬ Lst listed i

/-- What is known of an operation that the abstract machine has done and the program has not. -/
def PendOk (P : Program) (ops : Array Oper) (pl : List Spot) (h₀ : Heap) (d : DS) (listed : Array Bool) (mo : Nat → Option Nat) (ρ : Ren) (a : Act) (x : Spot) : Prop :=
  ∃ (t : Tmps) (v : Value), (∀ dd, x.2.2.dst = some dd → d.t dd = v) ∧
    (∀ dd ∈ x.2.2.looksAt ops, (∃ y ∈ pl, Pn d listed y.1 ∧ bit x.2.1 y.1 = true ∧ y.2.2.dst = some dd ∧ t dd = d.t dd) ∨
      ((∀ y ∈ pl, Pn d listed y.1 → bit x.2.1 y.1 = true → y.2.2.dst ≠ some dd) ∧ VR ρ (t dd) (a.tmps.getD dd undef))) ∧
    ((wanted ops x.2.2 t = false ∧ v = undef) ∨
     (wanted ops x.2.2 t = true ∧ ∃ m hb, step P x.2.2.op t (blankN m) = .ok (.value v hb) ∧ lowL t m x.2.2.op.operands.toList = true ∧ m ≤ d.h.n ∧ hb.n = m) ∨
     (wanted ops x.2.2 t = true ∧ ∃ m hb, mo x.1 = some m ∧ step P x.2.2.op t (blankN m) = .ok (.value v hb) ∧ lowL t m x.2.2.op.operands.toList = true ∧ hb.n = m + 1 ∧ owned (hb.get m) = true ∧
        h₀.n ≤ m ∧ m < d.h.n ∧ d.h.get m = hb.get m ∧ ρ m = none) ∨
     (wanted ops x.2.2 t = true ∧ isRead x.2.2.op = true ∧ (x.1, x.2.2, t, v) ∈ d.rd))

structure Inv (P : Program) (N : Nat) (ops : Array Oper) (pl : List Spot) (ρ₀ : Ren) (h₀ : Heap) (w₀ : World) (s : Nat) (d : DS) (listed : Array Bool) (mo : Nat → Option Nat) (ρ : Ren) (a : Act) (w : World) : Prop where
  sub : ∀ i, Lst listed i → bit d.done i = true
  clo : Closed ops (Lst listed)
  doneClo : ∀ x ∈ pl, bit d.done x.1 = true → ∀ y, bit x.2.1 y = true → bit d.done y = true
  post : Post ρ₀ h₀ w₀ ρ d.h w
  dr : DR s ρ d.h w a.defers
  size : a.tmps.size = N
  tr : ∀ dd, (∃ y ∈ pl, Pn d listed y.1 ∧ y.2.2.dst = some dd) ∨ VR ρ (d.t dd) (a.tmps.getD dd undef)
  pd : ∀ x ∈ pl, Pn d listed x.1 → PendOk P ops pl h₀ d listed mo ρ a x
  inj : ∀ i j m, Pn d listed i → Pn d listed j → i ≠ j → mo i = some m → mo j ≠ some m
  lo : ∀ i m, Pn d listed i → mo i = some m → m < d.h.n
  lsz : listed.size = ops.size

def RD (P : Program) (d : DS) : Prop := ∀ q ∈ d.rd, step P q.2.1.op q.2.2.1 d.h = .ok (.value q.2.2.2 d.h)

theorem recheck_rd {h : Heap} : ∀ (l : List (Nat × Oper × Tmps × Value)) {u : Unit}, (∀ q ∈ l, isRead q.2.1.op = true) → recheck P h l = .ok u → ∀ q ∈ l, step P q.2.1.op q.2.2.1 h = .ok (.value q.2.2.2 h)
  | [], _, _, _, q, hq => by cases hq
  | (i, o, t, v) :: l, u, hr, hh, q, hq => by
    simp only [recheck, bindR_ok] at hh
    obtain ⟨td, hs, hh⟩ := hh
    obtain ⟨v', rfl⟩ := isRead_heap (hr _ (List.mem_cons_self ..)) hs
    simp only [bindR_ok, mustM_ok] at hh
    obtain ⟨_, he, hh⟩ := hh
    rcases List.mem_cons.1 hq with rfl | hq
    · rw [hs, sameV_eq 20 _ _ he]
    · exact recheck_rd l (fun q hm => hr q (List.mem_cons_of_mem _ hm)) hh q hq

theorem put_at {d : DS} {dst : Option Tmp} {v : Value} (hN : ∀ x, dst = some x → x < N) (dd : Nat) : put N d.t dst v dd = if dst = some dd then v else d.t dd := by
  cases dst with
  | none => simp [put]
  | some x =>
    have := hN x rfl
    simp only [put, blt_true.2 this]
    cases hb : Nat.beq dd x with
    | true => obtain rfl := Nat.eq_of_beq_eq_true hb; simp
    | false =>
      have : x ≠ dd := fun e => by subst e; rw [Nat.beq_refl] at hb; cases hb
      simp [this]
theorem act_at {a : Act} {dst : Option Tmp} {c : Value} (hn : a.tmps.size = N) (hN : ∀ x, dst = some x → x < N) (dd : Nat) :
    (a.put dst c).tmps.getD dd undef = if dst = some dd then c else a.tmps.getD dd undef := by
  cases dst with
  | none => simp [Act.put]
  | some x =>
    have hx := hN x rfl
    simp only [Act.put]
    by_cases h : x = dd
    · subst h; simp [Array.getD, hn, hx]
    · rw [if_neg (by simpa using h)]
      simp [Array.getD_eq_getD_getElem?, Array.getElem?_setIfInBounds_ne h]
theorem act_size {a : Act} {dst : Option Tmp} {c : Value} : (a.put dst c).tmps.size = a.tmps.size := by cases dst <;> simp [Act.put]
theorem act_defers {a : Act} {dst : Option Tmp} {c : Value} : (a.put dst c).defers = a.defers := by cases dst <;> rfl

theorem lst_set {listed : Array Bool} {i j : Nat} : Lst (listed.setIfInBounds i true) j ↔ (j = i ∧ i < listed.size) ∨ Lst listed j := by
  unfold Lst
  simp only [Array.getD_eq_getD_getElem?]
  by_cases h : i = j
  · subst h
    by_cases hi : i < listed.size
    · simp [hi]
    · simp [hi]
  · rw [Array.getElem?_setIfInBounds_ne h]
    constructor
    · exact .inr
    · rintro (⟨e, _⟩ | e)
      · exact absurd e.symm h
      · exact e

/-- The program does an operation that the abstract machine has done. -/
theorem Inv.listed {d : DS} {listed : Array Bool} {mo : Nat → Option Nat} {ρ ρ' : Ren} {a : Act} {w w' : World} (hp : PlanOk ops N pl) (I : Inv P N ops pl ρ₀ h₀ w₀ s d listed mo ρ a w) {x : Spot} (hx : x ∈ pl) (hpn : Pn d listed x.1)
    (hready : ∀ e ∈ x.2.2.after.toList, bnd e → Lst listed e.on) {c : Value} (hv : ∀ dd, x.2.2.dst = some dd → VR ρ' (d.t dd) c) (hs : Sub ρ ρ')
    (hpost : Post ρ₀ h₀ w₀ ρ' d.h w') (hdr : DR s ρ' d.h w' a.defers) (hmo : ∀ i m, i ≠ x.1 → Pn d listed i → mo i = some m → m < d.h.n → ρ m = none → ρ' m = none) :
    Inv P N ops pl ρ₀ h₀ w₀ s d (listed.setIfInBounds x.1 true) mo ρ' (a.put x.2.2.dst c) w' := by
  have hi : x.1 < listed.size := by
    rw [I.lsz]; exact (Array.getElem?_eq_some_iff.1 (hp.ok x hx).1).1
  have hpn' : ∀ j, Pn d (listed.setIfInBounds x.1 true) j ↔ Pn d listed j ∧ j ≠ x.1 := by
    intro j
    unfold Pn
    rw [lst_set]
    constructor
    · rintro ⟨h1, h2⟩
      exact ⟨⟨h1, fun e => h2 (.inr e)⟩, fun e => h2 (.inl ⟨e, hi⟩)⟩
    · rintro ⟨⟨h1, h2⟩, h3⟩
      exact ⟨h1, fun e => e.elim (fun e => h3 e.1) h2⟩
  have hdstN := hp.dstN x hx
  have hbits : ∀ y, bit x.2.1 y = true → Lst listed y := (hp.ok x hx).2 _ I.clo hready
  refine ⟨fun i h => ?_, fun j o hj hl e he hb => ?_, I.doneClo, hpost, by rw [act_defers]; exact hdr, by rw [act_size]; exact I.size, fun dd => ?_, fun y hy hpy => ?_, fun i j m hi hj => ?_, fun i m hi => I.lo i m ((hpn' i).1 hi).1, by simpa using I.lsz⟩
  · rcases lst_set.1 h with ⟨rfl, _⟩ | h
    · exact hpn.1
    · exact I.sub i h
  · rcases lst_set.1 hl with ⟨rfl, _⟩ | hl
    · rw [(hp.ok x hx).1] at hj; cases hj
      exact lst_set.2 (.inr (hready e he hb))
    · exact lst_set.2 (.inr (I.clo j o hj hl e he hb))
  · rw [act_at I.size hdstN]
    by_cases hd : x.2.2.dst = some dd
    · rw [if_pos hd]; exact .inr (hv dd hd)
    · rw [if_neg hd]
      rcases I.tr dd with ⟨y, h1, h2, h3⟩ | h
      · refine .inl ⟨y, h1, (hpn' _).2 ⟨h2, fun e => ?_⟩, h3⟩
        have := hp.uniq y h1 x hx e
        subst this; exact hd h3
      · exact .inr (h.mono hs)
  · obtain ⟨hpy, hne⟩ := (hpn' _).1 hpy
    obtain ⟨t, v, h1, h2, h3⟩ := I.pd y hy hpy
    refine ⟨t, v, h1, fun dd hdd => ?_, ?_⟩
    · rw [act_at I.size hdstN]
      rcases h2 dd hdd with ⟨z, g1, g2, g3, g4, g5⟩ | ⟨g1, g2⟩
      · by_cases hz : z.1 = x.1
        · have := hp.uniq z g1 x hx hz
          subst this
          refine .inr ⟨fun z' k1 k2 k3 k4 => ?_, ?_⟩
          · have := hp.dist z hx z' k1 dd g4 k4
            exact ((hpn' _).1 k2).2 this
          · rw [if_pos g4, g5]; exact hv dd g4
        · exact .inl ⟨z, g1, (hpn' _).2 ⟨g2, hz⟩, g3, g4, g5⟩
      · have hd : x.2.2.dst ≠ some dd := fun hd => by
          rcases hp.look y hy x hx dd hdd hd with hb | hb
          · exact g1 x hx hpn hb hd
          · exact hpy.2 (hbits _ hb)
        rw [if_neg hd]
        exact .inr ⟨fun z k1 k2 k3 => g1 z k1 ((hpn' _).1 k2).1 k3, g2.mono hs⟩
    · rcases h3 with h3 | h3 | ⟨k0, m, hb, km, k1, k2, k3, k4, k5, k6, k7, k8⟩ | h3
      · exact .inl h3
      · exact .inr (.inl h3)
      · exact .inr (.inr (.inl ⟨k0, m, hb, km, k1, k2, k3, k4, k5, k6, k7, hmo _ m hne hpy km k6 k8⟩))
      · exact .inr (.inr (.inr h3))
  · exact I.inj i j m ((hpn' i).1 hi).1 ((hpn' j).1 hj).1

theorem lowL_ok {t : Tmps} {m : Nat} : ∀ {xs : List Operand}, lowL t m xs = true → ∀ d, Operand.tmp d ∈ xs → AM.lowV 20 m (t d) = true
  | [], _, d, h => by cases h
  | .tmp i :: xs, hh, d, h => by
    simp only [lowL] at hh
    split at hh
    · rename_i hi
      rcases List.mem_cons.1 h with e | h
      · cases e; exact hi
      · exact lowL_ok hh d h
    · cases hh
  | .const _ :: xs, hh, d, h => by
    rcases List.mem_cons.1 h with e | h
    · cases e
    · exact lowL_ok (by simpa only [lowL] using hh) d h
  | .global _ :: xs, hh, d, h => by
    rcases List.mem_cons.1 h with e | h
    · cases e
    · exact lowL_ok (by simpa only [lowL] using hh) d h
  | .func _ :: xs, hh, d, h => by
    rcases List.mem_cons.1 h with e | h
    · cases e
    · exact lowL_ok (by simpa only [lowL] using hh) d h

/-- An operation that yields a value. -/
theorem value_wpIn {o : Oper} {t : Tmps} {h h' : Heap} {v : Value} (hh : step P o.op t h = .ok (.value v h')) {ρ : Ren} {a : Act} {w : World} (hr : HR ρ h w) {L : List Tmp} (hL : ∀ d, Operand.tmp d ∈ o.op.operands.toList → d ∈ L)
    (ht : TO ρ L t a.tmps) {F : Fence} {n : Nat} (hF : F.fn = fun _ => True) :
    ∃ c w' ρ', VR ρ' v c ∧ Post ρ h w ρ' h' w' ∧ ∀ {K : Act → World → Prop} {Q : Exit → Act → World → Prop}, K (a.put o.dst c) w' → o.wpIn F n P a w K Q := by
  have hst := step_soundL (a := a) hr hL ht hh
  have hsem : o.semAt F.round a.eval = execOp a.eval o := Oper.semAt_eq _ _ _ (step_not_defer hh)
  obtain ⟨c, w', ρ', h1, h2, h3⟩ := hst
  refine ⟨c, w', ρ', h2, h3, fun {K Q} hk => ⟨fun f _ => by rw [hF]; trivial, ?_⟩⟩
  rw [hsem]
  rcases h1 with h1 | ⟨h1, rfl⟩
  · rw [h1]; exact hk
  · rw [h1]; exact hk

theorem exec_pend {d : DS} {listed : Array Bool} {mo : Nat → Option Nat} {ρ : Ren} {a : Act} {w : World} (hp : PlanOk ops N pl) (hR : RD P d) (I : Inv P N ops pl ρ₀ h₀ w₀ s d listed mo ρ a w) {x : Spot} (hx : x ∈ pl) (hpn : Pn d listed x.1)
    (hready : ∀ e ∈ x.2.2.after.toList, bnd e → Lst listed e.on) {F : Fence} {n : Nat} (hF : F.fn = fun _ => True) {Q : Exit → Act → World → Prop} {K : Act → World → Prop}
    (hk : ∀ ρ' a' w', Inv P N ops pl ρ₀ h₀ w₀ s d (listed.setIfInBounds x.1 true) mo ρ' a' w' → K a' w') : wpOpIn F n P ops Q x.1 K a w := by
  obtain ⟨t, v, h1, h2, h3⟩ := I.pd x hx hpn
  have hbits : ∀ y, bit x.2.1 y = true → Lst listed y := (hp.ok x hx).2 _ I.clo hready
  have ht : TO ρ (x.2.2.looksAt ops) t a.tmps := fun dd hdd => by
    rcases h2 dd hdd with ⟨y, _, g2, g3, _⟩ | ⟨_, g⟩
    · exact absurd (hbits _ g3) g2.2
    · exact g
  have hL : ∀ dd, Operand.tmp dd ∈ x.2.2.op.operands.toList → dd ∈ x.2.2.looksAt ops := fun dd h => looks_op h
  simp only [wpOpIn, (hp.ok x hx).1, wanted_soundL ht]
  have hlow : ∀ m, m ≤ d.h.n → lowL t m x.2.2.op.operands.toList = true → TO (ρ.below m) (x.2.2.op.operands.toList.filterMap fun | .tmp t => some t | _ => none) t a.tmps := by
    intro m hm hlo dd hdd
    obtain ⟨y, hy, he⟩ := List.mem_filterMap.1 hdd
    cases y <;> simp only [Option.some.injEq, reduceCtorEq] at he
    subst he
    exact VR.lowV (fun b hb l e => Ren.below_some.2 ⟨hb, e⟩) 20 _ _ (lowL_ok hlo _ hy) (ht _ (hL _ hy))
  have hL' : ∀ dd, Operand.tmp dd ∈ x.2.2.op.operands.toList → dd ∈ (x.2.2.op.operands.toList.filterMap fun | .tmp t => some t | _ => none) := fun dd h => List.mem_filterMap.2 ⟨.tmp dd, h, rfl⟩
  have drp : ∀ {ρ' w'}, Sub ρ ρ' → (∀ c, c < w.heap.size → w'.heap[c]? = w.heap[c]?) → w.heap.size ≤ w'.heap.size → DR s ρ' d.h w' a.defers := by
    intro ρ' w' hs hold hsz
    refine ⟨⟨Nat.le_trans I.dr.1.1 hsz, fun q hq => ?_⟩, I.dr.2⟩
    obtain ⟨i, l, g1, g2, g3, g4, g5, g6⟩ := I.dr.1.2 q hq
    exact ⟨i, l, hs _ _ g1, g2, g3, Nat.lt_of_lt_of_le g4 hsz, (hold _ g4).trans g5, g6⟩
  rcases h3 with ⟨hw, rfl⟩ | ⟨hw, m, hb, k1, k2, k3, k4⟩ | ⟨hw, m, hb, km, k1, k2, k3, k4, k5, k6, k7, k8⟩ | ⟨hw, k1, k2⟩
  · rw [hw, if_neg (by simp)]
    exact ⟨fun f _ => by rw [hF]; trivial, hk _ _ _ (I.listed hp hx hpn hready (fun dd hd => by rw [h1 dd hd]; exact .undef _) (.refl _) I.post I.dr fun _ _ _ _ _ _ h => h)⟩
  · rw [hw, if_pos rfl]
    obtain ⟨c, w', ρ₁, g1, g2, g3⟩ := value_wpIn k1 (I.post.hr.blank k3) hL' (hlow m k3 k2) (a := a) (n := n) hF
    obtain ⟨ρ', p1, p2, p3, p4, p5, p6, p7⟩ := I.post.fill g2 k3 (.inl k4)
    exact g3 (hk _ _ _ (I.listed hp hx hpn hready (fun dd hd => by rw [h1 dd hd]; exact g1.mono p3) p2 p1 (drp p2 p6 p7) fun i _ _ _ _ _ h => by rw [p5 k4]; exact h))
  · rw [hw, if_pos rfl]
    obtain ⟨c, w', ρ₁, g1, g2, g3⟩ := value_wpIn k1 (I.post.hr.blank (Nat.le_of_lt k6)) hL' (hlow _ (Nat.le_of_lt k6) k2) (a := a) (n := n) hF
    obtain ⟨ρ', p1, p2, p3, p4, p5, p6, p7⟩ := I.post.fill g2 (Nat.le_of_lt k6) (.inr ⟨k3, k4, k5, k6, k7, k8⟩)
    exact g3 (hk _ _ _ (I.listed hp hx hpn hready (fun dd hd => by rw [h1 dd hd]; exact g1.mono p3) p2 p1 (drp p2 p6 p7) fun i m' hi hpi hm' _ h => by rw [p4 _ (fun e => I.inj _ _ _ hpi hpn hi hm' (by rw [km, e]))]; exact h))
  · rw [hw, if_pos rfl]
    obtain ⟨c, w', ρ', g1, g2, g3⟩ := value_wpIn (hR _ k2) I.post.hr hL ht (a := a) (n := n) hF
    exact g3 (hk _ _ _ (I.listed hp hx hpn hready (fun dd hd => by rw [h1 dd hd]; exact g1) (g2.sub I.post.hr) (I.post.trans g2) (I.dr.post I.post.hr g2) fun i _ _ _ _ hlt h => by rw [g2.ext _ hlt]; exact h))
end
end Go.AM
namespace Go.AM
open Go

section
variable {P : Program} {r : Rec} {N : Nat} {ops : Array Oper} {pl : List Spot} {ρ₀ : Ren} {h₀ : Heap} {w₀ : World} {s : Nat}

def RdOk (d : DS) : Prop := ∀ q ∈ d.rd, isRead q.2.1.op = true

/-- The abstract machine does an operation ahead of the program. -/
theorem Inv.done {d d' : DS} {listed : Array Bool} {mo : Nat → Option Nat} {ρ : Ren} {a : Act} {w : World} (hp : PlanOk ops N pl) (I : Inv P N ops pl ρ₀ h₀ w₀ s d listed mo ρ a w) {x : Spot} (hx : x ∈ pl) (hnd : bit d.done x.1 = false)
    (hsub : AM.sub x.2.1 d.done = true) {v : Value} {m : Option Nat} (hd : d'.done = Nat.lor (Nat.pow 2 x.1) d.done) (ht : d'.t = put N d.t x.2.2.dst v) (hpost : Post ρ₀ h₀ w₀ ρ d'.h w) (hn : d.h.n ≤ d'.h.n)
    (hget : ∀ i, i < d.h.n → d'.h.get i = d.h.get i) (hrd : ∀ q ∈ d.rd, q ∈ d'.rd) (hm : (m = some d.h.n ∧ d.h.n < d'.h.n) ∨ m = none)
    (hpk : (wanted ops x.2.2 d.t = false ∧ v = undef) ∨
     (wanted ops x.2.2 d.t = true ∧ ∃ m hb, step P x.2.2.op d.t (blankN m) = .ok (.value v hb) ∧ lowL d.t m x.2.2.op.operands.toList = true ∧ m ≤ d'.h.n ∧ hb.n = m) ∨
     (wanted ops x.2.2 d.t = true ∧ ∃ m' hb, m = some m' ∧ step P x.2.2.op d.t (blankN m') = .ok (.value v hb) ∧ lowL d.t m' x.2.2.op.operands.toList = true ∧ hb.n = m' + 1 ∧ owned (hb.get m') = true ∧
        h₀.n ≤ m' ∧ m' < d'.h.n ∧ d'.h.get m' = hb.get m' ∧ ρ m' = none) ∨
     (wanted ops x.2.2 d.t = true ∧ isRead x.2.2.op = true ∧ (x.1, x.2.2, d.t, v) ∈ d'.rd)) :
    Inv P N ops pl ρ₀ h₀ w₀ s d' listed (fun i => if i = x.1 then m else mo i) ρ a w := by
  have hdone : ∀ j, bit d'.done j = true ↔ x.1 = j ∨ bit d.done j = true := fun j => by rw [hd, bit_add]
  have hnl : ¬ Lst listed x.1 := fun e => by rw [I.sub _ e] at hnd; cases hnd
  have hpn' : ∀ j, Pn d' listed j ↔ j = x.1 ∨ Pn d listed j := by
    intro j
    unfold Pn
    rw [hdone]
    constructor
    · rintro ⟨e | e, h⟩
      · exact .inl e.symm
      · exact .inr ⟨e, h⟩
    · rintro (rfl | ⟨h1, h2⟩)
      · exact ⟨.inl rfl, hnl⟩
      · exact ⟨.inr h1, h2⟩
  have hpx : ¬ Pn d listed x.1 := fun e => by rw [e.1] at hnd; cases hnd
  have hdstN := hp.dstN x hx
  have hT : ∀ dd, d'.t dd = if x.2.2.dst = some dd then v else d.t dd := fun dd => by rw [ht]; exact put_at hdstN dd
  have hTo : ∀ y ∈ pl, y.1 ≠ x.1 → ∀ dd, y.2.2.dst = some dd → d'.t dd = d.t dd := fun y hy hne dd hdd => by
    rw [hT, if_neg]
    intro e
    exact hne (hp.dist x hx y hy dd e hdd)
  refine ⟨fun i h => (hdone i).2 (.inr (I.sub i h)), I.clo, fun y hy hdy z hz => ?_, hpost, ?_, I.size, fun dd => ?_, fun y hy hpy => ?_, fun i j m₁ hi hj hij => ?_, fun i m₁ hi => ?_, I.lsz⟩
  · rcases (hdone _).1 hdy with e | e
    · have := hp.uniq x hx y hy e
      subst this
      exact (hdone _).2 (.inr (sub_of_true hsub hz))
    · exact (hdone _).2 (.inr (I.doneClo y hy e z hz))
  · refine ⟨⟨I.dr.1.1, fun q hq => ?_⟩, I.dr.2⟩
    obtain ⟨i, l, g1, g2, g3, g4, g5, g6⟩ := I.dr.1.2 q hq
    exact ⟨i, l, g1, by rw [hget i (I.post.hr.dom i l g1).1]; exact g2, g3, g4, g5, g6⟩
  · by_cases hdd : x.2.2.dst = some dd
    · exact .inl ⟨x, hx, (hpn' _).2 (.inl rfl), hdd⟩
    · rcases I.tr dd with ⟨y, h1, h2, h3⟩ | h
      · exact .inl ⟨y, h1, (hpn' _).2 (.inr h2), h3⟩
      · exact .inr (by rw [hT, if_neg hdd]; exact h)
  · rcases (hpn' _).1 hpy with e | hpy
    · have := hp.uniq y hy x hx e
      subst this
      refine ⟨d.t, v, fun dd hdd => by rw [hT, if_pos hdd], fun dd hdd => ?_, ?_⟩
      · by_cases hex : ∃ z ∈ pl, Pn d listed z.1 ∧ z.2.2.dst = some dd
        · obtain ⟨z, k1, k2, k3⟩ := hex
          have hzy : z.1 ≠ y.1 := fun e => hpx (e ▸ k2)
          rcases hp.look y hy z k1 dd hdd k3 with hb | hb
          · exact .inl ⟨z, k1, (hpn' _).2 (.inr k2), hb, k3, (hTo z k1 hzy dd k3).symm⟩
          · rw [I.doneClo z k1 k2.1 _ hb] at hnd; cases hnd
        · refine .inr ⟨fun z k1 k2 k3 k4 => ?_, (I.tr dd).resolve_left hex⟩
          rcases (hpn' _).1 k2 with e | k2
          · rw [e] at k3
            rw [sub_of_true hsub k3] at hnd; cases hnd
          · exact hex ⟨z, k1, k2, k4⟩
      · simpa using hpk
    · have hne : y.1 ≠ x.1 := fun e => hpx (e ▸ hpy)
      obtain ⟨t, u, g1, g2, g3⟩ := I.pd y hy hpy
      refine ⟨t, u, fun dd hdd => by rw [hTo y hy hne dd hdd]; exact g1 dd hdd, fun dd hdd => ?_, ?_⟩
      · rcases g2 dd hdd with ⟨z, k1, k2, k3, k4, k5⟩ | ⟨k1, k2⟩
        · have hzx : z.1 ≠ x.1 := fun e => hpx (e ▸ k2)
          exact .inl ⟨z, k1, (hpn' _).2 (.inr k2), k3, k4, by rw [hTo z k1 hzx dd k4]; exact k5⟩
        · refine .inr ⟨fun z q1 q2 q3 q4 => ?_, k2⟩
          rcases (hpn' _).1 q2 with e | q2
          · rw [e] at q3
            rw [I.doneClo y hy hpy.1 _ q3] at hnd; cases hnd
          · exact k1 z q1 q2 q3 q4
      · simp only [if_neg hne]
        rcases g3 with g3 | ⟨k0, m', hb, k1, k2, k3, k4⟩ | ⟨k0, m', hb, km, k1, k2, k3, k4, k5, k6, k7, k8⟩ | ⟨k0, k1, k2⟩
        · exact .inl g3
        · exact .inr (.inl ⟨k0, m', hb, k1, k2, Nat.le_trans k3 hn, k4⟩)
        · exact .inr (.inr (.inl ⟨k0, m', hb, km, k1, k2, k3, k4, k5, Nat.lt_of_lt_of_le k6 hn, by rw [hget _ k6]; exact k7, k8⟩))
        · exact .inr (.inr (.inr ⟨k0, k1, hrd _ k2⟩))
  · rcases (hpn' _).1 hi with e1 | h1 <;> rcases (hpn' _).1 hj with e2 | h2
    · exact absurd (e1.trans e2.symm) hij
    · have hjx : j ≠ x.1 := fun e => hpx (e ▸ h2)
      rw [if_pos e1, if_neg hjx]
      intro k1 k2
      have := I.lo j m₁ h2 k2
      rcases hm with ⟨hm, _⟩ | hm
      · rw [hm] at k1; cases k1; omega
      · rw [hm] at k1; cases k1
    · have hix : i ≠ x.1 := fun e => hpx (e ▸ h1)
      rw [if_neg hix, if_pos e2]
      intro k1 k2
      have := I.lo i m₁ h1 k1
      rcases hm with ⟨hm, _⟩ | hm
      · rw [hm] at k2; cases k2; omega
      · rw [hm] at k2; cases k2
    · have hix : i ≠ x.1 := fun e => hpx (e ▸ h1)
      have hjx : j ≠ x.1 := fun e => hpx (e ▸ h2)
      rw [if_neg hix, if_neg hjx]
      exact I.inj i j m₁ h1 h2 hij
  · rcases (hpn' _).1 hi with e1 | h1
    · rw [if_pos e1]
      intro k1
      rcases hm with ⟨hm, hm'⟩ | hm
      · rw [hm] at k1; cases k1; exact hm'
      · rw [hm] at k1; cases k1
    · have hix : i ≠ x.1 := fun e => hpx (e ▸ h1)
      rw [if_neg hix]
      intro k1
      exact Nat.lt_of_lt_of_le (I.lo i m₁ h1 k1) hn

theorem stillOf_ok {o : Oper} {t : Tmps} {m : Nat} {v : Value} {b : Option Blk} (hh : stillOf P o t m = .ok (v, b)) :
    lowL t m o.op.operands.toList = true ∧ ∃ hb, step P o.op t (blankN m) = .ok (.value v hb) ∧ ((b = none ∧ hb.n = m) ∨ (b = some (hb.get m) ∧ hb.n = m + 1 ∧ owned (hb.get m) = true)) := by
  simp only [stillOf, bindR_ok, mustM_ok] at hh
  obtain ⟨_, h1, td, h2, hh⟩ := hh
  split at hh
  case h_2 => cases hh
  simp only [bindR_ok, Except.ok.injEq, Prod.mk.injEq] at hh
  obtain ⟨b', h3, rfl, rfl⟩ := hh
  refine ⟨h1, _, h2, ?_⟩
  unfold freshOf at h3
  split at h3
  · rename_i hb; cases h3; exact .inl ⟨rfl, Nat.eq_of_beq_eq_true hb⟩
  · split at h3
    · rename_i h4 h5; cases h3; exact .inr ⟨rfl, Nat.eq_of_beq_eq_true h4, h5⟩
    · cases h3

theorem passOne_inv {d d' : DS} {listed : Array Bool} {mo : Nat → Option Nat} {ρ : Ren} {a : Act} {w : World} (hp : PlanOk ops N pl) (I : Inv P N ops pl ρ₀ h₀ w₀ s d listed mo ρ a w) (hrd : RdOk d) {x : Spot} (hx : x ∈ pl) (hnd : bit d.done x.1 = false)
    (hsub : AM.sub x.2.1 d.done = true) (hh : passOne P N ops x d = .ok d') : (∃ mo', Inv P N ops pl ρ₀ h₀ w₀ s d' listed mo' ρ a w) ∧ RdOk d' := by
  unfold passOne at hh
  split at hh
  · rename_i hw
    cases hh
    exact ⟨⟨_, I.done hp hx hnd hsub (m := none) rfl rfl I.post (Nat.le_refl _) (fun _ _ => rfl) (fun _ h => h) (.inr rfl) (.inl ⟨hw, rfl⟩)⟩, hrd⟩
  · rename_i hw
    split at hh
    · rename_i v hs
      cases hh
      obtain ⟨h1, hb, h2, ⟨_, h3⟩ | ⟨h3, _⟩⟩ := stillOf_ok hs
      · exact ⟨⟨_, I.done hp hx hnd hsub (m := none) rfl rfl I.post (Nat.le_refl _) (fun _ _ => rfl) (fun _ h => h) (.inr rfl) (.inr (.inl ⟨hw, d.h.n, hb, h2, h1, Nat.le_refl _, h3⟩))⟩, hrd⟩
      · cases h3
    · rename_i v b hs
      simp only [bindR_ok, room_ok, Except.ok.injEq] at hh
      obtain ⟨_, hroom, rfl⟩ := hh
      obtain ⟨h1, hb, h2, ⟨h3, _⟩ | ⟨h3, h4, h5⟩⟩ := stillOf_ok hs
      · cases h3
      · cases h3
        have hnone : ρ d.h.n = none := I.post.hr.none
        refine ⟨⟨_, I.done hp hx hnd hsub (m := some d.h.n) rfl rfl (I.post.pad hroom _) (by simp [Heap.put]) (fun i hi => by simp only []; rw [get_put hroom, if_neg (by omega)]) (fun _ h => h) (.inl ⟨rfl, by simp [Heap.put]⟩)
          (.inr (.inr (.inl ⟨hw, d.h.n, hb, rfl, h2, h1, h4, h5, I.post.n_le, by simp [Heap.put], by simp only []; rw [get_put hroom, if_pos rfl], hnone⟩)))⟩, hrd⟩
    · split at hh
      · cases hh; exact ⟨⟨mo, I⟩, hrd⟩
      · rename_i hr
        simp only [bindR_ok] at hh
        obtain ⟨td, hs, hh⟩ := hh
        split at hh
        case h_2 => cases hh
        cases hh
        refine ⟨⟨_, I.done hp hx hnd hsub (m := none) rfl rfl I.post (Nat.le_refl _) (fun _ _ => rfl) (fun _ h => List.mem_cons_of_mem _ h) (.inr rfl) (.inr (.inr (.inr ⟨hw, hr, List.mem_cons_self ..⟩)))⟩, fun q hq => ?_⟩
        rcases List.mem_cons.1 hq with rfl | hq
        · exact hr
        · exact hrd q hq

theorem pass_inv {listed : Array Bool} {ρ : Ren} {a : Act} {w : World} (hp : PlanOk ops N pl) : ∀ (xs : List Spot) {d d' : DS} {mo : Nat → Option Nat}, Inv P N ops pl ρ₀ h₀ w₀ s d listed mo ρ a w → RdOk d → (∀ x ∈ xs, x ∈ pl) → pass P N ops xs d = .ok d' →
    (∃ mo', Inv P N ops pl ρ₀ h₀ w₀ s d' listed mo' ρ a w) ∧ RdOk d'
  | [], d, d', mo, I, hrd, _, hh => by simp only [pass, Except.ok.injEq] at hh; subst hh; exact ⟨⟨mo, I⟩, hrd⟩
  | x :: xs, d, d', mo, I, hrd, hm, hh => by
    unfold pass at hh
    split at hh
    · rename_i h1 h2
      simp only [bindR_ok] at hh
      obtain ⟨d₁, h3, hh⟩ := hh
      obtain ⟨⟨mo₁, I₁⟩, hrd₁⟩ := passOne_inv hp I hrd (hm x (List.mem_cons_self ..)) h1 h2 h3
      exact pass_inv hp xs I₁ hrd₁ (fun y hy => hm y (List.mem_cons_of_mem _ hy)) hh
    · exact pass_inv hp xs I hrd (fun y hy => hm y (List.mem_cons_of_mem _ hy)) hh

theorem mem_undone {done : Nat} : ∀ {pl : List Spot} {x : Spot}, x ∈ undone done pl ↔ x ∈ pl ∧ bit done x.1 = false
  | [], x => by simp [undone]
  | y :: pl, x => by
    simp only [undone]
    split
    · rename_i h
      rw [mem_undone]
      constructor
      · rintro ⟨h1, h2⟩; exact ⟨List.mem_cons_of_mem _ h1, h2⟩
      · rintro ⟨h1, h2⟩
        rcases List.mem_cons.1 h1 with rfl | h1
        · rw [h] at h2; cases h2
        · exact ⟨h1, h2⟩
    · rename_i h
      rw [List.mem_cons, mem_undone, List.mem_cons]
      constructor
      · rintro (rfl | ⟨h1, h2⟩)
        · exact ⟨.inl rfl, h⟩
        · exact ⟨.inr h1, h2⟩
      · rintro ⟨rfl | h1, h2⟩
        · exact .inl rfl
        · exact .inr ⟨h1, h2⟩

/-- The program and the abstract machine do the operation that may write. -/
theorem Inv.both {d : DS} {listed : Array Bool} {mo : Nat → Option Nat} {ρ ρ' : Ren} {a : Act} {w w' : World} {h' : Heap} {v c : Value} (hp : PlanOk ops N pl) (I : Inv P N ops pl ρ₀ h₀ w₀ s d listed mo ρ a w) {x : Spot} (hx : x ∈ pl)
    (hnd : bit d.done x.1 = false) (hsub : AM.sub x.2.1 d.done = true) (hready : ∀ e ∈ x.2.2.after.toList, bnd e → Lst listed e.on) (hv : VR ρ' v c) (hpo : Post ρ d.h w ρ' h' w') :
    Inv P N ops pl ρ₀ h₀ w₀ s { done := Nat.lor (Nat.pow 2 x.1) d.done, t := put N d.t x.2.2.dst v, h := h', rd := d.rd.filter fun y => !bit x.2.1 y.1 } (listed.setIfInBounds x.1 true) mo ρ' (a.put x.2.2.dst c) w' := by
  have hi : x.1 < listed.size := by
    rw [I.lsz]; exact (Array.getElem?_eq_some_iff.1 (hp.ok x hx).1).1
  have hdstN := hp.dstN x hx
  have hs := hpo.sub I.post.hr
  have hbits : ∀ y, bit x.2.1 y = true → Lst listed y := (hp.ok x hx).2 _ I.clo hready
  generalize hd' : ({ done := Nat.lor (Nat.pow 2 x.1) d.done, t := put N d.t x.2.2.dst v, h := h', rd := d.rd.filter fun y => !bit x.2.1 y.1 } : DS) = d'
  have e1 : d'.done = Nat.lor (Nat.pow 2 x.1) d.done := by rw [← hd']
  have e2 : d'.t = put N d.t x.2.2.dst v := by rw [← hd']
  have e3 : d'.h = h' := by rw [← hd']
  have e4 : d'.rd = d.rd.filter fun y => !bit x.2.1 y.1 := by rw [← hd']
  have hdone : ∀ j, bit d'.done j = true ↔ x.1 = j ∨ bit d.done j = true := fun j => by rw [e1, bit_add]
  have hpx : ¬ Pn d listed x.1 := fun e => by rw [e.1] at hnd; cases hnd
  have hpn' : ∀ j, Pn d' (listed.setIfInBounds x.1 true) j ↔ Pn d listed j := by
    intro j
    unfold Pn
    rw [hdone, lst_set]
    constructor
    · rintro ⟨e | e, h⟩
      · exact absurd (.inl ⟨e.symm, hi⟩) h
      · exact ⟨e, fun e => h (.inr e)⟩
    · rintro ⟨g1, g2⟩
      refine ⟨.inr g1, fun e => ?_⟩
      rcases e with ⟨rfl, _⟩ | e
      · exact hpx ⟨g1, g2⟩
      · exact g2 e
  have hT : ∀ dd, d'.t dd = if x.2.2.dst = some dd then v else d.t dd := fun dd => by rw [e2]; exact put_at hdstN dd
  have hTo : ∀ y ∈ pl, Pn d listed y.1 → ∀ dd, y.2.2.dst = some dd → d'.t dd = d.t dd := fun y hy hpy dd hdd => by
    rw [hT, if_neg]
    intro e
    exact hpx (hp.dist x hx y hy dd e hdd ▸ hpy)
  refine ⟨fun i h => ?_, fun j o hj hl e he hb => ?_, fun y hy hdy z hz => ?_, by rw [e3]; exact I.post.trans hpo, by rw [act_defers, e3]; exact I.dr.post I.post.hr hpo, by rw [act_size]; exact I.size, fun dd => ?_, fun y hy hpy => ?_,
    fun i j m hi hj => I.inj i j m ((hpn' i).1 hi) ((hpn' j).1 hj), fun i m hi => ?_, by simpa using I.lsz⟩
  · rcases lst_set.1 h with ⟨rfl, _⟩ | h
    · exact (hdone _).2 (.inl rfl)
    · exact (hdone _).2 (.inr (I.sub i h))
  · rcases lst_set.1 hl with ⟨rfl, _⟩ | hl
    · rw [(hp.ok x hx).1] at hj; cases hj
      exact lst_set.2 (.inr (hready e he hb))
    · exact lst_set.2 (.inr (I.clo j o hj hl e he hb))
  · rcases (hdone _).1 hdy with e | e
    · have := hp.uniq x hx y hy e
      subst this
      exact (hdone _).2 (.inr (sub_of_true hsub hz))
    · exact (hdone _).2 (.inr (I.doneClo y hy e z hz))
  · rw [act_at I.size hdstN, hT]
    by_cases hdd : x.2.2.dst = some dd
    · rw [if_pos hdd, if_pos hdd]; exact .inr hv
    · rw [if_neg hdd, if_neg hdd]
      rcases I.tr dd with ⟨y, g1, g2, g3⟩ | h
      · exact .inl ⟨y, g1, (hpn' _).2 g2, g3⟩
      · exact .inr (h.mono hs)
  · have hpy := (hpn' _).1 hpy
    obtain ⟨t, u, g1, g2, g3⟩ := I.pd y hy hpy
    refine ⟨t, u, fun dd hdd => by rw [hTo y hy hpy dd hdd]; exact g1 dd hdd, fun dd hdd => ?_, ?_⟩
    · rcases g2 dd hdd with ⟨z, k1, k2, k3, k4, k5⟩ | ⟨k1, k2⟩
      · exact .inl ⟨z, k1, (hpn' _).2 k2, k3, k4, by rw [hTo z k1 k2 dd k4]; exact k5⟩
      · have hne : x.2.2.dst ≠ some dd := fun e => by
          rcases hp.look y hy x hx dd hdd e with hb | hb
          · rw [I.doneClo y hy hpy.1 _ hb] at hnd; cases hnd
          · exact hpy.2 (hbits _ hb)
        refine .inr ⟨fun z q1 q2 q3 q4 => k1 z q1 ((hpn' _).1 q2) q3 q4, ?_⟩
        rw [act_at I.size hdstN, if_neg hne]
        exact k2.mono hs
    · rcases g3 with g3 | ⟨k0, m', hb, k1, k2, k3, k4⟩ | ⟨k0, m', hb, km, k1, k2, k3, k4, k5, k6, k7, k8⟩ | ⟨k0, k1, k2⟩
      · exact .inl g3
      · exact .inr (.inl ⟨k0, m', hb, k1, k2, by rw [e3]; exact Nat.le_trans k3 hpo.n_le, k4⟩)
      · refine .inr (.inr (.inl ⟨k0, m', hb, km, k1, k2, k3, k4, k5, by rw [e3]; exact Nat.lt_of_lt_of_le k6 hpo.n_le, by rw [e3, hpo.far _ k6 k8]; exact k7, by rw [hpo.ext _ k6]; exact k8⟩))
      · refine .inr (.inr (.inr ⟨k0, k1, ?_⟩))
        rw [e4, List.mem_filter]
        refine ⟨k2, ?_⟩
        cases hb : bit x.2.1 y.1 with
        | false => rfl
        | true => exact absurd (hbits _ hb) hpy.2
  · rw [e3]
    intro k1
    exact Nat.lt_of_lt_of_le (I.lo i m ((hpn' i).1 hi) k1) hpo.n_le

theorem mem_ready {listed : Array Bool} {i : Nat} (hl : listed.size = ops.size) : i ∈ Region.ready .any ops listed ↔ ∃ o, ops[i]? = some o ∧ ¬ Lst listed i ∧ ∀ e ∈ o.after.toList, bnd e → Lst listed e.on := by
  unfold Region.ready Lst
  simp only [List.mem_filter, List.mem_range, Bool.and_eq_true, Bool.not_eq_true']
  constructor
  · rintro ⟨h1, h2, h3⟩
    obtain ⟨o, ho⟩ : ∃ o, ops[i]? = some o := ⟨_, Array.getElem?_eq_getElem h1⟩
    refine ⟨o, ho, ?_, ?_⟩
    · have hi : i < listed.size := by omega
      simp only [Array.getD_eq_getD_getElem?, Array.getElem?_eq_getElem hi, Option.getD_some] at h2 ⊢
      rw [h2]; simp
    · rw [ho] at h3
      simp only [Option.map_some, Option.getD_some, Array.all_eq_true_iff_forall_mem] at h3
      intro e he hb
      have := h3 e (by simpa using he)
      rw [Bool.or_eq_true, Bool.not_eq_true'] at this
      rcases this with this | this
      · rw [hb] at this; cases this
      · exact this
  · rintro ⟨o, ho, h2, h3⟩
    have h1 : i < ops.size := (Array.getElem?_eq_some_iff.1 ho).1
    refine ⟨h1, ?_, ?_⟩
    · have hi : i < listed.size := by omega
      simp only [Array.getD_eq_getD_getElem?, Array.getElem?_eq_getElem hi, Option.getD_some] at h2 ⊢
      simpa using h2
    · rw [ho]
      simp only [Option.map_some, Option.getD_some, Array.all_eq_true_iff_forall_mem]
      intro e he
      rw [Bool.or_eq_true, Bool.not_eq_true']
      cases hb : Region.binds .any e with
      | false => exact .inl rfl
      | true => exact .inr (h3 e (by simpa using he) hb)

theorem ready_nil {listed : Array Bool} (hp : PlanOk ops N pl) (hl : listed.size = ops.size) (h : Region.ready .any ops listed = []) : ∀ i, i < ops.size → Lst listed i := by
  intro i
  induction i using Nat.strongRecOn with
  | _ i ih =>
    intro hi
    refine Classical.byContradiction fun hn => ?_
    obtain ⟨o, ho⟩ : ∃ o, ops[i]? = some o := ⟨_, Array.getElem?_eq_getElem hi⟩
    obtain ⟨b, hb⟩ := hp.all i o ho
    have : i ∈ Region.ready .any ops listed := (mem_ready hl).2 ⟨o, ho, hn, fun e he hbd => by
      have := hp.back _ hb e he hbd
      exact ih e.on this (Nat.lt_trans this hi)⟩
    rw [h] at this; cases this

def unl (l : List Bool) : Nat := l.countP (· == false)
theorem unl_set : ∀ (l : List Bool) (i : Nat), l[i]? = some false → unl (l.set i true) + 1 = unl l
  | [], i, h => by simp at h
  | b :: l, 0, h => by
    simp only [List.getElem?_cons_zero, Option.some.injEq] at h
    subst h
    simp [unl]
  | b :: l, i + 1, h => by
    have := unl_set l i (by simpa using h)
    simp only [unl, List.set_cons_succ, List.countP_cons] at this ⊢
    omega
theorem unl_lt {listed : Array Bool} {i : Nat} (hi : i < listed.size) (h : ¬ Lst listed i) : unl (listed.setIfInBounds i true).toList + 1 = unl listed.toList := by
  rw [Array.toList_setIfInBounds]
  refine unl_set _ _ ?_
  unfold Lst at h
  simp only [Array.getD_eq_getD_getElem?, Array.getElem?_eq_getElem hi, Option.getD_some] at h
  rw [Array.getElem?_toList, Array.getElem?_eq_getElem hi]
  simpa using h
theorem unl_zero {listed : Array Bool} (h : unl listed.toList = 0) : ∀ i, i < listed.size → Lst listed i := by
  intro i hi
  refine Classical.byContradiction fun hn => ?_
  have := unl_lt hi hn
  omega

theorem any_sound (hrec : RecSound P r) (hp : PlanOk ops N pl) {β : Type} {k : Kont β} {res : β} {rd : Option Nat} {F : Fence} {n : Nat} (hF : FR ρ₀ rd F) (hr₀ : HR ρ₀ h₀ w₀) {Q : Exit → Act → World → Prop}
    (hk : ∀ t' h' ρ' a' w', k .normal t' h' = .ok res → a'.tmps.size = N → TR ρ' t' a'.tmps → Post ρ₀ h₀ w₀ ρ' h' w' → DR s ρ' h' w' a'.defers → Q .normal a' w') :
    ∀ (fuel : Nat) (listed : Array Bool) (d : DS) (mo : Nat → Option Nat) (ρ : Ren) (a : Act) (w : World) (m : Nat), drawW P r N ops pl (drawL P r N ops pl k m) d k = .ok res → Inv P N ops pl ρ₀ h₀ w₀ s d listed mo ρ a w → RD P d → RdOk d → unl listed.toList ≤ fuel →
      wpAnyIn F n P .any ops Q fuel listed a w := by
  intro fuel
  have nil : ∀ (listed : Array Bool) (d : DS) (mo : Nat → Option Nat) (ρ : Ren) (a : Act) (w : World) (m : Nat), drawW P r N ops pl (drawL P r N ops pl k m) d k = .ok res → Inv P N ops pl ρ₀ h₀ w₀ s d listed mo ρ a w → Region.ready .any ops listed = [] → Q .normal a w := by
    intro listed d mo ρ a w m hh I hnil
    have hall := ready_nil hp I.lsz hnil
    have hpl : ∀ x ∈ pl, Lst listed x.1 := fun x hx => hall _ (Array.getElem?_eq_some_iff.1 (hp.ok x hx).1).1
    have hu : undone d.done pl = [] := by
      cases hu : undone d.done pl with
      | nil => rfl
      | cons x xs =>
        have := mem_undone.1 (hu ▸ List.mem_cons_self .. : x ∈ undone d.done pl)
        rw [I.sub _ (hpl x this.1)] at this; cases this.2
    unfold drawW at hh
    rw [hu] at hh
    exact hk _ _ _ _ _ hh I.size (fun dd => (I.tr dd).resolve_left fun ⟨y, h1, h2, _⟩ => h2.2 (hpl y h1)) I.post I.dr
  induction fuel with
  | zero =>
    intro listed d mo ρ a w m hh I hR hrd hun
    have hz : unl listed.toList = 0 := by omega
    have hnil : Region.ready .any ops listed = [] := by
      cases he : Region.ready .any ops listed with
      | nil => rfl
      | cons i l =>
        obtain ⟨o, h1, h2, _⟩ := (mem_ready I.lsz).1 (he ▸ List.mem_cons_self .. : i ∈ Region.ready .any ops listed)
        exact absurd (unl_zero hz i (by rw [I.lsz]; exact (Array.getElem?_eq_some_iff.1 h1).1)) h2
    exact ⟨hnil, nil _ _ _ _ _ _ _ hh I hnil⟩
  | succ fuel ih =>
    intro listed d mo ρ a w m hh I hR hrd hun
    refine ⟨nil _ _ _ _ _ _ _ hh I, fun i hi => ?_⟩
    obtain ⟨o, ho, hnl, hready⟩ := (mem_ready I.lsz).1 hi
    obtain ⟨b, hb⟩ := hp.all i o ho
    have hun' : unl (listed.setIfInBounds i true).toList ≤ fuel := by
      have := unl_lt (listed := listed) (by rw [I.lsz]; exact (Array.getElem?_eq_some_iff.1 ho).1) hnl
      omega
    cases hdn : bit d.done i with
    | true => exact exec_pend hp hR I hb ⟨hdn, hnl⟩ hready (hF.fn) fun ρ' a' w' I' => ih _ _ _ _ _ _ _ hh I' hR hrd hun'
    | false =>
      have hbits : ∀ y, bit b y = true → bit d.done y = true := fun y hy => I.sub _ ((hp.ok _ hb).2 _ I.clo hready y hy)
      have hmem := mem_undone.2 (⟨hb, hdn⟩ : (i, b, o) ∈ pl ∧ bit d.done (i, b, o).1 = false)
      unfold drawW at hh
      split at hh
      · rename_i hu; rw [hu] at hmem; cases hmem
      · rename_i x xs hu
        simp only [bindR_ok, mustM_ok, Bool.and_eq_true, List.all_eq_true, Bool.not_eq_true'] at hh
        obtain ⟨_, ⟨⟨g1, g2⟩, g3⟩, ⟨v, h'⟩, g4, hh⟩ := hh
        rw [hu] at hmem
        rcases List.mem_cons.1 hmem with e | hmem
        · subst e
          have hto : TO ρ (o.looksAt ops) d.t a.tmps := fun dd hdd => (I.tr dd).resolve_left fun ⟨y, h1, h2, h3⟩ => by
            rcases hp.look _ hb y h1 dd hdd h3 with hbb | hbb
            · exact h2.2 ((hp.ok _ hb).2 _ I.clo hready _ hbb)
            · rw [I.doneClo y h1 h2.1 _ hbb] at hdn; cases hdn
          simp only [wpOpIn, ho, wanted_soundL hto, g2, if_true]
          refine stepV_sound hrec g4 (fun dd h => looks_op h) hto (hF.mono (I.post.sub hr₀)) I.post.hr fun c ρ' w' hv hpo => ?_
          have I' := I.both hp hb hdn g1 hready hv hpo
          cases m with
          | zero => simp [drawL] at hh
          | succ m =>
            simp only [drawL, bindR_ok] at hh
            obtain ⟨d₂, k1, _, k2, hh⟩ := hh
            obtain ⟨⟨mo₂, I₂⟩, hrd₂⟩ := pass_inv hp pl I' (fun q hq => hrd q (List.mem_filter.1 hq).1) (fun _ h => h) k1
            exact ih _ _ _ _ _ _ _ hh I₂ (recheck_rd _ hrd₂ k2) hrd₂ hun'
        · have := g3 _ hmem
          rw [sub_of hbits] at this; cases this

theorem drawK_sound (hrec : RecSound P r) {β : Type} {t : Tmps} {h : Heap} {k : Kont β} {res : β} (hh : drawK P r N ops t h k = .ok res) {id : Nat} {ρ : Ren} {a : Act} {w : World} {rd : Option Nat} {F : Fence} {n : Nat} (hF : FR ρ rd F)
    (hn : a.tmps.size = N) (ht : TR ρ t a.tmps) (hr : HR ρ h w) (hd : DR s ρ h w a.defers)
    {Q : Exit → Act → World → Prop} (hk : ∀ e t' h' ρ' a' w', k e t' h' = .ok res → a'.tmps.size = N → TR ρ' t' a'.tmps → Post ρ h w ρ' h' w' → DR s ρ' h' w' a'.defers → Q (outOf e) a' w') :
    (Code.region id ops true).wpIn F n P Q a w := by
  simp only [drawK, bindR_ok, mustM_ok, Bool.and_eq_true] at hh
  obtain ⟨_, ⟨hm, hst⟩, hh⟩ := hh
  have hp := planOk hst
  refine wpIn_region_any hm ?_
  simp only [drawL, bindR_ok] at hh
  obtain ⟨d₂, k1, _, k2, hh⟩ := hh
  have hnone : ∀ i, ¬ Lst (Array.replicate ops.size false) i := fun i e => by
    unfold Lst at e
    by_cases hi : i < ops.size
    · simp [Array.getD_eq_getD_getElem?, hi] at e
    · simp [Array.getD_eq_getD_getElem?, hi] at e
  have I : Inv P N ops (planL ops.toList 0 []) ρ h w s { done := 0, t := t, h := h, rd := [] } (Array.replicate ops.size false) (fun _ => none) ρ a { w with drawn := w.drawn + 1 } := by
    refine ⟨fun i e => absurd e (hnone i), fun j o _ e => absurd e (hnone j), fun x _ e => (by simp only [bit_zero] at e; cases e), ?_, hd, hn, fun dd => .inr (ht dd), fun x _ e => ?_, fun i j m e => ?_, fun i m e => ?_, by simp⟩
    · exact ⟨Nat.le_refl _, fun _ _ => rfl, ⟨hr.n_le, hr.dom, hr.inj⟩, ⟨Nat.le_refl _, fun _ _ _ => rfl, fun i l e o => .inr ⟨i, l, e, o, rfl⟩, rfl, rfl, rfl⟩, .refl h, fun _ _ _ => rfl⟩
    · have := e.1; simp only [bit_zero] at this; cases this
    · have := e.1; simp only [bit_zero] at this; cases this
    · have := e.1; simp only [bit_zero] at this; cases this
  obtain ⟨⟨mo₂, I₂⟩, hrd₂⟩ := pass_inv hp _ I (fun q hq => by cases hq) (fun _ h => h) k1
  refine any_sound hrec hp hF hr (fun t' h' ρ' a' w' he => hk .normal t' h' ρ' a' w' he) _ _ _ _ _ _ _ _ hh I₂ (recheck_rd _ hrd₂ k2) hrd₂ ?_
  have := List.countP_le_length (p := fun b : Bool => b == false) (l := (Array.replicate ops.size false).toList)
  simpa [unl] using this
end
end Go.AM
namespace Go.AM
open Go

section
variable {P : Program} {r : Rec} {L N : Nat}

theorem opers_sound (hrec : RecSound P r) {β : Type} {ops : Array Oper} {k : Kont β} {res : β} : ∀ (os : List Oper) {t : Tmps} {h : Heap}, opers P r N ops os t h k = .ok res →
    ∀ {s : Nat} {ρ : Ren} {a : Act} {w : World} {rd : Option Nat} {F : Fence} {n : Nat}, FR ρ rd F → a.tmps.size = N → TR ρ t a.tmps → HR ρ h w → DR s ρ h w a.defers →
    ∀ {Q : Exit → Act → World → Prop}, (∀ e t' h' ρ' a' w', k e t' h' = .ok res → a'.tmps.size = N → TR ρ' t' a'.tmps → Post ρ h w ρ' h' w' → DR s ρ' h' w' a'.defers → Q (outOf e) a' w') →
    wpListIn F n P ops Q os a w := by
  intro os
  induction os with
  | nil =>
    intro t h hh s ρ a w rd F n hF hn ht hr hd Q hk
    exact hk .normal _ _ _ _ _ hh hn ht (.refl hr) hd
  | cons o os ih =>
    intro t h hh s ρ a w rd F n hF hn ht hr hd Q hk
    simp only [opers] at hh
    simp only [wpListIn, wanted_sound ht]
    cases hw : wanted ops o t with
    | true =>
      rw [hw] at hh
      rw [if_pos rfl]
      refine oper_sound hrec hh hF hn ht hr fun t' h' ρ' a' w' hk' hn' ht' p' hd' => ?_
      exact ih hk' (hF.mono (p'.sub hr)) hn' ht' p'.hr (hd' ▸ hd.post hr p') fun e t'' h'' ρ'' a'' w'' he hn'' ht'' p'' hd'' =>
        hk e t'' h'' ρ'' a'' w'' he hn'' ht'' (p'.trans p'') hd''
    | false =>
      rw [hw] at hh
      rw [if_neg (by simp)]
      have hp := put_sound (d := o.dst) hn ht (.undef ρ)
      refine ⟨fun f _ => by rw [hF.fn]; trivial, ih hh hF hp.2 hp.1 hr ?_ hk⟩
      cases o.dst <;> exact hd

/-- The loop over a function: laid, ended. -/
theorem rangeEnd_sound {β : Type} {l : Nat} {t : Tmps} {h : Heap} {k : Kont β} {res : β} (hh : rangeEnd l t h k = .ok res)
    {s : Nat} {ρ : Ren} {a : Act} {w : World} {loc : Loc} {F : Fence} {n : Nat} (hl : ρ l = some loc) (hn : a.tmps.size = N) (ht : TR ρ t a.tmps) (hr : HR ρ h w) (hd : DR s ρ h w a.defers)
    {Q : Exit → Act → World → Prop} (hk : ∀ e t' h' ρ' a' w', k e t' h' = .ok res → a'.tmps.size = N → TR ρ' t' a'.tmps → Post ρ h w ρ' h' w' → DR s ρ' h' w' a'.defers → Q (outOf e) a' w') (c : Value) :
    rangePost F n P loc.blk Q a (.returned c) w := by
  unfold rangeEnd at hh
  split at hh
  case h_2 => cases hh
  rename_i q hg
  have hb := (hr.dom _ _ hl).2.2
  rw [hg] at hb
  obtain ⟨q', ld, h1, h2, h3, h4, h5, h6, h7, h8, h9⟩ := hb
  have key : q.state ≠ .busy → Post ρ h w ρ (h.write l (.loop { q with state := .exhausted }) 0) (w.putObj loc.blk (.loop { q' with state := .exhausted })) := fun _ => by
    refine Post.write hr hl (by rw [hg]; rfl) (At1.setBlk _ _) ⟨_, ld, setBlk_heap ((hr.dom _ _ hl).2.1 (by rw [hg]; rfl)), rfl, h3, h4, h5, h6, h7, h8, h9⟩ (fun m' _ _ hlow => ?_)
    rw [hg] at hlow; exact hlow
  split at hh
  · cases hh
  · rename_i hbusy
    have hb' : q'.state ≠ .busy := by rw [h2]; intro e; exact hbusy e
    have hpost := key (by rw [← h2]; exact hb')
    have hrun := run_endLoop (P := P) h1 hb'
    generalize w.putObj loc.blk (.loop { q' with state := .exhausted }) = w₄ at hrun hpost
    have hd' := hd.post hr hpost
    rw [h3] at hrun
    refine ⟨_, _, hrun, ?_⟩
    split at hh
    · rename_i hp; rw [hp]; exact hk _ _ _ _ _ _ hh hn ht hpost hd'
    · rename_i hp; rw [hp]; exact wpIn_ret (hk _ _ _ _ _ _ hh hn ht hpost hd')
    · rename_i hp; rw [hp]; exact wpIn_exit (hk _ _ _ _ _ _ hh hn ht hpost hd')
    · rename_i hp; rw [hp]; exact wpIn_goto (hk _ _ _ _ _ _ hh hn ht hpost hd')
    · cases hh

theorem rangeCall_sound (hrec : RecSound P r) {β : Type} {g : Value} {l : Nat} {t : Tmps} {h : Heap} {k : Kont β} {res : β} (hh : AM.rangeCall P r g l t h k = .ok res)
    {s : Nat} {ρ : Ren} {a : Act} {w : World} {loc : Loc} {rd : Option Nat} {F : Fence} {n : Nat} {go : Operand} (hF : FR ρ rd F) (hg : VR ρ g (a.eval go)) (hl : ρ l = some loc) (hn : a.tmps.size = N)
    (ht : TR ρ t a.tmps) (hr : HR ρ h w) (hd : DR s ρ h w a.defers)
    {Q : Exit → Act → World → Prop} (hk : ∀ e t' h' ρ' a' w', k e t' h' = .ok res → a'.tmps.size = N → TR ρ' t' a'.tmps → Post ρ h w ρ' h' w' → DR s ρ' h' w' a'.defers → Q (outOf e) a' w') :
    ∃ (d : Deferred) (w₁' : World) (f : FuncId) (args : Array Value) (w₂ : World),
      (resolve a.eval (Go.rangeCall go loc.blk) 0).run P w = .ok d w₁' ∧
      (∀ f', Target.leads P w₁' d.target d.args = some f' → F.fn f') ∧
      (invoke d.target d.args).run P w₁' = .ok (.enter f args) w₂ ∧
      (F.depth.isSome = true → 1 ≤ n) ∧
      CallsIn F (n - 1) P f args w₂ (rangePost F n P loc.blk Q a) := by
  unfold AM.rangeCall at hh
  simp only [bindR_ok] at hh
  obtain ⟨td, hi, hh⟩ := hh
  have hinv := invokeV_sound (h := h) (w := w) (cargs := [.func (.yield loc.blk) #[] #[]]) hg (.cons (.yield hl) .nil) hi
  split at hh
  case h_2 => cases hh
  rename_i f args
  simp only [bindR_ok] at hh
  obtain ⟨⟨v, h'⟩, hc, hh⟩ := hh
  obtain ⟨cargs, h1, h2⟩ := hinv
  have hres : resolve a.eval (Go.rangeCall go loc.blk) 0 = Deferred.ofValue (a.eval go) [Value.func (.yield loc.blk) #[] #[]].toArray := by
    simp [resolve, Act.eval]
  have hrun : ∃ d, (Deferred.ofValue (a.eval go) [Value.func (.yield loc.blk) #[] #[]].toArray).run P w = .ok d w ∧ (invoke d.target d.args).run P w = .ok (.enter f cargs) w := by
    unfold invokeV at hi
    split at hi
    · rename_i g' first captured
      generalize hx : a.eval go = cg at hg h1
      cases hg
      simp only [Deferred.ofValue, Sem.run_bind, Sem.run_pure, Result.andThen_ok] at h1 ⊢
      exact ⟨_, rfl, h1⟩
    · simp only [Except.ok.injEq] at hi; cases hi
    · cases hi
  obtain ⟨d, hd1, hd2⟩ := hrun
  refine ⟨d, w, f, cargs, w, by rw [hres]; exact hd1, fun f' _ => by rw [hF.fn]; trivial, hd2, (fun e => by rw [hF.depth] at e; cases e), ?_⟩
  refine (hF.calls (hrec.call hc hr h2 (n - 1))).mono fun e w' ⟨c, ρ', he, hv, hp⟩ => ?_
  subst he
  exact rangeEnd_sound (N := N) hh (hp.sub hr _ _ hl) hn (ht.mono (hp.sub hr)) hp.hr (hd.post hr hp)
    (fun e t' h' ρ'' a' w'' he hn' ht' hp' hd' => hk e t' h' ρ'' a' w'' he hn' ht' (hp.trans hp') hd') c

theorem rangeK_sound (hrec : RecSound P r) {β : Type} {g : Operand} {ps : Array Tmp} {assign body : Code} {t : Tmps} {h : Heap} {rd : Option Nat} {k : Kont β} {res : β}
    (hh : rangeK P r N g ps assign body t h rd k = .ok res)
    {s : Nat} {ρ : Ren} {a : Act} {w : World} {F : Fence} {n : Nat} (hF : FR ρ rd F) (hn : a.tmps.size = N) (ht : TR ρ t a.tmps) (hr : HR ρ h w) (hd : DR s ρ h w a.defers)
    {Q : Exit → Act → World → Prop} (hk : ∀ e t' h' ρ' a' w', k e t' h' = .ok res → a'.tmps.size = N → TR ρ' t' a'.tmps → Post ρ h w ρ' h' w' → DR s ρ' h' w' a'.defers → Q (outOf e) a' w') :
    (Code.rangeFunc g ps assign body).wpIn F n P Q a w := by
  unfold rangeK at hh
  simp only [bindR_ok] at hh
  obtain ⟨gv, hgv, hh⟩ := hh
  have hg := ev_sound (a := a) ht hgv
  refine wpIn_rangeFunc fun fn _ => ?_
  cases rd with
  | some l =>
    simp only [] at hh
    split at hh
    case h_2 => cases hh
    rename_i q hq
    simp only [bindR_ok, room_ok] at hh
    obtain ⟨_, hroom, hh⟩ := hh
    rcases hF with ⟨h0, _⟩ | ⟨l', loc, h0, hl, rfl⟩
    · cases h0
    cases h0
    have hb := (hr.dom _ _ hl).2.2
    rw [hq] at hb
    obtain ⟨q', ld, h1, h2, h3, h4, h5, h6, h7, h8, h9⟩ := hb
    have hp := new_obj hr hroom (.loop { state := .ready, pending := none, fn, tmps := a.tmps, params := ps, assign, body, defers := q'.defers })
      (.loop { state := .ready, pending := none, ntmps := N, tmps := t, params := ps, assign, body, defers := q.defers })
      (fun w' hw' => ⟨_, ld, hw', rfl, rfl, rfl, rfl, rfl, ⟨ht.mono (hr.sub_add _), hn⟩, hr.sub_add _ _ _ h8, h9⟩)
    have hF' : FR (ρ.add h.n ⟨w.heap.size, 0, 0, 0⟩) (some l) (Fence.wide.inRound loc.blk) := .inr ⟨l, loc, rfl, hr.sub_add _ _ _ hl, rfl⟩
    obtain ⟨d, w₁', f, args, w₂, g1, g2, g3, g4, g5⟩ := rangeCall_sound (N := N) (s := s) (a := a) (n := n) (go := g) (Q := Q) hrec hh hF' (hg.mono (hr.sub_add _)) Ren.add_same hn (ht.mono (hr.sub_add _)) hp.hr (hd.post hr hp)
      (fun e t' h' ρ'' a' w'' he hn' ht' hp' hd' => hk e t' h' ρ'' a' w'' he hn' ht' (hp.trans hp') hd')
    exact ⟨_, _, _, d, w₁', f, args, w₂, run_enterLoop_inner h1 fn a.tmps ps assign body, g1, g2, g3, g4, g5⟩
  | none =>
    simp only [bindR_ok, must_ok] at hh
    obtain ⟨_, hroom, hh⟩ := hh
    rcases hF with ⟨_, rfl⟩ | ⟨l', loc, h0, hl, rfl⟩
    case inr => cases h0
    have hp := new_obj hr trivial (.deferred (some [])) .defs (fun w' hw' => ⟨_, hw'⟩)
    have hs1 := hr.sub_add ⟨w.heap.size, 0, 0, 0⟩
    have hp2 := new_obj hp.hr trivial (.loop { state := .ready, pending := none, fn, tmps := a.tmps, params := ps, assign, body, defers := w.heap.size })
      (.loop { state := .ready, pending := none, ntmps := N, tmps := t, params := ps, assign, body, defers := h.n })
      (fun w' hw' => ⟨_, ⟨w.heap.size, 0, 0, 0⟩, hw', rfl, rfl, rfl, rfl, rfl, ⟨(ht.mono hs1).mono (hp.hr.sub_add _), hn⟩, hp.hr.sub_add _ _ _ Ren.add_same, rfl⟩)
    have hs2 := hp.hr.sub_add ⟨({ w with heap := w.heap.push (.deferred (some [])) } : World).heap.size, 0, 0, 0⟩
    have hd1 : DR s (ρ.add h.n ⟨w.heap.size, 0, 0, 0⟩) (h.put .defs) { w with heap := w.heap.push (.deferred (some [])) } ([{ target := .collected w.heap.size, args := #[] }] ++ a.defers) := by
      have h0 := hd.post hr hp
      refine ⟨⟨h0.1.1, fun d hm => ?_⟩, ?_⟩
      · rcases List.mem_append.1 hm with hm | hm
        · obtain rfl := List.mem_singleton.1 hm
          exact ⟨h.n, _, Ren.add_same, by rw [get_put trivial, if_pos rfl], hd.1.1, by simp, by simp, rfl⟩
        · exact h0.1.2 d hm
      · rw [List.singleton_append, List.nodup_cons]
        refine ⟨fun hm => ?_, h0.2⟩
        obtain ⟨i, l, e1, e2, e3, e4, e5, e6⟩ := hd.1.2 _ hm
        injection e6 with e7
        injection e7 with e8
        omega
    obtain ⟨d, w₁', f, args, w₂, g1, g2, g3, g4, g5⟩ := rangeCall_sound (N := N) (s := s) (a := { a with defers := [{ target := .collected w.heap.size, args := #[] }] ++ a.defers }) (n := n) (go := g) (Q := Q) hrec hh (.inl ⟨rfl, rfl⟩)
      ((hg.mono hs1).mono hs2) Ren.add_same hn ((ht.mono hs1).mono hs2) hp2.hr (hd1.post hp.hr hp2)
      (fun e t' h' ρ'' a' w'' he hn' ht' hp' hd' => hk e t' h' ρ'' a' w'' he hn' ht' ((hp.trans hp2).trans hp') hd')
    refine ⟨_, _, _, d, w₁', f, args, w₂, run_enterLoop_outer fn a.tmps ps assign body, ?_, g2, g3, g4, ?_⟩
    · have e : ({ w with heap := w.heap.push (.deferred (some [])) } : World).heap.size = w.heap.size + 1 := Array.size_push ..
      rw [← e]; exact g1
    · have e : ({ w with heap := w.heap.push (.deferred (some [])) } : World).heap.size = w.heap.size + 1 := Array.size_push ..
      rw [← e]; exact g5

theorem den_sound (hrec : RecSound P r) : ∀ (c : Code) {β : Type} {t : Tmps} {h : Heap} {rd : Option Nat} {k : Kont β} {res : β}, den P r L N rd c t h k = .ok res →
    ∀ {s : Nat} {ρ : Ren} {a : Act} {w : World} {F : Fence} {n : Nat}, FR ρ rd F → a.tmps.size = N → TR ρ t a.tmps → HR ρ h w → DR s ρ h w a.defers →
    ∀ {Q : Exit → Act → World → Prop}, (∀ e t' h' ρ' a' w', k e t' h' = .ok res → a'.tmps.size = N → TR ρ' t' a'.tmps → Post ρ h w ρ' h' w' → DR s ρ' h' w' a'.defers → Q (outOf e) a' w') →
    c.wpIn F n P Q a w := by
  intro c
  induction c with
  | skip => intro β t h rd k res hh s ρ a w F n hF hn ht hr hd Q hk; exact wpIn_skip (hk .normal _ _ _ _ _ hh hn ht (.refl hr) hd)
  | label l => intro β t h rd k res hh s ρ a w F n hF hn ht hr hd Q hk; exact wpIn_label (hk .normal _ _ _ _ _ hh hn ht (.refl hr) hd)
  | exit id => intro β t h rd k res hh s ρ a w F n hF hn ht hr hd Q hk; exact wpIn_exit (hk (.exit id) _ _ _ _ _ hh hn ht (.refl hr) hd)
  | goto l => intro β t h rd k res hh s ρ a w F n hF hn ht hr hd Q hk; exact wpIn_goto (hk (.goto l) _ _ _ _ _ hh hn ht (.refl hr) hd)
  | ret => intro β t h rd k res hh s ρ a w F n hF hn ht hr hd Q hk; exact wpIn_ret (hk .ret _ _ _ _ _ hh hn ht (.refl hr) hd)
  | refuse m => intro β t h rd k res hh; simp [den] at hh
  | region id ops draws =>
    intro β t h rd k res hh s ρ a w F n hF hn ht hr hd Q hk
    cases draws with
    | false => exact wpIn_region_list (opers_sound hrec _ hh hF hn ht hr hd hk)
    | true => exact drawK_sound hrec hh hF hn ht hr hd hk
  | seq x y ihx ihy =>
    intro β t h rd k res hh s ρ a w F n hF hn ht hr hd Q hk
    refine wpIn_seq (ihx hh hF hn ht hr hd fun e t' h' ρ' a' w' he hn' ht' hp hd' => ?_)
    cases e with
    | normal => exact ihy he (hF.mono (hp.sub hr)) hn' ht' hp.hr hd' fun e t'' h'' ρ'' a'' w'' he' hn'' ht'' hp' hd'' => hk e _ _ _ _ _ he' hn'' ht'' (hp.trans hp') hd''
    | exit id => exact hk _ _ _ _ _ _ he hn' ht' hp hd'
    | goto l => exact hk _ _ _ _ _ _ he hn' ht' hp hd'
    | ret => exact hk _ _ _ _ _ _ he hn' ht' hp hd'
  | cond x y z ihy ihz =>
    intro β t h rd k res hh s ρ a w F n hF hn ht hr hd Q hk
    simp only [den, bindR_ok] at hh
    obtain ⟨c, hc, hh⟩ := hh
    have hv := ev_sound (a := a) ht hc
    generalize hx : a.eval x = cx at hv
    split at hh
    · cases hv; exact wpIn_cond_true hx (ihy hh hF hn ht hr hd hk)
    · cases hv; exact wpIn_cond_false hx (ihz hh hF hn ht hr hd hk)
    · cases hh
  | block id b ih =>
    intro β t h rd k res hh s ρ a w F n hF hn ht hr hd Q hk
    refine wpIn_block (ih hh hF hn ht hr hd fun e t' h' ρ' a' w' he hn' ht' hp hd' => ?_)
    cases e with
    | normal => exact hk .normal _ _ _ _ _ he hn' ht' hp hd'
    | exit i =>
      simp only [outOf, Exit.inBlock]
      simp only [] at he
      split at he
      · rename_i hb
        rw [if_pos (Nat.eq_of_beq_eq_true hb)]; exact hk .normal _ _ _ _ _ he hn' ht' hp hd'
      · rename_i hb
        rw [if_neg (fun e => by subst e; rw [Nat.beq_refl] at hb; cases hb)]; exact hk (.exit i) _ _ _ _ _ he hn' ht' hp hd'
    | goto l => exact hk (.goto l) _ _ _ _ _ he hn' ht' hp hd'
    | ret => exact hk .ret _ _ _ _ _ he hn' ht' hp hd'
  | loop b ih =>
    intro β t h rd k res hh s ρ a w F n hF hn ht hr hd Q hk
    simp only [den] at hh
    have key : ∀ m {t' h' ρ' a' w'}, loopK (fun t h k => den P r L N rd b t h k) m t' h' k = .ok res → a'.tmps.size = N → TR ρ' t' a'.tmps → Post ρ h w ρ' h' w' → DR s ρ' h' w' a'.defers → LoopIn F n P b Q a' w' := by
      intro m
      induction m with
      | zero => intro t' h' ρ' a' w' hh; simp [loopK] at hh
      | succ m ihm =>
        intro t' h' ρ' a' w' hh hn' ht' hp hd'
        refine loopIn_step (ih hh (hF.mono (hp.sub hr)) hn' ht' hp.hr hd' fun e t'' h'' ρ'' a'' w'' he hn'' ht'' hp' hd'' => ?_)
        cases e with
        | normal => exact ihm he hn'' ht'' (hp.trans hp') hd''
        | exit i => exact hk (.exit i) _ _ _ _ _ he hn'' ht'' (hp.trans hp') hd''
        | goto l => exact hk (.goto l) _ _ _ _ _ he hn'' ht'' (hp.trans hp') hd''
        | ret => exact hk .ret _ _ _ _ _ he hn'' ht'' (hp.trans hp') hd''
    exact wpIn_loop_of (key _ hh hn ht (.refl hr) hd)
  | scope b ih =>
    intro β t h rd k res hh s ρ a w F n hF hn ht hr hd Q hk
    simp only [den] at hh
    refine wpIn_scope_of (scopeIn_step (ih hh hF hn ht hr hd fun e t' h' ρ' a' w' he hn' ht' hp hd' => ?_))
    cases e with
    | normal => exact hk .normal _ _ _ _ _ he hn' ht' hp hd'
    | exit i => exact hk (.exit i) _ _ _ _ _ he hn' ht' hp hd'
    | ret => exact hk .ret _ _ _ _ _ he hn' ht' hp hd'
    | goto l =>
      simp only [bindR_ok] at he
      obtain ⟨⟨e', t'', h''⟩, ha, he⟩ := he
      exact hrec.again ha (hF.mono (hp.sub hr)) hn' ht' hp.hr hd' fun ρ'' a'' w'' hn'' ht'' hp' hd'' => hk e' _ _ _ _ _ he hn'' (ht''.cut hn'') (hp.trans hp') hd''
  | rangeFunc g ps assign body _ _ =>
    intro β t h rd k res hh s ρ a w F n hF hn ht hr hd Q hk
    exact rangeK_sound hrec hh hF hn ht hr hd hk
end
end Go.AM
namespace Go.AM
open Go
section
variable {ρ : Ren} {h h' : Heap} {w w' : World}

/-- The library's sort of integers does what it promises. -/
structure SortAt (P : Program) (f : FuncId) : Prop where
  empty : ∀ (p : Option Addr) (cap : Nat) (w : World), Calls P f #[.slice p 0 cap] w fun e w' => e = .returned (.tuple #[]) ∧ w' = w
  many : ∀ (blk off cap : Nat) (zs : List Int) (w : World), Go.Sort.Holds (Value.int .i64) w blk off zs.toArray → blk < w.heap.size → zs.length < 4611686018427387904 →
    Calls P f #[.slice (some ⟨blk, off, none⟩) zs.length cap] w fun e w' =>
      e = .returned (.tuple #[]) ∧ ∃ n os, w' = Go.Sort.grow (Go.Sort.putRow (Value.int .i64) (Go.Sort.ahead w n) blk off (zs.mergeSort fun x y => decide (x ≤ y)).toArray) os

/-- The library's compaction of integers does what it promises. -/
structure CompactAt (P : Program) (f : FuncId) : Prop where
  empty : ∀ (p : Option Addr) (cap : Nat) (w : World), Calls P f #[.slice p 0 cap] w fun e w' => e = .returned (.slice p 0 cap) ∧ w' = w
  many : ∀ (blk off cap : Nat) (zs : List Int) (w : World), Go.Sort.Holds (Value.int .i64) w blk off zs.toArray → zs.length ≤ 9223372036854775807 → zs.length ≤ cap →
    Calls P f #[.slice (some ⟨blk, off, none⟩) zs.length cap] w fun e w' =>
      e = .returned (.slice (some ⟨blk, off, none⟩) (Lib.compact zs).length cap) ∧ ∃ q, w' = Go.Sort.putRow (Value.int .i64) (Go.Sort.ahead w q) blk off (Lib.compact zs ++ List.replicate (zs.length - (Lib.compact zs).length) 0).toArray
/-- What is taken as one step does what it promises. -/
structure StepsAt (P : Program) (cut : FuncId → Cut) : Prop where
  sort : ∀ f, cut f = .sort → SortAt P f
  compact : ∀ f, cut f = .compact → CompactAt P f

/-- The world has grown, and nothing else. -/
theorem Post.grow (hr : HR ρ h w) {os : Array Obj} (h1 : w'.heap = w.heap ++ os) (h2 : w'.os = w.os) (h3 : w'.output = w.output) (h4 : w'.tape = w.tape) : Post ρ h w ρ h w' := by
  have hs : w.heap.size ≤ w'.heap.size := by rw [h1]; simp
  have hg : ∀ c, c < w.heap.size → w'.heap[c]? = w.heap[c]? := fun c hc => by rw [h1, Array.getElem?_append_left hc]
  refine ⟨Nat.le_refl _, fun _ _ => rfl, ⟨hr.n_le, fun i l e => ?_, hr.inj⟩, ⟨hs, fun c hc _ => hg c hc, fun i l e o => .inr ⟨i, l, e, o, rfl⟩, h2, h3, h4⟩, .refl h, fun _ _ _ => rfl⟩
  obtain ⟨g1, g2, g3⟩ := hr.dom i l e
  exact ⟨g1, fun hv => Nat.lt_of_lt_of_le (g2 hv) hs, g3.keep fun hv => hg _ (g2 hv)⟩

theorem insI_perm (x : Int) : ∀ l, (insI x l).Perm (x :: l)
  | [] => List.Perm.refl _
  | y :: ys => by
    unfold insI
    split
    · exact List.Perm.refl _
    · exact ((insI_perm x ys).cons y).trans (List.Perm.swap ..)
theorem sortI_perm : ∀ l, (sortI l).Perm l
  | [] => List.Perm.refl _
  | x :: xs => (insI_perm x (sortI xs)).trans ((sortI_perm xs).cons x)
theorem insI_sorted (x : Int) : ∀ l, l.Pairwise (· ≤ ·) → (insI x l).Pairwise (· ≤ ·)
  | [], _ => by simp [insI]
  | y :: ys, h => by
    have hc := List.pairwise_cons.1 h
    unfold insI
    split
    · rename_i hle _
      refine List.pairwise_cons.2 ⟨fun z hz => ?_, h⟩
      rcases List.mem_cons.1 hz with rfl | hz
      · exact hle
      · exact Int.le_trans hle (hc.1 z hz)
    · rename_i hle _
      refine List.pairwise_cons.2 ⟨fun z hz => ?_, insI_sorted x ys hc.2⟩
      rcases List.mem_cons.1 ((insI_perm x ys).mem_iff.1 hz) with rfl | hz
      · omega
      · exact hc.1 z hz
theorem sortI_sorted : ∀ l, (sortI l).Pairwise (· ≤ ·)
  | [] => List.Pairwise.nil
  | x :: xs => insI_sorted x _ (sortI_sorted xs)
theorem sortI_eq (l : List Int) : (l.mergeSort fun x y => decide (x ≤ y)) = sortI l := by
  have h1 : (l.mergeSort fun x y => decide (x ≤ y)).Pairwise (· ≤ ·) := by
    have := List.pairwise_mergeSort (le := fun (x y : Int) => decide (x ≤ y)) (fun a b c h1 h2 => by simp at *; omega) (fun a b => by simp; omega) l
    exact this.imp fun h => by simpa using h
  refine List.Perm.eq_of_pairwise (le := fun (x y : Int) => x ≤ y) (fun a b _ _ h1 h2 => by omega) h1 (sortI_sorted l) ?_
  exact (List.mergeSort_perm l _).trans (sortI_perm l).symm
theorem sortI_length (l : List Int) : (sortI l).length = l.length := (sortI_perm l).length_eq

theorem intsOf_eq : ∀ {vs : List Value} {zs : List Int}, intsOf vs = .ok zs → vs = zs.map (Value.int .i64)
  | [], zs, h => by simp [intsOf] at h; subst h; rfl
  | v :: vs, zs, h => by
    unfold intsOf at h
    split at h
    · obtain ⟨l, h1, h2⟩ := bindR_ok.1 h
      cases h2
      rw [intsOf_eq h1]; rfl
    · cases h
theorem VL.ints {zs : List Int} : VL ρ (zs.map (Value.int .i64)) (zs.map (Value.int .i64)) := by
  induction zs with
  | nil => exact .nil
  | cons z zs ih => exact .cons (.int _ _) ih
theorem VL.ints_eq {zs : List Int} : ∀ {cs : List Value}, VL ρ (zs.map (Value.int .i64)) cs → cs = zs.map (Value.int .i64) := by
  induction zs with
  | nil => intro cs h; exact h.cases_nil
  | cons z zs ih =>
    intro cs h
    obtain ⟨c, cs', rfl, h1, h2⟩ := h.cases_cons
    cases h1
    rw [ih h2]; rfl


theorem cmpI_snoc (y : Int) : ∀ (l : List Int) (p : Int), cmpI p (l ++ [y]) = cmpI p l ++ (if y = (l.getLast?).getD p then [] else [y])
  | [], p => by
    simp only [List.nil_append, cmpI, List.getLast?_nil, Option.getD_none]
    split <;> rename_i h _ <;> simp [h]
  | x :: l, p => by
    simp only [List.cons_append, cmpI]
    have hl : ((x :: l).getLast?).getD p = (l.getLast?).getD x := by
      cases l with
      | nil => rfl
      | cons z l => simp [List.getLast?_cons]
    rw [hl]
    split
    · rename_i h _
      subst h
      exact cmpI_snoc y l x
    · rw [cmpI_snoc y l x, List.cons_append]
theorem compactI_snoc (y : Int) (l : List Int) : compactI (l ++ [y]) = compactI l ++ (if l = [] ∨ y ≠ (l.getLast?).getD 0 then [y] else []) := by
  cases l with
  | nil => rfl
  | cons x l =>
    simp only [List.cons_append, compactI, cmpI_snoc]
    have hl : ((x :: l).getLast?).getD 0 = (l.getLast?).getD x := by
      cases l with
      | nil => rfl
      | cons z l => simp [List.getLast?_cons]
    rw [hl]
    by_cases h : y = (l.getLast?).getD x <;> simp [h]
theorem compactI_upTo (zs : List Int) : ∀ m, m ≤ zs.length → Lib.compactUpTo zs.toArray m = compactI (zs.take m)
  | 0, _ => rfl
  | m + 1, h => by
    have hm : m < zs.length := h
    rw [Lib.compactUpTo_succ, compactI_upTo zs m (by omega)]
    have e : zs.take (m + 1) = zs.take m ++ [zs[m]] := by rw [List.take_succ_eq_append_getElem hm]
    rw [e, compactI_snoc]
    congr 1
    have e1 : zs.toArray[m]! = zs[m] := by rw [getElem!_pos _ m (by simpa using hm)]; simp
    rw [e1]
    by_cases h0 : m = 0
    · subst h0; simp [Lib.keeps]
    · have hne : zs.take m ≠ [] := by intro h; have := congrArg List.length h; rw [List.length_take, List.length_nil] at this; omega
      have hl : ((zs.take m).getLast?).getD 0 = zs.toArray[m - 1]! := by
        have hm1 : m - 1 < zs.toArray.size := by rw [List.size_toArray]; omega
        rw [getElem!_pos zs.toArray (m - 1) hm1]
        rw [List.getLast?_eq_getElem?, List.length_take, Nat.min_eq_left (Nat.le_of_lt hm), List.getElem?_take, if_pos (show m - 1 < m by omega)]
        simp [List.getElem?_eq_getElem (show m - 1 < zs.length by omega)]
      rw [hl]
      unfold Lib.keeps
      rw [e1]
      by_cases hq : zs[m] = zs.toArray[m - 1]! <;> simp [hq, h0, hne]
theorem compactI_eq (zs : List Int) : Lib.compact zs = compactI zs := by
  have := compactI_upTo zs zs.length (Nat.le_refl _)
  rw [List.take_length] at this
  exact this
theorem cmpI_length : ∀ (l : List Int) (p : Int), (cmpI p l).length ≤ l.length
  | [], _ => Nat.le_refl _
  | x :: l, p => by
    unfold cmpI
    split
    · exact Nat.le_succ_of_le (cmpI_length l p)
    · exact Nat.succ_le_succ (cmpI_length l x)
theorem compactI_length : ∀ l, (compactI l).length ≤ l.length
  | [] => Nat.le_refl _
  | x :: l => Nat.succ_le_succ (cmpI_length l x)

/-- The integers of a row of the call's own, in the world. -/
theorem rowInts (hr : HR ρ h w) {b o n : Nat} {vs : List Value} {te : TypeId} {m : Mode} {l : Loc} (hl : ρ b = some l) (hg : h.get b = .cells vs te m) {xs : List Value} {h' : Heap} (hst : storeCells h b o xs = .ok h') (hle : o + n ≤ vs.length) {zs : List Int} (hz : (vs.drop o).take n = zs.map (Value.int .i64)) :
    zs.length = n ∧ Go.Sort.Holds (Value.int .i64) w l.blk (l.base + o) zs.toArray := by
  have hzl : zs.length = n := by
    have := congrArg List.length hz
    simp only [List.length_take, List.length_drop, List.length_map] at this
    omega
  have hb := (hr.dom _ _ hl).2.2
  rw [hg] at hb
  obtain ⟨cs, fr, g1, g2, g3, g4, g5⟩ := hb
  have hro : ∀ es, m ≠ .ro es := by
    intro es e
    subst e
    unfold storeCells at hst
    rw [hg] at hst
    cases hst
  have hfr := g2 hro
  subst hfr
  have hcs : (cs.toList.drop (l.base + o)).take n = zs.map (Value.int .i64) := by
    refine VL.ints_eq (ρ := ρ) ?_
    rw [← hz]
    have := (g4.drop o).take n
    rw [List.drop_take, List.take_take, List.drop_drop, Nat.min_eq_left (by omega)] at this
    exact this
  refine ⟨hzl, fun j hj => ?_⟩
  have hj : j < zs.length := by simpa using hj
  refine ⟨?_, by simp [World.frozen?, g1]⟩
  have e1 : (zs.map (Value.int .i64))[j]? = some (.int .i64 zs.toArray[j]!) := by simp [hj]
  rw [← hcs] at e1
  rw [List.getElem?_take, if_pos (by omega), List.getElem?_drop] at e1
  simp only [World.cell?, g1]
  simpa using e1
/-- Integers are written. -/
theorem putInts {P : Program} (hr : HR ρ h w) {b o : Nat} {vs : List Value} {te : TypeId} {m : Mode} {l : Loc} (hl : ρ b = some l) (hg : h.get b = .cells vs te m) {zs : List Int} {h' : Heap} (hst : storeCells h b o (zs.map (Value.int .i64)) = .ok h') (hle : o + zs.length ≤ vs.length) {k : Nat} {os : Array Obj}
    (hw : w' = Go.Sort.grow (Go.Sort.putRow (Value.int .i64) (Go.Sort.ahead w k) l.blk (l.base + o) zs.toArray) os) : Post ρ h w ρ h' w' := by
  have hb := (hr.dom _ _ hl).2.2
  rw [hg] at hb
  obtain ⟨cs, fr, g1, g2, g3, g4, g5⟩ := hb
  have hro : ∀ es, m ≠ .ro es := by
    intro es e
    subst e
    unfold storeCells at hst
    rw [hg] at hst
    cases hst
  have hfr := g2 hro
  subst hfr
  obtain ⟨w1, hrun, hp⟩ := storeCells_sound (P := P) hr hl (VL.ints (zs := zs)) hst
  have hrun2 := run_storeCells_at P l.blk (l.base + o) te (zs.map (Value.int .i64)) 0 cs w g1 (by simp; omega) (by intro v hv; obtain ⟨z, _, rfl⟩ := List.mem_map.1 hv; rfl)
  simp only [Nat.add_zero] at hrun2
  rw [hrun2] at hrun
  cases hrun
  refine hp.trans ?_
  subst hw
  refine Post.grow hp.hr (os := os) ?_ rfl rfl rfl
  show (Go.Sort.putRow _ (Go.Sort.ahead w k) _ _ _).heap ++ os = _
  congr 1
  apply Array.ext_getElem?
  intro q
  by_cases hq : q = l.blk
  · subst hq
    rw [setRow_heap w l.blk cs _ te (0, 0) g1]
    simp only [Go.Sort.putRow, Go.Sort.mapBlock, Go.Sort.heap_ahead, Array.getElem?_modify, if_true, g1, Option.map_some, Go.Sort.onCells]
    congr 2
    apply Array.ext_getElem?
    intro j
    have hrl : cs.toList.length = cs.size := by simp
    simp only [Go.Sort.putCells, Array.getElem?_mapIdx, List.getElem?_toArray, List.size_toArray, List.getElem?_append, List.length_take, List.length_append, List.length_map, List.getElem?_take, List.getElem?_drop, List.getElem?_map]
    by_cases hj1 : j < l.base + o
    · rw [if_pos (by omega), if_pos (by omega), if_pos hj1]
      rw [Array.getElem?_toList]
      cases cs[j]? with
      | none => rfl
      | some x => simp only [Option.map_some]; rw [if_neg (by omega)]
    · by_cases hj2 : j < l.base + o + zs.length
      · have hj3 : j < cs.size := by omega
        rw [if_pos (by omega), if_neg (by omega), Array.getElem?_eq_getElem hj3]
        simp only [Option.map_some]
        rw [if_pos ⟨by omega, by omega⟩]
        have e1 : j - min (l.base + o) cs.toList.length = j - (l.base + o) := by rw [Nat.min_eq_left (by omega)]
        have hj4 : j - (l.base + o) < zs.length := by omega
        rw [e1, List.getElem?_eq_getElem hj4]
        simp [hj4]
      · rw [if_neg (by omega)]
        have e1 : l.base + o + zs.length + (j - (min (l.base + o) cs.toList.length + zs.length)) = j := by omega
        rw [e1, Array.getElem?_toList]
        cases cs[j]? with
        | none => rfl
        | some x => simp only [Option.map_some]; rw [if_neg (by omega)]
  · rw [setRow_other w l.blk q _ hq]
    simp only [Go.Sort.putRow, Go.Sort.mapBlock, Go.Sort.heap_ahead, Array.getElem?_modify]
    rw [if_neg (fun e => hq e.symm)]
theorem slice_rel {a : Option Addr} {n c : Nat} {cv : Value} (h : VR ρ (.slice a n c) cv) : ∃ p cap, cv = .slice p n cap := by
  cases h with
  | nilSlice => exact ⟨_, _, rfl⟩
  | slice _ _ => exact ⟨_, _, rfl⟩
  | empty0 _ => exact ⟨_, _, rfl⟩
  | sliceU _ _ _ _ => exact ⟨_, _, rfl⟩
theorem slice_at {b o n c : Nat} {cv : Value} (hn : 0 < n) (h : VR ρ (.slice (some ⟨b, o, none⟩) n c) cv) :
    ∃ l cap, ρ b = some l ∧ cv = .slice (some ⟨l.blk, l.base + o, none⟩) n cap ∧ (n ≤ c → n ≤ cap) ∧ ∀ n', n' ≤ n → VR ρ (.slice (some ⟨b, o, none⟩) n' c) (.slice (some ⟨l.blk, l.base + o, none⟩) n' cap) := by
  cases h with
  | empty0 _ => omega
  | slice h hc => exact ⟨_, _, h, rfl, fun h => h, fun _ _ => .slice h hc⟩
  | sliceU h hc hn' ho =>
    rcases ho with ⟨rfl, ho⟩ | ⟨h, _⟩
    · exact ⟨_, _, h, rfl, fun _ => hn', fun n' hle => .sliceU h hc (by omega) (.inl ⟨rfl, ho⟩)⟩
    · omega
theorem one_arg {v : Value} {args cargs : Array Value} (he : args.toList = [v]) (ha : VL ρ args.toList cargs.toList) : ∃ cv, cargs = #[cv] ∧ VR ρ v cv := by
  rw [he] at ha
  obtain ⟨cv, cs', hcv, h1, h2⟩ := ha.cases_cons
  have := h2.cases_nil
  subst this
  exact ⟨cv, by apply Array.ext'; rw [hcv], h1⟩
theorem sortC_sound {P : Program} {f : FuncId} (hs : SortAt P f) {args cargs : Array Value} {v : Value} (hh : sortC args.toList h = .ok (v, h')) (hr : HR ρ h w) (ha : VL ρ args.toList cargs.toList) (n : Nat) :
    CallsIn Fence.wide n P f cargs w fun e w' => ∃ c ρ', e = .returned c ∧ VR ρ' v c ∧ Post ρ h w ρ' h' w' := by
  refine callsIn_wide.2 ?_
  unfold sortC at hh
  split at hh
  case h_2 => cases hh
  rename_i a n c he
  obtain ⟨cv, rfl, h1⟩ := one_arg he ha
  split at hh
  · cases hh
    obtain ⟨p, cap, rfl⟩ := slice_rel h1
    refine (hs.empty p cap w).mono fun e w' ⟨h3, h4⟩ => ?_
    subst h4
    exact ⟨_, ρ, h3, .tuple' .nil, .refl hr⟩
  · rename_i n b o
    split at hh
    case h_2 => cases hh
    rename_i vs te m hg
    obtain ⟨_, h3, hh⟩ := bindR_ok.1 hh
    obtain ⟨zs, h4, hh⟩ := bindR_ok.1 hh
    obtain ⟨h5, h6, hh⟩ := bindR_ok.1 hh
    cases hh
    have h3 := must_ok.1 h3
    simp only [Bool.and_eq_true] at h3
    have hle := Nat.le_of_ble_eq_true h3.1
    have hlt : n < 1000000000000 := Nat.le_of_ble_eq_true h3.2
    obtain ⟨l, cap, hl, rfl, _, _⟩ := slice_at (n := n + 1) (by omega) h1
    obtain ⟨hzl, hH⟩ := rowInts hr hl hg h6 hle (intsOf_eq h4)
    rw [show n + 1 = zs.length from hzl.symm]
    refine (hs.many _ _ _ zs w hH ((hr.dom _ _ hl).2.1 (by rw [hg]; rfl)) (by omega)).mono fun e w' ⟨h7, k, os, h8⟩ => ?_
    rw [sortI_eq] at h8
    exact ⟨_, ρ, h7, .tuple' .nil, putInts (P := P) hr hl hg h6 (by rw [sortI_length]; omega) h8⟩
  · cases hh
theorem compactC_sound {P : Program} {f : FuncId} (hs : CompactAt P f) {args cargs : Array Value} {v : Value} (hh : compactC args.toList h = .ok (v, h')) (hr : HR ρ h w) (ha : VL ρ args.toList cargs.toList) (n : Nat) :
    CallsIn Fence.wide n P f cargs w fun e w' => ∃ c ρ', e = .returned c ∧ VR ρ' v c ∧ Post ρ h w ρ' h' w' := by
  refine callsIn_wide.2 ?_
  unfold compactC at hh
  split at hh
  case h_2 => cases hh
  rename_i a n c he
  obtain ⟨cv, rfl, h1⟩ := one_arg he ha
  split at hh
  · cases hh
    obtain ⟨p, cap, rfl⟩ := slice_rel h1
    refine (hs.empty p cap w).mono fun e w' ⟨h3, h4⟩ => ?_
    subst h4
    exact ⟨_, ρ, h3, h1, .refl hr⟩
  · rename_i n b o
    split at hh
    case h_2 => cases hh
    rename_i vs te m hg
    obtain ⟨_, h3, hh⟩ := bindR_ok.1 hh
    obtain ⟨zs, h4, hh⟩ := bindR_ok.1 hh
    obtain ⟨h5, h6, hh⟩ := bindR_ok.1 hh
    have h3 := must_ok.1 h3
    simp only [Bool.and_eq_true] at h3
    have hle := Nat.le_of_ble_eq_true h3.1.1
    have hlt : n < 1000000000000 := Nat.le_of_ble_eq_true h3.1.2
    have hcap := Nat.le_of_ble_eq_true h3.2
    obtain ⟨l, cap, hl, rfl, hcc, hv⟩ := slice_at (n := n + 1) (by omega) h1
    obtain ⟨hzl, hH⟩ := rowInts hr hl hg h6 hle (intsOf_eq h4)
    have hcl := compactI_length zs
    have hlen : (compactI zs ++ List.replicate (n + 1 - (compactI zs).length) 0).length = n + 1 := by simp; omega
    rw [show n + 1 = zs.length from hzl.symm]
    refine (hs.many _ _ cap zs w hH (by omega) (by have := hcc hcap; omega)).mono fun e w' ⟨h7, k, h8⟩ => ?_
    rw [compactI_eq] at h7 h8
    rw [hzl] at h8
    have hp := putInts (P := P) (os := #[]) (w' := w') hr hl hg h6 (by rw [hlen]; omega) (by rw [h8, Go.Sort.grow_empty])
    have hst := h6
    unfold storeCells at hst
    rw [hg] at hst
    cases m with
    | ro es => cases hst
    | exact =>
      cases hh
      exact ⟨_, ρ, h7, hv _ (by omega), hp⟩
    | grown es =>
      cases hh
      refine ⟨_, ρ, h7, hv _ (by omega), hp.trans ?_⟩
      obtain ⟨_, h9, hst⟩ := bindR_ok.1 hst
      have hg' : h5.get b = .cells (setAt vs o ((compactI zs ++ List.replicate (n + 1 - (compactI zs).length) 0).map (Value.int .i64))) te (.grown es) := by
        cases hst
        rw [get_write trivial (hr.dom _ _ hl).1, if_pos rfl]
      have hb := (hp.hr.dom _ _ hl).2.2
      rw [hg'] at hb
      obtain ⟨cs, fr, g1, g2, g3, g4, g5⟩ := hb
      refine Post.write hp.hr hl (by rw [hg']; rfl) (At1.refl _) ⟨cs, fr, g1, g2, g3, ?_, ?_⟩ fun m' _ _ hlow => ?_
      · have := g4.take (o + (compactI zs).length)
        rw [List.take_take] at this
        rw [List.length_take]
        exact this
      · rw [List.length_take]; omega
      · rw [hg'] at hlow
        exact fun v hv => hlow v (List.mem_of_mem_take hv)
  · cases hh
end
end Go.AM
namespace Go.AM
open Go

section
variable {P : Program} {r : Rec} {L N : Nat} {ρ ρ' : Ren} {h h' h₀ : Heap} {w w' : World}

/-! ### Results -/
def resF (tmps : Array Value) : ResultVar → Sem Value
  | .tmp t => pure (tmps.getD t undef)
  | .cell a t => do loadVar t (← asAddr (tmps.getD a undef))
theorem results_eq (fn : Func) (tmps : Array Value) : results fn tmps = (do
    let vs ← fn.results.mapM (resF tmps)
    pure (if h : vs.size = 1 then vs[0] else Value.tuple vs)) := by
  unfold results
  congr 2
theorem resultV_sound (hr : HR ρ h w) {t : Tmps} {tmps : Array Value} (ht : TR ρ t tmps) {x : ResultVar} {v : Value} (hh : resultV P t h x = .ok v) :
    ∃ c, (resF tmps x).run P w = .ok c w ∧ VR ρ v c := by
  cases x with
  | tmp i =>
    simp only [resultV, Except.ok.injEq] at hh
    subst hh
    exact ⟨_, rfl, ht i⟩
  | cell i ty =>
    simp only [resultV] at hh
    have hv := ht i
    generalize hx : tmps.getD i undef = ca at hv
    obtain ⟨c, h1, h2⟩ := loadV_sound (P := P) hr hv hh
    refine ⟨c, ?_, h2⟩
    simp only [resF, hx]
    generalize t i = x at hv hh
    cases hv <;> simp only [loadV, reduceCtorEq] at hh
    simpa [Instr.loadAt, Instr.sureAddr, asAddr] using h1

theorem resultsL_sound (hr : HR ρ h w) {t : Tmps} {tmps : Array Value} (ht : TR ρ t tmps) : ∀ (xs : List ResultVar) (vs : List Value), resultsL P t h xs = .ok vs →
    ∃ cs, (xs.mapM (resF tmps)).run P w = .ok cs w ∧ VL ρ vs cs
  | [], vs, hh => by simp only [resultsL, Except.ok.injEq] at hh; subst hh; exact ⟨[], rfl, .nil⟩
  | x :: xs, vs, hh => by
    simp only [resultsL, bindR_ok, Except.ok.injEq] at hh
    obtain ⟨v, h1, vs', h2, rfl⟩ := hh
    obtain ⟨c, g1, g2⟩ := resultV_sound hr ht h1
    obtain ⟨cs, g3, g4⟩ := resultsL_sound hr ht xs vs' h2
    refine ⟨c :: cs, ?_, .cons g2 g4⟩
    rw [List.mapM_cons]
    simp only [Sem.run_bind, Result.andThen_ok, Sem.run_pure, g3, g1]

theorem resultsV_sound (hr : HR ρ h w) {t : Tmps} {tmps : Array Value} (ht : TR ρ t tmps) {fn : Func} {v : Value} (hh : resultsV P fn.results.toList t h = .ok v) :
    ∃ c, (results fn tmps).run P w = .ok c w ∧ VR ρ v c := by
  simp only [resultsV, bindR_ok] at hh
  obtain ⟨vs, h1, hh⟩ := hh
  obtain ⟨cs, g1, g2⟩ := resultsL_sound hr ht _ _ h1
  have hrun : (results fn tmps).run P w = .ok (if h : cs.toArray.size = 1 then cs.toArray[0] else .tuple cs.toArray) w := by
    rw [results_eq, Array.mapM_eq_mapM_toList (m := Sem)]
    simp [Sem.run_bind, Result.andThen_ok, Sem.run_pure, g1]
  refine ⟨_, hrun, ?_⟩
  split at hh
  · cases hh
    obtain ⟨c, cs', rfl, e1, e2⟩ := g2.cases_cons
    obtain rfl := e2.cases_nil
    simpa using e1
  · rename_i hne
    cases hh
    have hl := g2.1
    rw [dif_neg]
    · exact .tuple' (by simpa using g2)
    · intro e
      rw [List.size_toArray, ← hl] at e
      match vs, e with
      | [v], _ => exact hne v rfl

/-! ### A call is left -/
theorem LowB.of_br {m : Nat} {b : Blk} {l : Loc} (hb : BR ρ b l w) (hd : ∀ b l, ρ b = some l → b < m) : LowB m b := by
  cases b with
  | cells vs e md =>
    obtain ⟨cs, fr, _, _, _, h4, _⟩ := hb
    intro v hv
    obtain ⟨i, hi, rfl⟩ := List.getElem_of_mem hv
    obtain ⟨c, _, hc⟩ := h4.get (List.getElem?_eq_getElem hi)
    exact .of_dom hc hd
  | map es clock =>
    obtain ⟨es', _, h2⟩ := hb
    intro e he
    obtain ⟨i, hi, rfl⟩ := List.getElem_of_mem he
    obtain ⟨e', _, hk, hv, _⟩ := h2.2 i _ (List.getElem?_eq_getElem hi)
    exact ⟨.of_dom hk hd, .of_dom hv hd⟩
  | siter s pos => trivial
  | loop r =>
    obtain ⟨q, ld, h1, h2, h3, h4, h5, h6, h7, h8, h9⟩ := hb
    exact ⟨fun i => .of_dom (h7.1 i) hd, hd _ _ h8⟩
  | defs => trivial
  | dead => trivial

theorem BR.below {m : Nat} {b : Blk} {l : Loc} (hb : BR ρ b l w) (hl : LowB m b) : BR (ρ.below m) b l w := by
  cases b with
  | cells vs e md =>
    obtain ⟨cs, fr, h1, h2, h3, h4, h5⟩ := hb
    refine ⟨cs, fr, h1, h2, h3, .of_get h4.1 fun i v hv => ?_, h5⟩
    obtain ⟨c, hc, hvc⟩ := h4.get hv
    exact ⟨c, hc, (hl v (List.mem_of_getElem? hv)).below hvc⟩
  | map es clock =>
    obtain ⟨es', h1, h2⟩ := hb
    refine ⟨es', h1, h2.1, fun i e he => ?_⟩
    obtain ⟨e', he', hk, hv, hb⟩ := h2.2 i e he
    have := hl e (List.mem_of_getElem? he)
    exact ⟨e', he', this.1.below hk, this.2.below hv, hb⟩
  | siter s pos => exact hb
  | loop r =>
    obtain ⟨q, ld, h1, h2, h3, h4, h5, h6, h7, h8, h9⟩ := hb
    exact ⟨q, ld, h1, h2, h3, h4, h5, h6, ⟨fun i => (hl.1 i).below (h7.1 i), h7.2⟩, Ren.below_some.2 ⟨hl.2, h8⟩, h9⟩
  | defs => exact hb
  | dead => trivial

theorem Post.below_eq (hr : HR ρ h₀ w) (p : Post ρ (enter h₀) w ρ' h' w') : ρ'.below h₀.n = ρ := by
  funext i
  unfold Ren.below
  split
  · rename_i hi; exact p.ext i hi
  · rename_i hi
    cases e : ρ i with
    | none => rfl
    | some l => exact absurd (hr.dom i l e).1 hi

/-- The caller's part of the heap alone. -/
theorem HR.cut (hr : HR ρ h₀ w) (p : Post ρ (enter h₀) w ρ' h' w') {hX : Heap} (hn : hX.n = h₀.n) (hg : ∀ i, i < h₀.n → hX.get i = h'.get i)
    (hlow : ∀ i l, ρ i = some l → LowB h₀.n (h'.get i)) : HR ρ hX w' ∧ Fr ρ h₀ w ρ hX w' := by
  have hρ := p.below_eq hr
  have hext : ∀ i l, ρ i = some l → ρ' i = some l := fun i l e => (p.ext i (hr.dom i l e).1).trans e
  refine ⟨⟨trivial, fun i l e => ?_, fun i j li lj hij ei ej oi vj => ?_⟩, ?_⟩
  · have hi := (hr.dom i l e).1
    obtain ⟨_, h2, h3⟩ := p.hr.dom i l (hext i l e)
    refine ⟨by rw [hn]; exact hi, fun hv => h2 (by rw [← hg i hi]; exact hv), ?_⟩
    rw [hg i hi, ← hρ]
    exact h3.below (hlow i l e)
  · rw [hg i (hr.dom i li ei).1] at oi
    rw [hg j (hr.dom j lj ej).1] at vj
    exact p.hr.inj i j li lj hij (hext _ _ ei) (hext _ _ ej) oi vj
  · refine ⟨p.fr.size, fun c hc hno => p.fr.same c hc hno, fun i l e o => ?_, p.fr.os, p.fr.output, p.fr.tape⟩
    rw [hg i (hr.dom i l e).1] at o
    exact p.fr.new i l (hext _ _ e) o

theorem leave_sound (hr : HR ρ h₀ w) {b : Bool} (p : Post ρ (enterC b h₀) w ρ' h' w') {v c v' : Value} {h'' : Heap} (hv : VR ρ' v c) (hh : leaveC b h₀ h' v = .ok (v', h'')) : v' = v ∧ ∃ ρ'', VR ρ'' v c ∧ Post ρ h₀ w ρ'' h'' w' := by
  cases b with
  | false =>
    simp only [leaveC, Except.ok.injEq, Prod.mk.injEq] at hh
    obtain ⟨rfl, rfl⟩ := hh
    exact ⟨rfl, ρ', hv, p⟩
  | true =>
  have p : Post ρ (enter h₀) w ρ' h' w' := p
  have hlow0 : ∀ i l, ρ i = some l → LowB h₀.n (h₀.get i) := fun i l e => .of_br (hr.dom i l e).2.2 fun b l e => (hr.dom b l e).1
  simp only [leaveC] at hh
  split at hh
  · rename_i h1 h2
    simp only [Except.ok.injEq, Prod.mk.injEq] at hh
    obtain ⟨rfl, rfl⟩ := hh
    have h2 : h₀.n ≤ h'.wr := Nat.le_of_ble_eq_true h2
    have hsame : ∀ i, i < h₀.n → h'.get i = h₀.get i := fun i hi => p.trk.same i hi (Nat.lt_of_lt_of_le hi h2)
    obtain ⟨g1, g2⟩ := hr.cut p (hX := h₀) rfl (fun i hi => (hsame i hi).symm) (fun i l e => by rw [hsame i (hr.dom i l e).1]; exact hlow0 i l e)
    refine ⟨rfl, ρ, VR.lowV (fun b hb l e => (p.ext b hb) ▸ e) 20 v c h1 hv, Nat.le_refl _, fun _ _ => rfl, g1, g2, .refl _, fun _ _ _ => rfl⟩
  · cases hh

/-- The block of a mark is shut. -/
theorem Post.shut (p : Post ρ h w ρ' h' w') {i : Nat} {l : Loc} {ds : Option (List Deferred)} (hi : ρ' i = some l) (hg : h'.get i = .defs) (hw : w'.heap[l.blk]? = some (.deferred ds)) (hlo : w.heap.size ≤ l.blk) :
    Post ρ h w ρ' h' (w'.putObj l.blk (.deferred none)) := by
  have hlt := (p.hr.dom i l hi).2.1 (by rw [hg]; rfl)
  have hat : At1 l.blk w' (w'.putObj l.blk (.deferred none)) := At1.setBlk _ _
  refine ⟨p.n_le, p.ext, ⟨p.hr.n_le, fun j lj e => ?_, p.hr.inj⟩, ⟨by rw [hat.size]; exact p.fr.size, fun c hc hno => ?_, p.fr.new, p.fr.os, p.fr.output, p.fr.tape⟩, p.trk, p.far⟩
  · obtain ⟨h1, h2, h3⟩ := p.hr.dom j lj e
    refine ⟨h1, by rw [hat.size]; exact h2, ?_⟩
    by_cases hb : lj.blk = l.blk
    · cases hgj : h'.get j with
      | defs => exact ⟨none, by rw [hb]; exact World.putObj_heap_same hlt⟩
      | dead => trivial
      | cells vs ty m => rw [hgj] at h3; obtain ⟨cs, fr, g1, _⟩ := h3; rw [hb, hw] at g1; cases g1
      | map es clock => rw [hgj] at h3; obtain ⟨es', g1, _⟩ := h3; rw [hb, hw] at g1; cases g1
      | siter s pos => rw [hgj] at h3; have g1 := h3.1; rw [hb, hw] at g1; cases g1
      | loop q => rw [hgj] at h3; obtain ⟨q', ld, g1, _⟩ := h3; rw [hb, hw] at g1; cases g1
    · exact h3.congr (World.putObj_heap_other hb)
  · rw [World.putObj_heap_other (by omega)]
    exact p.fr.same c hc hno

theorem leavesM {fn : Func} {tmps : Array Value} {R : Ending → World → Prop} {F : Fence} {n : Nat} : ∀ (ds : List Deferred) {w' : World}, Post ρ h w ρ' h' w' → DR w.heap.size ρ' h' w' ds →
    (∀ w'', Post ρ h w ρ' h' w'' → ∃ v, (results fn tmps).run P w'' = .ok v w'' ∧ R (.returned v) w'') → LeavesInM F n P fn tmps R ds .returning w' := by
  intro ds
  induction ds with
  | nil => intro w' p hd hk; exact hk _ p
  | cons d ds ih =>
    intro w' p hd hk
    obtain ⟨i, l, h1, h2, h3, h4, h5, h6⟩ := hd.1.2 d (List.mem_cons_self ..)
    refine ⟨by simp, .inl ⟨l.blk, w'.putObj l.blk (.deferred none), by rw [h6], run_takeDeferred h5, ?_⟩⟩
    have hnd := List.nodup_cons.1 hd.2
    refine ih (p.shut h1 h2 h5 h3) ⟨⟨by simpa using hd.1.1, fun d' hm => ?_⟩, hnd.2⟩ hk
    obtain ⟨j, lj, g1, g2, g3, g4, g5, g6⟩ := hd.1.2 d' (List.mem_cons_of_mem _ hm)
    refine ⟨j, lj, g1, g2, g3, by simpa using g4, ?_, g6⟩
    rw [World.putObj_heap_other]
    · exact g5
    · intro e; exact hnd.1 (by rw [h6, ← e, ← g6]; exact hm)

theorem TR.enter {args : Array Value} {cargs : Array Value} (ha : VL ρ args.toList cargs.toList) (n : Nat) : TR ρ (tmpsOf args) (cargs ++ Array.replicate n undef) := by
  intro i
  have hs : args.size = cargs.size := by simpa using ha.1
  have e1 : tmpsOf args i = gl args.toList i := by simp [tmpsOf, gl, List.getD, Array.getD_eq_getD_getElem?]
  rw [e1]
  by_cases hi : i < cargs.size
  · have e2 : (cargs ++ Array.replicate n undef).getD i undef = gl cargs.toList i := by
      simp [gl, List.getD, Array.getD_eq_getD_getElem?, Array.getElem?_append, hi]
    rw [e2]; exact ha.2 i (by simpa [hs] using hi)
  · have e3 : gl args.toList i = undef := by
      have : args.toList.length ≤ i := by simp only [Array.length_toList]; omega
      simp only [gl, List.getD, List.getElem?_eq_none this]; rfl
    have e2 : (cargs ++ Array.replicate n undef).getD i undef = undef := by
      simp only [Array.getD_eq_getD_getElem?, Array.getElem?_append, if_neg hi, Array.getElem?_replicate]
      split <;> rfl
    rw [e2, e3]; exact .undef ρ

theorem callB_sound (hrec : RecSound P r) {f : FuncId} {args : Array Value} {v : Value} {cut : Bool} (hh : callB P r L cut f args h₀ = .ok (v, h')) {cargs : Array Value} (hr : HR ρ h₀ w) (ha : VL ρ args.toList cargs.toList) (n : Nat) :
    CallsIn Fence.wide n P f cargs w fun e w' => ∃ c ρ', e = .returned c ∧ VR ρ' v c ∧ Post ρ h₀ w ρ' h' w' := by
  simp only [callB, bindR_ok, ofOpt_ok, must_ok] at hh
  obtain ⟨fn, hf, c, hb, _, hsz, hh⟩ := hh
  have hsz := Nat.le_of_ble_eq_true hsz
  have hs : args.size = cargs.size := by simpa using ha.1
  refine callsIn_of_wp_marks hf hb trivial ?_
  have hr' : HR ρ (enterC cut h₀) w := by cases cut <;> exact ⟨hr.n_le, hr.dom, hr.inj⟩
  refine den_sound hrec c hh (s := w.heap.size) (.inl ⟨rfl, rfl⟩) (by simp; omega) (TR.enter ha _) hr' ⟨⟨Nat.le_refl _, fun d hm => by cases hm⟩, List.nodup_nil⟩ fun e t' h'' ρ' a' w' he hn' ht' hp hd' => ?_
  have fin : (bindR (resultsV P fn.results.toList t' h'') fun v => leaveC cut h₀ h'' v) = .ok (v, h') →
      LeavesInM Fence.wide n P fn a'.tmps (fun e w' => ∃ c ρ', e = .returned c ∧ VR ρ' v c ∧ Post ρ h₀ w ρ' h' w') a'.defers .returning w' := by
    intro he
    simp only [bindR_ok] at he
    obtain ⟨v', hv', he⟩ := he
    refine leavesM (h := enterC cut h₀) (w := w) _ hp hd' fun w'' hp'' => ?_
    obtain ⟨c, g1, g2⟩ := resultsV_sound hp''.hr ht' hv'
    obtain ⟨rfl, ρ'', g3, g4⟩ := leave_sound hr hp'' g2 he
    exact ⟨c, g1, c, ρ'', rfl, g3, g4⟩
  cases e with
  | normal => exact fin he
  | ret => exact fin he
  | exit i => cases he
  | goto l => cases he

theorem callK_sound (hrec : RecSound P r) {f : FuncId} {args : Array Value} {v : Value} {cut : FuncId → Cut} (hs : StepsAt P cut) (hh : callK P r L cut f args h₀ = .ok (v, h')) {cargs : Array Value} (hr : HR ρ h₀ w) (ha : VL ρ args.toList cargs.toList) (n : Nat) :
    CallsIn Fence.wide n P f cargs w fun e w' => ∃ c ρ', e = .returned c ∧ VR ρ' v c ∧ Post ρ h₀ w ρ' h' w' := by
  unfold callK at hh
  split at hh
  · exact callB_sound hrec hh hr ha n
  · exact callB_sound hrec hh hr ha n
  · rename_i hc
    exact sortC_sound (hs.sort f hc) hh hr ha n
  · rename_i hc
    exact compactC_sound (hs.compact f hc) hh hr ha n

/-! ### A round -/
theorem setAll_sound : ∀ (ps : List Tmp) (vs cs : List Value) {t : Tmps} {tmps : Array Value}, tmps.size = N → TR ρ t tmps → VL ρ vs cs →
    TR ρ (setAll N t ps vs) ((ps.zip cs).foldl (fun tmps p => tmps.setIfInBounds p.1 p.2) tmps) ∧ ((ps.zip cs).foldl (fun tmps p => tmps.setIfInBounds p.1 p.2) tmps).size = N
  | [], vs, cs, t, tmps, hn, ht, hv => by simpa [setAll] using ⟨ht, hn⟩
  | p :: ps, [], cs, t, tmps, hn, ht, hv => by obtain rfl := hv.cases_nil; simpa [setAll] using ⟨ht, hn⟩
  | p :: ps, v :: vs, cs, t, tmps, hn, ht, hv => by
    obtain ⟨c, cs', rfl, h1, h2⟩ := hv.cases_cons
    have := put_sound (N := N) (a := { tmps, defers := [] }) (d := some p) hn ht h1
    simp only [setAll, List.zip_cons_cons, List.foldl_cons]
    exact setAll_sound ps vs cs' this.2 this.1 h2

theorem roundEnd_sound {l : Nat} {e : AExit} {v : Value} (hh : roundEnd l e h = .ok (v, h')) {loc : Loc} (hl : ρ l = some loc) (hr : HR ρ h w) {R : Ending → World → Prop} {a : Act}
    (hk : ∀ c w', VR ρ v c → Post ρ h w ρ h' w' → R (.returned c) w') : roundPost P loc.blk R (outOf e) a w := by
  unfold roundEnd at hh
  split at hh
  case h_2 => cases hh
  rename_i q hg
  have hb := (hr.dom _ _ hl).2.2
  rw [hg] at hb
  obtain ⟨q', ld, h1, h2, h3, h4, h5, h6, h7, h8, h9⟩ := hb
  have key : ∀ st pd, Post ρ h w ρ (h.write l (.loop { q with state := st, pending := pd }) 0) (w.putObj loc.blk (.loop { q' with state := st, pending := pd })) := fun st pd => by
    refine Post.write hr hl (by rw [hg]; rfl) (At1.setBlk _ _) ⟨_, ld, setBlk_heap ((hr.dom _ _ hl).2.1 (by rw [hg]; rfl)), rfl, rfl, h4, h5, h6, h7, h8, h9⟩ (fun m' _ _ hlow => ?_)
    rw [hg] at hlow; exact hlow
  cases e with
  | normal =>
    simp only [Except.ok.injEq, Prod.mk.injEq] at hh
    obtain ⟨rfl, rfl⟩ := hh
    exact ⟨_, _, run_endRound none h1, hk _ _ (.bool _) (key _ _)⟩
  | ret =>
    simp only [Except.ok.injEq, Prod.mk.injEq] at hh
    obtain ⟨rfl, rfl⟩ := hh
    exact ⟨_, _, run_endRound (some .ret) h1, hk _ _ (.bool _) (key _ _)⟩
  | exit id =>
    simp only [Except.ok.injEq, Prod.mk.injEq] at hh
    obtain ⟨rfl, rfl⟩ := hh
    exact ⟨_, _, run_endRound (some (.exit id)) h1, hk _ _ (.bool _) (key _ _)⟩
  | goto g =>
    simp only [Except.ok.injEq, Prod.mk.injEq] at hh
    obtain ⟨rfl, rfl⟩ := hh
    exact ⟨_, _, run_endRound (some (.goto g)) h1, hk _ _ (.bool _) (key _ _)⟩

theorem roundK_sound (hrec : RecSound P r) {l : Nat} {args : Array Value} {v : Value} (hh : roundK P r L l args h = .ok (v, h')) {loc : Loc} {cargs : Array Value} (hr : HR ρ h w) (hl : ρ l = some loc)
    (ha : VL ρ args.toList cargs.toList) (n : Nat) :
    ∃ fn tmps assign body, (Instr.yield loc.blk cargs).run P w = .ok (.round loc.blk fn tmps assign body) w ∧
      RoundIn Fence.wide n P loc.blk fn tmps assign body w fun e w' => ∃ c ρ', e = .returned c ∧ VR ρ' v c ∧ Post ρ h w ρ' h' w' := by
  unfold roundK at hh
  split at hh
  case h_2 => cases hh
  rename_i q hg
  simp only [bindR_ok, must_ok] at hh
  obtain ⟨_, hsz, hh⟩ := hh
  have hsz : q.params.size = args.size := Nat.eq_of_beq_eq_true hsz
  have hs : args.size = cargs.size := by simpa using ha.1
  have hb := (hr.dom _ _ hl).2.2
  rw [hg] at hb
  obtain ⟨q', ld, h1, h2, h3, h4, h5, h6, h7, h8, h9⟩ := hb
  refine ⟨_, _, _, _, run_yield h1 (by rw [h4, hsz, hs]), ?_⟩
  have hset := setAll_sound q.params.toList args.toList cargs.toList h7.2 h7.1 ha
  have hfold : (q'.params.zip cargs).foldl (fun tmps (t, a) => tmps.setIfInBounds t a) q'.tmps = (q.params.toList.zip cargs.toList).foldl (fun tmps p => tmps.setIfInBounds p.1 p.2) q'.tmps := by
    rw [h4, ← Array.foldl_toList, Array.toList_zip]
  rw [hfold, h5, h6]
  have hF : FR ρ (some l) (Fence.wide.inRound loc.blk) := .inr ⟨l, loc, rfl, hl, rfl⟩
  refine roundIn_of_wpIn trivial (den_sound hrec q.assign hh (s := w.heap.size) hF hset.2 (hset.1.cut hset.2) hr ⟨⟨Nat.le_refl _, fun d hm => by cases hm⟩, List.nodup_nil⟩ fun e t' h'' ρ' a' w' he hn' ht' hp hd' => ?_)
  split at he
  case h_2 => cases he
  rename_i q₂ hg₂
  split at he
  case h_2 => cases he
  rename_i hst
  have hl' := hp.sub hr _ _ hl
  have hb' := (hp.hr.dom _ _ hl').2.2
  rw [hg₂] at hb'
  obtain ⟨q₃, ld₂, k1, k2, k3, k4, k5, k6, k7, k8, k9⟩ := hb'
  have hpw : Post ρ' h'' w' ρ' (h''.write l (.loop { q₂ with state := .busy }) 0) (w'.putObj loc.blk (.loop { q₃ with state := .busy })) := by
    refine Post.write hp.hr hl' (by rw [hg₂]; rfl) (At1.setBlk _ _) ⟨_, ld₂, setBlk_heap ((hp.hr.dom _ _ hl').2.1 (by rw [hg₂]; rfl)), rfl, k3, k4, k5, k6, k7, k8, k9⟩ (fun m' _ _ hlow => ?_)
    rw [hg₂] at hlow; exact hlow
  refine ⟨_, run_beginRound k1 (by rw [k2]; exact hst), ?_⟩
  refine den_sound hrec q.body he (s := w.heap.size) (hF.mono (hp.sub hr)) hn' ht' hpw.hr (hd'.post hp.hr hpw) fun e t₃ h₃ ρ₃ a₃ w₃ he₃ hn₃ ht₃ hp₃ hd₃ => ?_
  exact roundEnd_sound he₃ (hp₃.sub hpw.hr _ _ hl') hp₃.hr fun c w₄ hv hp₄ => ⟨c, ρ₃, rfl, hv, ((hp.trans hpw).trans hp₃).trans hp₄⟩

theorem againK_sound (hrec : RecSound P r) {b : Code} {l : Nat} {t : Tmps} {rd : Option Nat} {e : AExit} {t' : Tmps} (hh : againK P r L N b l t h rd = .ok (e, t', h')) {s : Nat} {a : Act} {F : Fence} {n : Nat} {Q : Exit → Act → World → Prop}
    (hF : FR ρ rd F) (hn : a.tmps.size = N) (ht : TR ρ t a.tmps) (hr : HR ρ h w) (hd : DR s ρ h w a.defers)
    (hk : ∀ ρ' a' w', a'.tmps.size = N → TR ρ' t' a'.tmps → Post ρ h w ρ' h' w' → DR s ρ' h' w' a'.defers → Q (outOf e) a' w') : JumpIn F n P b Q l a w := by
  unfold againK at hh
  unfold JumpIn
  cases hf : findLabel b l with
  | none =>
    rw [hf] at hh
    simp only [Except.ok.injEq, Prod.mk.injEq] at hh
    obtain ⟨rfl, rfl, rfl⟩ := hh
    exact hk _ _ _ hn ht (.refl hr) hd
  | some rest =>
    rw [hf] at hh
    refine scopeIn_step (den_sound hrec rest hh hF hn (ht.cut hn) hr hd fun e₁ t₁ h₁ ρ₁ a₁ w₁ he hn₁ ht₁ hp₁ hd₁ => ?_)
    have go : ∀ e', (Except.ok (e', t₁, h₁) : R (AExit × Tmps × Heap)) = .ok (e, t', h') → Q (outOf e') a₁ w₁ := fun e' he => by
      simp only [Except.ok.injEq, Prod.mk.injEq] at he
      obtain ⟨rfl, rfl, rfl⟩ := he
      exact hk _ _ _ hn₁ ht₁ hp₁ hd₁
    cases e₁ with
    | normal => exact go _ he
    | exit i => exact go _ he
    | ret => exact go _ he
    | goto g => exact hrec.again he (hF.mono (hp₁.sub hr)) hn₁ ht₁ hp₁.hr hd₁ fun ρ₂ a₂ w₂ hn₂ ht₂ hp₂ hd₂ => hk _ _ _ hn₂ ht₂ (hp₁.trans hp₂) hd₂

theorem recN_sound {cut : FuncId → Cut} (hs : StepsAt P cut) : ∀ n, RecSound P (recN P L cut n)
  | 0 => ⟨fun hh => by simp [recN] at hh, fun hh => by simp [recN] at hh, fun hh => by simp [recN] at hh⟩
  | n + 1 => ⟨fun hh _ _ _ hr ha k => callK_sound (recN_sound hs n) hs hh hr ha k, fun hh _ _ _ _ hr hl ha k => roundK_sound (recN_sound hs n) hh hr hl ha k,
      fun hh _ _ _ _ _ _ _ hF hn ht hr hd hk => againK_sound (recN_sound hs n) hh hF hn ht hr hd hk⟩
end
end Go.AM
