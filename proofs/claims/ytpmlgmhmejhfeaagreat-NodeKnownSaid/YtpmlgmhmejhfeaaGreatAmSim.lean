/- A part of the abstract machine: definitions and lemmas for all programs, no claim of its own; no condition. -/
import Derived.Test.YtpmlgmhmejhfeaaGreatAmPlan
import Derived.OrdersIn
set_option linter.unusedVariables false
set_option linter.unusedSimpArgs false
namespace Go.AM
open Go

section
variable {P : Program} {r : Rec} {N : Nat} {ops : Array Oper} {pl : List Spot} {ρ₀ : Ren} {h₀ : Heap} {w₀ : World} {s : Nat}

def Lst (listed : Array Bool) (i : Nat) : Prop := listed.getD i false = true
def Pn (d : DS) (listed : Array Bool) (i : Nat) : Prop := bit d.done i = true ∧ ¬ Lst listed i

/-- What is known of an operation that the abstract machine has done and the program has not. -/
def PendOk (P : Program) (ops : Array Oper) (pl : List Spot) (h₀ : Heap) (d : DS) (listed : Array Bool) (mo : Nat → Nat) (ρ : Ren) (a : Act) (x : Spot) : Prop :=
  ∃ (t : Tmps) (v : Value), (∀ dd, x.2.2.dst = some dd → d.t dd = v) ∧
    (∀ dd ∈ x.2.2.looksAt ops, (∃ y ∈ pl, Pn d listed y.1 ∧ bit x.2.1 y.1 = true ∧ y.2.2.dst = some dd ∧ t dd = d.t dd) ∨
      ((∀ y ∈ pl, Pn d listed y.1 → bit x.2.1 y.1 = true → y.2.2.dst ≠ some dd) ∧ VR ρ (t dd) (a.tmps.getD dd undef))) ∧
    ((wanted ops x.2.2 t = false ∧ v = undef) ∨
     (wanted ops x.2.2 t = true ∧ ∃ m hb, step P x.2.2.op t (blankN m) = .ok (.value v hb) ∧ lowL t m x.2.2.op.operands.toList = true ∧ m ≤ d.h.n ∧ hb.n = m) ∨
     (wanted ops x.2.2 t = true ∧ ∃ hb, step P x.2.2.op t (blankN (mo x.1)) = .ok (.value v hb) ∧ lowL t (mo x.1) x.2.2.op.operands.toList = true ∧ hb.n = mo x.1 + 1 ∧ owned (hb.get (mo x.1)) = true ∧
        h₀.n ≤ mo x.1 ∧ mo x.1 < d.h.n ∧ d.h.get (mo x.1) = hb.get (mo x.1) ∧ ρ (mo x.1) = none) ∨
     (wanted ops x.2.2 t = true ∧ isRead x.2.2.op = true ∧ (x.1, x.2.2, t, v) ∈ d.rd))

structure Inv (P : Program) (N : Nat) (ops : Array Oper) (pl : List Spot) (ρ₀ : Ren) (h₀ : Heap) (w₀ : World) (s : Nat) (d : DS) (listed : Array Bool) (mo : Nat → Nat) (ρ : Ren) (a : Act) (w : World) : Prop where
  sub : ∀ i, Lst listed i → bit d.done i = true
  clo : Closed ops (Lst listed)
  doneClo : ∀ x ∈ pl, bit d.done x.1 = true → ∀ y, bit x.2.1 y = true → bit d.done y = true
  post : Post ρ₀ h₀ w₀ ρ d.h w
  dr : DR s ρ d.h w a.defers
  size : a.tmps.size = N
  tr : ∀ dd, (∃ y ∈ pl, Pn d listed y.1 ∧ y.2.2.dst = some dd) ∨ VR ρ (d.t dd) (a.tmps.getD dd undef)
  pd : ∀ x ∈ pl, Pn d listed x.1 → PendOk P ops pl h₀ d listed mo ρ a x
  inj : ∀ i j, Pn d listed i → Pn d listed j → i ≠ j → mo i ≠ mo j
  lo : ∀ i, Pn d listed i → mo i < d.h.n ∨ mo i = 32768 + i
  lsz : listed.size = ops.size

def RD (P : Program) (d : DS) : Prop := ∀ q ∈ d.rd, step P q.2.1.op q.2.2.1 d.h = .ok (.value q.2.2.2 d.h)

theorem recheck_rd {h : Heap} : ∀ (l : List (Nat × Oper × Tmps × Value)) {u : Unit}, (∀ q ∈ l, isRead q.2.1.op = true) → recheck P h l = .ok u → ∀ q ∈ l, step P q.2.1.op q.2.2.1 h = .ok (.value q.2.2.2 h)
  | [], _, _, _, q, hq => by cases hq
  | (i, o, t, v) :: l, u, hr, hh, q, hq => by
    simp only [recheck, bindR_ok] at hh
    obtain ⟨td, hs, hh⟩ := hh
    obtain ⟨v', rfl⟩ := isRead_heap (hr _ (List.mem_cons_self ..)) hs
    simp only [bindR_ok, mustM_ok] at hh
    obtain ⟨_, he, hh⟩ := hh
    rcases List.mem_cons.1 hq with rfl | hq
    · rw [hs, sameV_eq 20 _ _ he]
    · exact recheck_rd l (fun q hm => hr q (List.mem_cons_of_mem _ hm)) hh q hq

theorem put_at {d : DS} {dst : Option Tmp} {v : Value} (hN : ∀ x, dst = some x → x < N) (dd : Nat) : put N d.t dst v dd = if dst = some dd then v else d.t dd := by
  cases dst with
  | none => simp [put]
  | some x =>
    have := hN x rfl
    simp only [put, blt_true.2 this]
    cases hb : Nat.beq dd x with
    | true => obtain rfl := Nat.eq_of_beq_eq_true hb; simp
    | false =>
      have : x ≠ dd := fun e => by subst e; rw [Nat.beq_refl] at hb; cases hb
      simp [this]
theorem act_at {a : Act} {dst : Option Tmp} {c : Value} (hn : a.tmps.size = N) (hN : ∀ x, dst = some x → x < N) (dd : Nat) :
    (a.put dst c).tmps.getD dd undef = if dst = some dd then c else a.tmps.getD dd undef := by
  cases dst with
  | none => simp [Act.put]
  | some x =>
    have hx := hN x rfl
    simp only [Act.put]
    by_cases h : x = dd
    · subst h; simp [Array.getD, hn, hx]
    · rw [if_neg (by simpa using h)]
      simp [Array.getD_eq_getD_getElem?, Array.getElem?_setIfInBounds_ne h]
theorem act_size {a : Act} {dst : Option Tmp} {c : Value} : (a.put dst c).tmps.size = a.tmps.size := by cases dst <;> simp [Act.put]
theorem act_defers {a : Act} {dst : Option Tmp} {c : Value} : (a.put dst c).defers = a.defers := by cases dst <;> rfl

theorem lst_set {listed : Array Bool} {i j : Nat} : Lst (listed.setIfInBounds i true) j ↔ (j = i ∧ i < listed.size) ∨ Lst listed j := by
  unfold Lst
  simp only [Array.getD_eq_getD_getElem?]
  by_cases h : i = j
  · subst h
    by_cases hi : i < listed.size
    · simp [hi]
    · simp [hi]
  · rw [Array.getElem?_setIfInBounds_ne h]
    constructor
    · exact .inr
    · rintro (⟨e, _⟩ | e)
      · exact absurd e.symm h
      · exact e

/-- The program does an operation that the abstract machine has done. -/
theorem Inv.listed {d : DS} {listed : Array Bool} {mo : Nat → Nat} {ρ ρ' : Ren} {a : Act} {w w' : World} (hp : PlanOk ops N pl) (I : Inv P N ops pl ρ₀ h₀ w₀ s d listed mo ρ a w) {x : Spot} (hx : x ∈ pl) (hpn : Pn d listed x.1)
    (hready : ∀ e ∈ x.2.2.after.toList, bnd e → Lst listed e.on) {c : Value} (hv : ∀ dd, x.2.2.dst = some dd → VR ρ' (d.t dd) c) (hs : Sub ρ ρ')
    (hpost : Post ρ₀ h₀ w₀ ρ' d.h w') (hdr : DR s ρ' d.h w' a.defers) (hmo : ∀ i, i ≠ x.1 → Pn d listed i → mo i < d.h.n → ρ (mo i) = none → ρ' (mo i) = none) :
    Inv P N ops pl ρ₀ h₀ w₀ s d (listed.setIfInBounds x.1 true) mo ρ' (a.put x.2.2.dst c) w' := by
  have hi : x.1 < listed.size := by
    rw [I.lsz]; exact (Array.getElem?_eq_some_iff.1 (hp.ok x hx).1).1
  have hpn' : ∀ j, Pn d (listed.setIfInBounds x.1 true) j ↔ Pn d listed j ∧ j ≠ x.1 := by
    intro j
    unfold Pn
    rw [lst_set]
    constructor
    · rintro ⟨h1, h2⟩
      exact ⟨⟨h1, fun e => h2 (.inr e)⟩, fun e => h2 (.inl ⟨e, hi⟩)⟩
    · rintro ⟨⟨h1, h2⟩, h3⟩
      exact ⟨h1, fun e => e.elim (fun e => h3 e.1) h2⟩
  have hdstN := hp.dstN x hx
  have hbits : ∀ y, bit x.2.1 y = true → Lst listed y := (hp.ok x hx).2 _ I.clo hready
  refine ⟨fun i h => ?_, fun j o hj hl e he hb => ?_, I.doneClo, hpost, by rw [act_defers]; exact hdr, by rw [act_size]; exact I.size, fun dd => ?_, fun y hy hpy => ?_, fun i j hi hj => ?_, fun i hi => I.lo i ((hpn' i).1 hi).1, by simpa using I.lsz⟩
  · rcases lst_set.1 h with ⟨rfl, _⟩ | h
    · exact hpn.1
    · exact I.sub i h
  · rcases lst_set.1 hl with ⟨rfl, _⟩ | hl
    · rw [(hp.ok x hx).1] at hj; cases hj
      exact lst_set.2 (.inr (hready e he hb))
    · exact lst_set.2 (.inr (I.clo j o hj hl e he hb))
  · rw [act_at I.size hdstN]
    by_cases hd : x.2.2.dst = some dd
    · rw [if_pos hd]; exact .inr (hv dd hd)
    · rw [if_neg hd]
      rcases I.tr dd with ⟨y, h1, h2, h3⟩ | h
      · refine .inl ⟨y, h1, (hpn' _).2 ⟨h2, fun e => ?_⟩, h3⟩
        have := hp.uniq y h1 x hx e
        subst this; exact hd h3
      · exact .inr (h.mono hs)
  · obtain ⟨hpy, hne⟩ := (hpn' _).1 hpy
    obtain ⟨t, v, h1, h2, h3⟩ := I.pd y hy hpy
    refine ⟨t, v, h1, fun dd hdd => ?_, ?_⟩
    · rw [act_at I.size hdstN]
      rcases h2 dd hdd with ⟨z, g1, g2, g3, g4, g5⟩ | ⟨g1, g2⟩
      · by_cases hz : z.1 = x.1
        · have := hp.uniq z g1 x hx hz
          subst this
          refine .inr ⟨fun z' k1 k2 k3 k4 => ?_, ?_⟩
          · have := hp.dist z hx z' k1 dd g4 k4
            exact ((hpn' _).1 k2).2 this
          · rw [if_pos g4, g5]; exact hv dd g4
        · exact .inl ⟨z, g1, (hpn' _).2 ⟨g2, hz⟩, g3, g4, g5⟩
      · have hd : x.2.2.dst ≠ some dd := fun hd => by
          rcases hp.look y hy x hx dd hdd hd with hb | hb
          · exact g1 x hx hpn hb hd
          · exact hpy.2 (hbits _ hb)
        rw [if_neg hd]
        exact .inr ⟨fun z k1 k2 k3 => g1 z k1 ((hpn' _).1 k2).1 k3, g2.mono hs⟩
    · rcases h3 with h3 | h3 | ⟨k0, hb, k1, k2, k3, k4, k5, k6, k7, k8⟩ | h3
      · exact .inl h3
      · exact .inr (.inl h3)
      · exact .inr (.inr (.inl ⟨k0, hb, k1, k2, k3, k4, k5, k6, k7, hmo _ hne hpy k6 k8⟩))
      · exact .inr (.inr (.inr h3))
  · exact I.inj i j ((hpn' i).1 hi).1 ((hpn' j).1 hj).1

theorem lowL_ok {t : Tmps} {m : Nat} : ∀ {xs : List Operand}, lowL t m xs = true → ∀ d, Operand.tmp d ∈ xs → ids (t d) ≤ m
  | [], _, d, h => by cases h
  | .tmp i :: xs, hh, d, h => by
    simp only [lowL] at hh
    split at hh
    · rename_i hi
      rcases List.mem_cons.1 h with e | h
      · cases e; exact Nat.le_of_ble_eq_true hi
      · exact lowL_ok hh d h
    · cases hh
  | .const _ :: xs, hh, d, h => by
    rcases List.mem_cons.1 h with e | h
    · cases e
    · exact lowL_ok (by simpa only [lowL] using hh) d h
  | .global _ :: xs, hh, d, h => by
    rcases List.mem_cons.1 h with e | h
    · cases e
    · exact lowL_ok (by simpa only [lowL] using hh) d h
  | .func _ :: xs, hh, d, h => by
    rcases List.mem_cons.1 h with e | h
    · cases e
    · exact lowL_ok (by simpa only [lowL] using hh) d h

/-- An operation that yields a value. -/
theorem value_wpIn {o : Oper} {t : Tmps} {h h' : Heap} {v : Value} (hh : step P o.op t h = .ok (.value v h')) {ρ : Ren} {a : Act} {w : World} (hr : HR ρ h w) {L : List Tmp} (hL : ∀ d, Operand.tmp d ∈ o.op.operands.toList → d ∈ L)
    (ht : TO ρ L t a.tmps) {F : Fence} {n : Nat} (hF : F.fn = fun _ => True) :
    ∃ c w' ρ', VR ρ' v c ∧ Post ρ h w ρ' h' w' ∧ ∀ {K : Act → World → Prop} {Q : Exit → Act → World → Prop}, K (a.put o.dst c) w' → o.wpIn F n P a w K Q := by
  have hst := step_soundL (a := a) hr hL ht hh
  have hsem : o.semAt F.round a.eval = execOp a.eval o := Oper.semAt_eq _ _ _ (step_not_defer hh)
  obtain ⟨c, w', ρ', h1, h2, h3⟩ := hst
  refine ⟨c, w', ρ', h2, h3, fun {K Q} hk => ⟨fun f _ => by rw [hF]; trivial, ?_⟩⟩
  rw [hsem]
  rcases h1 with h1 | ⟨h1, rfl⟩
  · rw [h1]; exact hk
  · rw [h1]; exact hk

theorem exec_pend {d : DS} {listed : Array Bool} {mo : Nat → Nat} {ρ : Ren} {a : Act} {w : World} (hp : PlanOk ops N pl) (hR : RD P d) (I : Inv P N ops pl ρ₀ h₀ w₀ s d listed mo ρ a w) {x : Spot} (hx : x ∈ pl) (hpn : Pn d listed x.1)
    (hready : ∀ e ∈ x.2.2.after.toList, bnd e → Lst listed e.on) {F : Fence} {n : Nat} (hF : F.fn = fun _ => True) {Q : Exit → Act → World → Prop} {K : Act → World → Prop}
    (hk : ∀ ρ' a' w', Inv P N ops pl ρ₀ h₀ w₀ s d (listed.setIfInBounds x.1 true) mo ρ' a' w' → K a' w') : wpOpIn F n P ops Q x.1 K a w := by
  obtain ⟨t, v, h1, h2, h3⟩ := I.pd x hx hpn
  have hbits : ∀ y, bit x.2.1 y = true → Lst listed y := (hp.ok x hx).2 _ I.clo hready
  have ht : TO ρ (x.2.2.looksAt ops) t a.tmps := fun dd hdd => by
    rcases h2 dd hdd with ⟨y, _, g2, g3, _⟩ | ⟨_, g⟩
    · exact absurd (hbits _ g3) g2.2
    · exact g
  have hbig : d.h.n < big := Nat.lt_of_le_of_lt I.post.hr.n_le (by decide)
  have hL : ∀ dd, Operand.tmp dd ∈ x.2.2.op.operands.toList → dd ∈ x.2.2.looksAt ops := fun dd h => looks_op h
  simp only [wpOpIn, (hp.ok x hx).1, wanted_soundL ht]
  have hlow : ∀ m, m ≤ d.h.n → lowL t m x.2.2.op.operands.toList = true → TO (ρ.below m) (x.2.2.op.operands.toList.filterMap fun | .tmp t => some t | _ => none) t a.tmps := by
    intro m hm hlo dd hdd
    obtain ⟨y, hy, he⟩ := List.mem_filterMap.1 hdd
    cases y <;> simp only [Option.some.injEq, reduceCtorEq] at he
    subst he
    exact VR.lower (Nat.lt_of_le_of_lt hm hbig) (fun b hb l e => Ren.below_some.2 ⟨hb, e⟩) 20 _ _ (lowL_ok hlo _ hy) (ht _ (hL _ hy))
  have hL' : ∀ dd, Operand.tmp dd ∈ x.2.2.op.operands.toList → dd ∈ (x.2.2.op.operands.toList.filterMap fun | .tmp t => some t | _ => none) := fun dd h => List.mem_filterMap.2 ⟨.tmp dd, h, rfl⟩
  have drp : ∀ {ρ' w'}, Sub ρ ρ' → (∀ c, c < w.heap.size → w'.heap[c]? = w.heap[c]?) → w.heap.size ≤ w'.heap.size → DR s ρ' d.h w' a.defers := by
    intro ρ' w' hs hold hsz
    refine ⟨⟨Nat.le_trans I.dr.1.1 hsz, fun q hq => ?_⟩, I.dr.2⟩
    obtain ⟨i, l, g1, g2, g3, g4, g5, g6⟩ := I.dr.1.2 q hq
    exact ⟨i, l, hs _ _ g1, g2, g3, Nat.lt_of_lt_of_le g4 hsz, (hold _ g4).trans g5, g6⟩
  rcases h3 with ⟨hw, rfl⟩ | ⟨hw, m, hb, k1, k2, k3, k4⟩ | ⟨hw, hb, k1, k2, k3, k4, k5, k6, k7, k8⟩ | ⟨hw, k1, k2⟩
  · rw [hw, if_neg (by simp)]
    exact ⟨fun f _ => by rw [hF]; trivial, hk _ _ _ (I.listed hp hx hpn hready (fun dd hd => by rw [h1 dd hd]; exact .undef _) (.refl _) I.post I.dr fun _ _ _ _ h => h)⟩
  · rw [hw, if_pos rfl]
    obtain ⟨c, w', ρ₁, g1, g2, g3⟩ := value_wpIn k1 (I.post.hr.blank k3) hL' (hlow m k3 k2) (a := a) (n := n) hF
    obtain ⟨ρ', p1, p2, p3, p4, p5, p6, p7⟩ := I.post.fill g2 k3 (.inl k4)
    exact g3 (hk _ _ _ (I.listed hp hx hpn hready (fun dd hd => by rw [h1 dd hd]; exact g1.mono p3) p2 p1 (drp p2 p6 p7) fun i _ _ _ h => by rw [p5 k4]; exact h))
  · rw [hw, if_pos rfl]
    obtain ⟨c, w', ρ₁, g1, g2, g3⟩ := value_wpIn k1 (I.post.hr.blank (Nat.le_of_lt k6)) hL' (hlow _ (Nat.le_of_lt k6) k2) (a := a) (n := n) hF
    obtain ⟨ρ', p1, p2, p3, p4, p5, p6, p7⟩ := I.post.fill g2 (Nat.le_of_lt k6) (.inr ⟨k3, k4, k5, k6, k7, k8⟩)
    exact g3 (hk _ _ _ (I.listed hp hx hpn hready (fun dd hd => by rw [h1 dd hd]; exact g1.mono p3) p2 p1 (drp p2 p6 p7) fun i hi hpi _ h => by rw [p4 _ (I.inj _ _ hpi hpn hi)]; exact h))
  · rw [hw, if_pos rfl]
    obtain ⟨c, w', ρ', g1, g2, g3⟩ := value_wpIn (hR _ k2) I.post.hr hL ht (a := a) (n := n) hF
    exact g3 (hk _ _ _ (I.listed hp hx hpn hready (fun dd hd => by rw [h1 dd hd]; exact g1) (g2.sub I.post.hr) (I.post.trans g2) (I.dr.post I.post.hr g2) fun i _ _ hlt h => by rw [g2.ext _ hlt]; exact h))
end
end Go.AM
