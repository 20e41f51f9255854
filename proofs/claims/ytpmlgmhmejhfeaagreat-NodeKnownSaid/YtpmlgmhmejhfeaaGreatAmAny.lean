/- A part of the abstract machine: definitions and lemmas for all programs, no claim of its own; no condition. -/
import Derived.Test.YtpmlgmhmejhfeaaGreatAmSim
set_option linter.unusedVariables false
set_option linter.unusedSimpArgs false
namespace Go.AM
open Go

section
variable {P : Program} {r : Rec} {N : Nat} {ops : Array Oper} {pl : List Spot} {ρ₀ : Ren} {h₀ : Heap} {w₀ : World} {s : Nat}

def RdOk (d : DS) : Prop := ∀ q ∈ d.rd, isRead q.2.1.op = true

/-- The abstract machine does an operation ahead of the program. -/
theorem Inv.done {d d' : DS} {listed : Array Bool} {mo : Nat → Nat} {ρ : Ren} {a : Act} {w : World} (hp : PlanOk ops N pl) (I : Inv P N ops pl ρ₀ h₀ w₀ s d listed mo ρ a w) {x : Spot} (hx : x ∈ pl) (hnd : bit d.done x.1 = false)
    (hsub : AM.sub x.2.1 d.done = true) {v : Value} {m : Nat} (hd : d'.done = Nat.lor (Nat.pow 2 x.1) d.done) (ht : d'.t = put N d.t x.2.2.dst v) (hpost : Post ρ₀ h₀ w₀ ρ d'.h w) (hn : d.h.n ≤ d'.h.n)
    (hget : ∀ i, i < d.h.n → d'.h.get i = d.h.get i) (hrd : ∀ q ∈ d.rd, q ∈ d'.rd) (hm : (m = d.h.n ∧ d.h.n < d'.h.n) ∨ m = 32768 + x.1)
    (hpk : (wanted ops x.2.2 d.t = false ∧ v = undef) ∨
     (wanted ops x.2.2 d.t = true ∧ ∃ m hb, step P x.2.2.op d.t (blankN m) = .ok (.value v hb) ∧ lowL d.t m x.2.2.op.operands.toList = true ∧ m ≤ d'.h.n ∧ hb.n = m) ∨
     (wanted ops x.2.2 d.t = true ∧ ∃ hb, step P x.2.2.op d.t (blankN m) = .ok (.value v hb) ∧ lowL d.t m x.2.2.op.operands.toList = true ∧ hb.n = m + 1 ∧ owned (hb.get m) = true ∧
        h₀.n ≤ m ∧ m < d'.h.n ∧ d'.h.get m = hb.get m ∧ ρ m = none) ∨
     (wanted ops x.2.2 d.t = true ∧ isRead x.2.2.op = true ∧ (x.1, x.2.2, d.t, v) ∈ d'.rd)) :
    Inv P N ops pl ρ₀ h₀ w₀ s d' listed (fun i => if i = x.1 then m else mo i) ρ a w := by
  have hdone : ∀ j, bit d'.done j = true ↔ x.1 = j ∨ bit d.done j = true := fun j => by rw [hd, bit_add]
  have hnl : ¬ Lst listed x.1 := fun e => by rw [I.sub _ e] at hnd; cases hnd
  have hpn' : ∀ j, Pn d' listed j ↔ j = x.1 ∨ Pn d listed j := by
    intro j
    unfold Pn
    rw [hdone]
    constructor
    · rintro ⟨e | e, h⟩
      · exact .inl e.symm
      · exact .inr ⟨e, h⟩
    · rintro (rfl | ⟨h1, h2⟩)
      · exact ⟨.inl rfl, hnl⟩
      · exact ⟨.inr h1, h2⟩
  have hpx : ¬ Pn d listed x.1 := fun e => by rw [e.1] at hnd; cases hnd
  have hdstN := hp.dstN x hx
  have hT : ∀ dd, d'.t dd = if x.2.2.dst = some dd then v else d.t dd := fun dd => by rw [ht]; exact put_at hdstN dd
  have hTo : ∀ y ∈ pl, y.1 ≠ x.1 → ∀ dd, y.2.2.dst = some dd → d'.t dd = d.t dd := fun y hy hne dd hdd => by
    rw [hT, if_neg]
    intro e
    exact hne (hp.dist x hx y hy dd e hdd)
  refine ⟨fun i h => (hdone i).2 (.inr (I.sub i h)), I.clo, fun y hy hdy z hz => ?_, hpost, ?_, I.size, fun dd => ?_, fun y hy hpy => ?_, fun i j hi hj hij => ?_, fun i hi => ?_, I.lsz⟩
  · rcases (hdone _).1 hdy with e | e
    · have := hp.uniq x hx y hy e
      subst this
      exact (hdone _).2 (.inr (sub_of_true hsub hz))
    · exact (hdone _).2 (.inr (I.doneClo y hy e z hz))
  · refine ⟨⟨I.dr.1.1, fun q hq => ?_⟩, I.dr.2⟩
    obtain ⟨i, l, g1, g2, g3, g4, g5, g6⟩ := I.dr.1.2 q hq
    exact ⟨i, l, g1, by rw [hget i (I.post.hr.dom i l g1).1]; exact g2, g3, g4, g5, g6⟩
  · by_cases hdd : x.2.2.dst = some dd
    · exact .inl ⟨x, hx, (hpn' _).2 (.inl rfl), hdd⟩
    · rcases I.tr dd with ⟨y, h1, h2, h3⟩ | h
      · exact .inl ⟨y, h1, (hpn' _).2 (.inr h2), h3⟩
      · exact .inr (by rw [hT, if_neg hdd]; exact h)
  · rcases (hpn' _).1 hpy with e | hpy
    · have := hp.uniq y hy x hx e
      subst this
      refine ⟨d.t, v, fun dd hdd => by rw [hT, if_pos hdd], fun dd hdd => ?_, ?_⟩
      · by_cases hex : ∃ z ∈ pl, Pn d listed z.1 ∧ z.2.2.dst = some dd
        · obtain ⟨z, k1, k2, k3⟩ := hex
          have hzy : z.1 ≠ y.1 := fun e => hpx (e ▸ k2)
          rcases hp.look y hy z k1 dd hdd k3 with hb | hb
          · exact .inl ⟨z, k1, (hpn' _).2 (.inr k2), hb, k3, (hTo z k1 hzy dd k3).symm⟩
          · rw [I.doneClo z k1 k2.1 _ hb] at hnd; cases hnd
        · refine .inr ⟨fun z k1 k2 k3 k4 => ?_, (I.tr dd).resolve_left hex⟩
          rcases (hpn' _).1 k2 with e | k2
          · rw [e] at k3
            rw [sub_of_true hsub k3] at hnd; cases hnd
          · exact hex ⟨z, k1, k2, k4⟩
      · simpa using hpk
    · have hne : y.1 ≠ x.1 := fun e => hpx (e ▸ hpy)
      obtain ⟨t, u, g1, g2, g3⟩ := I.pd y hy hpy
      refine ⟨t, u, fun dd hdd => by rw [hTo y hy hne dd hdd]; exact g1 dd hdd, fun dd hdd => ?_, ?_⟩
      · rcases g2 dd hdd with ⟨z, k1, k2, k3, k4, k5⟩ | ⟨k1, k2⟩
        · have hzx : z.1 ≠ x.1 := fun e => hpx (e ▸ k2)
          exact .inl ⟨z, k1, (hpn' _).2 (.inr k2), k3, k4, by rw [hTo z k1 hzx dd k4]; exact k5⟩
        · refine .inr ⟨fun z q1 q2 q3 q4 => ?_, k2⟩
          rcases (hpn' _).1 q2 with e | q2
          · rw [e] at q3
            rw [I.doneClo y hy hpy.1 _ q3] at hnd; cases hnd
          · exact k1 z q1 q2 q3 q4
      · simp only [if_neg hne]
        rcases g3 with g3 | ⟨k0, m', hb, k1, k2, k3, k4⟩ | ⟨k0, hb, k1, k2, k3, k4, k5, k6, k7, k8⟩ | ⟨k0, k1, k2⟩
        · exact .inl g3
        · exact .inr (.inl ⟨k0, m', hb, k1, k2, Nat.le_trans k3 hn, k4⟩)
        · exact .inr (.inr (.inl ⟨k0, hb, k1, k2, k3, k4, k5, Nat.lt_of_lt_of_le k6 hn, by rw [hget _ k6]; exact k7, k8⟩))
        · exact .inr (.inr (.inr ⟨k0, k1, hrd _ k2⟩))
  · have h32768 : d'.h.n ≤ 32768 := hpost.hr.n_le
    rcases (hpn' _).1 hi with e1 | h1 <;> rcases (hpn' _).1 hj with e2 | h2
    · exact absurd (e1.trans e2.symm) hij
    · have hjx : j ≠ x.1 := fun e => hpx (e ▸ h2)
      rw [if_pos e1, if_neg hjx]
      have := I.lo j h2
      have := I.post.hr.n_le
      omega
    · have hix : i ≠ x.1 := fun e => hpx (e ▸ h1)
      rw [if_neg hix, if_pos e2]
      have := I.lo i h1
      have := I.post.hr.n_le
      omega
    · have hix : i ≠ x.1 := fun e => hpx (e ▸ h1)
      have hjx : j ≠ x.1 := fun e => hpx (e ▸ h2)
      rw [if_neg hix, if_neg hjx]
      exact I.inj i j h1 h2 hij
  · rcases (hpn' _).1 hi with e1 | h1
    · rw [if_pos e1]
      rcases hm with ⟨hm, hm'⟩ | hm
      · exact .inl (by omega)
      · exact .inr (by omega)
    · have hix : i ≠ x.1 := fun e => hpx (e ▸ h1)
      rw [if_neg hix]
      rcases I.lo i h1 with h | h
      · exact .inl (Nat.lt_of_lt_of_le h hn)
      · exact .inr h

theorem stillOf_ok {o : Oper} {t : Tmps} {m : Nat} {v : Value} {b : Option Blk} (hh : stillOf P o t m = .ok (v, b)) :
    lowL t m o.op.operands.toList = true ∧ ∃ hb, step P o.op t (blankN m) = .ok (.value v hb) ∧ ((b = none ∧ hb.n = m) ∨ (b = some (hb.get m) ∧ hb.n = m + 1 ∧ owned (hb.get m) = true)) := by
  simp only [stillOf, bindR_ok, mustM_ok] at hh
  obtain ⟨_, h1, td, h2, hh⟩ := hh
  split at hh
  case h_2 => cases hh
  simp only [bindR_ok, Except.ok.injEq, Prod.mk.injEq] at hh
  obtain ⟨b', h3, rfl, rfl⟩ := hh
  refine ⟨h1, _, h2, ?_⟩
  unfold freshOf at h3
  split at h3
  · rename_i hb; cases h3; exact .inl ⟨rfl, Nat.eq_of_beq_eq_true hb⟩
  · split at h3
    · rename_i h4 h5; cases h3; exact .inr ⟨rfl, Nat.eq_of_beq_eq_true h4, h5⟩
    · cases h3

theorem passOne_inv {d d' : DS} {listed : Array Bool} {mo : Nat → Nat} {ρ : Ren} {a : Act} {w : World} (hp : PlanOk ops N pl) (I : Inv P N ops pl ρ₀ h₀ w₀ s d listed mo ρ a w) (hrd : RdOk d) {x : Spot} (hx : x ∈ pl) (hnd : bit d.done x.1 = false)
    (hsub : AM.sub x.2.1 d.done = true) (hh : passOne P N ops x d = .ok d') : (∃ mo', Inv P N ops pl ρ₀ h₀ w₀ s d' listed mo' ρ a w) ∧ RdOk d' := by
  unfold passOne at hh
  split at hh
  · rename_i hw
    cases hh
    exact ⟨⟨_, I.done hp hx hnd hsub (m := 32768 + x.1) rfl rfl I.post (Nat.le_refl _) (fun _ _ => rfl) (fun _ h => h) (.inr rfl) (.inl ⟨hw, rfl⟩)⟩, hrd⟩
  · rename_i hw
    split at hh
    · rename_i v hs
      cases hh
      obtain ⟨h1, hb, h2, ⟨_, h3⟩ | ⟨h3, _⟩⟩ := stillOf_ok hs
      · exact ⟨⟨_, I.done hp hx hnd hsub (m := 32768 + x.1) rfl rfl I.post (Nat.le_refl _) (fun _ _ => rfl) (fun _ h => h) (.inr rfl) (.inr (.inl ⟨hw, d.h.n, hb, h2, h1, Nat.le_refl _, h3⟩))⟩, hrd⟩
      · cases h3
    · rename_i v b hs
      simp only [bindR_ok, room_ok, Except.ok.injEq] at hh
      obtain ⟨_, hroom, rfl⟩ := hh
      obtain ⟨h1, hb, h2, ⟨h3, _⟩ | ⟨h3, h4, h5⟩⟩ := stillOf_ok hs
      · cases h3
      · cases h3
        have hnone : ρ d.h.n = none := I.post.hr.none
        refine ⟨⟨_, I.done hp hx hnd hsub (m := d.h.n) rfl rfl (I.post.pad hroom _) (by simp [Heap.put]) (fun i hi => by simp only []; rw [get_put hroom, if_neg (by omega)]) (fun _ h => h) (.inl ⟨rfl, by simp [Heap.put]⟩)
          (.inr (.inr (.inl ⟨hw, hb, h2, h1, h4, h5, I.post.n_le, by simp [Heap.put], by simp only []; rw [get_put hroom, if_pos rfl], hnone⟩)))⟩, hrd⟩
    · split at hh
      · cases hh; exact ⟨⟨mo, I⟩, hrd⟩
      · rename_i hr
        simp only [bindR_ok] at hh
        obtain ⟨td, hs, hh⟩ := hh
        split at hh
        case h_2 => cases hh
        cases hh
        refine ⟨⟨_, I.done hp hx hnd hsub (m := 32768 + x.1) rfl rfl I.post (Nat.le_refl _) (fun _ _ => rfl) (fun _ h => List.mem_cons_of_mem _ h) (.inr rfl) (.inr (.inr (.inr ⟨hw, hr, List.mem_cons_self ..⟩)))⟩, fun q hq => ?_⟩
        rcases List.mem_cons.1 hq with rfl | hq
        · exact hr
        · exact hrd q hq

theorem pass_inv {listed : Array Bool} {ρ : Ren} {a : Act} {w : World} (hp : PlanOk ops N pl) : ∀ (xs : List Spot) {d d' : DS} {mo : Nat → Nat}, Inv P N ops pl ρ₀ h₀ w₀ s d listed mo ρ a w → RdOk d → (∀ x ∈ xs, x ∈ pl) → pass P N ops xs d = .ok d' →
    (∃ mo', Inv P N ops pl ρ₀ h₀ w₀ s d' listed mo' ρ a w) ∧ RdOk d'
  | [], d, d', mo, I, hrd, _, hh => by simp only [pass, Except.ok.injEq] at hh; subst hh; exact ⟨⟨mo, I⟩, hrd⟩
  | x :: xs, d, d', mo, I, hrd, hm, hh => by
    unfold pass at hh
    split at hh
    · rename_i h1 h2
      simp only [bindR_ok] at hh
      obtain ⟨d₁, h3, hh⟩ := hh
      obtain ⟨⟨mo₁, I₁⟩, hrd₁⟩ := passOne_inv hp I hrd (hm x (List.mem_cons_self ..)) h1 h2 h3
      exact pass_inv hp xs I₁ hrd₁ (fun y hy => hm y (List.mem_cons_of_mem _ hy)) hh
    · exact pass_inv hp xs I hrd (fun y hy => hm y (List.mem_cons_of_mem _ hy)) hh

theorem mem_undone {done : Nat} : ∀ {pl : List Spot} {x : Spot}, x ∈ undone done pl ↔ x ∈ pl ∧ bit done x.1 = false
  | [], x => by simp [undone]
  | y :: pl, x => by
    simp only [undone]
    split
    · rename_i h
      rw [mem_undone]
      constructor
      · rintro ⟨h1, h2⟩; exact ⟨List.mem_cons_of_mem _ h1, h2⟩
      · rintro ⟨h1, h2⟩
        rcases List.mem_cons.1 h1 with rfl | h1
        · rw [h] at h2; cases h2
        · exact ⟨h1, h2⟩
    · rename_i h
      rw [List.mem_cons, mem_undone, List.mem_cons]
      constructor
      · rintro (rfl | ⟨h1, h2⟩)
        · exact ⟨.inl rfl, h⟩
        · exact ⟨.inr h1, h2⟩
      · rintro ⟨rfl | h1, h2⟩
        · exact .inl rfl
        · exact .inr ⟨h1, h2⟩

/-- The program and the abstract machine do the operation that may write. -/
theorem Inv.both {d : DS} {listed : Array Bool} {mo : Nat → Nat} {ρ ρ' : Ren} {a : Act} {w w' : World} {h' : Heap} {v c : Value} (hp : PlanOk ops N pl) (I : Inv P N ops pl ρ₀ h₀ w₀ s d listed mo ρ a w) {x : Spot} (hx : x ∈ pl)
    (hnd : bit d.done x.1 = false) (hsub : AM.sub x.2.1 d.done = true) (hready : ∀ e ∈ x.2.2.after.toList, bnd e → Lst listed e.on) (hv : VR ρ' v c) (hpo : Post ρ d.h w ρ' h' w') :
    Inv P N ops pl ρ₀ h₀ w₀ s { done := Nat.lor (Nat.pow 2 x.1) d.done, t := put N d.t x.2.2.dst v, h := h', rd := d.rd.filter fun y => !bit x.2.1 y.1 } (listed.setIfInBounds x.1 true) mo ρ' (a.put x.2.2.dst c) w' := by
  have hi : x.1 < listed.size := by
    rw [I.lsz]; exact (Array.getElem?_eq_some_iff.1 (hp.ok x hx).1).1
  have hdstN := hp.dstN x hx
  have hs := hpo.sub I.post.hr
  have hbits : ∀ y, bit x.2.1 y = true → Lst listed y := (hp.ok x hx).2 _ I.clo hready
  generalize hd' : ({ done := Nat.lor (Nat.pow 2 x.1) d.done, t := put N d.t x.2.2.dst v, h := h', rd := d.rd.filter fun y => !bit x.2.1 y.1 } : DS) = d'
  have e1 : d'.done = Nat.lor (Nat.pow 2 x.1) d.done := by rw [← hd']
  have e2 : d'.t = put N d.t x.2.2.dst v := by rw [← hd']
  have e3 : d'.h = h' := by rw [← hd']
  have e4 : d'.rd = d.rd.filter fun y => !bit x.2.1 y.1 := by rw [← hd']
  have hdone : ∀ j, bit d'.done j = true ↔ x.1 = j ∨ bit d.done j = true := fun j => by rw [e1, bit_add]
  have hpx : ¬ Pn d listed x.1 := fun e => by rw [e.1] at hnd; cases hnd
  have hpn' : ∀ j, Pn d' (listed.setIfInBounds x.1 true) j ↔ Pn d listed j := by
    intro j
    unfold Pn
    rw [hdone, lst_set]
    constructor
    · rintro ⟨e | e, h⟩
      · exact absurd (.inl ⟨e.symm, hi⟩) h
      · exact ⟨e, fun e => h (.inr e)⟩
    · rintro ⟨g1, g2⟩
      refine ⟨.inr g1, fun e => ?_⟩
      rcases e with ⟨rfl, _⟩ | e
      · exact hpx ⟨g1, g2⟩
      · exact g2 e
  have hT : ∀ dd, d'.t dd = if x.2.2.dst = some dd then v else d.t dd := fun dd => by rw [e2]; exact put_at hdstN dd
  have hTo : ∀ y ∈ pl, Pn d listed y.1 → ∀ dd, y.2.2.dst = some dd → d'.t dd = d.t dd := fun y hy hpy dd hdd => by
    rw [hT, if_neg]
    intro e
    exact hpx (hp.dist x hx y hy dd e hdd ▸ hpy)
  refine ⟨fun i h => ?_, fun j o hj hl e he hb => ?_, fun y hy hdy z hz => ?_, by rw [e3]; exact I.post.trans hpo, by rw [act_defers, e3]; exact I.dr.post I.post.hr hpo, by rw [act_size]; exact I.size, fun dd => ?_, fun y hy hpy => ?_,
    fun i j hi hj => I.inj i j ((hpn' i).1 hi) ((hpn' j).1 hj), fun i hi => ?_, by simpa using I.lsz⟩
  · rcases lst_set.1 h with ⟨rfl, _⟩ | h
    · exact (hdone _).2 (.inl rfl)
    · exact (hdone _).2 (.inr (I.sub i h))
  · rcases lst_set.1 hl with ⟨rfl, _⟩ | hl
    · rw [(hp.ok x hx).1] at hj; cases hj
      exact lst_set.2 (.inr (hready e he hb))
    · exact lst_set.2 (.inr (I.clo j o hj hl e he hb))
  · rcases (hdone _).1 hdy with e | e
    · have := hp.uniq x hx y hy e
      subst this
      exact (hdone _).2 (.inr (sub_of_true hsub hz))
    · exact (hdone _).2 (.inr (I.doneClo y hy e z hz))
  · rw [act_at I.size hdstN, hT]
    by_cases hdd : x.2.2.dst = some dd
    · rw [if_pos hdd, if_pos hdd]; exact .inr hv
    · rw [if_neg hdd, if_neg hdd]
      rcases I.tr dd with ⟨y, g1, g2, g3⟩ | h
      · exact .inl ⟨y, g1, (hpn' _).2 g2, g3⟩
      · exact .inr (h.mono hs)
  · have hpy := (hpn' _).1 hpy
    obtain ⟨t, u, g1, g2, g3⟩ := I.pd y hy hpy
    refine ⟨t, u, fun dd hdd => by rw [hTo y hy hpy dd hdd]; exact g1 dd hdd, fun dd hdd => ?_, ?_⟩
    · rcases g2 dd hdd with ⟨z, k1, k2, k3, k4, k5⟩ | ⟨k1, k2⟩
      · exact .inl ⟨z, k1, (hpn' _).2 k2, k3, k4, by rw [hTo z k1 k2 dd k4]; exact k5⟩
      · have hne : x.2.2.dst ≠ some dd := fun e => by
          rcases hp.look y hy x hx dd hdd e with hb | hb
          · rw [I.doneClo y hy hpy.1 _ hb] at hnd; cases hnd
          · exact hpy.2 (hbits _ hb)
        refine .inr ⟨fun z q1 q2 q3 q4 => k1 z q1 ((hpn' _).1 q2) q3 q4, ?_⟩
        rw [act_at I.size hdstN, if_neg hne]
        exact k2.mono hs
    · rcases g3 with g3 | ⟨k0, m', hb, k1, k2, k3, k4⟩ | ⟨k0, hb, k1, k2, k3, k4, k5, k6, k7, k8⟩ | ⟨k0, k1, k2⟩
      · exact .inl g3
      · exact .inr (.inl ⟨k0, m', hb, k1, k2, by rw [e3]; exact Nat.le_trans k3 hpo.n_le, k4⟩)
      · refine .inr (.inr (.inl ⟨k0, hb, k1, k2, k3, k4, k5, by rw [e3]; exact Nat.lt_of_lt_of_le k6 hpo.n_le, by rw [e3, hpo.far _ k6 k8]; exact k7, by rw [hpo.ext _ k6]; exact k8⟩))
      · refine .inr (.inr (.inr ⟨k0, k1, ?_⟩))
        rw [e4, List.mem_filter]
        refine ⟨k2, ?_⟩
        cases hb : bit x.2.1 y.1 with
        | false => rfl
        | true => exact absurd (hbits _ hb) hpy.2
  · rw [e3]
    rcases I.lo i ((hpn' i).1 hi) with h | h
    · exact .inl (Nat.lt_of_lt_of_le h hpo.n_le)
    · exact .inr h

theorem mem_ready {listed : Array Bool} {i : Nat} (hl : listed.size = ops.size) : i ∈ Region.ready .any ops listed ↔ ∃ o, ops[i]? = some o ∧ ¬ Lst listed i ∧ ∀ e ∈ o.after.toList, bnd e → Lst listed e.on := by
  unfold Region.ready Lst
  simp only [List.mem_filter, List.mem_range, Bool.and_eq_true, Bool.not_eq_true']
  constructor
  · rintro ⟨h1, h2, h3⟩
    obtain ⟨o, ho⟩ : ∃ o, ops[i]? = some o := ⟨_, Array.getElem?_eq_getElem h1⟩
    refine ⟨o, ho, ?_, ?_⟩
    · have hi : i < listed.size := by omega
      simp only [Array.getD_eq_getD_getElem?, Array.getElem?_eq_getElem hi, Option.getD_some] at h2 ⊢
      rw [h2]; simp
    · rw [ho] at h3
      simp only [Option.map_some, Option.getD_some, Array.all_eq_true_iff_forall_mem] at h3
      intro e he hb
      have := h3 e (by simpa using he)
      rw [Bool.or_eq_true, Bool.not_eq_true'] at this
      rcases this with this | this
      · rw [hb] at this; cases this
      · exact this
  · rintro ⟨o, ho, h2, h3⟩
    have h1 : i < ops.size := (Array.getElem?_eq_some_iff.1 ho).1
    refine ⟨h1, ?_, ?_⟩
    · have hi : i < listed.size := by omega
      simp only [Array.getD_eq_getD_getElem?, Array.getElem?_eq_getElem hi, Option.getD_some] at h2 ⊢
      simpa using h2
    · rw [ho]
      simp only [Option.map_some, Option.getD_some, Array.all_eq_true_iff_forall_mem]
      intro e he
      rw [Bool.or_eq_true, Bool.not_eq_true']
      cases hb : Region.binds .any e with
      | false => exact .inl rfl
      | true => exact .inr (h3 e (by simpa using he) hb)

theorem ready_nil {listed : Array Bool} (hp : PlanOk ops N pl) (hl : listed.size = ops.size) (h : Region.ready .any ops listed = []) : ∀ i, i < ops.size → Lst listed i := by
  intro i
  induction i using Nat.strongRecOn with
  | _ i ih =>
    intro hi
    refine Classical.byContradiction fun hn => ?_
    obtain ⟨o, ho⟩ : ∃ o, ops[i]? = some o := ⟨_, Array.getElem?_eq_getElem hi⟩
    obtain ⟨b, hb⟩ := hp.all i o ho
    have : i ∈ Region.ready .any ops listed := (mem_ready hl).2 ⟨o, ho, hn, fun e he hbd => by
      have := hp.back _ hb e he hbd
      exact ih e.on this (Nat.lt_trans this hi)⟩
    rw [h] at this; cases this

def unl (l : List Bool) : Nat := l.countP (· == false)
theorem unl_set : ∀ (l : List Bool) (i : Nat), l[i]? = some false → unl (l.set i true) + 1 = unl l
  | [], i, h => by simp at h
  | b :: l, 0, h => by
    simp only [List.getElem?_cons_zero, Option.some.injEq] at h
    subst h
    simp [unl]
  | b :: l, i + 1, h => by
    have := unl_set l i (by simpa using h)
    simp only [unl, List.set_cons_succ, List.countP_cons] at this ⊢
    omega
theorem unl_lt {listed : Array Bool} {i : Nat} (hi : i < listed.size) (h : ¬ Lst listed i) : unl (listed.setIfInBounds i true).toList + 1 = unl listed.toList := by
  rw [Array.toList_setIfInBounds]
  refine unl_set _ _ ?_
  unfold Lst at h
  simp only [Array.getD_eq_getD_getElem?, Array.getElem?_eq_getElem hi, Option.getD_some] at h
  rw [Array.getElem?_toList, Array.getElem?_eq_getElem hi]
  simpa using h
theorem unl_zero {listed : Array Bool} (h : unl listed.toList = 0) : ∀ i, i < listed.size → Lst listed i := by
  intro i hi
  refine Classical.byContradiction fun hn => ?_
  have := unl_lt hi hn
  omega

theorem any_sound (hrec : RecSound P r) (hp : PlanOk ops N pl) {β : Type} {k : Kont β} {res : β} {rd : Option Nat} {F : Fence} {n : Nat} (hF : FR ρ₀ rd F) (hr₀ : HR ρ₀ h₀ w₀) {Q : Exit → Act → World → Prop}
    (hk : ∀ t' h' ρ' a' w', k .normal t' h' = .ok res → a'.tmps.size = N → TR ρ' t' a'.tmps → Post ρ₀ h₀ w₀ ρ' h' w' → DR s ρ' h' w' a'.defers → Q .normal a' w') :
    ∀ (fuel : Nat) (listed : Array Bool) (d : DS) (mo : Nat → Nat) (ρ : Ren) (a : Act) (w : World) (m : Nat), drawW P r N ops pl (drawL P r N ops pl k m) d k = .ok res → Inv P N ops pl ρ₀ h₀ w₀ s d listed mo ρ a w → RD P d → RdOk d → unl listed.toList ≤ fuel →
      wpAnyIn F n P .any ops Q fuel listed a w := by
  intro fuel
  have nil : ∀ (listed : Array Bool) (d : DS) (mo : Nat → Nat) (ρ : Ren) (a : Act) (w : World) (m : Nat), drawW P r N ops pl (drawL P r N ops pl k m) d k = .ok res → Inv P N ops pl ρ₀ h₀ w₀ s d listed mo ρ a w → Region.ready .any ops listed = [] → Q .normal a w := by
    intro listed d mo ρ a w m hh I hnil
    have hall := ready_nil hp I.lsz hnil
    have hpl : ∀ x ∈ pl, Lst listed x.1 := fun x hx => hall _ (Array.getElem?_eq_some_iff.1 (hp.ok x hx).1).1
    have hu : undone d.done pl = [] := by
      cases hu : undone d.done pl with
      | nil => rfl
      | cons x xs =>
        have := mem_undone.1 (hu ▸ List.mem_cons_self .. : x ∈ undone d.done pl)
        rw [I.sub _ (hpl x this.1)] at this; cases this.2
    unfold drawW at hh
    rw [hu] at hh
    exact hk _ _ _ _ _ hh I.size (fun dd => (I.tr dd).resolve_left fun ⟨y, h1, h2, _⟩ => h2.2 (hpl y h1)) I.post I.dr
  induction fuel with
  | zero =>
    intro listed d mo ρ a w m hh I hR hrd hun
    have hz : unl listed.toList = 0 := by omega
    have hnil : Region.ready .any ops listed = [] := by
      cases he : Region.ready .any ops listed with
      | nil => rfl
      | cons i l =>
        obtain ⟨o, h1, h2, _⟩ := (mem_ready I.lsz).1 (he ▸ List.mem_cons_self .. : i ∈ Region.ready .any ops listed)
        exact absurd (unl_zero hz i (by rw [I.lsz]; exact (Array.getElem?_eq_some_iff.1 h1).1)) h2
    exact ⟨hnil, nil _ _ _ _ _ _ _ hh I hnil⟩
  | succ fuel ih =>
    intro listed d mo ρ a w m hh I hR hrd hun
    refine ⟨nil _ _ _ _ _ _ _ hh I, fun i hi => ?_⟩
    obtain ⟨o, ho, hnl, hready⟩ := (mem_ready I.lsz).1 hi
    obtain ⟨b, hb⟩ := hp.all i o ho
    have hun' : unl (listed.setIfInBounds i true).toList ≤ fuel := by
      have := unl_lt (listed := listed) (by rw [I.lsz]; exact (Array.getElem?_eq_some_iff.1 ho).1) hnl
      omega
    cases hdn : bit d.done i with
    | true => exact exec_pend hp hR I hb ⟨hdn, hnl⟩ hready (hF.fn) fun ρ' a' w' I' => ih _ _ _ _ _ _ _ hh I' hR hrd hun'
    | false =>
      have hbits : ∀ y, bit b y = true → bit d.done y = true := fun y hy => I.sub _ ((hp.ok _ hb).2 _ I.clo hready y hy)
      have hmem := mem_undone.2 (⟨hb, hdn⟩ : (i, b, o) ∈ pl ∧ bit d.done (i, b, o).1 = false)
      unfold drawW at hh
      split at hh
      · rename_i hu; rw [hu] at hmem; cases hmem
      · rename_i x xs hu
        simp only [bindR_ok, mustM_ok, Bool.and_eq_true, List.all_eq_true, Bool.not_eq_true'] at hh
        obtain ⟨_, ⟨⟨g1, g2⟩, g3⟩, ⟨v, h'⟩, g4, hh⟩ := hh
        rw [hu] at hmem
        rcases List.mem_cons.1 hmem with e | hmem
        · subst e
          have hto : TO ρ (o.looksAt ops) d.t a.tmps := fun dd hdd => (I.tr dd).resolve_left fun ⟨y, h1, h2, h3⟩ => by
            rcases hp.look _ hb y h1 dd hdd h3 with hbb | hbb
            · exact h2.2 ((hp.ok _ hb).2 _ I.clo hready _ hbb)
            · rw [I.doneClo y h1 h2.1 _ hbb] at hdn; cases hdn
          simp only [wpOpIn, ho, wanted_soundL hto, g2, if_true]
          refine stepV_sound hrec g4 (fun dd h => looks_op h) hto (hF.mono (I.post.sub hr₀)) I.post.hr fun c ρ' w' hv hpo => ?_
          have I' := I.both hp hb hdn g1 hready hv hpo
          cases m with
          | zero => simp [drawL] at hh
          | succ m =>
            simp only [drawL, bindR_ok] at hh
            obtain ⟨d₂, k1, _, k2, hh⟩ := hh
            obtain ⟨⟨mo₂, I₂⟩, hrd₂⟩ := pass_inv hp pl I' (fun q hq => hrd q (List.mem_filter.1 hq).1) (fun _ h => h) k1
            exact ih _ _ _ _ _ _ _ hh I₂ (recheck_rd _ hrd₂ k2) hrd₂ hun'
        · have := g3 _ hmem
          rw [sub_of hbits] at this; cases this

theorem drawK_sound (hrec : RecSound P r) {β : Type} {t : Tmps} {h : Heap} {k : Kont β} {res : β} (hh : drawK P r N ops t h k = .ok res) {id : Nat} {ρ : Ren} {a : Act} {w : World} {rd : Option Nat} {F : Fence} {n : Nat} (hF : FR ρ rd F)
    (hn : a.tmps.size = N) (ht : TR ρ t a.tmps) (hr : HR ρ h w) (hd : DR s ρ h w a.defers)
    {Q : Exit → Act → World → Prop} (hk : ∀ e t' h' ρ' a' w', k e t' h' = .ok res → a'.tmps.size = N → TR ρ' t' a'.tmps → Post ρ h w ρ' h' w' → DR s ρ' h' w' a'.defers → Q (outOf e) a' w') :
    (Code.region id ops true).wpIn F n P Q a w := by
  simp only [drawK, bindR_ok, mustM_ok, Bool.and_eq_true] at hh
  obtain ⟨_, ⟨hm, hst⟩, hh⟩ := hh
  have hp := planOk hst
  refine wpIn_region_any hm ?_
  simp only [drawL, bindR_ok] at hh
  obtain ⟨d₂, k1, _, k2, hh⟩ := hh
  have hnone : ∀ i, ¬ Lst (Array.replicate ops.size false) i := fun i e => by
    unfold Lst at e
    by_cases hi : i < ops.size
    · simp [Array.getD_eq_getD_getElem?, hi] at e
    · simp [Array.getD_eq_getD_getElem?, hi] at e
  have I : Inv P N ops (planL ops.toList 0 []) ρ h w s { done := 0, t := t, h := h, rd := [] } (Array.replicate ops.size false) (fun _ => 0) ρ a { w with drawn := w.drawn + 1 } := by
    refine ⟨fun i e => absurd e (hnone i), fun j o _ e => absurd e (hnone j), fun x _ e => (by simp only [bit_zero] at e; cases e), ?_, hd, hn, fun dd => .inr (ht dd), fun x _ e => ?_, fun i j e => ?_, fun i e => ?_, by simp⟩
    · exact ⟨Nat.le_refl _, fun _ _ => rfl, ⟨hr.n_le, hr.dom, hr.inj⟩, ⟨Nat.le_refl _, fun _ _ _ => rfl, fun i l e o => .inr ⟨i, l, e, o, rfl⟩, rfl, rfl, rfl⟩, .refl h, fun _ _ _ => rfl⟩
    · have := e.1; simp only [bit_zero] at this; cases this
    · have := e.1; simp only [bit_zero] at this; cases this
    · have := e.1; simp only [bit_zero] at this; cases this
  obtain ⟨⟨mo₂, I₂⟩, hrd₂⟩ := pass_inv hp _ I (fun q hq => by cases hq) (fun _ h => h) k1
  refine any_sound hrec hp hF hr (fun t' h' ρ' a' w' he => hk .normal t' h' ρ' a' w' he) _ _ _ _ _ _ _ _ hh I₂ (recheck_rd _ hrd₂ k2) hrd₂ ?_
  have := List.countP_le_length (p := fun b : Bool => b == false) (l := (Array.replicate ops.size false).toList)
  simpa [unl] using this
end
end Go.AM
