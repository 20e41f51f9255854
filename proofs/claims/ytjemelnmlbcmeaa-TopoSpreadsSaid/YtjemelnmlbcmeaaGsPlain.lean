/- The plain law: lemmas over plain data, no program; no claim of its own; no condition. -/
import Derived.Test.YtjemelnmlbcmeaaGsDefs
import Derived.Test.YtjemelnmlbcmeaaLfK
set_option linter.unusedVariables false
set_option linter.unusedSimpArgs false
namespace Go.AM.P16
open Go
theorem wakes_ok : m_isochronlaw16_wakes = .ok true := by kernel_rfl

/-! ### Links -/
theorem from_ok {e : ApiLink} {p : Int} : m_topo_end_from ⟨e, p⟩ = .ok (if p.tmod 2 = 0 then e.A else e.B) := by
  unfold m_topo_end_from
  simp only [decide_eq_true_eq]
  split <;> rfl
theorem tmod_even {i : Int} (h : 0 ≤ i) : (2 * i).tmod 2 = 0 := by rw [Int.tmod_eq_emod_of_nonneg (by omega)]; omega
theorem tmod_odd {i : Int} (h : 0 ≤ i) : (2 * i + 1).tmod 2 = 1 := by rw [Int.tmod_eq_emod_of_nonneg (by omega)]; omega
theorem from_even {e : ApiLink} {i : Int} (h : 0 ≤ i) (h1 : i < 1000000) : m_topo_end_from ⟨e, w64 (2 * i)⟩ = .ok e.A := by
  rw [w64_id (by omega) (by omega), from_ok, if_pos (tmod_even h)]
theorem from_odd {e : ApiLink} {i : Int} (h : 0 ≤ i) (h1 : i < 1000000) : m_topo_end_from ⟨e, w64 ((w64 (2 * i)) + 1)⟩ = .ok e.B := by
  rw [w64_id (n := 2 * i) (by omega) (by omega), w64_id (by omega) (by omega), from_ok, if_neg (by rw [tmod_odd h]; decide)]
theorem to_ok {e : ApiLink} {p : Int} (ha : 0 ≤ e.A ∧ e.A < 1000000) (hb : 0 ≤ e.B ∧ e.B < 1000000) : m_topo_end_to ⟨e, p⟩ = .ok (if p.tmod 2 = 0 then e.B else e.A) := by
  unfold m_topo_end_to
  rw [from_ok]
  simp only [bindR]
  rw [w64_id (n := e.A + e.B) (by omega) (by omega)]
  split <;> (rw [w64_id (by omega) (by omega)]; congr 1; omega)
theorem to_even {e : ApiLink} {i : Int} (ha : 0 ≤ e.A ∧ e.A < 1000000) (hb : 0 ≤ e.B ∧ e.B < 1000000) (h : 0 ≤ i) (h1 : i < 1000000) : m_topo_end_to ⟨e, w64 (2 * i)⟩ = .ok e.B := by
  rw [w64_id (by omega) (by omega), to_ok ha hb, if_pos (tmod_even h)]
theorem to_odd {e : ApiLink} {i : Int} (ha : 0 ≤ e.A ∧ e.A < 1000000) (hb : 0 ≤ e.B ∧ e.B < 1000000) (h : 0 ≤ i) (h1 : i < 1000000) : m_topo_end_to ⟨e, w64 ((w64 (2 * i)) + 1)⟩ = .ok e.A := by
  rw [w64_id (n := 2 * i) (by omega) (by omega), w64_id (by omega) (by omega), to_ok ha hb, if_neg (by rw [tmod_odd h]; decide)]

/-! ### What a topology must be -/
def Joins (e : ApiLink) (a b : Int) : Prop := (e.A = a ∧ e.B = b) ∨ (e.A = b ∧ e.B = a)
def IsN (t : ApiTopo) (n : Int) : Prop := 0 ≤ n ∧ n < t.Nodes
instance (t : ApiTopo) (n : Int) : Decidable (IsN t n) := inferInstanceAs (Decidable (_ ∧ _))
structure LinkOk (t : ApiTopo) (e : ApiLink) : Prop where
  a : IsN t e.A
  b : IsN t e.B
  ne : e.A ≠ e.B
  st : ¬ (Seen t.Station e.A ∧ Seen t.Station e.B)
  per : 1 ≤ e.Per ∧ e.Per ≤ 1000
  delay : 0 ≤ e.Delay ∧ e.Delay ≤ 10000
def Alone (ls : List ApiLink) (i : Nat) (e : ApiLink) : Prop := ∀ (j : Nat) (f : ApiLink), j < i → ls[j]? = some f → ¬ Joins f e.A e.B
structure Small (t : ApiTopo) : Prop where
  n : 2 ≤ t.Nodes ∧ t.Nodes ≤ 12
  s : (t.Station.length : Int) = t.Nodes
  l : t.Links.length ≤ 24
def LinksOk (t : ApiTopo) : Prop := ∀ (i : Nat) (e : ApiLink), t.Links[i]? = some e → LinkOk t e ∧ Alone t.Links i e
def ends (e : ApiLink) (n : Int) : Int := (if e.A = n then 1 else 0) + (if e.B = n then 1 else 0)
def cnt (ls : List ApiLink) (n : Int) : Int := (ls.map (ends · n)).sum
inductive Rch (t : ApiTopo) (cut : List Int) (s : Int) : Int → Prop
  | base : Rch t cut s s
  | fwd {i : Nat} {e : ApiLink} : t.Links[i]? = some e → (i : Int) ∉ cut → Rch t cut s e.A → Rch t cut s e.B
  | bwd {i : Nat} {e : ApiLink} : t.Links[i]? = some e → (i : Int) ∉ cut → Rch t cut s e.B → Rch t cut s e.A
structure Fit (t : ApiTopo) : Prop where
  small : Small t
  links : LinksOk t
  stations : ∀ n, IsN t n → Seen t.Station n → 1 ≤ cnt t.Links n ∧ cnt t.Links n ≤ 2
  whole : ∀ n, IsN t n → Rch t [] 0 n

theorem ends_range (e : ApiLink) (n : Int) : 0 ≤ ends e n ∧ ends e n ≤ 2 := by
  unfold ends; split <;> split <;> omega
theorem cnt_range (ls : List ApiLink) (n : Int) : 0 ≤ cnt ls n ∧ cnt ls n ≤ 2 * ls.length := by
  induction ls with
  | nil => simp [cnt]
  | cons e ls ih =>
    have := ends_range e n
    simp only [cnt, List.map_cons, List.sum_cons, List.length_cons] at ih ⊢
    omega
theorem cnt_take {ls : List ApiLink} {i : Nat} {e : ApiLink} (h : ls[i]? = some e) (n : Int) : cnt (ls.take (i + 1)) n = cnt (ls.take i) n + ends e n := by
  rw [List.take_add_one, h]
  simp [cnt]

theorem isNode_ok (t : ApiTopo) (n : Int) : m_topo_isNode t n = .ok (decide (IsN t n)) := by
  unfold m_topo_isNode sh
  by_cases h1 : 0 ≤ n <;> by_cases h2 : n < t.Nodes <;> simp [IsN, h1, h2]
end Go.AM.P16
namespace Go.AM.P16
open Go
/-! ### Looking in rows -/
theorem index_int_has {l : List Int} (hl : l.length < 1000000) (x : Int) : Has (m_slices_Index_int_int l x) (fun r => (0 ≤ r ↔ x ∈ l)) := by
  unfold m_slices_Index_int_int
  refine has_loop (fun i : Int => 0 ≤ i ∧ i ≤ l.length ∧ ∀ j : Nat, (j : Int) < i → l[j]? ≠ some x) (fun i => ((l.length : Int) - i).toNat) (fun y hy => by omega) ⟨by omega, by omega, fun j hj => by omega⟩ ?_
  rintro i rec ⟨h0, h1, h2⟩ ih
  unfold m_slices_Index_int_int_l1
  simp only [decide_eq_true_eq]
  refine has_ite (fun hi => ?_) (fun hi => ?_)
  · refine has_idx h0 hi fun a ha => ?_
    refine has_ite (fun he => ?_) (fun he => ?_)
    · subst he
      exact has_ok ⟨fun _ => List.mem_of_getElem? ha, fun _ => h0⟩
    · rw [w64_id (by omega) (by omega)]
      refine ih _ ⟨by omega, by omega, fun j hj => ?_⟩ (by omega)
      by_cases hji : (j : Int) < i
      · exact h2 j hji
      · have : j = i.toNat := by omega
        rw [this, ha]; intro hx; cases hx; exact he rfl
  · refine has_ok ⟨fun h => by omega, fun h => ?_⟩
    obtain ⟨j, hj⟩ := List.mem_iff_getElem?.1 h
    have := (List.getElem?_eq_some_iff.1 hj).1
    exact absurd hj (h2 j (by omega))
theorem contains_int {l : List Int} (hl : l.length < 1000000) (x : Int) : m_slices_Contains_int_int l x = .ok (decide (x ∈ l)) := by
  unfold m_slices_Contains_int_int
  obtain ⟨r, h1, h2⟩ := index_int_has hl x
  rw [h1]
  simp only [bindR, h2]
theorem index_bool_has {l : List Bool} (hl : l.length < 1000000) (x : Bool) : Has (m_slices_Index_bool_bool l x) (fun r => (0 ≤ r ↔ x ∈ l)) := by
  unfold m_slices_Index_bool_bool
  refine has_loop (fun i : Int => 0 ≤ i ∧ i ≤ l.length ∧ ∀ j : Nat, (j : Int) < i → l[j]? ≠ some x) (fun i => ((l.length : Int) - i).toNat) (fun y hy => by omega) ⟨by omega, by omega, fun j hj => by omega⟩ ?_
  rintro i rec ⟨h0, h1, h2⟩ ih
  unfold m_slices_Index_bool_bool_l1
  simp only [decide_eq_true_eq, beq_iff_eq]
  refine has_ite (fun hi => ?_) (fun hi => ?_)
  · refine has_idx h0 hi fun a ha => ?_
    refine has_ite (fun he => ?_) (fun he => ?_)
    · subst he
      exact has_ok ⟨fun _ => List.mem_of_getElem? ha, fun _ => h0⟩
    · rw [w64_id (by omega) (by omega)]
      refine ih _ ⟨by omega, by omega, fun j hj => ?_⟩ (by omega)
      by_cases hji : (j : Int) < i
      · exact h2 j hji
      · have : j = i.toNat := by omega
        rw [this, ha]; intro hx; cases hx; exact he rfl
  · refine has_ok ⟨fun h => by omega, fun h => ?_⟩
    obtain ⟨j, hj⟩ := List.mem_iff_getElem?.1 h
    have := (List.getElem?_eq_some_iff.1 hj).1
    exact absurd hj (h2 j (by omega))
theorem contains_bool {l : List Bool} (hl : l.length < 1000000) (x : Bool) : m_slices_Contains_bool_bool l x = .ok (decide (x ∈ l)) := by
  unfold m_slices_Contains_bool_bool
  obtain ⟨r, h1, h2⟩ := index_bool_has hl x
  rw [h1]
  simp only [bindR, h2]
theorem in_ok {l : List Int} (hl : l.length < 1000000) (x : Int) : Has (m_isochronref16_In l x) (fun r => r = decide (x ∈ l)) := by
  unfold m_isochronref16_In
  refine has_loop (fun i : Int => 0 ≤ i ∧ i ≤ l.length ∧ ∀ j : Nat, (j : Int) < i → l[j]? ≠ some x) (fun i => ((l.length : Int) - i).toNat) (fun y hy => by omega) ⟨by omega, by omega, fun j hj => by omega⟩ ?_
  rintro i rec ⟨h0, h1, h2⟩ ih
  unfold m_isochronref16_In_l1
  simp only [decide_eq_true_eq]
  refine has_ite (fun hi => ?_) (fun hi => ?_)
  · refine has_idx h0 hi fun a ha => ?_
    refine has_ite (fun he => ?_) (fun he => ?_)
    · subst he
      exact has_ok (by simp [List.mem_of_getElem? ha])
    · rw [w64_id (by omega) (by omega)]
      refine ih _ ⟨by omega, by omega, fun j hj => ?_⟩ (by omega)
      by_cases hji : (j : Int) < i
      · exact h2 j hji
      · have : j = i.toNat := by omega
        rw [this, ha]; intro hx; cases hx; exact he rfl
  · refine has_ok ?_
    have : x ∉ l := fun h => by
      obtain ⟨j, hj⟩ := List.mem_iff_getElem?.1 h
      have := (List.getElem?_eq_some_iff.1 hj).1
      exact absurd hj (h2 j (by omega))
    simp [this]

/-! ### Counting -/
theorem degree_ok {t : ApiTopo} (ht : t.Links.length ≤ 24) (n : Int) : m_topo_degree t n = .ok (cnt t.Links n) := by
  refine Has.eq ?_
  unfold m_topo_degree
  refine has_loop (fun s : Int × Int => 0 ≤ s.1 ∧ s.1 ≤ t.Links.length ∧ s.2 = cnt (t.Links.take s.1.toNat) n) (fun s => ((t.Links.length : Int) - s.1).toNat) (fun y hy => by omega) ⟨by simp, by simp, by simp [cnt]⟩ ?_
  rintro ⟨i, c⟩ rec ⟨h0, h1, h2⟩ ih
  unfold m_topo_degree_l1
  simp only [decide_eq_true_eq] at *
  refine has_ite (fun hi => ?_) (fun hi => ?_)
  · refine has_idx h0 hi fun e he => ?_
    have hstep := cnt_take he n
    have hr := cnt_range (t.Links.take i.toNat) n
    have hlen : (t.Links.take i.toNat).length ≤ 24 := by rw [List.length_take]; omega
    have hend : cnt (t.Links.take (i + 1).toNat) n = c + ends e n := by
      have : (i + 1).toNat = i.toNat + 1 := by omega
      rw [this, hstep, h2]
    refine has_beq (from_even h0 (by omega)) (has_sh ?_)
    refine has_ite (fun ha => ?_) (fun ha => ?_) <;>
    · refine has_beq (from_odd h0 (by omega)) (has_sh ?_)
      refine has_ite (fun hb => ?_) (fun hb => ?_) <;>
      · show Has (rec _) _
        rw [w64_id (n := i + 1) (by omega) (by omega)]
        refine ih _ ⟨by simp only; omega, by simp only; omega, ?_⟩ (by simp only; omega)
        simp only
        rw [hend]
        unfold ends
        simp only [ha, hb, if_true, if_false]
        try rw [w64_id (n := c + 1) (by omega) (by omega)]
        try rw [w64_id (by omega) (by omega)]
        try omega
  · refine has_ok ?_
    rw [h2, List.take_of_length_le (by omega)]
end Go.AM.P16
namespace Go.AM.P16
open Go
theorem joins_dec {e : ApiLink} {a b : Int} : ((decide (e.A = a) && decide (e.B = b)) || (decide (e.A = b) && decide (e.B = a))) = true ↔ Joins e a b := by
  simp [Joins]
theorem validLink_has {t : ApiTopo} (ht : Small t) {p : Int} {e : ApiLink} (h0 : 0 ≤ p) (he : t.Links[p.toNat]? = some e) :
    Has (m_topo_validLink t p) (fun r => (r = true ↔ LinkOk t e ∧ Alone t.Links p.toNat e)) := by
  have hp := (List.getElem?_eq_some_iff.1 he).1
  have hl := ht.l
  have hs := ht.s
  unfold m_topo_validLink
  refine has_idx h0 (by omega) fun e' he' => ?_
  rw [he] at he'; cases he'
  refine has_beq (isNode_ok _ _) ?_
  refine has_join (fun s => (s = true ↔ IsN t e.A ∧ IsN t e.B)) (fun s hs1 => ?_) (fun j hj => ?_)
  · refine has_sh ?_
    simp only [Bool.not_eq_true', Bool.and_eq_false_iff, decide_eq_false_iff_not, Decidable.not_not]
    refine has_ite (fun h => has_ok ?_) (fun h => ?_)
    · simp only [Bool.false_eq_true, false_iff]
      rintro ⟨h1, _⟩
      rcases h with h | h
      · rw [hs1.2 ⟨h1.a, h1.b⟩] at h; cases h
      · exact h1.ne h
    · rw [not_or, Bool.not_eq_false, hs1] at h
      obtain ⟨⟨ha, hb⟩, hne⟩ := h
      refine has_idx ha.1 (by have := ha.2; omega) fun sa hsa => ?_
      refine has_join (fun s => (s = true ↔ ¬ (Seen t.Station e.A ∧ Seen t.Station e.B))) (fun s hs2 => ?_) (fun j hj => ?_)
      · refine has_ite (fun h => has_ok ?_) (fun h => ?_)
        · simp only [Bool.false_eq_true, false_iff]
          rintro ⟨h1, _⟩
          rw [hs2.2 h1.st] at h; cases h
        · have h : s = true := by simpa using h
          rw [hs2] at h
          refine has_sh (has_sh (has_sh ?_))
          simp only [Bool.not_eq_true', Bool.and_eq_false_iff, decide_eq_false_iff_not]
          refine has_ite (fun h2 => has_ok ?_) (fun h2 => ?_)
          · simp only [Bool.false_eq_true, false_iff]
            rintro ⟨h1, _⟩
            have h3 := h1.per; have h4 := h1.delay
            omega
          · have ok : LinkOk t e := ⟨ha, hb, hne, h, by omega, by omega⟩
            refine has_must (by simp only [decide_eq_true_eq]; omega) ?_
            have hlen : (t.Links.take p.toNat).length = p.toNat := by rw [List.length_take]; omega
            refine has_loop (fun i : Int => 0 ≤ i ∧ i ≤ p ∧ Alone t.Links i.toNat e) (fun i => (p - i).toNat) (fun y hy => by omega) ⟨by omega, by omega, fun j f hj => by simp at hj⟩ ?_
            rintro i rec ⟨g0, g1, g2⟩ ih
            unfold m_topo_validLink_l1
            simp only [decide_eq_true_eq, hlen]
            refine has_ite (fun hi => ?_) (fun hi => has_ok ?_)
            · refine has_idx g0 (by rw [hlen]; omega) fun f hf => ?_
              rw [List.getElem?_take_of_lt (by omega)] at hf
              refine has_sh (has_sh ?_)
              refine has_ite (fun hjn => ?_) (fun hjn => ?_)
              · have hjn := joins_dec.1 hjn
                have : ¬ Alone t.Links p.toNat e := fun h => h i.toNat f (by omega) hf hjn
                simp only [g0, this, and_false, iff_false, decide_true, Bool.not_true, Bool.not_false, Bool.false_eq_true, if_false, if_true]
                exact has_ok (by simp)
              · have hjn : ¬ Joins f e.A e.B := fun h => hjn (joins_dec.2 h)
                rw [w64_id (by omega) (by omega)]
                refine ih _ ⟨by omega, by omega, fun j f' hj hf' => ?_⟩ (by omega)
                by_cases hji : j < i.toNat
                · exact g2 j f' hji hf'
                · have : j = i.toNat := by omega
                  rw [this, hf] at hf'; cases hf'; exact hjn
            · have : i = p := by omega
              subst this
              simp [ok, g2]
      · refine has_ite (fun h => ?_) (fun h => ?_)
        · refine hj _ ?_
          have : sa = false := by simpa using h
          subst this
          have : ¬ Seen t.Station e.A := by rw [seen_get ha.1 hsa]; simp
          simp [this]
        · refine has_idx hb.1 (by have := hb.2; omega) fun sb hsb => hj _ ?_
          have h1 : Seen t.Station e.A := by rw [seen_get ha.1 hsa]; simpa using h
          have h2 := seen_get hb.1 hsb
          simp [h1, h2]
  · refine has_ite (fun h => ?_) (fun h => ?_)
    · refine has_beq (isNode_ok _ _) (hj _ ?_)
      have : IsN t e.A := by simpa using h
      simp [this]
    · refine hj _ ?_
      have : ¬ IsN t e.A := by simpa using h
      simp [this]
end Go.AM.P16
namespace Go.AM.P16
open Go
/-- All links end at nodes. -/
def InL (t : ApiTopo) : Prop := ∀ (i : Nat) (e : ApiLink), t.Links[i]? = some e → IsN t e.A ∧ IsN t e.B
def Closed (t : ApiTopo) (cut : List Int) (l : List Bool) : Prop := ∀ (i : Nat) (e : ApiLink), t.Links[i]? = some e → (i : Int) ∉ cut → (Seen l e.A ↔ Seen l e.B)
theorem Closed.all {t : ApiTopo} {cut : List Int} {l : List Bool} {s x : Int} (h : Closed t cut l) (hs : Seen l s) (hx : Rch t cut s x) : Seen l x := by
  induction hx with
  | base => exact hs
  | fwd h1 h2 _ ih => exact (h _ _ h1 h2).1 ih
  | bwd h1 h2 _ ih => exact (h _ _ h1 h2).2 ih
def IsReach (t : ApiTopo) (cut : List Int) (s : Int) (l : List Bool) : Prop := (l.length : Int) = t.Nodes ∧ ∀ x, Seen l x ↔ Rch t cut s x
theorem not_seen {l : List Bool} {i : Int} (h0 : 0 ≤ i) (h1 : i < l.length) (h : ¬ Seen l i) : l[i.toNat]? = some false := by
  have hlt : i.toNat < l.length := by omega
  rw [List.getElem?_eq_getElem hlt]
  cases hb : l[i.toNat] with
  | false => rfl
  | true => exact absurd ⟨h0, by rw [List.getElem?_eq_getElem hlt, hb]⟩ h
theorem reach_has {t : ApiTopo} (ht : Small t) (hi : InL t) {cut : List Int} (hc : cut.length < 1000000) {s : Int} (hs : IsN t s) : Has (m_topo_reach t s cut) (IsReach t cut s) := by
  have hn := ht.n
  have hlk := ht.l
  have hs0 := hs.1
  have hs1 := hs.2
  unfold m_topo_reach
  refine has_must (by simp only [decide_eq_true_eq]; omega) ?_
  have hrl : (List.replicate (t.Nodes).toNat false).length = t.Nodes.toNat := List.length_replicate ..
  refine has_idx hs0 (by rw [hrl]; omega) fun _ _ => ?_
  refine has_loop (fun l : List Bool => (l.length : Int) = t.Nodes ∧ Seen l s ∧ ∀ x, Seen l x → Rch t cut s x) low (fun l hl => by have := low_le l; omega) ⟨by rw [List.length_set, hrl]; omega, (seen_set (by rw [hrl]; omega)).2 (.inr rfl), fun x hx => ?_⟩ ?_
  · rcases (seen_set (by rw [hrl]; omega)).1 hx with h | rfl
    · exact absurd h seen_rep
    · exact .base
  rintro l rec ⟨hl, hls, hlr⟩ ih
  unfold m_topo_reach_l2
  refine has_loop (fun y : Int × List Bool => y.2 = l ∧ 0 ≤ y.1 ∧ y.1 ≤ t.Links.length ∧ ∀ (j : Nat) (e : ApiLink), (j : Int) < y.1 → t.Links[j]? = some e → (j : Int) ∉ cut → (Seen l e.A ↔ Seen l e.B)) (fun y => ((t.Links.length : Int) - y.1).toNat) (fun y hy => by omega) ⟨rfl, by simp, by simp, fun j e hj => by simp at hj; omega⟩ ?_
  rintro ⟨i, l'⟩ rec2 ⟨g0, g1, g2, g3⟩ ih2
  simp only at g0 g1 g2 g3
  subst g0
  unfold m_topo_reach_l1
  simp only [decide_eq_true_eq]
  refine has_ite (fun hil => ?_) (fun hil => ?_)
  rotate_left
  · refine has_ok ⟨hl, fun x => ⟨hlr x, fun hx => ?_⟩⟩
    exact Closed.all (fun j e hj hjc => g3 j e (by have := (List.getElem?_eq_some_iff.1 hj).1; omega) hj hjc) hls hx
  refine has_idx g1 hil fun e he => ?_
  obtain ⟨⟨hA0, hA1⟩, ⟨hB0, hB1⟩⟩ := hi _ _ he
  have hA : 0 ≤ e.A ∧ e.A < 1000000 := ⟨hA0, by omega⟩
  have hB : 0 ≤ e.B ∧ e.B < 1000000 := ⟨hB0, by omega⟩
  have hq1 : (w64 ((w64 (2 * i)).tdiv 2)) = i := by
    rw [w64_id (n := 2 * i) (by omega) (by omega), Int.tdiv_eq_ediv_of_nonneg (by omega), w64_id (by omega) (by omega)]; omega
  have hq2 : (w64 ((w64 ((w64 (2 * i)) + 1)).tdiv 2)) = i := by
    rw [w64_id (n := 2 * i) (by omega) (by omega), w64_id (n := 2 * i + 1) (by omega) (by omega), Int.tdiv_eq_ediv_of_nonneg (by omega), w64_id (by omega) (by omega)]; omega
  have hcast : ((i.toNat : Nat) : Int) = i := by omega
  refine has_beq (from_even g1 (by omega)) ?_
  refine has_idx hA0 (by omega) fun sa hsa => ?_
  have hsa := seen_get hA0 hsa
  refine has_join (fun b => (b = true ↔ Seen l' e.A ∧ ¬ Seen l' e.B)) (fun b hb => ?_) (fun j hj => ?_)
  · refine has_join (fun b => (b = true ↔ (Seen l' e.A ∧ ¬ Seen l' e.B) ∧ i ∉ cut)) (fun b hb => ?_) (fun j hj => ?_)
    · refine has_ite (fun h => ?_) (fun h => ?_)
      · obtain ⟨⟨h1, h2⟩, h3⟩ := hb.1 h
        refine has_beq (to_even hA hB g1 (by omega)) ?_
        refine has_idx hB0 (by omega) fun _ _ => ?_
        refine ih _ ⟨by rw [List.length_set]; exact hl, (seen_set (by omega)).2 (.inl hls), fun x hx => ?_⟩ (by have := low_set (not_seen hB0 (by omega) h2); omega)
        rcases (seen_set (by omega)).1 hx with h | rfl
        · exact hlr x h
        · exact .fwd he (by rw [hcast]; exact h3) (hlr _ h1)
      · have hb1 : ¬ ((Seen l' e.A ∧ ¬ Seen l' e.B) ∧ i ∉ cut) := fun hh => h (hb.2 hh)
        refine has_beq (from_odd g1 (by omega)) ?_
        refine has_idx hB0 (by omega) fun sb hsb => ?_
        have hsb := seen_get hB0 hsb
        refine has_join (fun b => (b = true ↔ Seen l' e.B ∧ ¬ Seen l' e.A)) (fun b hb => ?_) (fun j hj => ?_)
        · refine has_join (fun b => (b = true ↔ (Seen l' e.B ∧ ¬ Seen l' e.A) ∧ i ∉ cut)) (fun b hb => ?_) (fun j hj => ?_)
          · refine has_ite (fun h => ?_) (fun h => ?_)
            · obtain ⟨⟨h1, h2⟩, h3⟩ := hb.1 h
              refine has_beq (to_odd hA hB g1 (by omega)) ?_
              refine has_idx hA0 (by omega) fun _ _ => ?_
              refine ih _ ⟨by rw [List.length_set]; exact hl, (seen_set (by omega)).2 (.inl hls), fun x hx => ?_⟩ (by have := low_set (not_seen hA0 (by omega) h2); omega)
              rcases (seen_set (by omega)).1 hx with h | rfl
              · exact hlr x h
              · exact .bwd he (by rw [hcast]; exact h3) (hlr _ h1)
            · have hb2 : ¬ ((Seen l' e.B ∧ ¬ Seen l' e.A) ∧ i ∉ cut) := fun hh => h (hb.2 hh)
              rw [w64_id (n := i + 1) (by omega) (by omega)]
              refine ih2 _ ⟨rfl, by simp only; omega, by simp only; omega, fun j e' hj hj2 hj3 => ?_⟩ (by simp only; omega)
              simp only at hj
              by_cases hji : (j : Int) < i
              · exact g3 j e' hji hj2 hj3
              · have hjn : j = i.toNat := by omega
                rw [hjn] at hj2 hj3
                rw [he] at hj2; cases hj2
                rw [hcast] at hj3
                by_cases ha : Seen l' e.A <;> by_cases hb : Seen l' e.B <;> simp_all
          · refine has_ite (fun h => ?_) (fun h => ?_)
            · refine has_beq (contains_int hc _) (hj _ ?_)
              rw [hq2]; simp [hb.1 h]
            · refine hj _ ?_
              have : ¬ (Seen l' e.B ∧ ¬ Seen l' e.A) := fun hh => h (hb.2 hh)
              simp [this]
        · refine has_ite (fun h => ?_) (fun h => ?_)
          · refine has_beq (to_odd hA hB g1 (by omega)) ?_
            refine has_idx hA0 (by omega) fun sa2 hsa2 => hj _ ?_
            have hsa2 := seen_get hA0 hsa2
            rw [hsb, hsa2, h]; simp
          · refine hj _ ?_
            rw [hsb]; simp [h]
    · refine has_ite (fun h => ?_) (fun h => ?_)
      · refine has_beq (contains_int hc _) (hj _ ?_)
        rw [hq1]; simp [hb.1 h]
      · refine hj _ ?_
        have : ¬ (Seen l' e.A ∧ ¬ Seen l' e.B) := fun hh => h (hb.2 hh)
        simp [this]
  · refine has_ite (fun h => ?_) (fun h => ?_)
    · refine has_beq (to_even hA hB g1 (by omega)) ?_
      refine has_idx hB0 (by omega) fun sb2 hsb2 => hj _ ?_
      have hsb2 := seen_get hB0 hsb2
      rw [hsa, hsb2, h]; simp
    · refine hj _ ?_
      rw [hsa]; simp [h]
end Go.AM.P16
namespace Go.AM.P16
open Go
theorem Reach_has {t : ApiTopo} (ht : Small t) (hi : InL t) {cut : List Int} (hc : cut.length < 1000000) {s : Int} (hs : IsN t s) : Has (m_isochronref16_Reach t s cut) (IsReach t cut s) := by
  have hn := ht.n
  have hlk := ht.l
  have hs0 := hs.1
  have hs1 := hs.2
  unfold m_isochronref16_Reach
  refine has_must (by simp only [decide_eq_true_eq]; omega) ?_
  have hrl : (List.replicate (t.Nodes).toNat false).length = t.Nodes.toNat := List.length_replicate ..
  refine has_idx hs0 (by rw [hrl]; omega) fun b0 hb0 => ?_
  have hb0' : (List.replicate (t.Nodes).toNat false)[s.toNat]? = some false := by
    rw [List.getElem?_replicate, if_pos (by omega)]
  refine has_loop (fun y : List Bool × Int => 0 ≤ y.2 ∧ y.2 ≤ t.Nodes ∧ (y.1.length : Int) = t.Nodes ∧ Seen y.1 s ∧ (∀ x, Seen y.1 x → Rch t cut s x) ∧ (Closed t cut y.1 ∨ (low y.1 : Int) + y.2 + 1 ≤ t.Nodes)) (fun y => (t.Nodes - y.2).toNat) (fun l hl => by omega) ⟨by simp, by simp only; omega, by rw [List.length_set, hrl]; omega, (seen_set (by rw [hrl]; omega)).2 (.inr rfl), fun x hx => ?_, .inr ?_⟩ ?_
  · rcases (seen_set (by rw [hrl]; omega)).1 hx with h | rfl
    · exact absurd h seen_rep
    · exact .base
  · have h1 := low_set hb0'
    have h2 := low_le (List.replicate (t.Nodes).toNat false)
    rw [hrl] at h2
    simp only
    omega
  rintro ⟨l0, r⟩ rec ⟨hr0, hr1, hl0, hls0, hlr0, hcl⟩ ih
  simp only at hr0 hr1 hl0 hls0 hlr0 hcl
  unfold m_isochronref16_Reach_l2
  simp only [decide_eq_true_eq]
  refine has_ite (fun hrn => ?_) (fun hrn => ?_)
  rotate_left
  · refine has_ok ⟨hl0, fun x => ⟨hlr0 x, fun hx => ?_⟩⟩
    rcases hcl with h | h
    · exact h.all hls0 hx
    · omega
  refine has_loop (fun y : List Bool × Int => 0 ≤ y.2 ∧ y.2 ≤ t.Links.length ∧ (y.1.length : Int) = t.Nodes ∧ Seen y.1 s ∧ (∀ x, Seen y.1 x → Rch t cut s x) ∧ ((y.1 = l0 ∧ ∀ (j : Nat) (e : ApiLink), (j : Int) < y.2 → t.Links[j]? = some e → (j : Int) ∉ cut → (Seen l0 e.A ↔ Seen l0 e.B)) ∨ (low y.1 < low l0 ∧ ¬ Closed t cut l0))) (fun y => ((t.Links.length : Int) - y.2).toNat) (fun y hy => by omega) ⟨by simp, by simp, hl0, hls0, hlr0, .inl ⟨rfl, fun j e hj => by simp at hj; omega⟩⟩ ?_
  rintro ⟨l, i⟩ rec2 ⟨g1, g2, hl, hls, hlr, hd⟩ ih2
  simp only at g1 g2 hl hls hlr hd
  unfold m_isochronref16_Reach_l1
  simp only [decide_eq_true_eq]
  refine has_ite (fun hil => ?_) (fun hil => ?_)
  rotate_left
  · rw [w64_id (by omega) (by omega)]
    refine ih _ ⟨by simp only; omega, by simp only; omega, hl, hls, hlr, ?_⟩ (by simp only; omega)
    simp only
    rcases hd with ⟨rfl, h⟩ | ⟨h1, h2⟩
    · exact .inl fun j e hj hjc => h j e (by have := (List.getElem?_eq_some_iff.1 hj).1; omega) hj hjc
    · rcases hcl with h | h
      · exact absurd h h2
      · exact .inr (by omega)
  refine has_idx g1 hil fun e he => ?_
  obtain ⟨⟨hA0, hA1⟩, ⟨hB0, hB1⟩⟩ := hi _ _ he
  have hcast : ((i.toNat : Nat) : Int) = i := by omega
  refine has_bind (in_ok hc i) fun b hb => ?_
  subst hb
  refine has_join (fun y : List Bool × Bool => y.1 = l ∧ (y.2 = true ↔ i ∉ cut ∧ (Seen l e.A ∨ Seen l e.B))) (fun y hy => ?_) (fun j hj => ?_)
  · obtain ⟨l', fire⟩ := y
    obtain ⟨hy1, hy2⟩ := hy
    simp only at hy1 hy2
    subst hy1
    -- the row after this link
    refine has_join (fun z : List Bool => (z.length : Int) = t.Nodes ∧ Seen z s ∧ (∀ x, Seen z x → Rch t cut s x) ∧ ((z = l' ∧ (i ∉ cut → (Seen l' e.A ↔ Seen l' e.B))) ∨ (low z < low l' ∧ i ∉ cut ∧ ¬ (Seen l' e.A ↔ Seen l' e.B)))) (fun z hz => ?_) (fun j hj => ?_)
    · obtain ⟨k1, k2, k3, k4⟩ := hz
      rw [w64_id (by omega) (by omega)]
      refine ih2 _ ⟨by simp only; omega, by simp only; omega, k1, k2, k3, ?_⟩ (by simp only; omega)
      simp only
      rcases hd with ⟨rfl, h⟩ | ⟨h1, h2⟩
      · rcases k4 with ⟨k4, k5⟩ | ⟨k4, k5, k6⟩
        · refine .inl ⟨k4, fun j e' hj hj2 hj3 => ?_⟩
          by_cases hji : (j : Int) < i
          · exact h j e' hji hj2 hj3
          · have hjn : j = i.toNat := by omega
            rw [hjn] at hj2 hj3
            rw [he] at hj2; cases hj2
            rw [hcast] at hj3
            exact k5 hj3
        · exact .inr ⟨k4, fun hcd => k6 (hcd _ _ he (by rw [hcast]; exact k5))⟩
      · refine .inr ⟨?_, h2⟩
        rcases k4 with ⟨k4, k5⟩ | ⟨k4, k5, k6⟩
        · rw [k4]; exact h1
        · omega
    · refine has_ite (fun h => ?_) (fun h => ?_)
      · obtain ⟨hnc, hor⟩ := hy2.1 h
        simp only
        refine has_idx hA0 (by omega) fun _ _ => ?_
        refine has_idx hB0 (by rw [List.length_set]; omega) fun _ _ => hj _ ?_
        refine ⟨by rw [List.length_set, List.length_set]; exact hl, ?_, fun x hx => ?_, ?_⟩
        · rw [seen_set (by rw [List.length_set]; omega), seen_set (by omega)]; exact .inl (.inl hls)
        · rw [seen_set (by rw [List.length_set]; omega), seen_set (by omega)] at hx
          have hab : Rch t cut s e.A ∧ Rch t cut s e.B := by
            rcases hor with h | h
            · exact ⟨hlr _ h, .fwd he (by rw [hcast]; exact hnc) (hlr _ h)⟩
            · exact ⟨.bwd he (by rw [hcast]; exact hnc) (hlr _ h), hlr _ h⟩
          rcases hx with (h | rfl) | rfl
          · exact hlr _ h
          · exact hab.1
          · exact hab.2
        · by_cases ha : Seen l' e.A
          · rw [set_self ha.2]
            by_cases hb : Seen l' e.B
            · rw [set_self hb.2]; exact .inl ⟨rfl, fun _ => by simp [ha, hb]⟩
            · exact .inr ⟨by have := low_set (not_seen hB0 (by omega) hb); omega, hnc, by simp [ha, hb]⟩
          · have hb : Seen l' e.B := hor.resolve_left ha
            refine .inr ⟨?_, hnc, by simp [ha, hb]⟩
            have h1 := low_set (not_seen hA0 (by omega) ha)
            have h2 := low_set_le (l := l'.set e.A.toNat true) (i := e.B.toNat)
            omega
      · refine hj _ ⟨hl, hls, hlr, .inl ⟨rfl, fun hnc => ?_⟩⟩
        have : ¬ (Seen l' e.A ∨ Seen l' e.B) := fun hh => h (hy2.2 ⟨hnc, hh⟩)
        by_cases ha : Seen l' e.A <;> by_cases hb : Seen l' e.B <;> simp_all
  · refine has_ite (fun h => ?_) (fun h => ?_)
    · have hnc : i ∉ cut := by simpa using h
      refine has_idx hA0 (by first | omega | (simp only; omega)) fun sa hsa => ?_
      have hsa := seen_get hA0 hsa
      refine has_ite (fun h2 => hj _ ⟨rfl, ?_⟩) (fun h2 => ?_)
      · simp [hnc, hsa, h2]
      · refine has_idx hB0 (by first | omega | (simp only; omega)) fun sb hsb => hj _ ⟨rfl, ?_⟩
        have hsb := seen_get hB0 hsb
        simp [hnc, hsa, hsb, h2]
    · refine hj _ ⟨rfl, ?_⟩
      have : i ∈ cut := by simpa using h
      simp [this]
end Go.AM.P16
namespace Go.AM.P16
open Go
theorem IsReach.whole {t : ApiTopo} {l : List Bool} (h : IsReach t [] 0 l) : false ∈ l ↔ ¬ ∀ n, IsN t n → Rch t [] 0 n := by
  obtain ⟨h1, h2⟩ := h
  constructor
  · intro hm hall
    obtain ⟨i, hi⟩ := List.mem_iff_getElem?.1 hm
    have hlt := (List.getElem?_eq_some_iff.1 hi).1
    have := (h2 (i : Int)).2 (hall i ⟨by omega, by omega⟩)
    obtain ⟨_, h⟩ := this
    rw [show ((i : Int).toNat) = i from rfl, hi] at h
    cases h
  · intro hn
    by_cases hf : false ∈ l
    · exact hf
    · refine absurd (fun n hnn => (h2 n).1 ?_) hn
      by_cases hs : Seen l n
      · exact hs
      · exact absurd (List.mem_of_getElem? (not_seen hnn.1 (by have := hnn.2; omega) hs)) hf
theorem LinksOk.inl {t : ApiTopo} (h : LinksOk t) : InL t := fun i e he => ⟨(h i e he).1.a, (h i e he).1.b⟩
def CheckIs (t : ApiTopo) (r : Int) : Prop := (Fit t ∧ r = 0) ∨ (¬ Fit t ∧ r = 260)
theorem small_dec {t : ApiTopo} : ((((decide (t.Nodes < 2)) || (decide (12 < t.Nodes))) || (decide ((t.Station.length : Int) ≠ t.Nodes))) || (decide (24 < (t.Links.length : Int)))) = true ↔ ¬ Small t := by
  simp only [Bool.or_eq_true, decide_eq_true_eq]
  constructor
  · intro h hs
    have h1 := hs.n; have h2 := hs.s; have h3 := hs.l
    omega
  · intro h
    by_cases h1 : t.Nodes < 2
    · exact .inl (.inl (.inl h1))
    by_cases h2 : 12 < t.Nodes
    · exact .inl (.inl (.inr h2))
    by_cases h3 : (t.Station.length : Int) = t.Nodes
    · refine .inr ?_
      by_cases h4 : t.Links.length ≤ 24
      · exact absurd ⟨⟨by omega, by omega⟩, h3, h4⟩ h
      · omega
    · exact .inl (.inr h3)
theorem Check_has (t : ApiTopo) : Has (m_topo_Check t) (CheckIs t) := by
  unfold m_topo_Check
  refine has_sh (has_sh (has_sh ?_))
  refine has_ite (fun h => has_ok ?_) (fun h => ?_)
  · exact .inr ⟨fun hf => small_dec.1 h hf.small, rfl⟩
  have ht : Small t := Classical.not_not.1 fun hn => h (small_dec.2 hn)
  have hn := ht.n
  have hlk := ht.l
  have hst := ht.s
  refine has_loop (fun i : Int => 0 ≤ i ∧ i ≤ t.Links.length ∧ ∀ (j : Nat) (e : ApiLink), (j : Int) < i → t.Links[j]? = some e → LinkOk t e ∧ Alone t.Links j e) (fun i => ((t.Links.length : Int) - i).toNat) (fun y hy => by omega) ⟨by omega, by omega, fun j e hj => by omega⟩ ?_
  rintro i rec ⟨g0, g1, g2⟩ ih
  unfold m_topo_Check_l2
  simp only [decide_eq_true_eq]
  refine has_ite (fun hi => ?_) (fun hi => ?_)
  · obtain ⟨e, he⟩ : ∃ e, t.Links[i.toNat]? = some e := ⟨_, List.getElem?_eq_getElem (by omega)⟩
    refine has_bind (validLink_has ht g0 he) fun r hr => ?_
    refine has_ite (fun h => has_ok ?_) (fun h => ?_)
    · refine .inr ⟨fun hf => ?_, rfl⟩
      rw [hr.2 (hf.links _ _ he)] at h
      cases h
    · have h : r = true := by simpa using h
      rw [w64_id (by omega) (by omega)]
      refine ih _ ⟨by omega, by omega, fun j f hj hf => ?_⟩ (by omega)
      by_cases hji : (j : Int) < i
      · exact g2 j f hji hf
      · have : j = i.toNat := by omega
        subst this
        rw [he] at hf; cases hf
        exact hr.1 h
  have hL : LinksOk t := fun j e he => g2 j e (by have := (List.getElem?_eq_some_iff.1 he).1; omega) he
  refine has_loop (fun i : Int => 0 ≤ i ∧ i ≤ t.Station.length ∧ ∀ n : Int, n < i → Seen t.Station n → 1 ≤ cnt t.Links n ∧ cnt t.Links n ≤ 2) (fun i => ((t.Station.length : Int) - i).toNat) (fun y hy => by omega) ⟨by omega, by omega, fun n hn hs => by have := hs.1; omega⟩ ?_
  rintro k rec2 ⟨k0, k1, k2⟩ ih2
  unfold m_topo_Check_l1
  simp only [decide_eq_true_eq]
  refine has_ite (fun hk => ?_) (fun hk => ?_)
  · refine has_idx k0 hk fun b hb => ?_
    have hb := seen_get k0 hb
    refine has_join (fun s => (s = true ↔ Seen t.Station k ∧ ¬ (1 ≤ cnt t.Links k ∧ cnt t.Links k ≤ 2))) (fun s hs => ?_) (fun j hj => ?_)
    · refine has_ite (fun h => has_ok ?_) (fun h => ?_)
      · obtain ⟨h1, h2⟩ := hs.1 h
        exact .inr ⟨fun hf => h2 (hf.stations k ⟨k0, by omega⟩ h1), rfl⟩
      · rw [w64_id (by omega) (by omega)]
        refine ih2 _ ⟨by omega, by omega, fun n hn hsn => ?_⟩ (by omega)
        by_cases hnk : n < k
        · exact k2 n hnk hsn
        · have : n = k := by omega
          subst this
          exact Decidable.byContradiction fun hh => h (hs.2 ⟨hsn, hh⟩)
    · refine has_ite (fun h => ?_) (fun h => ?_)
      · refine has_beq (degree_ok hlk k) ?_
        have hsn := hb.2 h
        refine has_ite (fun h2 => hj _ ?_) (fun h2 => ?_)
        · simp only [true_iff]; exact ⟨hsn, by omega⟩
        · refine has_beq (degree_ok hlk k) (hj _ ?_)
          simp only [decide_eq_true_eq]
          exact ⟨fun h3 => ⟨hsn, by omega⟩, fun ⟨_, h3⟩ => by omega⟩
      · refine hj _ ?_
        have : ¬ Seen t.Station k := fun hh => h (hb.1 hh)
        simp [this]
  · refine has_bind (reach_has ht hL.inl (cut := []) (by simp) (s := 0) ⟨by omega, by omega⟩) fun l hl => ?_
    have hw := hl.whole
    refine has_beq (contains_bool (by have := hl.1; omega) false) ?_
    refine has_ite (fun h => has_ok ?_) (fun h => has_ok ?_)
    · exact .inr ⟨fun hf => hw.1 (by simpa using h) hf.whole, rfl⟩
    · have h : ¬ false ∈ l := by simpa using h
      refine .inl ⟨⟨ht, hL, fun n hn hs => k2 n (by have := hs.lt; omega) hs, ?_⟩, rfl⟩
      exact Classical.not_not.1 fun hh => h (hw.2 hh)
theorem Check_eq (t : ApiTopo) : ∃ r, m_topo_Check t = .ok r ∧ CheckIs t r := Check_has t

/-! ### The reference -/
theorem node_ok (t : ApiTopo) (n : Int) : m_isochronref16_node t n = .ok (decide (IsN t n)) := by
  unfold m_isochronref16_node sh
  by_cases h1 : 0 ≤ n <;> by_cases h2 : n < t.Nodes <;> simp [IsN, h1, h2]
theorem joins_ok (e : ApiLink) (a b : Int) : Has (m_isochronref16_Joins e a b) (fun r => (r = true ↔ Joins e a b)) := by
  unfold m_isochronref16_Joins
  exact has_sh (has_sh (has_ok joins_dec))
theorem link_has {t : ApiTopo} (ht : Small t) (e : ApiLink) : Has (m_isochronref16_link t e) (fun r => (r = true ↔ LinkOk t e)) := by
  have hs := ht.s
  unfold m_isochronref16_link
  refine has_beq (node_ok _ _) ?_
  refine has_join (fun s => (s = true ↔ ¬ (IsN t e.A ∧ IsN t e.B))) (fun s hs1 => ?_) (fun j hj => ?_)
  · refine has_sh ?_
    refine has_join (fun s => (s = true ↔ ¬ (IsN t e.A ∧ IsN t e.B ∧ e.A ≠ e.B ∧ ¬ (Seen t.Station e.A ∧ Seen t.Station e.B)))) (fun s hs2 => ?_) (fun j hj => ?_)
    · refine has_ite (fun h => has_ok ?_) (fun h => ?_)
      · simp only [Bool.false_eq_true, false_iff]
        exact fun hl => hs2.1 h ⟨hl.a, hl.b, hl.ne, hl.st⟩
      · have h : IsN t e.A ∧ IsN t e.B ∧ e.A ≠ e.B ∧ ¬ (Seen t.Station e.A ∧ Seen t.Station e.B) := Classical.not_not.1 fun hh => h (hs2.2 hh)
        refine has_sh (has_sh (has_sh (has_ok ?_)))
        simp only [Bool.and_eq_true, decide_eq_true_eq]
        exact ⟨fun hh => ⟨h.1, h.2.1, h.2.2.1, h.2.2.2, by omega, by omega⟩, fun hl => ⟨⟨hl.per, hl.delay.1⟩, hl.delay.2⟩⟩
    · refine has_ite (fun h => hj _ ?_) (fun h => ?_)
      · simp only [true_iff]
        rintro ⟨h1, h2, h3, _⟩
        simp only [Bool.or_eq_true, decide_eq_true_eq] at h
        rcases h with h | h
        · exact hs1.1 h ⟨h1, h2⟩
        · exact h3 h
      · have hab : IsN t e.A ∧ IsN t e.B := Classical.not_not.1 fun hh => h (by simp [hs1.2 hh])
        have hne : e.A ≠ e.B := fun hh => h (by simp [hh])
        obtain ⟨ha, hb⟩ := hab
        refine has_idx ha.1 (by have := ha.2; omega) fun sa hsa => ?_
        have hsa := seen_get ha.1 hsa
        refine has_ite (fun h1 => ?_) (fun h1 => ?_)
        · refine has_idx hb.1 (by have := hb.2; omega) fun sb hsb => hj _ ?_
          have hsb := seen_get hb.1 hsb
          have h1 := hsa.2 h1
          rw [← hsb]
          simp [ha, hb, hne, h1]
        · refine hj _ ?_
          have : ¬ Seen t.Station e.A := fun hh => h1 (hsa.1 hh)
          simp [ha, hb, hne, this]
  · refine has_ite (fun h => hj _ ?_) (fun h => ?_)
    · have : ¬ IsN t e.A := by simpa using h
      simp [this]
    · refine has_beq (node_ok _ _) (hj _ ?_)
      have : IsN t e.A := by simpa using h
      simp [this]
def RightIs (t : ApiTopo) (r : Bool) : Prop := (r = true ↔ Fit t)
theorem Right_has (t : ApiTopo) : Has (m_isochronref16_Right t) (RightIs t) := by
  unfold m_isochronref16_Right
  refine has_sh (has_sh (has_sh ?_))
  refine has_ite (fun h => has_ok ?_) (fun h => ?_)
  · exact ⟨fun h => by simp at h, fun hf => absurd hf.small (small_dec.1 h)⟩
  have ht : Small t := Classical.not_not.1 fun hn => h (small_dec.2 hn)
  have hn := ht.n
  have hlk := ht.l
  have hst := ht.s
  refine has_must (by simp only [decide_eq_true_eq]; omega) ?_
  have bad : ∀ {p : Prop}, (Fit t → p) → ¬ p → RightIs t false := fun h1 h2 => ⟨fun h => (by simp at h), fun hf => absurd (h1 hf) h2⟩
  refine has_loop (fun y : List Int × Int => 0 ≤ y.2 ∧ y.2 ≤ t.Links.length ∧ (y.1.length : Int) = t.Nodes ∧ (∀ n, IsN t n → y.1[n.toNat]? = some (cnt (t.Links.take y.2.toNat) n)) ∧ ∀ (j : Nat) (e : ApiLink), (j : Int) < y.2 → t.Links[j]? = some e → LinkOk t e ∧ Alone t.Links j e) (fun y => ((t.Links.length : Int) - y.2).toNat) (fun y hy => by omega) ⟨by simp, by simp, by simp only [List.length_replicate]; omega, fun n hn' => ?_, fun j e hj => by simp at hj; omega⟩ ?_
  · rw [List.getElem?_replicate, if_pos (by have := hn'.1; have := hn'.2; omega)]
    rfl
  rintro ⟨c, i⟩ rec ⟨g0, g1, gl, gc, g2⟩ ih
  simp only at g0 g1 gl gc g2
  unfold m_isochronref16_Right_l3
  simp only [decide_eq_true_eq]
  refine has_ite (fun hi => ?_) (fun hi => ?_)
  · refine has_idx g0 hi fun e he => ?_
    refine has_bind (link_has ht e) fun r hr => ?_
    refine has_ite (fun h => has_ok ?_) (fun h => ?_)
    · have h : r = false := by simpa using h
      exact bad (fun hf => (hf.links _ _ he).1) (fun hh => by rw [hr.2 hh] at h; cases h)
    have hlok := hr.1 (by simpa using h)
    have ha := hlok.a
    have hb := hlok.b
    have hne := hlok.ne
    refine has_loop (fun j : Int => 0 ≤ j ∧ j ≤ i ∧ Alone t.Links j.toNat e) (fun j => (i - j).toNat) (fun y hy => by omega) ⟨by omega, by omega, fun j f hj => by simp at hj⟩ ?_
    rintro j rec2 ⟨j0, j1, j2⟩ ih2
    unfold m_isochronref16_Right_l1
    simp only [decide_eq_true_eq]
    refine has_ite (fun hj => ?_) (fun hj => ?_)
    · refine has_idx j0 (by omega) fun f hf => ?_
      refine has_bind (joins_ok f e.A e.B) fun b hb => ?_
      refine has_ite (fun h => has_ok ?_) (fun h => ?_)
      · exact bad (fun hf => (hf.links _ _ he).2) (fun hh => hh j.toNat f (by omega) hf (hb.1 h))
      · rw [w64_id (by omega) (by omega)]
        refine ih2 _ ⟨by omega, by omega, fun k f' hk hf' => ?_⟩ (by omega)
        by_cases hkj : k < j.toNat
        · exact j2 k f' hkj hf'
        · have : k = j.toNat := by omega
          rw [this, hf] at hf'; cases hf'
          exact fun hh => h (hb.2 hh)
    · have hji : j = i := by omega
      subst hji
      have hrA := cnt_range (t.Links.take j.toNat) e.A
      have hrB := cnt_range (t.Links.take j.toNat) e.B
      have hlen : (t.Links.take j.toNat).length ≤ 24 := by rw [List.length_take]; omega
      have hA := gc _ ha
      have hB := gc _ hb
      have hneN : e.A.toNat ≠ e.B.toNat := by have := ha.1; have := hb.1; omega
      have hltA : e.A.toNat < c.length := by have := ha.1; have := ha.2; omega
      have hltB : e.B.toNat < c.length := by have := hb.1; have := hb.2; omega
      refine has_beq (idx_ok.2 ⟨ha.1, hA⟩) ?_
      refine has_beq (idx_ok.2 ⟨ha.1, hA⟩) ?_
      have hB' : (c.set e.A.toNat (w64 (cnt (t.Links.take j.toNat) e.A + 1)))[e.B.toNat]? = some (cnt (t.Links.take j.toNat) e.B) := by
        rw [List.getElem?_set_ne hneN]; exact hB
      refine has_beq (idx_ok.2 ⟨hb.1, hB'⟩) ?_
      refine has_beq (idx_ok.2 ⟨hb.1, hB'⟩) ?_
      rw [w64_id (n := j + 1) (by omega) (by omega), w64_id (n := cnt (t.Links.take j.toNat) e.A + 1) (by omega) (by omega), w64_id (n := cnt (t.Links.take j.toNat) e.B + 1) (by omega) (by omega)]
      refine ih _ ⟨by simp only; omega, by simp only; omega, by simp only [List.length_set]; exact gl, fun n hn' => ?_, fun k f hk hf => ?_⟩ (by simp only; omega)
      · have h1 : (j + 1).toNat = j.toNat + 1 := by omega
        simp only
        rw [h1, cnt_take he]
        have h0 := hn'.1
        have hA0 := ha.1
        have hB0 := hb.1
        by_cases hb1 : e.B = n
        · subst hb1
          rw [List.getElem?_set_self (by rw [List.length_set]; exact hltB)]
          simp [ends, hne]
        · rw [List.getElem?_set_ne (by omega)]
          by_cases ha1 : e.A = n
          · subst ha1
            rw [List.getElem?_set_self hltA]
            simp [ends, hb1]
          · rw [List.getElem?_set_ne (by omega), gc _ hn']
            simp [ends, ha1, hb1]
      · simp only at hk
        by_cases hkj : (k : Int) < j
        · exact g2 k f hkj hf
        · have : k = j.toNat := by omega
          subst this
          rw [he] at hf; cases hf
          exact ⟨hlok, j2⟩
  have hL : LinksOk t := fun j e he => g2 j e (by have := (List.getElem?_eq_some_iff.1 he).1; omega) he
  have hc : ∀ n, IsN t n → c[n.toNat]? = some (cnt t.Links n) := fun n hn' => by
    rw [gc n hn', List.take_of_length_le (by omega)]
  refine has_bind (Reach_has ht hL.inl (cut := []) (by simp) (s := 0) ⟨by omega, by omega⟩) fun l hl => ?_
  obtain ⟨hll, hlr⟩ := hl
  refine has_loop (fun y : List Int × List Bool × Int => y.1 = c ∧ y.2.1 = l ∧ 0 ≤ y.2.2 ∧ y.2.2 ≤ t.Nodes ∧ ∀ n : Int, 0 ≤ n → n < y.2.2 → Rch t [] 0 n ∧ (Seen t.Station n → 1 ≤ cnt t.Links n ∧ cnt t.Links n ≤ 2)) (fun y => (t.Nodes - y.2.2).toNat) (fun y hy => by omega) ⟨rfl, rfl, by simp, by simp only; omega, fun n hn hs => by simp only at hs; omega⟩ ?_
  rintro ⟨c', l', k⟩ rec2 ⟨k0, k1, k2, k3, k4⟩ ih2
  simp only at k0 k1 k2 k3 k4
  subst k0 k1
  unfold m_isochronref16_Right_l2
  simp only [decide_eq_true_eq]
  refine has_ite (fun hk => ?_) (fun hk => ?_)
  · have hkn : IsN t k := ⟨k2, hk⟩
    refine has_idx k2 (by first | omega | (simp only; omega)) fun b hb => ?_
    have hb := seen_get k2 hb
    refine has_join (fun s : List Int × Bool => s.1 = c' ∧ (s.2 = true ↔ ¬ (Rch t [] 0 k ∧ (Seen t.Station k → 1 ≤ cnt t.Links k ∧ cnt t.Links k ≤ 2)))) (fun s hs => ?_) (fun j hj => ?_)
    · obtain ⟨s1, s2⟩ := s
      obtain ⟨hs1, hs2⟩ := hs
      simp only at hs1 hs2
      subst hs1
      refine has_ite (fun h => has_ok ?_) (fun h => ?_)
      · exact bad (fun hf => ⟨hf.whole k hkn, hf.stations k hkn⟩) (hs2.1 h)
      · have h := Classical.not_not.1 fun hh => h (hs2.2 hh)
        rw [w64_id (by first | omega | (simp only; omega)) (by first | omega | (simp only; omega))]
        refine ih2 _ ⟨rfl, rfl, by simp only; omega, by simp only; omega, fun n hn0 hn1 => ?_⟩ (by simp only; omega)
        simp only at hn1
        by_cases hnk : n < k
        · exact k4 n hn0 hnk
        · have : n = k := by omega
          subst this
          exact h
    · refine has_ite (fun h => hj _ ⟨rfl, ?_⟩) (fun h => ?_)
      · have h : b = false := by simpa using h
        have : ¬ Rch t [] 0 k := fun hh => by rw [hb.1 ((hlr k).2 hh)] at h; cases h
        simp [this]
      · have h : b = true := by simpa using h
        have hr : Rch t [] 0 k := (hlr k).1 (hb.2 h)
        refine has_idx k2 (by first | omega | (simp only; omega)) fun sb hsb => ?_
        have hsb := seen_get k2 hsb
        refine has_ite (fun h1 => ?_) (fun h1 => hj _ ⟨rfl, ?_⟩)
        · have h1 := hsb.2 h1
          refine has_beq (idx_ok.2 ⟨k2, hc k hkn⟩) ?_
          refine has_ite (fun h2 => hj _ ⟨rfl, ?_⟩) (fun h2 => ?_)
          · simp only [true_iff]; exact fun hh => by have := hh.2 h1; omega
          · refine has_beq (idx_ok.2 ⟨k2, hc k hkn⟩) (hj _ ⟨rfl, ?_⟩)
            simp only [decide_eq_true_eq]
            exact ⟨fun h3 hh => by have := hh.2 h1; omega, fun hh => Decidable.byContradiction fun h3 => hh ⟨hr, fun _ => by omega⟩⟩
        · have : ¬ Seen t.Station k := fun hh => h1 (hsb.1 hh)
          simp [this, hr]
  · refine has_ok ⟨fun _ => ⟨ht, hL, fun n hn' hs => (k4 n hn'.1 (by have := hn'.2; omega)).2 hs, fun n hn' => (k4 n hn'.1 (by have := hn'.2; omega)).1⟩, fun _ => rfl⟩
end Go.AM.P16
namespace Go.AM.P16
open Go
theorem Check_fit {t : ApiTopo} (h : Fit t) : m_topo_Check t = .ok 0 := by
  obtain ⟨r, h1, h2⟩ := Check_has t
  rcases h2 with ⟨_, rfl⟩ | ⟨h2, _⟩
  · exact h1
  · exact absurd h h2
theorem Check_unfit {t : ApiTopo} (h : ¬ Fit t) : m_topo_Check t = .ok 260 := by
  obtain ⟨r, h1, h2⟩ := Check_has t
  rcases h2 with ⟨h2, rfl⟩ | ⟨h2, rfl⟩
  · exact absurd h2 h
  · exact h1
theorem Right_fit {t : ApiTopo} (h : Fit t) : m_isochronref16_Right t = .ok true := by
  obtain ⟨r, h1, h2⟩ := Right_has t
  rw [h1, h2.2 h]
theorem Right_unfit {t : ApiTopo} (h : ¬ Fit t) : m_isochronref16_Right t = .ok false := by
  obtain ⟨r, h1, h2⟩ := Right_has t
  rw [h1]
  cases hr : r with
  | true => exact absurd (h2.1 hr) h
  | false => rfl
end Go.AM.P16
namespace Go.AM.P16
open Go
/-! ### Rows that are alike -/
theorem equal_bool {a b : List Bool} (ha : a.length < 1000000) : m_slices_Equal_bool_bool a b = .ok (decide (a = b)) := by
  refine Has.eq ?_
  unfold m_slices_Equal_bool_bool
  simp only [decide_eq_true_eq, ne_eq]
  refine has_ite (fun h => has_ok ?_) (fun h => ?_)
  · have : a ≠ b := fun e => h (by rw [e])
    simp [this]
  refine has_loop (fun i : Int => 0 ≤ i ∧ i ≤ a.length ∧ ∀ j : Nat, (j : Int) < i → a[j]? = b[j]?) (fun i => ((a.length : Int) - i).toNat) (fun y hy => by omega) ⟨by omega, by omega, fun j hj => by omega⟩ ?_
  rintro i rec ⟨h0, h1, h2⟩ ih
  unfold m_slices_Equal_bool_bool_l1
  simp only [decide_eq_true_eq]
  refine has_ite (fun hi => ?_) (fun hi => ?_)
  · refine has_idx h0 hi fun x hx => ?_
    refine has_idx h0 (by omega) fun y hy => ?_
    refine has_ite (fun he => has_ok ?_) (fun he => ?_)
    · have : a ≠ b := fun e => by
        rw [e, hy] at hx; cases hx; simp at he
      simp [this]
    · have he : x = y := by simpa using he
      rw [w64_id (by omega) (by omega)]
      refine ih _ ⟨by omega, by omega, fun j hj => ?_⟩ (by omega)
      by_cases hji : (j : Int) < i
      · exact h2 j hji
      · have : j = i.toNat := by omega
        rw [this, hx, hy, he]
  · refine has_ok ?_
    have : a = b := List.ext_getElem? fun j => by
      by_cases hj : j < a.length
      · exact h2 j (by omega)
      · rw [List.getElem?_eq_none (by omega), List.getElem?_eq_none (by omega)]
    simp [this]
theorem equal_int {a b : List Int} (ha : a.length < 1000000) : m_slices_Equal_int_int a b = .ok (decide (a = b)) := by
  refine Has.eq ?_
  unfold m_slices_Equal_int_int
  simp only [decide_eq_true_eq, ne_eq]
  refine has_ite (fun h => has_ok ?_) (fun h => ?_)
  · have : a ≠ b := fun e => h (by rw [e])
    simp [this]
  refine has_loop (fun i : Int => 0 ≤ i ∧ i ≤ a.length ∧ ∀ j : Nat, (j : Int) < i → a[j]? = b[j]?) (fun i => ((a.length : Int) - i).toNat) (fun y hy => by omega) ⟨by omega, by omega, fun j hj => by omega⟩ ?_
  rintro i rec ⟨h0, h1, h2⟩ ih
  unfold m_slices_Equal_int_int_l1
  simp only [decide_eq_true_eq, ne_eq]
  refine has_ite (fun hi => ?_) (fun hi => ?_)
  · refine has_idx h0 hi fun x hx => ?_
    refine has_idx h0 (by omega) fun y hy => ?_
    refine has_ite (fun he => has_ok ?_) (fun he => ?_)
    · have : a ≠ b := fun e => by
        rw [e, hy] at hx; cases hx; simp at he
      simp [this]
    · have he : x = y := by simpa using he
      rw [w64_id (by omega) (by omega)]
      refine ih _ ⟨by omega, by omega, fun j hj => ?_⟩ (by omega)
      by_cases hji : (j : Int) < i
      · exact h2 j hji
      · have : j = i.toNat := by omega
        rw [this, hx, hy, he]
  · refine has_ok ?_
    have : a = b := List.ext_getElem? fun j => by
      by_cases hj : j < a.length
      · exact h2 j (by omega)
      · rw [List.getElem?_eq_none (by omega), List.getElem?_eq_none (by omega)]
    simp [this]

end Go.AM.P16
namespace Go.AM.P16
open Go
theorem IsReach.unique {t : ApiTopo} {cut : List Int} {s : Int} {a b : List Bool} (ha : IsReach t cut s a) (hb : IsReach t cut s b) : a = b := by
  have hl : a.length = b.length := by have := ha.1; have := hb.1; omega
  refine List.ext_getElem? fun j => ?_
  by_cases hj : j < a.length
  · have h1 : a[j]? = some a[j] := List.getElem?_eq_getElem hj
    have h2 : b[j]? = some b[j] := List.getElem?_eq_getElem (by omega)
    have e1 := seen_get (l := a) (i := (j : Int)) (b := a[j]) (by omega) h1
    have e2 := seen_get (l := b) (i := (j : Int)) (b := b[j]) (by omega) h2
    rw [ha.2] at e1
    rw [hb.2, e1] at e2
    rw [h1, h2]
    cases hx : a[j] <;> cases hy : b[j] <;> simp_all
  · rw [List.getElem?_eq_none (by omega), List.getElem?_eq_none (by omega)]
def Off (t : ApiTopo) (v : Int) : Prop := v < 0 ∨ (t.Links.length : Int) ≤ v
theorem off_dec {t : ApiTopo} {v : Int} : ((decide (v < 0)) || (decide ((t.Links.length : Int) ≤ v))) = true ↔ Off t v := by
  simp [Off]
theorem topoReach_has {t : ApiTopo} (hf : Fit t) {n : Int} {cut : List Int} (hc : cut.length < 1000000) : Has (m_topo_Reach t n cut) (fun r => ((IsN t n ∧ ∀ v ∈ cut, ¬ Off t v) ∧ r.2 = 0 ∧ IsReach t cut n r.1) ∨ (¬ (IsN t n ∧ ∀ v ∈ cut, ¬ Off t v) ∧ r = ([], 2))) := by
  unfold m_topo_Reach
  refine has_beq (Check_fit hf) ?_
  refine has_ite (fun h => by simp at h) (fun _ => ?_)
  refine has_beq (isNode_ok t n) ?_
  refine has_join (fun s => (s = true ↔ ¬ (IsN t n ∧ ∀ v ∈ cut, ¬ Off t v))) (fun s hs => ?_) (fun j hj => ?_)
  · refine has_ite (fun h => has_ok ?_) (fun h => ?_)
    · exact .inr ⟨hs.1 h, rfl⟩
    · have hg : IsN t n ∧ ∀ v ∈ cut, ¬ Off t v := Classical.not_not.1 fun hh => h (hs.2 hh)
      refine has_bind (reach_has hf.small hf.links.inl hc hg.1) fun l hl => has_ok ?_
      exact .inl ⟨hg, rfl, hl⟩
  · refine has_ite (fun h => hj _ ?_) (fun h => ?_)
    · have : ¬ IsN t n := by simpa using h
      simp [this]
    · have hn : IsN t n := by simpa using h
      refine has_loop (fun i : Int => 0 ≤ i ∧ i ≤ cut.length ∧ ∀ (q : Nat) (v : Int), (q : Int) < i → cut[q]? = some v → ¬ Off t v) (fun i => ((cut.length : Int) - i).toNat) (fun y hy => by omega) ⟨by omega, by omega, fun q v hq => by omega⟩ ?_
      rintro i rec ⟨h0, h1, h2⟩ ih
      unfold m_topo_Reach_l1
      refine has_ite (fun hi => ?_) (fun hi => hj _ ?_)
      · have hi : i < cut.length := of_decide_eq_true hi
        refine has_idx h0 hi fun v hv => ?_
        refine has_sh ?_
        refine has_ite (fun h => hj _ ?_) (fun h => ?_)
        · have ho := off_dec.1 h
          simp only [h0, decide_true, true_iff]
          exact fun hh => hh.2 v (List.mem_of_getElem? hv) ho
        · have ho : ¬ Off t v := fun hh => h (off_dec.2 hh)
          rw [w64_id (by omega) (by omega)]
          refine ih _ ⟨by omega, by omega, fun q u hq hu => ?_⟩ (by omega)
          by_cases hqi : (q : Int) < i
          · exact h2 q u hqi hu
          · have : q = i.toNat := by omega
            rw [this, hv] at hu; cases hu; exact ho
      · have hi : ¬ i < cut.length := fun hh => hi (decide_eq_true hh)
        simp only [Bool.false_eq_true, false_iff, Classical.not_not]
        refine ⟨hn, fun v hv => ?_⟩
        obtain ⟨q, hq⟩ := List.mem_iff_getElem?.1 hv
        have := (List.getElem?_eq_some_iff.1 hq).1
        exact h2 q v (by omega) hq
theorem topoReach_unfit {t : ApiTopo} (hf : ¬ Fit t) (n : Int) (cut : List Int) : m_topo_Reach t n cut = .ok ([], 260) := by
  unfold m_topo_Reach; rw [Check_unfit hf]; rfl
end Go.AM.P16
namespace Go.AM.P16
open Go
/-! ### Topologies that a draft describes -/
theorem inR_u8 {n : Int} : inR .u8 n ↔ 0 ≤ n ∧ n ≤ 255 := by
  unfold inR
  have h1 : IntKind.u8.min = 0 := by decide
  have h2 : IntKind.u8.max = 255 := by decide
  rw [h1, h2]
theorem pick_has {l : List Int} (hl : ∀ v ∈ l, inR .u8 v) {i : Int} (h0 : 0 ≤ i) : Has (m_isochronref16_pick l i) (fun r => 0 ≤ r ∧ r ≤ 255) := by
  unfold m_isochronref16_pick
  refine has_ite (fun h => ?_) (fun h => has_ok ⟨by omega, by omega⟩)
  refine has_idx h0 (of_decide_eq_true h) fun v hv => has_ok ?_
  have := inR_u8.1 (hl v (List.mem_of_getElem? hv))
  rw [w64_id (by omega) (by omega)]
  exact this
structure Sized (t : ApiTopo) : Prop where
  n : 2 ≤ t.Nodes ∧ t.Nodes ≤ 12
  s : (t.Station.length : Int) = t.Nodes
def WithIs (t : ApiTopo) (a b : Int) (u : ApiTopo) : Prop :=
  ∃ l : ApiLink, l.A = a ∧ l.B = b ∧ (1 ≤ l.Per ∧ l.Per ≤ 20) ∧ (0 ≤ l.Delay ∧ l.Delay < 50) ∧
    ((u = t ∧ (t.Links.length < 24 → LinkOk t l → ∃ (i : Nat) (f : ApiLink), t.Links[i]? = some f ∧ Joins f a b)) ∨
     (u = { t with Links := t.Links ++ [l] } ∧ t.Links.length < 24 ∧ LinkOk t l ∧ ∀ (i : Nat) (f : ApiLink), t.Links[i]? = some f → ¬ Joins f a b))
theorem with_has {d : Isochronref16Draft} (hP : ∀ v ∈ d.Pers, inR .u8 v) (hD : ∀ v ∈ d.Delays, inR .u8 v) {t : ApiTopo} (hs : Sized t) (hl : t.Links.length ≤ 24) (a b : Int) :
    Has (m_isochronref16_Draft_with d t a b) (WithIs t a b) := by
  unfold m_isochronref16_Draft_with
  refine has_bind (pick_has hP (by omega)) fun p hp => ?_
  refine has_bind (pick_has hD (by omega)) fun q hq => ?_
  have hp1 : Int.tmod p 20 = p % 20 := Int.tmod_eq_emod_of_nonneg hp.1
  have hq1 : Int.tmod q 50 = q % 50 := Int.tmod_eq_emod_of_nonneg hq.1
  have hw : w64 (1 + Int.tmod p 20) = 1 + p % 20 := by rw [hp1, w64_id (by omega) (by omega)]
  unfold m_isochronref16_Draft_with_l1
  rw [hw, hq1]
  have hsm : Small t := ⟨hs.n, hs.s, hl⟩
  refine has_join (fun s => (s = true ↔ t.Links.length = 24 ∨ ¬ LinkOk t ⟨a, b, 1 + p % 20, q % 50⟩)) (fun s hs1 => ?_) (fun j hj => ?_)
  · refine has_ite (fun h => has_ok ?_) (fun h => ?_)
    · refine ⟨⟨a, b, 1 + p % 20, q % 50⟩, rfl, rfl, by simp only; omega, by simp only; omega, .inl ⟨rfl, fun h24 hok => ?_⟩⟩
      rcases hs1.1 h with h1 | h1
      · omega
      · exact absurd hok h1
    · have hno : ¬ (t.Links.length = 24 ∨ ¬ LinkOk t ⟨a, b, 1 + p % 20, q % 50⟩) := fun hh => h (hs1.2 hh)
      have h24 : t.Links.length < 24 := by
        have : t.Links.length ≠ 24 := fun hh => hno (.inl hh)
        omega
      have hok : LinkOk t ⟨a, b, 1 + p % 20, q % 50⟩ := Classical.not_not.1 fun hh => hno (.inr hh)
      refine has_loop (fun y : Int × List ApiLink => y.2 = t.Links ∧ 0 ≤ y.1 ∧ y.1 ≤ t.Links.length ∧ ∀ (i : Nat) (f : ApiLink), (i : Int) < y.1 → t.Links[i]? = some f → ¬ Joins f a b) (fun y => ((t.Links.length : Int) - y.1).toNat) (fun y hy => by omega) ⟨rfl, by simp, by simp, fun i f hi => by simp at hi; omega⟩ ?_
      rintro ⟨i, ls⟩ rec ⟨h0, h1, h2, h3⟩ ih
      simp only at h0 h1 h2 h3
      subst h0
      refine has_ite (fun hi => ?_) (fun hi => ?_)
      · have hi : i < t.Links.length := of_decide_eq_true hi
        refine has_idx h1 hi fun f hf => ?_
        refine has_bind (joins_ok f a b) fun r hr => ?_
        refine has_ite (fun hrt => has_ok ?_) (fun hrf => ?_)
        · exact ⟨⟨a, b, 1 + p % 20, q % 50⟩, rfl, rfl, by simp only; omega, by simp only; omega, .inl ⟨rfl, fun _ _ => ⟨i.toNat, f, hf, hr.1 hrt⟩⟩⟩
        · rw [w64_id (n := i + 1) (by omega) (by omega)]
          refine ih _ ⟨rfl, by simp only; omega, by simp only; omega, fun k g hk hg => ?_⟩ (by simp only; omega)
          simp only at hk
          by_cases hki : (k : Int) < i
          · exact h3 k g hki hg
          · have : k = i.toNat := by omega
            rw [this, hf] at hg; cases hg
            exact fun hh => hrf (hr.2 hh)
      · have hi : ¬ i < t.Links.length := fun hh => hi (decide_eq_true hh)
        refine has_must (by unfold okLen; rw [Nat.ble_eq]; simp only [List.length_cons, List.length_nil]; omega) (has_ok ?_)
        exact ⟨⟨a, b, 1 + p % 20, q % 50⟩, rfl, rfl, by simp only; omega, by simp only; omega, .inr ⟨rfl, h24, hok, fun k g hg => h3 k g (by have := (List.getElem?_eq_some_iff.1 hg).1; omega) hg⟩⟩
  · refine has_ite (fun h => hj _ ?_) (fun h => ?_)
    · have : (t.Links.length : Int) = 24 := of_decide_eq_true h
      simp only [true_iff]; exact .inl (by omega)
    · have hne : t.Links.length ≠ 24 := fun hh => h (decide_eq_true (by omega))
      refine has_bind (link_has hsm _) fun r hr => hj _ ?_
      cases r with
      | true => simp only [Bool.not_true, Bool.false_eq_true, false_iff, not_or, Classical.not_not]; exact ⟨hne, hr.1 rfl⟩
      | false => simp only [Bool.not_false, true_iff]; exact .inr fun hh => by have := hr.2 hh; cases this
end Go.AM.P16
namespace Go.AM.P16
open Go
theorem Joins.ends {f : ApiLink} {a b : Int} (h : Joins f a b) : 1 ≤ ends f a ∧ 1 ≤ ends f b := by
  unfold P16.ends
  rcases h with ⟨h1, h2⟩ | ⟨h1, h2⟩
  · simp only [h1, h2, if_true]; constructor <;> (split <;> omega)
  · simp only [h1, h2, if_true]; constructor <;> (split <;> omega)
theorem cnt_append (ls ms : List ApiLink) (n : Int) : cnt (ls ++ ms) n = cnt ls n + cnt ms n := by
  simp [cnt, List.map_append, List.sum_append]
theorem cnt_pos {ls : List ApiLink} {i : Nat} {f : ApiLink} {n : Int} (h : ls[i]? = some f) (he : 1 ≤ ends f n) : 1 ≤ cnt ls n := by
  obtain ⟨hlt, hg⟩ := List.getElem?_eq_some_iff.1 h
  have h1 : ls = ls.take i ++ (f :: ls.drop (i + 1)) := by
    rw [← hg, List.getElem_cons_drop, List.take_append_drop]
  rw [h1, cnt_append]
  have h2 := cnt_range (ls.take i) n
  have h3 := cnt_range (ls.drop (i + 1)) n
  have h4 : cnt (f :: ls.drop (i + 1)) n = ends f n + cnt (ls.drop (i + 1)) n := by simp [cnt]
  omega
theorem Rch.links {t u : ApiTopo} {s x : Int} (hsub : ∀ (i : Nat) (e : ApiLink), t.Links[i]? = some e → ∃ j : Nat, u.Links[j]? = some e) (h : Rch t [] s x) : Rch u [] s x := by
  induction h with
  | base => exact .base
  | fwd h1 _ _ ih => obtain ⟨j, hj⟩ := hsub _ _ h1; exact .fwd hj (by simp) ih
  | bwd h1 _ _ ih => obtain ⟨j, hj⟩ := hsub _ _ h1; exact .bwd hj (by simp) ih
theorem Rch.step {t : ApiTopo} {cut : List Int} {s a b : Int} {i : Nat} {f : ApiLink} (h : t.Links[i]? = some f) (hc : (i : Int) ∉ cut) (hj : Joins f a b) : (Rch t cut s a ↔ Rch t cut s b) := by
  rcases hj with ⟨rfl, rfl⟩ | ⟨rfl, rfl⟩
  · exact ⟨fun hh => .fwd h hc hh, fun hh => .bwd h hc hh⟩
  · exact ⟨fun hh => .bwd h hc hh, fun hh => .fwd h hc hh⟩
/-- What stands while a draft is laid out: b bridges, s stations. -/
structure Lay (b s : Int) (t : ApiTopo) : Prop where
  n : t.Nodes = b + s
  sized : Sized t
  st : ∀ n, Seen t.Station n ↔ b ≤ n ∧ n < b + s
  links : LinksOk t
theorem LinkOk.congr {t u : ApiTopo} (h1 : t.Nodes = u.Nodes) (h2 : t.Station = u.Station) {e : ApiLink} (h : LinkOk t e) : LinkOk u e :=
  ⟨by have := h.a; unfold IsN at *; rw [← h1]; exact this, by have := h.b; unfold IsN at *; rw [← h1]; exact this, h.ne, by rw [← h2]; exact h.st, h.per, h.delay⟩
/-- One link more: what changes. -/
structure More (t u : ApiTopo) (a b : Int) : Prop where
  nodes : u.Nodes = t.Nodes
  station : u.Station = t.Station
  sub : ∀ (i : Nat) (e : ApiLink), t.Links[i]? = some e → u.Links[i]? = some e
  len : t.Links.length ≤ u.Links.length ∧ u.Links.length ≤ t.Links.length + 1 ∧ u.Links.length ≤ 24
  cnt : ∀ n, P16.cnt t.Links n ≤ P16.cnt u.Links n ∧ (n ≠ a → n ≠ b → P16.cnt u.Links n = P16.cnt t.Links n) ∧ (a ≠ b → P16.cnt u.Links n ≤ P16.cnt t.Links n + 1)
  new : ∀ (i : Nat) (e : ApiLink), u.Links[i]? = some e → t.Links[i]? = some e ∨ (e.A = a ∧ e.B = b)
theorem WithIs.more {t u : ApiTopo} {a b : Int} (h : WithIs t a b u) (hl : t.Links.length ≤ 24) : More t u a b := by
  obtain ⟨l, rfl, rfl, hp, hd, h⟩ := h
  rcases h with ⟨rfl, _⟩ | ⟨rfl, h24, hok, hno⟩
  · exact ⟨rfl, rfl, fun _ _ h => h, ⟨Nat.le_refl _, by omega, hl⟩, fun n => ⟨Int.le_refl _, fun _ _ => rfl, fun _ => by omega⟩, fun _ _ h => .inl h⟩
  · refine ⟨rfl, rfl, fun i e h => ?_, ⟨by simp, by simp, by simp; omega⟩, fun n => ?_, fun i e h => ?_⟩
    · simp only
      rw [List.getElem?_append_left (List.getElem?_eq_some_iff.1 h).1]; exact h
    · have hc : P16.cnt (t.Links ++ [l]) n = P16.cnt t.Links n + ends l n := by rw [cnt_append]; simp [P16.cnt]
      have := ends_range l n
      simp only
      rw [hc]
      refine ⟨by omega, fun h1 h2 => ?_, fun hne => ?_⟩
      · unfold P16.ends; rw [if_neg (fun e => h1 e.symm), if_neg (fun e => h2 e.symm)]; omega
      · unfold P16.ends; split <;> split <;> omega
    · simp only at h
      by_cases hi : i < t.Links.length
      · rw [List.getElem?_append_left hi] at h; exact .inl h
      · rw [List.getElem?_append_right (by omega)] at h
        rcases hx : i - t.Links.length with _ | k
        · rw [hx] at h; cases h; exact .inr ⟨rfl, rfl⟩
        · rw [hx] at h; simp at h
theorem WithIs.lay {b' s' : Int} {t u : ApiTopo} {a b : Int} (h : WithIs t a b u) (hL : Lay b' s' t) : Lay b' s' u := by
  obtain ⟨l, rfl, rfl, hp, hd, h⟩ := h
  rcases h with ⟨rfl, _⟩ | ⟨rfl, h24, hok, hno⟩
  · exact hL
  · refine ⟨hL.n, ⟨hL.sized.n, hL.sized.s⟩, hL.st, fun i e he => ?_⟩
    simp only at he
    by_cases hi : i < t.Links.length
    · rw [List.getElem?_append_left hi] at he
      obtain ⟨h1, h2⟩ := hL.links _ _ he
      refine ⟨LinkOk.congr (t := t) (u := { t with Links := t.Links ++ [l] }) rfl rfl h1, fun j f hj hf => h2 j f hj ?_⟩
      simp only at hf
      rwa [List.getElem?_append_left (by omega)] at hf
    · rw [List.getElem?_append_right (by omega)] at he
      rcases hx : i - t.Links.length with _ | k
      · rw [hx] at he; cases he
        refine ⟨LinkOk.congr (t := t) (u := { t with Links := t.Links ++ [l] }) rfl rfl hok, fun j f hj hf => ?_⟩
        simp only at hf
        rw [List.getElem?_append_left (by omega)] at hf
        exact hno j f hf
      · rw [hx] at he; simp at he
/-- A link that may be is there afterwards. -/
theorem WithIs.there {t u : ApiTopo} {a b : Int} (h : WithIs t a b u) (hl : t.Links.length < 24) (ha : IsN t a) (hb : IsN t b) (hne : a ≠ b) (hst : ¬ (Seen t.Station a ∧ Seen t.Station b)) : ∃ (i : Nat) (f : ApiLink), u.Links[i]? = some f ∧ Joins f a b := by
  obtain ⟨l, rfl, rfl, hp, hd, h⟩ := h
  have hok : LinkOk t l := ⟨ha, hb, hne, hst, by omega, by omega⟩
  rcases h with ⟨rfl, h⟩ | ⟨rfl, h24, _, hno⟩
  · exact h hl hok
  · exact ⟨t.Links.length, l, by simp, .inl ⟨rfl, rfl⟩⟩
end Go.AM.P16
namespace Go.AM.P16
open Go
structure Draws (d : Isochronref16Draft) : Prop where
  br : inR .u8 d.Bridges
  sts : inR .u8 d.Stations
  ch : ∀ v ∈ d.Chords, inR .u8 v
  ho : ∀ v ∈ d.Homes, inR .u8 v
  pe : ∀ v ∈ d.Pers, inR .u8 v
  de : ∀ v ∈ d.Delays, inR .u8 v
def Drawn (t : ApiTopo) : Prop := Fit t ∧ 0 < t.Links.length
/-- All bridges and stations are joined; c: how many links a station may have. -/
structure Done (b s : Int) (t : ApiTopo) (c : Int → Int) : Prop where
  lay : Lay b s t
  len : 0 < t.Links.length ∧ t.Links.length ≤ 24
  whole : ∀ n, IsN t n → Rch t [] 0 n
  cnt : ∀ n, b ≤ n → n < b + s → 1 ≤ P16.cnt t.Links n ∧ P16.cnt t.Links n ≤ c n
theorem Done.drawn {b s : Int} {t : ApiTopo} {c : Int → Int} (h : Done b s t c) (hc : ∀ n, b ≤ n → n < b + s → c n ≤ 2) : Drawn t :=
  ⟨⟨⟨h.lay.sized.n, h.lay.sized.s, h.len.2⟩, h.lay.links, fun n hn hs => by
    obtain ⟨h1, h2⟩ := (h.lay.st n).1 hs
    have := h.cnt n h1 h2
    have := hc n h1 h2
    omega, h.whole⟩, h.len.1⟩
theorem Done.more {b s : Int} {t u : ApiTopo} {c : Int → Int} {x y : Int} (h : Done b s t c) (hw : WithIs t x y u) (c' : Int → Int)
    (hc : ∀ n, b ≤ n → n < b + s → c n ≤ c' n ∧ ((n = x ∨ n = y) → x ≠ y ∧ c n + 1 ≤ c' n)) : Done b s u c' := by
  have m := hw.more h.len.2
  refine ⟨hw.lay h.lay, ⟨by have := h.len.1; have := m.len.1; omega, m.len.2.2⟩, fun n hn => ?_, fun n h1 h2 => ?_⟩
  · have : IsN t n := by unfold IsN at *; rw [← m.nodes]; exact hn
    exact (h.whole n this).links fun i e he => ⟨i, m.sub i e he⟩
  · have h3 := h.cnt n h1 h2
    have h4 := m.cnt n
    have h5 := hc n h1 h2
    refine ⟨by omega, ?_⟩
    by_cases hx : n = x ∨ n = y
    · have := h4.2.2 (h5.2 hx).1
      have := (h5.2 hx).2
      omega
    · have := h4.2.1 (fun e => hx (.inl e)) (fun e => hx (.inr e))
      omega
section
variable {d : Isochronref16Draft} {b s : Int}
theorem chords_has (D : Draws d) (hb : w64 (1 + w64 (Int.tmod d.Bridges 6)) = b) (hb0 : 1 ≤ b ∧ b ≤ 6) {t : ApiTopo} (h : Done b s t fun _ => 2) :
    Has (loopM (m_isochronref16_Draft_Topo_l1 d) LL (0, t.Nodes, t.Station, t.Links)) Drawn := by
  refine has_loop (fun y : Int × Int × List Bool × List ApiLink => 0 ≤ y.1 ∧ y.1 ≤ 20 ∧ Done b s ⟨y.2.1, y.2.2.1, y.2.2.2⟩ fun _ => 2) (fun y => (20 - y.1).toNat) (fun y hy => by omega) ⟨by simp, by simp, h⟩ ?_
  rintro ⟨i, N, st, ls⟩ rec ⟨h0, h1, h2⟩ ih
  simp only at h0 h1 h2
  unfold m_isochronref16_Draft_Topo_l1
  simp only [hb]
  refine has_sh ?_
  refine has_ite (fun hc => ?_) (fun hc => has_ok (h2.drawn fun _ _ _ => by omega))
  · obtain ⟨hc1, hc2⟩ := Bool.and_eq_true_iff.1 hc
    have hc1 := of_decide_eq_true hc1
    have hc2 := of_decide_eq_true hc2
    rw [w64_id (n := i + 1) (by omega) (by omega)] at hc1
    refine has_idx h0 (by omega) fun v hv => ?_
    refine has_must (by simp only [decide_eq_true_eq]; omega) ?_
    rw [w64_id (n := i + 1) (by omega) (by omega)]
    refine has_idx (by omega) hc1 fun w hw => ?_
    refine has_must (by simp only [decide_eq_true_eq]; omega) ?_
    have hv1 := inR_u8.1 (D.ch v (List.mem_of_getElem? hv))
    have hw1 := inR_u8.1 (D.ch w (List.mem_of_getElem? hw))
    rw [w64_id (n := v) (by omega) (by omega), w64_id (n := w) (by omega) (by omega), Int.tmod_eq_emod_of_nonneg hv1.1, Int.tmod_eq_emod_of_nonneg hw1.1]
    have e1 := Int.emod_nonneg v (show b ≠ 0 by omega)
    have e2 := Int.emod_lt_of_pos v (show 0 < b by omega)
    have e3 := Int.emod_nonneg w (show b ≠ 0 by omega)
    have e4 := Int.emod_lt_of_pos w (show 0 < b by omega)
    refine has_bind (with_has D.pe D.de h2.lay.sized h2.len.2 _ _) fun u hu => ?_
    rw [w64_id (n := i + 2) (by omega) (by omega)]
    refine ih _ ⟨by simp only; omega, by simp only; omega, ?_⟩ (by simp only; omega)
    exact h2.more hu _ fun n hn1 hn2 => ⟨Int.le_refl _, fun hx => by omega⟩
theorem seconds_has (D : Draws d) (hb : w64 (1 + w64 (Int.tmod d.Bridges 6)) = b) (hs : w64 (2 + w64 (Int.tmod d.Stations 5)) = s) (hb0 : 1 ≤ b ∧ b ≤ 6) (hs0 : 2 ≤ s ∧ s ≤ 6) {t : ApiTopo} (h : Done b s t fun _ => 1) :
    Has (loopM (m_isochronref16_Draft_Topo_l2 d) LL (0, t.Nodes, t.Station, t.Links)) Drawn := by
  refine has_loop (fun y : Int × Int × List Bool × List ApiLink => 0 ≤ y.1 ∧ y.1 ≤ s ∧ Done b s ⟨y.2.1, y.2.2.1, y.2.2.2⟩ fun n => if n < b + y.1 then 2 else 1) (fun y => (s - y.1).toNat) (fun y hy => by omega) ⟨by simp, by simp only; omega, ?_⟩ ?_
  · refine ⟨h.lay, h.len, h.whole, fun n h1 h2 => ?_⟩
    have := h.cnt n h1 h2
    simp only
    rw [if_neg (by omega)]; exact this
  rintro ⟨k, N, st, ls⟩ rec ⟨h0, h1, h2⟩ ih
  simp only at h0 h1 h2
  unfold m_isochronref16_Draft_Topo_l2
  simp only [hb, hs]
  refine has_ite (fun hk => ?_) (fun hk => ?_)
  · have hk := of_decide_eq_true hk
    rw [w64_id (n := 2 * k) (by omega) (by omega), w64_id (n := 2 * k + 1) (by omega) (by omega)]
    refine has_bind (pick_has D.ho (by omega)) fun p hp => ?_
    refine has_join (fun z : Int × List Bool × List ApiLink => Done b s ⟨z.1, z.2.1, z.2.2⟩ fun n => if n < b + (k + 1) then 2 else 1) (fun z hz => ?_) (fun j hj => ?_)
    · rw [w64_id (n := k + 1) (by omega) (by omega)]
      exact ih _ ⟨by simp only; omega, by simp only; omega, hz⟩ (by simp only; omega)
    · refine has_ite (fun _ => ?_) (fun _ => hj _ ?_)
      · refine has_bind (pick_has D.ho (by omega)) fun q hq => ?_
        refine has_must (by simp only [decide_eq_true_eq]; omega) ?_
        have e1 := Int.emod_nonneg q (show b ≠ 0 by omega)
        have e2 := Int.emod_lt_of_pos q (show 0 < b by omega)
        rw [Int.tmod_eq_emod_of_nonneg hq.1, w64_id (n := b + k) (by omega) (by omega)]
        refine has_bind (with_has D.pe D.de h2.lay.sized h2.len.2 _ _) fun u hu => hj _ ?_
        refine h2.more hu _ fun n hn1 hn2 => ⟨by split <;> split <;> omega, fun hx => ⟨by omega, ?_⟩⟩
        have hn : n = b + k := by omega
        rw [if_neg (by omega), if_pos (by omega)]; omega
      · refine ⟨h2.lay, h2.len, h2.whole, fun n hn1 hn2 => ?_⟩
        have := h2.cnt n hn1 hn2
        simp only at this ⊢
        refine ⟨this.1, ?_⟩
        have h3 := this.2
        split at h3 <;> split <;> omega
  · have hk : ¬ k < s := fun hh => hk (decide_eq_true hh)
    refine chords_has D hb hb0 (t := ⟨N, st, ls⟩) ⟨h2.lay, h2.len, h2.whole, fun n hn1 hn2 => ?_⟩
    have := h2.cnt n hn1 hn2
    rw [if_pos (by omega)] at this
    exact this
end
end Go.AM.P16
namespace Go.AM.P16
open Go
structure Part (b s k : Int) (t : ApiTopo) : Prop where
  lay : Lay b s t
  len : (t.Links.length : Int) ≤ b - 1 + k
  some_ : 0 < k → 0 < t.Links.length
  br : ∀ m, 0 ≤ m → m < b → Rch t [] 0 m
  done : ∀ n, b ≤ n → n < b + k → cnt t.Links n = 1 ∧ Rch t [] 0 n
  rest : ∀ n, b + k ≤ n → n < b + s → cnt t.Links n = 0
theorem More.rch {t u : ApiTopo} {a b : Int} (m : More t u a b) {x : Int} (h : Rch t [] 0 x) : Rch u [] 0 x := h.links fun i e he => ⟨i, m.sub i e he⟩
section
variable {d : Isochronref16Draft} {b s : Int}
theorem homes_has (D : Draws d) (hb : w64 (1 + w64 (Int.tmod d.Bridges 6)) = b) (hs : w64 (2 + w64 (Int.tmod d.Stations 5)) = s) (hb0 : 1 ≤ b ∧ b ≤ 6) (hs0 : 2 ≤ s ∧ s ≤ 6) {t : ApiTopo} (h : Part b s 0 t) :
    Has (loopM (m_isochronref16_Draft_Topo_l3 d) LL (0, t.Nodes, t.Station, t.Links)) Drawn := by
  refine has_loop (fun y : Int × Int × List Bool × List ApiLink => 0 ≤ y.1 ∧ y.1 ≤ s ∧ Part b s y.1 ⟨y.2.1, y.2.2.1, y.2.2.2⟩) (fun y => (s - y.1).toNat) (fun y hy => by omega) ⟨by simp, by simp only; omega, h⟩ ?_
  rintro ⟨k, N, st, ls⟩ rec ⟨h0, h1, h2⟩ ih
  simp only at h0 h1 h2
  unfold m_isochronref16_Draft_Topo_l3
  simp only [hb, hs]
  have hlen := h2.len
  simp only at hlen
  refine has_ite (fun hk => ?_) (fun hk => ?_)
  · have hk := of_decide_eq_true hk
    rw [w64_id (n := 2 * k) (by omega) (by omega)]
    refine has_bind (pick_has D.ho (by omega)) fun p hp => ?_
    refine has_must (by simp only [decide_eq_true_eq]; omega) ?_
    have e1 := Int.emod_nonneg p (show b ≠ 0 by omega)
    have e2 := Int.emod_lt_of_pos p (show 0 < b by omega)
    rw [Int.tmod_eq_emod_of_nonneg hp.1, w64_id (n := b + k) (by omega) (by omega)]
    refine has_bind (with_has D.pe D.de h2.lay.sized (by simp only; omega) _ _) fun u hu => ?_
    rw [w64_id (n := k + 1) (by omega) (by omega)]
    have hN : N = b + s := h2.lay.n
    have m := hu.more (by simp only; omega)
    have hnot : ¬ Seen st (p % b) := fun hh => by
      have := (h2.lay.st _).1 hh
      omega
    obtain ⟨i, f, hf, hj⟩ := hu.there (by simp only; omega) ⟨by omega, by simp only; omega⟩ ⟨e1, by simp only; omega⟩ (by omega) (fun hh => hnot hh.2)
    have hstep := Rch.step (t := u) (cut := []) (s := 0) hf (by simp) hj
    have hnew : Rch u [] 0 (b + k) := hstep.2 (m.rch (h2.br _ e1 e2))
    have hc1 := cnt_pos hf hj.ends.1
    have hc2 := (m.cnt (b + k)).2.2 (by omega)
    have hc3 := h2.rest (b + k) (by omega) (by omega)
    simp only at hc2 hc3
    have ml := m.len
    simp only at ml
    refine ih _ ⟨by simp only; omega, by simp only; omega, ⟨hu.lay h2.lay, by simp only; omega, fun _ => ?_, fun x hx0 hx1 => m.rch (h2.br x hx0 hx1), fun n hn0 hn1 => ?_, fun n hn0 hn1 => ?_⟩⟩ (by simp only; omega)
    · have := (List.getElem?_eq_some_iff.1 hf).1
      simp only; omega
    · by_cases hnk : n = b + k
      · subst hnk
        exact ⟨by simp only; omega, hnew⟩
      · have h3 := h2.done n hn0 (by simp only at hn1; omega)
        have h4 := (m.cnt n).2.1 hnk (by omega)
        exact ⟨by simp only at h3 h4 ⊢; omega, m.rch h3.2⟩
    · have h3 := h2.rest n (by simp only at hn0; omega) hn1
      have h4 := (m.cnt n).2.1 (by simp only at hn0; omega) (by simp only at hn0; omega)
      simp only at h3 h4 hn0 ⊢
      omega
  · have hk : ¬ k < s := fun hh => hk (decide_eq_true hh)
    have hks : k = s := by omega
    subst hks
    have hN : N = b + k := h2.lay.n
    have hdone : Done b k ⟨N, st, ls⟩ fun _ => 1 := ⟨h2.lay, ⟨h2.some_ (by omega), by simp only; omega⟩, fun n hn => by
      by_cases hnb : n < b
      · exact h2.br n hn.1 hnb
      · have := hn.2
        simp only at this
        exact (h2.done n (by omega) (by omega)).2, fun n h3 h4 => by have := (h2.done n h3 h4).1; omega⟩
    refine has_sh ?_
    refine has_join (fun z : Int × List Bool × List ApiLink => Done b k ⟨z.1, z.2.1, z.2.2⟩ fun _ => 1) (fun z hz => seconds_has D hb hs hb0 hs0 (t := ⟨z.1, z.2.1, z.2.2⟩) hz) (fun j hj => ?_)
    refine has_ite (fun hc => ?_) (fun _ => hj _ hdone)
    obtain ⟨hc1, _⟩ := Bool.and_eq_true_iff.1 hc
    have hc1 := of_decide_eq_true hc1
    refine has_bind (with_has D.pe D.de h2.lay.sized (by simp only; omega) _ _) fun u hu => hj _ ?_
    rw [w64_id (n := b - 1) (by omega) (by omega)] at hu
    exact hdone.more hu _ fun n hn1 hn2 => ⟨Int.le_refl _, fun hx => by omega⟩
structure Chain (b s n : Int) (t : ApiTopo) : Prop where
  lay : Lay b s t
  len : (t.Links.length : Int) ≤ n - 1
  br : ∀ m, 0 ≤ m → m < n → Rch t [] 0 m
  rest : ∀ x, b ≤ x → x < b + s → cnt t.Links x = 0
theorem chain_has (D : Draws d) (hb : w64 (1 + w64 (Int.tmod d.Bridges 6)) = b) (hs : w64 (2 + w64 (Int.tmod d.Stations 5)) = s) (hb0 : 1 ≤ b ∧ b ≤ 6) (hs0 : 2 ≤ s ∧ s ≤ 6) {t : ApiTopo} (h : Chain b s 1 t) :
    Has (loopM (m_isochronref16_Draft_Topo_l4 d) LL (1, t.Nodes, t.Station, t.Links)) Drawn := by
  refine has_loop (fun y : Int × Int × List Bool × List ApiLink => 1 ≤ y.1 ∧ y.1 ≤ b ∧ Chain b s y.1 ⟨y.2.1, y.2.2.1, y.2.2.2⟩) (fun y => (b - y.1).toNat) (fun y hy => by omega) ⟨by simp, by simp only; omega, h⟩ ?_
  rintro ⟨k, N, st, ls⟩ rec ⟨h0, h1, h2⟩ ih
  simp only at h0 h1 h2
  unfold m_isochronref16_Draft_Topo_l4
  simp only [hb, hs]
  have hlen := h2.len
  simp only at hlen
  have hN : N = b + s := h2.lay.n
  refine has_ite (fun hk => ?_) (fun hk => ?_)
  · have hk := of_decide_eq_true hk
    rw [w64_id (n := k - 1) (by omega) (by omega)]
    refine has_bind (with_has D.pe D.de h2.lay.sized (by simp only; omega) _ _) fun u hu => ?_
    rw [w64_id (n := k + 1) (by omega) (by omega)]
    have m := hu.more (by simp only; omega)
    have hnot : ¬ Seen st k := fun hh => by
      have := (h2.lay.st _).1 hh
      omega
    obtain ⟨i, f, hf, hj⟩ := hu.there (by simp only; omega) ⟨by omega, by simp only; omega⟩ ⟨by omega, by simp only; omega⟩ (by omega) (fun hh => hnot hh.2)
    have hstep := Rch.step (t := u) (cut := []) (s := 0) hf (by simp) hj
    have ml := m.len
    simp only at ml
    refine ih _ ⟨by simp only; omega, by simp only; omega, ⟨hu.lay h2.lay, by simp only; omega, fun x hx0 hx1 => ?_, fun x hx0 hx1 => ?_⟩⟩ (by simp only; omega)
    · simp only at hx1
      by_cases hxk : x = k
      · rw [hxk]; exact hstep.1 (m.rch (h2.br _ (by omega) (by omega)))
      · exact m.rch (h2.br x hx0 (by omega))
    · have h3 := h2.rest x hx0 hx1
      have h4 := (m.cnt x).2.1 (by omega) (by omega)
      simp only at h3 h4 ⊢
      omega
  · have hk : ¬ k < b := fun hh => hk (decide_eq_true hh)
    have hkb : k = b := by omega
    subst hkb
    refine homes_has D hb hs hb0 hs0 (t := ⟨N, st, ls⟩) ⟨h2.lay, by simp only; omega, fun h => by omega, fun x hx0 hx1 => h2.br x hx0 hx1, fun n hn0 hn1 => by omega, fun n hn0 hn1 => h2.rest n (by omega) hn1⟩
end
theorem Topo_has {d : Isochronref16Draft} (D : Draws d) : Has (m_isochronref16_Draft_Topo d) Drawn := by
  have hB := inR_u8.1 D.br
  have hS := inR_u8.1 D.sts
  obtain ⟨b, hb, hb0⟩ : ∃ b, w64 (1 + w64 (Int.tmod d.Bridges 6)) = b ∧ 1 ≤ b ∧ b ≤ 6 := by
    refine ⟨_, rfl, ?_⟩
    rw [Int.tmod_eq_emod_of_nonneg hB.1, w64_id (n := d.Bridges % 6) (by omega) (by omega), w64_id (by omega) (by omega)]
    omega
  obtain ⟨s, hs, hs0⟩ : ∃ s, w64 (2 + w64 (Int.tmod d.Stations 5)) = s ∧ 2 ≤ s ∧ s ≤ 6 := by
    refine ⟨_, rfl, ?_⟩
    rw [Int.tmod_eq_emod_of_nonneg hS.1, w64_id (n := d.Stations % 5) (by omega) (by omega), w64_id (by omega) (by omega)]
    omega
  unfold m_isochronref16_Draft_Topo
  refine has_loop (fun y : Int × List Bool => 0 ≤ y.1 ∧ y.1 ≤ b + s ∧ (y.2.length : Int) = y.1 ∧ ∀ n, Seen y.2 n ↔ b ≤ n ∧ n < y.1) (fun y => (b + s - y.1).toNat) (fun y hy => by omega) ⟨by simp, by simp only; omega, by simp, fun n => ⟨fun h => by have := h.lt; simp only [List.length_nil] at this; omega, fun h => by simp only at h; omega⟩⟩ ?_
  rintro ⟨i, st⟩ rec ⟨h0, h1, h2, h3⟩ ih
  simp only at h0 h1 h2 h3
  unfold m_isochronref16_Draft_Topo_l5
  simp only [hb, hs]
  have hbs : w64 (b + s) = b + s := w64_id (by omega) (by omega)
  rw [hbs]
  refine has_ite (fun hi => ?_) (fun hi => ?_)
  · have hi := of_decide_eq_true hi
    refine has_must (by unfold okLen; rw [Nat.ble_eq]; simp only [List.length_cons, List.length_nil]; omega) ?_
    rw [w64_id (n := i + 1) (by omega) (by omega)]
    refine ih _ ⟨by simp only; omega, by simp only; omega, by simp only [List.length_append, List.length_cons, List.length_nil]; omega, fun n => ?_⟩ (by simp only; omega)
    simp only
    constructor
    · intro hh
      have hlt := hh.lt
      simp only [List.length_append, List.length_cons, List.length_nil] at hlt
      by_cases hn : n < i
      · have : Seen st n := ⟨hh.1, by have := hh.2; rwa [List.getElem?_append_left (by omega)] at this⟩
        have := (h3 n).1 this
        omega
      · have hg := hh.2
        rw [List.getElem?_append_right (by omega)] at hg
        have : n.toNat - st.length = 0 := by omega
        rw [this] at hg
        simp at hg
        omega
    · rintro ⟨hn1, hn2⟩
      by_cases hn : n < i
      · have := (h3 n).2 ⟨hn1, hn⟩
        exact ⟨this.1, by rw [List.getElem?_append_left (by have := this.lt; omega)]; exact this.2⟩
      · refine ⟨by omega, ?_⟩
        rw [List.getElem?_append_right (by omega)]
        have : n.toNat - st.length = 0 := by omega
        rw [this]
        simp
        omega
  · have hi : ¬ i < b + s := fun hh => hi (decide_eq_true hh)
    refine chain_has D hb hs hb0 hs0 (t := ⟨b + s, st, []⟩) ⟨⟨rfl, ⟨by simp only; omega, by simp only; omega⟩, fun n => ?_, fun j e he => by simp at he⟩, by simp, fun x hx0 hx1 => ?_, fun x _ _ => rfl⟩
    · rw [h3 n]
      constructor
      · rintro ⟨a1, a2⟩; exact ⟨a1, by omega⟩
      · rintro ⟨a1, a2⟩; exact ⟨a1, by omega⟩
    · have : x = 0 := by omega
      subst this; exact .base
end Go.AM.P16
namespace Go.AM.P16
open Go
theorem bool_eq' {a b : Bool} {p : Prop} (h1 : a = true ↔ p) (h2 : b = true ↔ p) : a = b := by
  cases a <;> cases b <;> simp_all
theorem Rch.trans {t : ApiTopo} {cut : List Int} {a b c : Int} (h1 : Rch t cut a b) (h2 : Rch t cut b c) : Rch t cut a c := by
  induction h2 with
  | base => exact h1
  | fwd h hc _ ih => exact .fwd h hc ih
  | bwd h hc _ ih => exact .bwd h hc ih
theorem Rch.symm {t : ApiTopo} {cut : List Int} {a b : Int} (h : Rch t cut a b) : Rch t cut b a := by
  induction h with
  | base => exact .base
  | fwd h hc _ ih => exact Rch.trans (.bwd h hc .base) ih
  | bwd h hc _ ih => exact Rch.trans (.fwd h hc .base) ih
theorem IsReach.at {t : ApiTopo} {cut : List Int} {s : Int} {l : List Bool} (h : IsReach t cut s l) {n : Int} (hn : IsN t n) : Has (idx l n) (fun b => (b = true ↔ Rch t cut s n)) := by
  have hlt : n.toNat < l.length := by have := h.1; have := hn.1; have := hn.2; omega
  refine has_eq (idx_ok.2 ⟨hn.1, List.getElem?_eq_getElem hlt⟩) ?_
  rw [← seen_get hn.1 (List.getElem?_eq_getElem hlt), h.2]
theorem TopoSpreads_pure (x0 : Isochronref16Draft) (x1 : List Int) (x2 x3 : Int) (D : Draws x0) (h1 : ∀ v ∈ x1, inR .u8 v) (h2 : inR .u8 x2) (h3 : inR .u8 x3) : m_isochronlaw16_TopoSpreads x0 x1 x2 x3 = .ok true := by
  refine Has.eq ?_
  have hx2 := inR_u8.1 h2
  have hx3 := inR_u8.1 h3
  unfold m_isochronlaw16_TopoSpreads
  refine has_beq wakes_ok ?_
  refine has_ite (fun h => by simp at h) (fun _ => ?_)
  refine has_bind (Topo_has D) fun t ht => ?_
  obtain ⟨hf, hlk⟩ := ht
  refine has_must (by simp only [decide_eq_true_eq]; omega) ?_
  have hN := hf.small.n
  have hS := hf.small.s
  have hL := hf.small.l
  have hcl : (x1.take ((min (x1.length : Int) 30)).toNat).length ≤ 30 := by rw [List.length_take]; omega
  have hcv : ∀ v ∈ x1.take ((min (x1.length : Int) 30)).toNat, inR .u8 v := fun v hv => h1 v (List.mem_of_mem_take hv)
  unfold m_isochronlaw16_TopoSpreads_l2
  generalize x1.take ((min (x1.length : Int) 30)).toNat = cs at hcl hcv ⊢
  refine has_loop (fun y : List Int × Int => 0 ≤ y.2 ∧ y.2 ≤ cs.length ∧ (y.1.length : Int) = y.2 ∧ ∀ v ∈ y.1, ¬ Off t v) (fun y => ((cs.length : Int) - y.2).toNat) (fun y hy => by omega) ⟨by simp, by simp, by simp, fun v hv => by simp at hv⟩ ?_
  rintro ⟨cut, i⟩ rec ⟨g0, g1, g2, g3⟩ ih
  simp only at g0 g1 g2 g3
  refine has_ite (fun hi => ?_) (fun hi => ?_)
  · have hi := of_decide_eq_true hi
    refine has_idx g0 hi fun v hv => ?_
    refine has_must (by simp only [decide_eq_true_eq]; omega) ?_
    refine has_must (by unfold okLen; rw [Nat.ble_eq]; simp only [List.length_cons, List.length_nil]; omega) ?_
    have hv1 := inR_u8.1 (hcv v (List.mem_of_getElem? hv))
    rw [w64_id (n := v) (by omega) (by omega), Int.tmod_eq_emod_of_nonneg hv1.1, w64_id (n := i + 1) (by omega) (by omega)]
    have e1 := Int.emod_nonneg v (show (t.Links.length : Int) ≠ 0 by omega)
    have e2 := Int.emod_lt_of_pos v (show 0 < (t.Links.length : Int) by omega)
    refine ih _ ⟨by simp only; omega, by simp only; omega, by simp only [List.length_append, List.length_cons, List.length_nil]; omega, fun w hw => ?_⟩ (by simp only; omega)
    simp only [List.mem_append, List.mem_singleton] at hw
    rcases hw with hw | rfl
    · exact g3 w hw
    · unfold Off; omega
  have hcut : cut.length < 1000000 := by omega
  refine has_must (by simp only [decide_eq_true_eq]; omega) ?_
  refine has_must (by simp only [decide_eq_true_eq]; omega) ?_
  rw [w64_id (n := x2) (by omega) (by omega), w64_id (n := x3) (by omega) (by omega), Int.tmod_eq_emod_of_nonneg hx2.1, Int.tmod_eq_emod_of_nonneg hx3.1]
  have hn : IsN t (x2 % t.Nodes) := ⟨Int.emod_nonneg _ (by omega), Int.emod_lt_of_pos _ (by omega)⟩
  have hm : IsN t (x3 % t.Nodes) := ⟨Int.emod_nonneg _ (by omega), Int.emod_lt_of_pos _ (by omega)⟩
  generalize x2 % t.Nodes = n at hn ⊢
  generalize x3 % t.Nodes = m at hm ⊢
  have good : ∀ {q : Int} {c : List Int}, IsN t q → (∀ v ∈ c, ¬ Off t v) → c.length < 1000000 → Has (m_topo_Reach t q c) (fun r => r.2 = 0 ∧ IsReach t c q r.1) := fun hq hc hl => (topoReach_has hf hl).imp fun r hr => by
    rcases hr with ⟨_, h⟩ | ⟨h, _⟩
    · exact h
    · exact absurd ⟨hq, hc⟩ h
  refine has_bind (good hn g3 hcut) fun x hx => ?_
  refine has_bind (good hm g3 hcut) fun y hy => ?_
  refine has_bind (good (c := []) hn (fun v hv => by simp at hv) (by simp)) fun al hal => ?_
  obtain ⟨hx0, hxr⟩ := hx
  obtain ⟨hy0, hyr⟩ := hy
  obtain ⟨ha0, har⟩ := hal
  refine has_sh (has_sh (has_sh (has_sh ?_)))
  refine has_join (fun s => s = false) (fun s hs => ?_) (fun j hj => ?_)
  · subst hs
    refine has_ite (fun h => by simp at h) (fun _ => ?_)
    refine has_bind (hxr.at hn) fun b hb => ?_
    refine has_join (fun s : List Bool × Bool => s.1 = y.1 ∧ s.2 = false) (fun s hs => ?_) (fun j hj => ?_)
    · obtain ⟨s1, s2⟩ := s
      obtain ⟨hs1, hs2⟩ := hs
      simp only at hs1 hs2
      subst hs1 hs2
      refine has_join (fun s => s = false) (fun s hs => ?_) (fun j hj => ?_)
      · subst hs
        refine has_ite (fun h => by simp at h) (fun _ => ?_)
        refine has_loop (fun i : Int => 0 ≤ i ∧ i ≤ t.Links.length) (fun i => ((t.Links.length : Int) - i).toNat) (fun y hy => by omega) ⟨by omega, by omega⟩ ?_
        rintro k rec2 ⟨k0, k1⟩ ih2
        unfold m_isochronlaw16_TopoSpreads_l1
        refine has_ite (fun hk => ?_) (fun hk => has_ok rfl)
        have hk := of_decide_eq_true hk
        refine has_idx k0 hk fun e he => ?_
        have hlk := (hf.links _ _ he).1
        refine has_beq (contains_int hcut k) ?_
        refine has_join (fun s => s = false) (fun s hs => ?_) (fun j hj => ?_)
        · subst hs
          refine has_ite (fun h => by simp at h) (fun _ => ?_)
          rw [w64_id (n := k + 1) (by omega) (by omega)]
          exact ih2 _ ⟨by omega, by omega⟩ (by omega)
        · refine has_ite (fun h => ?_) (fun _ => hj _ rfl)
          have hnc : k ∉ cut := by simpa using h
          refine has_bind (hxr.at hlk.a) fun p hp => ?_
          refine has_bind (hxr.at hlk.b) fun q hq => hj _ ?_
          have hkc : ((k.toNat : Nat) : Int) = k := by omega
          have hstep := Rch.step (t := t) (cut := cut) (s := n) he (by rw [hkc]; exact hnc) (.inl ⟨rfl, rfl⟩)
          rw [hstep] at hp
          rw [bool_eq' hp hq]; simp
      · refine has_ite (fun h => by simp at h) (fun _ => ?_)
        refine has_bind (hxr.at hm) fun p hp => ?_
        refine has_ite (fun h => ?_) (fun _ => hj _ rfl)
        have hnm := hp.1 h
        have hxy : x.1 = y.1 := hxr.unique ⟨hyr.1, fun z => (hyr.2 z).trans ⟨fun hz => hnm.trans hz, fun hz => hnm.symm.trans hz⟩⟩
        refine has_beq (equal_bool (by have := hxr.1; omega)) (hj _ ?_)
        simp [hxy]
    · refine has_ite (fun h => ?_) (fun _ => ?_)
      · have : b = true := hb.2 .base
        rw [this] at h; simp at h
      · refine has_bind (hxr.at hm) fun p hp => ?_
        refine has_bind (hyr.at hn) fun q hq => hj _ ⟨rfl, ?_⟩
        have : p = q := bool_eq' hp (hq.trans ⟨fun h => h.symm, fun h => h.symm⟩)
        rw [this]; simp
  · have hxl := hxr.1
    have hyl := hyr.1
    refine has_ite (fun h => ?_) (fun _ => ?_)
    · simp [hx0, hy0, ha0, hxl, hyl] at h
    · refine has_beq (contains_bool (by have := har.1; omega) false) (hj _ ?_)
      have hno : false ∉ al.1 := fun hm => by
        obtain ⟨q, hq⟩ := List.mem_iff_getElem?.1 hm
        have hlt := (List.getElem?_eq_some_iff.1 hq).1
        have hqn : IsN t (q : Int) := ⟨by omega, by have := har.1; omega⟩
        have := (har.2 (q : Int)).2 ((hf.whole n hn).symm.trans (hf.whole _ hqn))
        have h3 := (seen_get (l := al.1) (i := (q : Int)) (by omega) hq).1 this
        cases h3
      simp [hno]
end Go.AM.P16
