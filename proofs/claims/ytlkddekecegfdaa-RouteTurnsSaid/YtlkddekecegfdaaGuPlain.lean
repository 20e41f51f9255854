/- The plain law: lemmas over plain data, no program; no claim of its own; no condition. -/
import Derived.Test.YtlkddekecegfdaaGuDefs
import Derived.Test.YtlkddekecegfdaaLfK
set_option linter.unusedVariables false
set_option linter.unusedSimpArgs false
namespace Go.AM.P16
open Go
/-! ### Links -/
theorem from_ok {e : ApiLink} {p : Int} : m_topo_end_from ⟨e, p⟩ = .ok (if p.tmod 2 = 0 then e.A else e.B) := by
  unfold m_topo_end_from
  simp only [decide_eq_true_eq]
  split <;> rfl
theorem tmod_even {i : Int} (h : 0 ≤ i) : (2 * i).tmod 2 = 0 := by rw [Int.tmod_eq_emod_of_nonneg (by omega)]; omega
theorem tmod_odd {i : Int} (h : 0 ≤ i) : (2 * i + 1).tmod 2 = 1 := by rw [Int.tmod_eq_emod_of_nonneg (by omega)]; omega
theorem from_even {e : ApiLink} {i : Int} (h : 0 ≤ i) (h1 : i < 1000000) : m_topo_end_from ⟨e, w64 (2 * i)⟩ = .ok e.A := by
  rw [w64_id (by omega) (by omega), from_ok, if_pos (tmod_even h)]
theorem from_odd {e : ApiLink} {i : Int} (h : 0 ≤ i) (h1 : i < 1000000) : m_topo_end_from ⟨e, w64 ((w64 (2 * i)) + 1)⟩ = .ok e.B := by
  rw [w64_id (n := 2 * i) (by omega) (by omega), w64_id (by omega) (by omega), from_ok, if_neg (by rw [tmod_odd h]; decide)]
theorem to_ok {e : ApiLink} {p : Int} (ha : 0 ≤ e.A ∧ e.A < 1000000) (hb : 0 ≤ e.B ∧ e.B < 1000000) : m_topo_end_to ⟨e, p⟩ = .ok (if p.tmod 2 = 0 then e.B else e.A) := by
  unfold m_topo_end_to
  rw [from_ok]
  simp only [bindR]
  rw [w64_id (n := e.A + e.B) (by omega) (by omega)]
  split <;> (rw [w64_id (by omega) (by omega)]; congr 1; omega)
theorem to_even {e : ApiLink} {i : Int} (ha : 0 ≤ e.A ∧ e.A < 1000000) (hb : 0 ≤ e.B ∧ e.B < 1000000) (h : 0 ≤ i) (h1 : i < 1000000) : m_topo_end_to ⟨e, w64 (2 * i)⟩ = .ok e.B := by
  rw [w64_id (by omega) (by omega), to_ok ha hb, if_pos (tmod_even h)]
theorem to_odd {e : ApiLink} {i : Int} (ha : 0 ≤ e.A ∧ e.A < 1000000) (hb : 0 ≤ e.B ∧ e.B < 1000000) (h : 0 ≤ i) (h1 : i < 1000000) : m_topo_end_to ⟨e, w64 ((w64 (2 * i)) + 1)⟩ = .ok e.A := by
  rw [w64_id (n := 2 * i) (by omega) (by omega), w64_id (by omega) (by omega), to_ok ha hb, if_neg (by rw [tmod_odd h]; decide)]

/-! ### What a topology must be -/
def Joins (e : ApiLink) (a b : Int) : Prop := (e.A = a ∧ e.B = b) ∨ (e.A = b ∧ e.B = a)
def IsN (t : ApiTopo) (n : Int) : Prop := 0 ≤ n ∧ n < t.Nodes
instance (t : ApiTopo) (n : Int) : Decidable (IsN t n) := inferInstanceAs (Decidable (_ ∧ _))
structure LinkOk (t : ApiTopo) (e : ApiLink) : Prop where
  a : IsN t e.A
  b : IsN t e.B
  ne : e.A ≠ e.B
  st : ¬ (Seen t.Station e.A ∧ Seen t.Station e.B)
  per : 1 ≤ e.Per ∧ e.Per ≤ 1000
  delay : 0 ≤ e.Delay ∧ e.Delay ≤ 10000
def Alone (ls : List ApiLink) (i : Nat) (e : ApiLink) : Prop := ∀ (j : Nat) (f : ApiLink), j < i → ls[j]? = some f → ¬ Joins f e.A e.B
structure Small (t : ApiTopo) : Prop where
  n : 2 ≤ t.Nodes ∧ t.Nodes ≤ 12
  s : (t.Station.length : Int) = t.Nodes
  l : t.Links.length ≤ 24
def LinksOk (t : ApiTopo) : Prop := ∀ (i : Nat) (e : ApiLink), t.Links[i]? = some e → LinkOk t e ∧ Alone t.Links i e
def ends (e : ApiLink) (n : Int) : Int := (if e.A = n then 1 else 0) + (if e.B = n then 1 else 0)
def cnt (ls : List ApiLink) (n : Int) : Int := (ls.map (ends · n)).sum
inductive Rch (t : ApiTopo) (cut : List Int) (s : Int) : Int → Prop
  | base : Rch t cut s s
  | fwd {i : Nat} {e : ApiLink} : t.Links[i]? = some e → (i : Int) ∉ cut → Rch t cut s e.A → Rch t cut s e.B
  | bwd {i : Nat} {e : ApiLink} : t.Links[i]? = some e → (i : Int) ∉ cut → Rch t cut s e.B → Rch t cut s e.A
structure Fit (t : ApiTopo) : Prop where
  small : Small t
  links : LinksOk t
  stations : ∀ n, IsN t n → Seen t.Station n → 1 ≤ cnt t.Links n ∧ cnt t.Links n ≤ 2
  whole : ∀ n, IsN t n → Rch t [] 0 n

theorem ends_range (e : ApiLink) (n : Int) : 0 ≤ ends e n ∧ ends e n ≤ 2 := by
  unfold ends; split <;> split <;> omega
theorem cnt_range (ls : List ApiLink) (n : Int) : 0 ≤ cnt ls n ∧ cnt ls n ≤ 2 * ls.length := by
  induction ls with
  | nil => simp [cnt]
  | cons e ls ih =>
    have := ends_range e n
    simp only [cnt, List.map_cons, List.sum_cons, List.length_cons] at ih ⊢
    omega
theorem cnt_take {ls : List ApiLink} {i : Nat} {e : ApiLink} (h : ls[i]? = some e) (n : Int) : cnt (ls.take (i + 1)) n = cnt (ls.take i) n + ends e n := by
  rw [List.take_add_one, h]
  simp [cnt]

theorem isNode_ok (t : ApiTopo) (n : Int) : m_topo_isNode t n = .ok (decide (IsN t n)) := by
  unfold m_topo_isNode sh
  by_cases h1 : 0 ≤ n <;> by_cases h2 : n < t.Nodes <;> simp [IsN, h1, h2]
end Go.AM.P16
namespace Go.AM.P16
open Go
end Go.AM.P16
namespace Go.AM.P16
open Go
/-! ### Looking in rows -/
theorem index_int_has {l : List Int} (hl : l.length < 1000000) (x : Int) : Has (m_slices_Index_int_int l x) (fun r => (0 ≤ r ↔ x ∈ l)) := by
  unfold m_slices_Index_int_int
  refine has_loop (fun i : Int => 0 ≤ i ∧ i ≤ l.length ∧ ∀ j : Nat, (j : Int) < i → l[j]? ≠ some x) (fun i => ((l.length : Int) - i).toNat) (fun y hy => by omega) ⟨by omega, by omega, fun j hj => by omega⟩ ?_
  rintro i rec ⟨h0, h1, h2⟩ ih
  unfold m_slices_Index_int_int_l1
  simp only [decide_eq_true_eq]
  refine has_ite (fun hi => ?_) (fun hi => ?_)
  · refine has_idx h0 hi fun a ha => ?_
    refine has_ite (fun he => ?_) (fun he => ?_)
    · subst he
      exact has_ok ⟨fun _ => List.mem_of_getElem? ha, fun _ => h0⟩
    · rw [w64_id (by omega) (by omega)]
      refine ih _ ⟨by omega, by omega, fun j hj => ?_⟩ (by omega)
      by_cases hji : (j : Int) < i
      · exact h2 j hji
      · have : j = i.toNat := by omega
        rw [this, ha]; intro hx; cases hx; exact he rfl
  · refine has_ok ⟨fun h => by omega, fun h => ?_⟩
    obtain ⟨j, hj⟩ := List.mem_iff_getElem?.1 h
    have := (List.getElem?_eq_some_iff.1 hj).1
    exact absurd hj (h2 j (by omega))
theorem contains_int {l : List Int} (hl : l.length < 1000000) (x : Int) : m_slices_Contains_int_int l x = .ok (decide (x ∈ l)) := by
  unfold m_slices_Contains_int_int
  obtain ⟨r, h1, h2⟩ := index_int_has hl x
  rw [h1]
  simp only [bindR, h2]
theorem index_bool_has {l : List Bool} (hl : l.length < 1000000) (x : Bool) : Has (m_slices_Index_bool_bool l x) (fun r => (0 ≤ r ↔ x ∈ l)) := by
  unfold m_slices_Index_bool_bool
  refine has_loop (fun i : Int => 0 ≤ i ∧ i ≤ l.length ∧ ∀ j : Nat, (j : Int) < i → l[j]? ≠ some x) (fun i => ((l.length : Int) - i).toNat) (fun y hy => by omega) ⟨by omega, by omega, fun j hj => by omega⟩ ?_
  rintro i rec ⟨h0, h1, h2⟩ ih
  unfold m_slices_Index_bool_bool_l1
  simp only [decide_eq_true_eq, beq_iff_eq]
  refine has_ite (fun hi => ?_) (fun hi => ?_)
  · refine has_idx h0 hi fun a ha => ?_
    refine has_ite (fun he => ?_) (fun he => ?_)
    · subst he
      exact has_ok ⟨fun _ => List.mem_of_getElem? ha, fun _ => h0⟩
    · rw [w64_id (by omega) (by omega)]
      refine ih _ ⟨by omega, by omega, fun j hj => ?_⟩ (by omega)
      by_cases hji : (j : Int) < i
      · exact h2 j hji
      · have : j = i.toNat := by omega
        rw [this, ha]; intro hx; cases hx; exact he rfl
  · refine has_ok ⟨fun h => by omega, fun h => ?_⟩
    obtain ⟨j, hj⟩ := List.mem_iff_getElem?.1 h
    have := (List.getElem?_eq_some_iff.1 hj).1
    exact absurd hj (h2 j (by omega))
theorem contains_bool {l : List Bool} (hl : l.length < 1000000) (x : Bool) : m_slices_Contains_bool_bool l x = .ok (decide (x ∈ l)) := by
  unfold m_slices_Contains_bool_bool
  obtain ⟨r, h1, h2⟩ := index_bool_has hl x
  rw [h1]
  simp only [bindR, h2]
theorem in_ok {l : List Int} (hl : l.length < 1000000) (x : Int) : Has (m_isochronref16_In l x) (fun r => r = decide (x ∈ l)) := by
  unfold m_isochronref16_In
  refine has_loop (fun i : Int => 0 ≤ i ∧ i ≤ l.length ∧ ∀ j : Nat, (j : Int) < i → l[j]? ≠ some x) (fun i => ((l.length : Int) - i).toNat) (fun y hy => by omega) ⟨by omega, by omega, fun j hj => by omega⟩ ?_
  rintro i rec ⟨h0, h1, h2⟩ ih
  unfold m_isochronref16_In_l1
  simp only [decide_eq_true_eq]
  refine has_ite (fun hi => ?_) (fun hi => ?_)
  · refine has_idx h0 hi fun a ha => ?_
    refine has_ite (fun he => ?_) (fun he => ?_)
    · subst he
      exact has_ok (by simp [List.mem_of_getElem? ha])
    · rw [w64_id (by omega) (by omega)]
      refine ih _ ⟨by omega, by omega, fun j hj => ?_⟩ (by omega)
      by_cases hji : (j : Int) < i
      · exact h2 j hji
      · have : j = i.toNat := by omega
        rw [this, ha]; intro hx; cases hx; exact he rfl
  · refine has_ok ?_
    have : x ∉ l := fun h => by
      obtain ⟨j, hj⟩ := List.mem_iff_getElem?.1 h
      have := (List.getElem?_eq_some_iff.1 hj).1
      exact absurd hj (h2 j (by omega))
    simp [this]

/-! ### Counting -/
theorem degree_ok {t : ApiTopo} (ht : t.Links.length ≤ 24) (n : Int) : m_topo_degree t n = .ok (cnt t.Links n) := by
  refine Has.eq ?_
  unfold m_topo_degree
  refine has_loop (fun s : Int × Int => 0 ≤ s.1 ∧ s.1 ≤ t.Links.length ∧ s.2 = cnt (t.Links.take s.1.toNat) n) (fun s => ((t.Links.length : Int) - s.1).toNat) (fun y hy => by omega) ⟨by simp, by simp, by simp [cnt]⟩ ?_
  rintro ⟨i, c⟩ rec ⟨h0, h1, h2⟩ ih
  unfold m_topo_degree_l1
  simp only [decide_eq_true_eq] at *
  refine has_ite (fun hi => ?_) (fun hi => ?_)
  · refine has_idx h0 hi fun e he => ?_
    have hstep := cnt_take he n
    have hr := cnt_range (t.Links.take i.toNat) n
    have hlen : (t.Links.take i.toNat).length ≤ 24 := by rw [List.length_take]; omega
    have hend : cnt (t.Links.take (i + 1).toNat) n = c + ends e n := by
      have : (i + 1).toNat = i.toNat + 1 := by omega
      rw [this, hstep, h2]
    refine has_beq (from_even h0 (by omega)) (has_sh ?_)
    refine has_ite (fun ha => ?_) (fun ha => ?_) <;>
    · refine has_beq (from_odd h0 (by omega)) (has_sh ?_)
      refine has_ite (fun hb => ?_) (fun hb => ?_) <;>
      · show Has (rec _) _
        rw [w64_id (n := i + 1) (by omega) (by omega)]
        refine ih _ ⟨by simp only; omega, by simp only; omega, ?_⟩ (by simp only; omega)
        simp only
        rw [hend]
        unfold ends
        simp only [ha, hb, if_true, if_false]
        try rw [w64_id (n := c + 1) (by omega) (by omega)]
        try rw [w64_id (by omega) (by omega)]
        try omega
  · refine has_ok ?_
    rw [h2, List.take_of_length_le (by omega)]
end Go.AM.P16
namespace Go.AM.P16
open Go
theorem joins_dec {e : ApiLink} {a b : Int} : ((decide (e.A = a) && decide (e.B = b)) || (decide (e.A = b) && decide (e.B = a))) = true ↔ Joins e a b := by
  simp [Joins]
theorem validLink_has {t : ApiTopo} (ht : Small t) {p : Int} {e : ApiLink} (h0 : 0 ≤ p) (he : t.Links[p.toNat]? = some e) :
    Has (m_topo_validLink t p) (fun r => (r = true ↔ LinkOk t e ∧ Alone t.Links p.toNat e)) := by
  have hp := (List.getElem?_eq_some_iff.1 he).1
  have hl := ht.l
  have hs := ht.s
  unfold m_topo_validLink
  refine has_idx h0 (by omega) fun e' he' => ?_
  rw [he] at he'; cases he'
  refine has_beq (isNode_ok _ _) ?_
  refine has_join (fun s => (s = true ↔ IsN t e.A ∧ IsN t e.B)) (fun s hs1 => ?_) (fun j hj => ?_)
  · refine has_sh ?_
    simp only [Bool.not_eq_true', Bool.and_eq_false_iff, decide_eq_false_iff_not, Decidable.not_not]
    refine has_ite (fun h => has_ok ?_) (fun h => ?_)
    · simp only [Bool.false_eq_true, false_iff]
      rintro ⟨h1, _⟩
      rcases h with h | h
      · rw [hs1.2 ⟨h1.a, h1.b⟩] at h; cases h
      · exact h1.ne h
    · rw [not_or, Bool.not_eq_false, hs1] at h
      obtain ⟨⟨ha, hb⟩, hne⟩ := h
      refine has_idx ha.1 (by have := ha.2; omega) fun sa hsa => ?_
      refine has_join (fun s => (s = true ↔ ¬ (Seen t.Station e.A ∧ Seen t.Station e.B))) (fun s hs2 => ?_) (fun j hj => ?_)
      · refine has_ite (fun h => has_ok ?_) (fun h => ?_)
        · simp only [Bool.false_eq_true, false_iff]
          rintro ⟨h1, _⟩
          rw [hs2.2 h1.st] at h; cases h
        · have h : s = true := by simpa using h
          rw [hs2] at h
          refine has_sh (has_sh (has_sh ?_))
          simp only [Bool.not_eq_true', Bool.and_eq_false_iff, decide_eq_false_iff_not]
          refine has_ite (fun h2 => has_ok ?_) (fun h2 => ?_)
          · simp only [Bool.false_eq_true, false_iff]
            rintro ⟨h1, _⟩
            have h3 := h1.per; have h4 := h1.delay
            omega
          · have ok : LinkOk t e := ⟨ha, hb, hne, h, by omega, by omega⟩
            refine has_must (by simp only [decide_eq_true_eq]; omega) ?_
            have hlen : (t.Links.take p.toNat).length = p.toNat := by rw [List.length_take]; omega
            refine has_loop (fun i : Int => 0 ≤ i ∧ i ≤ p ∧ Alone t.Links i.toNat e) (fun i => (p - i).toNat) (fun y hy => by omega) ⟨by omega, by omega, fun j f hj => by simp at hj⟩ ?_
            rintro i rec ⟨g0, g1, g2⟩ ih
            unfold m_topo_validLink_l1
            simp only [decide_eq_true_eq, hlen]
            refine has_ite (fun hi => ?_) (fun hi => has_ok ?_)
            · refine has_idx g0 (by rw [hlen]; omega) fun f hf => ?_
              rw [List.getElem?_take_of_lt (by omega)] at hf
              refine has_sh (has_sh ?_)
              refine has_ite (fun hjn => ?_) (fun hjn => ?_)
              · have hjn := joins_dec.1 hjn
                have : ¬ Alone t.Links p.toNat e := fun h => h i.toNat f (by omega) hf hjn
                simp only [g0, this, and_false, iff_false, decide_true, Bool.not_true, Bool.not_false, Bool.false_eq_true, if_false, if_true]
                exact has_ok (by simp)
              · have hjn : ¬ Joins f e.A e.B := fun h => hjn (joins_dec.2 h)
                rw [w64_id (by omega) (by omega)]
                refine ih _ ⟨by omega, by omega, fun j f' hj hf' => ?_⟩ (by omega)
                by_cases hji : j < i.toNat
                · exact g2 j f' hji hf'
                · have : j = i.toNat := by omega
                  rw [this, hf] at hf'; cases hf'; exact hjn
            · have : i = p := by omega
              subst this
              simp [ok, g2]
      · refine has_ite (fun h => ?_) (fun h => ?_)
        · refine hj _ ?_
          have : sa = false := by simpa using h
          subst this
          have : ¬ Seen t.Station e.A := by rw [seen_get ha.1 hsa]; simp
          simp [this]
        · refine has_idx hb.1 (by have := hb.2; omega) fun sb hsb => hj _ ?_
          have h1 : Seen t.Station e.A := by rw [seen_get ha.1 hsa]; simpa using h
          have h2 := seen_get hb.1 hsb
          simp [h1, h2]
  · refine has_ite (fun h => ?_) (fun h => ?_)
    · refine has_beq (isNode_ok _ _) (hj _ ?_)
      have : IsN t e.A := by simpa using h
      simp [this]
    · refine hj _ ?_
      have : ¬ IsN t e.A := by simpa using h
      simp [this]
end Go.AM.P16
namespace Go.AM.P16
open Go
/-- All links end at nodes. -/
def InL (t : ApiTopo) : Prop := ∀ (i : Nat) (e : ApiLink), t.Links[i]? = some e → IsN t e.A ∧ IsN t e.B
def Closed (t : ApiTopo) (cut : List Int) (l : List Bool) : Prop := ∀ (i : Nat) (e : ApiLink), t.Links[i]? = some e → (i : Int) ∉ cut → (Seen l e.A ↔ Seen l e.B)
theorem Closed.all {t : ApiTopo} {cut : List Int} {l : List Bool} {s x : Int} (h : Closed t cut l) (hs : Seen l s) (hx : Rch t cut s x) : Seen l x := by
  induction hx with
  | base => exact hs
  | fwd h1 h2 _ ih => exact (h _ _ h1 h2).1 ih
  | bwd h1 h2 _ ih => exact (h _ _ h1 h2).2 ih
def IsReach (t : ApiTopo) (cut : List Int) (s : Int) (l : List Bool) : Prop := (l.length : Int) = t.Nodes ∧ ∀ x, Seen l x ↔ Rch t cut s x
theorem not_seen {l : List Bool} {i : Int} (h0 : 0 ≤ i) (h1 : i < l.length) (h : ¬ Seen l i) : l[i.toNat]? = some false := by
  have hlt : i.toNat < l.length := by omega
  rw [List.getElem?_eq_getElem hlt]
  cases hb : l[i.toNat] with
  | false => rfl
  | true => exact absurd ⟨h0, by rw [List.getElem?_eq_getElem hlt, hb]⟩ h
theorem reach_has {t : ApiTopo} (ht : Small t) (hi : InL t) {cut : List Int} (hc : cut.length < 1000000) {s : Int} (hs : IsN t s) : Has (m_topo_reach t s cut) (IsReach t cut s) := by
  have hn := ht.n
  have hlk := ht.l
  have hs0 := hs.1
  have hs1 := hs.2
  unfold m_topo_reach
  refine has_must (by simp only [decide_eq_true_eq]; omega) ?_
  have hrl : (List.replicate (t.Nodes).toNat false).length = t.Nodes.toNat := List.length_replicate ..
  refine has_idx hs0 (by rw [hrl]; omega) fun _ _ => ?_
  refine has_loop (fun l : List Bool => (l.length : Int) = t.Nodes ∧ Seen l s ∧ ∀ x, Seen l x → Rch t cut s x) low (fun l hl => by have := low_le l; omega) ⟨by rw [List.length_set, hrl]; omega, (seen_set (by rw [hrl]; omega)).2 (.inr rfl), fun x hx => ?_⟩ ?_
  · rcases (seen_set (by rw [hrl]; omega)).1 hx with h | rfl
    · exact absurd h seen_rep
    · exact .base
  rintro l rec ⟨hl, hls, hlr⟩ ih
  unfold m_topo_reach_l2
  refine has_loop (fun y : Int × List Bool => y.2 = l ∧ 0 ≤ y.1 ∧ y.1 ≤ t.Links.length ∧ ∀ (j : Nat) (e : ApiLink), (j : Int) < y.1 → t.Links[j]? = some e → (j : Int) ∉ cut → (Seen l e.A ↔ Seen l e.B)) (fun y => ((t.Links.length : Int) - y.1).toNat) (fun y hy => by omega) ⟨rfl, by simp, by simp, fun j e hj => by simp at hj; omega⟩ ?_
  rintro ⟨i, l'⟩ rec2 ⟨g0, g1, g2, g3⟩ ih2
  simp only at g0 g1 g2 g3
  subst g0
  unfold m_topo_reach_l1
  simp only [decide_eq_true_eq]
  refine has_ite (fun hil => ?_) (fun hil => ?_)
  rotate_left
  · refine has_ok ⟨hl, fun x => ⟨hlr x, fun hx => ?_⟩⟩
    exact Closed.all (fun j e hj hjc => g3 j e (by have := (List.getElem?_eq_some_iff.1 hj).1; omega) hj hjc) hls hx
  refine has_idx g1 hil fun e he => ?_
  obtain ⟨⟨hA0, hA1⟩, ⟨hB0, hB1⟩⟩ := hi _ _ he
  have hA : 0 ≤ e.A ∧ e.A < 1000000 := ⟨hA0, by omega⟩
  have hB : 0 ≤ e.B ∧ e.B < 1000000 := ⟨hB0, by omega⟩
  have hq1 : (w64 ((w64 (2 * i)).tdiv 2)) = i := by
    rw [w64_id (n := 2 * i) (by omega) (by omega), Int.tdiv_eq_ediv_of_nonneg (by omega), w64_id (by omega) (by omega)]; omega
  have hq2 : (w64 ((w64 ((w64 (2 * i)) + 1)).tdiv 2)) = i := by
    rw [w64_id (n := 2 * i) (by omega) (by omega), w64_id (n := 2 * i + 1) (by omega) (by omega), Int.tdiv_eq_ediv_of_nonneg (by omega), w64_id (by omega) (by omega)]; omega
  have hcast : ((i.toNat : Nat) : Int) = i := by omega
  refine has_beq (from_even g1 (by omega)) ?_
  refine has_idx hA0 (by omega) fun sa hsa => ?_
  have hsa := seen_get hA0 hsa
  refine has_join (fun b => (b = true ↔ Seen l' e.A ∧ ¬ Seen l' e.B)) (fun b hb => ?_) (fun j hj => ?_)
  · refine has_join (fun b => (b = true ↔ (Seen l' e.A ∧ ¬ Seen l' e.B) ∧ i ∉ cut)) (fun b hb => ?_) (fun j hj => ?_)
    · refine has_ite (fun h => ?_) (fun h => ?_)
      · obtain ⟨⟨h1, h2⟩, h3⟩ := hb.1 h
        refine has_beq (to_even hA hB g1 (by omega)) ?_
        refine has_idx hB0 (by omega) fun _ _ => ?_
        refine ih _ ⟨by rw [List.length_set]; exact hl, (seen_set (by omega)).2 (.inl hls), fun x hx => ?_⟩ (by have := low_set (not_seen hB0 (by omega) h2); omega)
        rcases (seen_set (by omega)).1 hx with h | rfl
        · exact hlr x h
        · exact .fwd he (by rw [hcast]; exact h3) (hlr _ h1)
      · have hb1 : ¬ ((Seen l' e.A ∧ ¬ Seen l' e.B) ∧ i ∉ cut) := fun hh => h (hb.2 hh)
        refine has_beq (from_odd g1 (by omega)) ?_
        refine has_idx hB0 (by omega) fun sb hsb => ?_
        have hsb := seen_get hB0 hsb
        refine has_join (fun b => (b = true ↔ Seen l' e.B ∧ ¬ Seen l' e.A)) (fun b hb => ?_) (fun j hj => ?_)
        · refine has_join (fun b => (b = true ↔ (Seen l' e.B ∧ ¬ Seen l' e.A) ∧ i ∉ cut)) (fun b hb => ?_) (fun j hj => ?_)
          · refine has_ite (fun h => ?_) (fun h => ?_)
            · obtain ⟨⟨h1, h2⟩, h3⟩ := hb.1 h
              refine has_beq (to_odd hA hB g1 (by omega)) ?_
              refine has_idx hA0 (by omega) fun _ _ => ?_
              refine ih _ ⟨by rw [List.length_set]; exact hl, (seen_set (by omega)).2 (.inl hls), fun x hx => ?_⟩ (by have := low_set (not_seen hA0 (by omega) h2); omega)
              rcases (seen_set (by omega)).1 hx with h | rfl
              · exact hlr x h
              · exact .bwd he (by rw [hcast]; exact h3) (hlr _ h1)
            · have hb2 : ¬ ((Seen l' e.B ∧ ¬ Seen l' e.A) ∧ i ∉ cut) := fun hh => h (hb.2 hh)
              rw [w64_id (n := i + 1) (by omega) (by omega)]
              refine ih2 _ ⟨rfl, by simp only; omega, by simp only; omega, fun j e' hj hj2 hj3 => ?_⟩ (by simp only; omega)
              simp only at hj
              by_cases hji : (j : Int) < i
              · exact g3 j e' hji hj2 hj3
              · have hjn : j = i.toNat := by omega
                rw [hjn] at hj2 hj3
                rw [he] at hj2; cases hj2
                rw [hcast] at hj3
                by_cases ha : Seen l' e.A <;> by_cases hb : Seen l' e.B <;> simp_all
          · refine has_ite (fun h => ?_) (fun h => ?_)
            · refine has_beq (contains_int hc _) (hj _ ?_)
              rw [hq2]; simp [hb.1 h]
            · refine hj _ ?_
              have : ¬ (Seen l' e.B ∧ ¬ Seen l' e.A) := fun hh => h (hb.2 hh)
              simp [this]
        · refine has_ite (fun h => ?_) (fun h => ?_)
          · refine has_beq (to_odd hA hB g1 (by omega)) ?_
            refine has_idx hA0 (by omega) fun sa2 hsa2 => hj _ ?_
            have hsa2 := seen_get hA0 hsa2
            rw [hsb, hsa2, h]; simp
          · refine hj _ ?_
            rw [hsb]; simp [h]
    · refine has_ite (fun h => ?_) (fun h => ?_)
      · refine has_beq (contains_int hc _) (hj _ ?_)
        rw [hq1]; simp [hb.1 h]
      · refine hj _ ?_
        have : ¬ (Seen l' e.A ∧ ¬ Seen l' e.B) := fun hh => h (hb.2 hh)
        simp [this]
  · refine has_ite (fun h => ?_) (fun h => ?_)
    · refine has_beq (to_even hA hB g1 (by omega)) ?_
      refine has_idx hB0 (by omega) fun sb2 hsb2 => hj _ ?_
      have hsb2 := seen_get hB0 hsb2
      rw [hsa, hsb2, h]; simp
    · refine hj _ ?_
      rw [hsa]; simp [h]
end Go.AM.P16
namespace Go.AM.P16
open Go
end Go.AM.P16
namespace Go.AM.P16
open Go
theorem IsReach.whole {t : ApiTopo} {l : List Bool} (h : IsReach t [] 0 l) : false ∈ l ↔ ¬ ∀ n, IsN t n → Rch t [] 0 n := by
  obtain ⟨h1, h2⟩ := h
  constructor
  · intro hm hall
    obtain ⟨i, hi⟩ := List.mem_iff_getElem?.1 hm
    have hlt := (List.getElem?_eq_some_iff.1 hi).1
    have := (h2 (i : Int)).2 (hall i ⟨by omega, by omega⟩)
    obtain ⟨_, h⟩ := this
    rw [show ((i : Int).toNat) = i from rfl, hi] at h
    cases h
  · intro hn
    by_cases hf : false ∈ l
    · exact hf
    · refine absurd (fun n hnn => (h2 n).1 ?_) hn
      by_cases hs : Seen l n
      · exact hs
      · exact absurd (List.mem_of_getElem? (not_seen hnn.1 (by have := hnn.2; omega) hs)) hf
theorem LinksOk.inl {t : ApiTopo} (h : LinksOk t) : InL t := fun i e he => ⟨(h i e he).1.a, (h i e he).1.b⟩
def CheckIs (t : ApiTopo) (r : Int) : Prop := (Fit t ∧ r = 0) ∨ (¬ Fit t ∧ r = 260)
theorem small_dec {t : ApiTopo} : ((((decide (t.Nodes < 2)) || (decide (12 < t.Nodes))) || (decide ((t.Station.length : Int) ≠ t.Nodes))) || (decide (24 < (t.Links.length : Int)))) = true ↔ ¬ Small t := by
  simp only [Bool.or_eq_true, decide_eq_true_eq]
  constructor
  · intro h hs
    have h1 := hs.n; have h2 := hs.s; have h3 := hs.l
    omega
  · intro h
    by_cases h1 : t.Nodes < 2
    · exact .inl (.inl (.inl h1))
    by_cases h2 : 12 < t.Nodes
    · exact .inl (.inl (.inr h2))
    by_cases h3 : (t.Station.length : Int) = t.Nodes
    · refine .inr ?_
      by_cases h4 : t.Links.length ≤ 24
      · exact absurd ⟨⟨by omega, by omega⟩, h3, h4⟩ h
      · omega
    · exact .inl (.inr h3)
theorem Check_has (t : ApiTopo) : Has (m_topo_Check t) (CheckIs t) := by
  unfold m_topo_Check
  refine has_sh (has_sh (has_sh ?_))
  refine has_ite (fun h => has_ok ?_) (fun h => ?_)
  · exact .inr ⟨fun hf => small_dec.1 h hf.small, rfl⟩
  have ht : Small t := Classical.not_not.1 fun hn => h (small_dec.2 hn)
  have hn := ht.n
  have hlk := ht.l
  have hst := ht.s
  refine has_loop (fun i : Int => 0 ≤ i ∧ i ≤ t.Links.length ∧ ∀ (j : Nat) (e : ApiLink), (j : Int) < i → t.Links[j]? = some e → LinkOk t e ∧ Alone t.Links j e) (fun i => ((t.Links.length : Int) - i).toNat) (fun y hy => by omega) ⟨by omega, by omega, fun j e hj => by omega⟩ ?_
  rintro i rec ⟨g0, g1, g2⟩ ih
  unfold m_topo_Check_l2
  simp only [decide_eq_true_eq]
  refine has_ite (fun hi => ?_) (fun hi => ?_)
  · obtain ⟨e, he⟩ : ∃ e, t.Links[i.toNat]? = some e := ⟨_, List.getElem?_eq_getElem (by omega)⟩
    refine has_bind (validLink_has ht g0 he) fun r hr => ?_
    refine has_ite (fun h => has_ok ?_) (fun h => ?_)
    · refine .inr ⟨fun hf => ?_, rfl⟩
      rw [hr.2 (hf.links _ _ he)] at h
      cases h
    · have h : r = true := by simpa using h
      rw [w64_id (by omega) (by omega)]
      refine ih _ ⟨by omega, by omega, fun j f hj hf => ?_⟩ (by omega)
      by_cases hji : (j : Int) < i
      · exact g2 j f hji hf
      · have : j = i.toNat := by omega
        subst this
        rw [he] at hf; cases hf
        exact hr.1 h
  have hL : LinksOk t := fun j e he => g2 j e (by have := (List.getElem?_eq_some_iff.1 he).1; omega) he
  refine has_loop (fun i : Int => 0 ≤ i ∧ i ≤ t.Station.length ∧ ∀ n : Int, n < i → Seen t.Station n → 1 ≤ cnt t.Links n ∧ cnt t.Links n ≤ 2) (fun i => ((t.Station.length : Int) - i).toNat) (fun y hy => by omega) ⟨by omega, by omega, fun n hn hs => by have := hs.1; omega⟩ ?_
  rintro k rec2 ⟨k0, k1, k2⟩ ih2
  unfold m_topo_Check_l1
  simp only [decide_eq_true_eq]
  refine has_ite (fun hk => ?_) (fun hk => ?_)
  · refine has_idx k0 hk fun b hb => ?_
    have hb := seen_get k0 hb
    refine has_join (fun s => (s = true ↔ Seen t.Station k ∧ ¬ (1 ≤ cnt t.Links k ∧ cnt t.Links k ≤ 2))) (fun s hs => ?_) (fun j hj => ?_)
    · refine has_ite (fun h => has_ok ?_) (fun h => ?_)
      · obtain ⟨h1, h2⟩ := hs.1 h
        exact .inr ⟨fun hf => h2 (hf.stations k ⟨k0, by omega⟩ h1), rfl⟩
      · rw [w64_id (by omega) (by omega)]
        refine ih2 _ ⟨by omega, by omega, fun n hn hsn => ?_⟩ (by omega)
        by_cases hnk : n < k
        · exact k2 n hnk hsn
        · have : n = k := by omega
          subst this
          exact Decidable.byContradiction fun hh => h (hs.2 ⟨hsn, hh⟩)
    · refine has_ite (fun h => ?_) (fun h => ?_)
      · refine has_beq (degree_ok hlk k) ?_
        have hsn := hb.2 h
        refine has_ite (fun h2 => hj _ ?_) (fun h2 => ?_)
        · simp only [true_iff]; exact ⟨hsn, by omega⟩
        · refine has_beq (degree_ok hlk k) (hj _ ?_)
          simp only [decide_eq_true_eq]
          exact ⟨fun h3 => ⟨hsn, by omega⟩, fun ⟨_, h3⟩ => by omega⟩
      · refine hj _ ?_
        have : ¬ Seen t.Station k := fun hh => h (hb.1 hh)
        simp [this]
  · refine has_bind (reach_has ht hL.inl (cut := []) (by simp) (s := 0) ⟨by omega, by omega⟩) fun l hl => ?_
    have hw := hl.whole
    refine has_beq (contains_bool (by have := hl.1; omega) false) ?_
    refine has_ite (fun h => has_ok ?_) (fun h => has_ok ?_)
    · exact .inr ⟨fun hf => hw.1 (by simpa using h) hf.whole, rfl⟩
    · have h : ¬ false ∈ l := by simpa using h
      refine .inl ⟨⟨ht, hL, fun n hn hs => k2 n (by have := hs.lt; omega) hs, ?_⟩, rfl⟩
      exact Classical.not_not.1 fun hh => h (hw.2 hh)
/-! ### The reference -/
theorem node_ok (t : ApiTopo) (n : Int) : m_isochronref16_node t n = .ok (decide (IsN t n)) := by
  unfold m_isochronref16_node sh
  by_cases h1 : 0 ≤ n <;> by_cases h2 : n < t.Nodes <;> simp [IsN, h1, h2]
theorem joins_ok (e : ApiLink) (a b : Int) : Has (m_isochronref16_Joins e a b) (fun r => (r = true ↔ Joins e a b)) := by
  unfold m_isochronref16_Joins
  exact has_sh (has_sh (has_ok joins_dec))
theorem link_has {t : ApiTopo} (ht : Small t) (e : ApiLink) : Has (m_isochronref16_link t e) (fun r => (r = true ↔ LinkOk t e)) := by
  have hs := ht.s
  unfold m_isochronref16_link
  refine has_beq (node_ok _ _) ?_
  refine has_join (fun s => (s = true ↔ ¬ (IsN t e.A ∧ IsN t e.B))) (fun s hs1 => ?_) (fun j hj => ?_)
  · refine has_sh ?_
    refine has_join (fun s => (s = true ↔ ¬ (IsN t e.A ∧ IsN t e.B ∧ e.A ≠ e.B ∧ ¬ (Seen t.Station e.A ∧ Seen t.Station e.B)))) (fun s hs2 => ?_) (fun j hj => ?_)
    · refine has_ite (fun h => has_ok ?_) (fun h => ?_)
      · simp only [Bool.false_eq_true, false_iff]
        exact fun hl => hs2.1 h ⟨hl.a, hl.b, hl.ne, hl.st⟩
      · have h : IsN t e.A ∧ IsN t e.B ∧ e.A ≠ e.B ∧ ¬ (Seen t.Station e.A ∧ Seen t.Station e.B) := Classical.not_not.1 fun hh => h (hs2.2 hh)
        refine has_sh (has_sh (has_sh (has_ok ?_)))
        simp only [Bool.and_eq_true, decide_eq_true_eq]
        exact ⟨fun hh => ⟨h.1, h.2.1, h.2.2.1, h.2.2.2, by omega, by omega⟩, fun hl => ⟨⟨hl.per, hl.delay.1⟩, hl.delay.2⟩⟩
    · refine has_ite (fun h => hj _ ?_) (fun h => ?_)
      · simp only [true_iff]
        rintro ⟨h1, h2, h3, _⟩
        simp only [Bool.or_eq_true, decide_eq_true_eq] at h
        rcases h with h | h
        · exact hs1.1 h ⟨h1, h2⟩
        · exact h3 h
      · have hab : IsN t e.A ∧ IsN t e.B := Classical.not_not.1 fun hh => h (by simp [hs1.2 hh])
        have hne : e.A ≠ e.B := fun hh => h (by simp [hh])
        obtain ⟨ha, hb⟩ := hab
        refine has_idx ha.1 (by have := ha.2; omega) fun sa hsa => ?_
        have hsa := seen_get ha.1 hsa
        refine has_ite (fun h1 => ?_) (fun h1 => ?_)
        · refine has_idx hb.1 (by have := hb.2; omega) fun sb hsb => hj _ ?_
          have hsb := seen_get hb.1 hsb
          have h1 := hsa.2 h1
          rw [← hsb]
          simp [ha, hb, hne, h1]
        · refine hj _ ?_
          have : ¬ Seen t.Station e.A := fun hh => h1 (hsa.1 hh)
          simp [ha, hb, hne, this]
  · refine has_ite (fun h => hj _ ?_) (fun h => ?_)
    · have : ¬ IsN t e.A := by simpa using h
      simp [this]
    · refine has_beq (node_ok _ _) (hj _ ?_)
      have : IsN t e.A := by simpa using h
      simp [this]
end Go.AM.P16
namespace Go.AM.P16
open Go
theorem Check_fit {t : ApiTopo} (h : Fit t) : m_topo_Check t = .ok 0 := by
  obtain ⟨r, h1, h2⟩ := Check_has t
  rcases h2 with ⟨_, rfl⟩ | ⟨h2, _⟩
  · exact h1
  · exact absurd h h2
theorem Check_unfit {t : ApiTopo} (h : ¬ Fit t) : m_topo_Check t = .ok 260 := by
  obtain ⟨r, h1, h2⟩ := Check_has t
  rcases h2 with ⟨h2, rfl⟩ | ⟨h2, rfl⟩
  · exact absurd h2 h
  · exact h1
end Go.AM.P16
namespace Go.AM.P16
open Go
def IsP (t : ApiTopo) (p : Int) : Prop := 0 ≤ p ∧ p < 2 * t.Links.length
instance (t : ApiTopo) (p : Int) : Decidable (IsP t p) := inferInstanceAs (Decidable (_ ∧ _))
theorem w2l {t : ApiTopo} (h : Small t) : w64 (2 * (t.Links.length : Int)) = 2 * t.Links.length := by
  have := h.l
  rw [w64_id (by omega) (by omega)]
theorem half {p : Int} (h0 : 0 ≤ p) (h1 : p < 1000000) : w64 (p.tdiv 2) = p / 2 := by
  rw [Int.tdiv_eq_ediv_of_nonneg h0, w64_id (by omega) (by omega)]
/-- What stands at a port. -/
def pq (t : ApiTopo) (p : Int) (g : TopoEnd → R Int) : R (Int × Int) :=
  bindR (m_topo_Check t) fun e =>
  if (decide (e ≠ 0)) then (.ok (0, e))
  else (sh ((decide (p < 0)) || (decide ((w64 (2 * (t.Links.length : Int))) ≤ p))) fun (s : Bool) =>
  (if s then (.ok (0, 2))
  else (bindR (idx t.Links (w64 (Int.tdiv p 2))) fun e1 =>
  bindR (g ((TopoEnd.mk e1 p))) fun e2 =>
  .ok (e2, 0))))
theorem isp_dec {t : ApiTopo} (h : Small t) {p : Int} : ((decide (p < 0)) || (decide ((w64 (2 * (t.Links.length : Int))) ≤ p))) = decide (¬ IsP t p) := by
  rw [w2l h]
  by_cases h1 : p < 0 <;> by_cases h2 : 2 * (t.Links.length : Int) ≤ p <;> simp [IsP, h1, h2] <;> omega
theorem pq_in {t : ApiTopo} (h : Fit t) {p : Int} (hp : IsP t p) {e : ApiLink} (he : t.Links[(p / 2).toNat]? = some e) {g : TopoEnd → R Int} {v : Int} (hg : g ⟨e, p⟩ = .ok v) : pq t p g = .ok (v, 0) := by
  have := h.small.l
  obtain ⟨h0, h1⟩ := hp
  unfold pq
  rw [Check_fit h, isp_dec h.small, half h0 (by omega)]
  have : idx t.Links (p / 2) = .ok e := idx_ok.2 ⟨by omega, he⟩
  simp [bindR, sh, IsP, h0, h1, this, hg]
theorem refFrom {t : ApiTopo} {p : Int} (h0 : 0 ≤ p) (h1 : p < 1000000) {e : ApiLink} (he : t.Links[(p / 2).toNat]? = some e) : m_isochronref16_From t p = .ok (if p.tmod 2 = 0 then e.A else e.B) := by
  unfold m_isochronref16_From
  have : idx t.Links (p / 2) = .ok e := idx_ok.2 ⟨by omega, he⟩
  rw [half h0 h1, this]
  simp only [bindR, decide_eq_true_eq, Int.tmod_eq_emod_of_nonneg h0]
  by_cases h : p % 2 = 0
  · rw [if_neg (by omega), if_pos h]
  · rw [if_pos (by omega), if_neg h]
theorem refTo {t : ApiTopo} {p : Int} (h0 : 0 ≤ p) (h1 : p < 1000000) {e : ApiLink} (he : t.Links[(p / 2).toNat]? = some e) : m_isochronref16_To t p = .ok (if p.tmod 2 = 0 then e.B else e.A) := by
  unfold m_isochronref16_To
  have : idx t.Links (p / 2) = .ok e := idx_ok.2 ⟨by omega, he⟩
  rw [half h0 h1, this]
  simp only [bindR, decide_eq_true_eq, Int.tmod_eq_emod_of_nonneg h0]
  by_cases h : p % 2 = 0
  · rw [if_neg (by omega), if_pos h]
  · rw [if_pos (by omega), if_neg h]
theorem portlink {t : ApiTopo} {p : Int} (hp : IsP t p) : ∃ e, t.Links[(p / 2).toNat]? = some e := by
  obtain ⟨h0, h1⟩ := hp
  exact ⟨_, List.getElem?_eq_getElem (by omega)⟩

end Go.AM.P16
namespace Go.AM.P16
open Go
theorem back_fin : ∀ p : Fin 48, bitXor .i64 (p.1 : Int) 1 = (if ((p.1 : Int)).tmod 2 = 1 then w64 ((p.1 : Int) - 1) else w64 ((p.1 : Int) + 1)) := by decide +kernel
/-! ### The law of the ports -/
end Go.AM.P16
namespace Go.AM.P16
open Go
/-! ### Rows that are alike -/
theorem equal_int {a b : List Int} (ha : a.length < 1000000) : m_slices_Equal_int_int a b = .ok (decide (a = b)) := by
  refine Has.eq ?_
  unfold m_slices_Equal_int_int
  simp only [decide_eq_true_eq, ne_eq]
  refine has_ite (fun h => has_ok ?_) (fun h => ?_)
  · have : a ≠ b := fun e => h (by rw [e])
    simp [this]
  refine has_loop (fun i : Int => 0 ≤ i ∧ i ≤ a.length ∧ ∀ j : Nat, (j : Int) < i → a[j]? = b[j]?) (fun i => ((a.length : Int) - i).toNat) (fun y hy => by omega) ⟨by omega, by omega, fun j hj => by omega⟩ ?_
  rintro i rec ⟨h0, h1, h2⟩ ih
  unfold m_slices_Equal_int_int_l1
  simp only [decide_eq_true_eq, ne_eq]
  refine has_ite (fun hi => ?_) (fun hi => ?_)
  · refine has_idx h0 hi fun x hx => ?_
    refine has_idx h0 (by omega) fun y hy => ?_
    refine has_ite (fun he => has_ok ?_) (fun he => ?_)
    · have : a ≠ b := fun e => by
        rw [e, hy] at hx; cases hx; simp at he
      simp [this]
    · have he : x = y := by simpa using he
      rw [w64_id (by omega) (by omega)]
      refine ih _ ⟨by omega, by omega, fun j hj => ?_⟩ (by omega)
      by_cases hji : (j : Int) < i
      · exact h2 j hji
      · have : j = i.toNat := by omega
        rw [this, hx, hy, he]
  · refine has_ok ?_
    have : a = b := List.ext_getElem? fun j => by
      by_cases hj : j < a.length
      · exact h2 j (by omega)
      · rw [List.getElem?_eq_none (by omega), List.getElem?_eq_none (by omega)]
    simp [this]

end Go.AM.P16
namespace Go.AM.P16
open Go
/-! ### Which ports -/
def fromO (t : ApiTopo) (p : Nat) : Option Int := (t.Links[p / 2]?).map fun e => if p % 2 = 0 then e.A else e.B
def toO (t : ApiTopo) (p : Nat) : Option Int := (t.Links[p / 2]?).map fun e => if p % 2 = 0 then e.B else e.A
theorem fromO_even {t : ApiTopo} {i : Nat} {e : ApiLink} (h : t.Links[i]? = some e) : fromO t (2 * i) = some e.A ∧ toO t (2 * i) = some e.B := by
  have h1 : 2 * i / 2 = i := by omega
  have h2 : 2 * i % 2 = 0 := by omega
  simp [fromO, toO, h1, h2, h]
theorem fromO_odd {t : ApiTopo} {i : Nat} {e : ApiLink} (h : t.Links[i]? = some e) : fromO t (2 * i + 1) = some e.B ∧ toO t (2 * i + 1) = some e.A := by
  have h1 : (2 * i + 1) / 2 = i := by omega
  have h2 : (2 * i + 1) % 2 = 1 := by omega
  simp [fromO, toO, h1, h2, h]
theorem refFromO {t : ApiTopo} {p : Int} (h0 : 0 ≤ p) (h1 : p < 2 * t.Links.length) (h2 : p < 1000000) : ∃ v, m_isochronref16_From t p = .ok v ∧ fromO t p.toNat = some v := by
  obtain ⟨e, he⟩ := portlink (t := t) ⟨h0, h1⟩
  refine ⟨_, refFrom h0 h2 he, ?_⟩
  have h3 : p.toNat / 2 = (p / 2).toNat := by omega
  rw [fromO, h3, he, Int.tmod_eq_emod_of_nonneg h0]
  simp only [Option.map_some]
  congr 1
  by_cases h : p % 2 = 0
  · rw [if_pos (by omega), if_pos h]
  · rw [if_neg (by omega), if_neg h]
def pl (t : ApiTopo) (n : Int) : Nat → List Int
  | 0 => []
  | k + 1 => pl t n k ++ (if fromO t k = some n then [(k : Int)] else [])
theorem pl_succ (t : ApiTopo) (n : Int) (k : Nat) : pl t n (k + 1) = pl t n k ++ (if fromO t k = some n then [(k : Int)] else []) := rfl
theorem pl_len (t : ApiTopo) (n : Int) (k : Nat) : (pl t n k).length ≤ k := by
  induction k with
  | zero => simp [pl]
  | succ k ih => simp only [pl, List.length_append]; split <;> simp <;> omega
theorem okLen_ok {n : Nat} (h : n ≤ 1000000000) : okLen n = true := by unfold okLen; rw [Nat.ble_eq]; exact h
theorem refPorts_ok {t : ApiTopo} (ht : t.Links.length ≤ 24) (n : Int) : m_isochronref16_Ports t n = .ok (pl t n (2 * t.Links.length)) := by
  refine Has.eq ?_
  have hw : w64 (2 * (t.Links.length : Int)) = 2 * t.Links.length := w64_id (by omega) (by omega)
  unfold m_isochronref16_Ports
  refine has_loop (fun y : List Int × Int => 0 ≤ y.2 ∧ y.2 ≤ 2 * t.Links.length ∧ y.1 = pl t n y.2.toNat) (fun y => (2 * (t.Links.length : Int) - y.2).toNat) (fun y hy => by omega) ⟨by simp, by simp only; omega, rfl⟩ ?_
  rintro ⟨acc, p⟩ rec ⟨h0, h1, h2⟩ ih
  simp only at h0 h1 h2
  subst h2
  unfold m_isochronref16_Ports_l1
  simp only [decide_eq_true_eq, hw]
  refine has_ite (fun hp => ?_) (fun hp => has_ok ?_)
  · obtain ⟨v, hv, hvo⟩ := refFromO h0 hp (by omega)
    refine has_beq hv ?_
    have hp1 : (p + 1).toNat = p.toNat + 1 := by omega
    have hcast : ((p.toNat : Nat) : Int) = p := by omega
    have hlen := pl_len t n p.toNat
    refine has_join (fun z => z = pl t n (p + 1).toNat) (fun z hz => ?_) (fun j hj => ?_)
    · rw [w64_id (n := p + 1) (by omega) (by omega)]
      exact ih _ ⟨by simp only; omega, by simp only; omega, hz⟩ (by simp only; omega)
    · refine has_ite (fun h => ?_) (fun h => hj _ ?_)
      · refine has_must (okLen_ok (by simp only [List.length_cons, List.length_nil]; omega)) (hj _ ?_)
        rw [hp1, pl_succ, hvo, h, if_pos rfl, hcast]
      · rw [hp1, pl_succ, hvo, if_neg (by intro e; cases e; exact h rfl), List.append_nil]
  · congr 1; omega
/-! ### The port that leads from one to another -/
/-! ### The law of finding -/
end Go.AM.P16
namespace Go.AM.P16
open Go
def Alike (t u : ApiTopo) : Prop := t.Nodes = u.Nodes ∧ t.Station = u.Station ∧ t.Links = u.Links
theorem Alike.symm {t u : ApiTopo} (h : Alike t u) : Alike u t := ⟨h.1.symm, h.2.1.symm, h.2.2.symm⟩
end Go.AM.P16
namespace Go.AM.P16
open Go
/-! ### Topologies that a draft describes -/
theorem inR_u8 {n : Int} : inR .u8 n ↔ 0 ≤ n ∧ n ≤ 255 := by
  unfold inR
  have h1 : IntKind.u8.min = 0 := by decide
  have h2 : IntKind.u8.max = 255 := by decide
  rw [h1, h2]
theorem pick_has {l : List Int} (hl : ∀ v ∈ l, inR .u8 v) {i : Int} (h0 : 0 ≤ i) : Has (m_isochronref16_pick l i) (fun r => 0 ≤ r ∧ r ≤ 255) := by
  unfold m_isochronref16_pick
  refine has_ite (fun h => ?_) (fun h => has_ok ⟨by omega, by omega⟩)
  refine has_idx h0 (of_decide_eq_true h) fun v hv => has_ok ?_
  have := inR_u8.1 (hl v (List.mem_of_getElem? hv))
  rw [w64_id (by omega) (by omega)]
  exact this
structure Sized (t : ApiTopo) : Prop where
  n : 2 ≤ t.Nodes ∧ t.Nodes ≤ 12
  s : (t.Station.length : Int) = t.Nodes
def WithIs (t : ApiTopo) (a b : Int) (u : ApiTopo) : Prop :=
  ∃ l : ApiLink, l.A = a ∧ l.B = b ∧ (1 ≤ l.Per ∧ l.Per ≤ 20) ∧ (0 ≤ l.Delay ∧ l.Delay < 50) ∧
    ((u = t ∧ (t.Links.length < 24 → LinkOk t l → ∃ (i : Nat) (f : ApiLink), t.Links[i]? = some f ∧ Joins f a b)) ∨
     (u = { t with Links := t.Links ++ [l] } ∧ t.Links.length < 24 ∧ LinkOk t l ∧ ∀ (i : Nat) (f : ApiLink), t.Links[i]? = some f → ¬ Joins f a b))
theorem with_has {d : Isochronref16Draft} (hP : ∀ v ∈ d.Pers, inR .u8 v) (hD : ∀ v ∈ d.Delays, inR .u8 v) {t : ApiTopo} (hs : Sized t) (hl : t.Links.length ≤ 24) (a b : Int) :
    Has (m_isochronref16_Draft_with d t a b) (WithIs t a b) := by
  unfold m_isochronref16_Draft_with
  refine has_bind (pick_has hP (by omega)) fun p hp => ?_
  refine has_bind (pick_has hD (by omega)) fun q hq => ?_
  have hp1 : Int.tmod p 20 = p % 20 := Int.tmod_eq_emod_of_nonneg hp.1
  have hq1 : Int.tmod q 50 = q % 50 := Int.tmod_eq_emod_of_nonneg hq.1
  have hw : w64 (1 + Int.tmod p 20) = 1 + p % 20 := by rw [hp1, w64_id (by omega) (by omega)]
  unfold m_isochronref16_Draft_with_l1
  rw [hw, hq1]
  have hsm : Small t := ⟨hs.n, hs.s, hl⟩
  refine has_join (fun s => (s = true ↔ t.Links.length = 24 ∨ ¬ LinkOk t ⟨a, b, 1 + p % 20, q % 50⟩)) (fun s hs1 => ?_) (fun j hj => ?_)
  · refine has_ite (fun h => has_ok ?_) (fun h => ?_)
    · refine ⟨⟨a, b, 1 + p % 20, q % 50⟩, rfl, rfl, by simp only; omega, by simp only; omega, .inl ⟨rfl, fun h24 hok => ?_⟩⟩
      rcases hs1.1 h with h1 | h1
      · omega
      · exact absurd hok h1
    · have hno : ¬ (t.Links.length = 24 ∨ ¬ LinkOk t ⟨a, b, 1 + p % 20, q % 50⟩) := fun hh => h (hs1.2 hh)
      have h24 : t.Links.length < 24 := by
        have : t.Links.length ≠ 24 := fun hh => hno (.inl hh)
        omega
      have hok : LinkOk t ⟨a, b, 1 + p % 20, q % 50⟩ := Classical.not_not.1 fun hh => hno (.inr hh)
      refine has_loop (fun y : Int × List ApiLink => y.2 = t.Links ∧ 0 ≤ y.1 ∧ y.1 ≤ t.Links.length ∧ ∀ (i : Nat) (f : ApiLink), (i : Int) < y.1 → t.Links[i]? = some f → ¬ Joins f a b) (fun y => ((t.Links.length : Int) - y.1).toNat) (fun y hy => by omega) ⟨rfl, by simp, by simp, fun i f hi => by simp at hi; omega⟩ ?_
      rintro ⟨i, ls⟩ rec ⟨h0, h1, h2, h3⟩ ih
      simp only at h0 h1 h2 h3
      subst h0
      refine has_ite (fun hi => ?_) (fun hi => ?_)
      · have hi : i < t.Links.length := of_decide_eq_true hi
        refine has_idx h1 hi fun f hf => ?_
        refine has_bind (joins_ok f a b) fun r hr => ?_
        refine has_ite (fun hrt => has_ok ?_) (fun hrf => ?_)
        · exact ⟨⟨a, b, 1 + p % 20, q % 50⟩, rfl, rfl, by simp only; omega, by simp only; omega, .inl ⟨rfl, fun _ _ => ⟨i.toNat, f, hf, hr.1 hrt⟩⟩⟩
        · rw [w64_id (n := i + 1) (by omega) (by omega)]
          refine ih _ ⟨rfl, by simp only; omega, by simp only; omega, fun k g hk hg => ?_⟩ (by simp only; omega)
          simp only at hk
          by_cases hki : (k : Int) < i
          · exact h3 k g hki hg
          · have : k = i.toNat := by omega
            rw [this, hf] at hg; cases hg
            exact fun hh => hrf (hr.2 hh)
      · have hi : ¬ i < t.Links.length := fun hh => hi (decide_eq_true hh)
        refine has_must (by unfold okLen; rw [Nat.ble_eq]; simp only [List.length_cons, List.length_nil]; omega) (has_ok ?_)
        exact ⟨⟨a, b, 1 + p % 20, q % 50⟩, rfl, rfl, by simp only; omega, by simp only; omega, .inr ⟨rfl, h24, hok, fun k g hg => h3 k g (by have := (List.getElem?_eq_some_iff.1 hg).1; omega) hg⟩⟩
  · refine has_ite (fun h => hj _ ?_) (fun h => ?_)
    · have : (t.Links.length : Int) = 24 := of_decide_eq_true h
      simp only [true_iff]; exact .inl (by omega)
    · have hne : t.Links.length ≠ 24 := fun hh => h (decide_eq_true (by omega))
      refine has_bind (link_has hsm _) fun r hr => hj _ ?_
      cases r with
      | true => simp only [Bool.not_true, Bool.false_eq_true, false_iff, not_or, Classical.not_not]; exact ⟨hne, hr.1 rfl⟩
      | false => simp only [Bool.not_false, true_iff]; exact .inr fun hh => by have := hr.2 hh; cases this
end Go.AM.P16
namespace Go.AM.P16
open Go
theorem Joins.ends {f : ApiLink} {a b : Int} (h : Joins f a b) : 1 ≤ ends f a ∧ 1 ≤ ends f b := by
  unfold P16.ends
  rcases h with ⟨h1, h2⟩ | ⟨h1, h2⟩
  · simp only [h1, h2, if_true]; constructor <;> (split <;> omega)
  · simp only [h1, h2, if_true]; constructor <;> (split <;> omega)
theorem cnt_append (ls ms : List ApiLink) (n : Int) : cnt (ls ++ ms) n = cnt ls n + cnt ms n := by
  simp [cnt, List.map_append, List.sum_append]
theorem cnt_pos {ls : List ApiLink} {i : Nat} {f : ApiLink} {n : Int} (h : ls[i]? = some f) (he : 1 ≤ ends f n) : 1 ≤ cnt ls n := by
  obtain ⟨hlt, hg⟩ := List.getElem?_eq_some_iff.1 h
  have h1 : ls = ls.take i ++ (f :: ls.drop (i + 1)) := by
    rw [← hg, List.getElem_cons_drop, List.take_append_drop]
  rw [h1, cnt_append]
  have h2 := cnt_range (ls.take i) n
  have h3 := cnt_range (ls.drop (i + 1)) n
  have h4 : cnt (f :: ls.drop (i + 1)) n = ends f n + cnt (ls.drop (i + 1)) n := by simp [cnt]
  omega
theorem Rch.links {t u : ApiTopo} {s x : Int} (hsub : ∀ (i : Nat) (e : ApiLink), t.Links[i]? = some e → ∃ j : Nat, u.Links[j]? = some e) (h : Rch t [] s x) : Rch u [] s x := by
  induction h with
  | base => exact .base
  | fwd h1 _ _ ih => obtain ⟨j, hj⟩ := hsub _ _ h1; exact .fwd hj (by simp) ih
  | bwd h1 _ _ ih => obtain ⟨j, hj⟩ := hsub _ _ h1; exact .bwd hj (by simp) ih
theorem Rch.step {t : ApiTopo} {cut : List Int} {s a b : Int} {i : Nat} {f : ApiLink} (h : t.Links[i]? = some f) (hc : (i : Int) ∉ cut) (hj : Joins f a b) : (Rch t cut s a ↔ Rch t cut s b) := by
  rcases hj with ⟨rfl, rfl⟩ | ⟨rfl, rfl⟩
  · exact ⟨fun hh => .fwd h hc hh, fun hh => .bwd h hc hh⟩
  · exact ⟨fun hh => .bwd h hc hh, fun hh => .fwd h hc hh⟩
/-- What stands while a draft is laid out: b bridges, s stations. -/
structure Lay (b s : Int) (t : ApiTopo) : Prop where
  n : t.Nodes = b + s
  sized : Sized t
  st : ∀ n, Seen t.Station n ↔ b ≤ n ∧ n < b + s
  links : LinksOk t
theorem LinkOk.congr {t u : ApiTopo} (h1 : t.Nodes = u.Nodes) (h2 : t.Station = u.Station) {e : ApiLink} (h : LinkOk t e) : LinkOk u e :=
  ⟨by have := h.a; unfold IsN at *; rw [← h1]; exact this, by have := h.b; unfold IsN at *; rw [← h1]; exact this, h.ne, by rw [← h2]; exact h.st, h.per, h.delay⟩
/-- One link more: what changes. -/
structure More (t u : ApiTopo) (a b : Int) : Prop where
  nodes : u.Nodes = t.Nodes
  station : u.Station = t.Station
  sub : ∀ (i : Nat) (e : ApiLink), t.Links[i]? = some e → u.Links[i]? = some e
  len : t.Links.length ≤ u.Links.length ∧ u.Links.length ≤ t.Links.length + 1 ∧ u.Links.length ≤ 24
  cnt : ∀ n, P16.cnt t.Links n ≤ P16.cnt u.Links n ∧ (n ≠ a → n ≠ b → P16.cnt u.Links n = P16.cnt t.Links n) ∧ (a ≠ b → P16.cnt u.Links n ≤ P16.cnt t.Links n + 1)
  new : ∀ (i : Nat) (e : ApiLink), u.Links[i]? = some e → t.Links[i]? = some e ∨ (e.A = a ∧ e.B = b)
theorem WithIs.more {t u : ApiTopo} {a b : Int} (h : WithIs t a b u) (hl : t.Links.length ≤ 24) : More t u a b := by
  obtain ⟨l, rfl, rfl, hp, hd, h⟩ := h
  rcases h with ⟨rfl, _⟩ | ⟨rfl, h24, hok, hno⟩
  · exact ⟨rfl, rfl, fun _ _ h => h, ⟨Nat.le_refl _, by omega, hl⟩, fun n => ⟨Int.le_refl _, fun _ _ => rfl, fun _ => by omega⟩, fun _ _ h => .inl h⟩
  · refine ⟨rfl, rfl, fun i e h => ?_, ⟨by simp, by simp, by simp; omega⟩, fun n => ?_, fun i e h => ?_⟩
    · simp only
      rw [List.getElem?_append_left (List.getElem?_eq_some_iff.1 h).1]; exact h
    · have hc : P16.cnt (t.Links ++ [l]) n = P16.cnt t.Links n + ends l n := by rw [cnt_append]; simp [P16.cnt]
      have := ends_range l n
      simp only
      rw [hc]
      refine ⟨by omega, fun h1 h2 => ?_, fun hne => ?_⟩
      · unfold P16.ends; rw [if_neg (fun e => h1 e.symm), if_neg (fun e => h2 e.symm)]; omega
      · unfold P16.ends; split <;> split <;> omega
    · simp only at h
      by_cases hi : i < t.Links.length
      · rw [List.getElem?_append_left hi] at h; exact .inl h
      · rw [List.getElem?_append_right (by omega)] at h
        rcases hx : i - t.Links.length with _ | k
        · rw [hx] at h; cases h; exact .inr ⟨rfl, rfl⟩
        · rw [hx] at h; simp at h
theorem WithIs.lay {b' s' : Int} {t u : ApiTopo} {a b : Int} (h : WithIs t a b u) (hL : Lay b' s' t) : Lay b' s' u := by
  obtain ⟨l, rfl, rfl, hp, hd, h⟩ := h
  rcases h with ⟨rfl, _⟩ | ⟨rfl, h24, hok, hno⟩
  · exact hL
  · refine ⟨hL.n, ⟨hL.sized.n, hL.sized.s⟩, hL.st, fun i e he => ?_⟩
    simp only at he
    by_cases hi : i < t.Links.length
    · rw [List.getElem?_append_left hi] at he
      obtain ⟨h1, h2⟩ := hL.links _ _ he
      refine ⟨LinkOk.congr (t := t) (u := { t with Links := t.Links ++ [l] }) rfl rfl h1, fun j f hj hf => h2 j f hj ?_⟩
      simp only at hf
      rwa [List.getElem?_append_left (by omega)] at hf
    · rw [List.getElem?_append_right (by omega)] at he
      rcases hx : i - t.Links.length with _ | k
      · rw [hx] at he; cases he
        refine ⟨LinkOk.congr (t := t) (u := { t with Links := t.Links ++ [l] }) rfl rfl hok, fun j f hj hf => ?_⟩
        simp only at hf
        rw [List.getElem?_append_left (by omega)] at hf
        exact hno j f hf
      · rw [hx] at he; simp at he
/-- A link that may be is there afterwards. -/
theorem WithIs.there {t u : ApiTopo} {a b : Int} (h : WithIs t a b u) (hl : t.Links.length < 24) (ha : IsN t a) (hb : IsN t b) (hne : a ≠ b) (hst : ¬ (Seen t.Station a ∧ Seen t.Station b)) : ∃ (i : Nat) (f : ApiLink), u.Links[i]? = some f ∧ Joins f a b := by
  obtain ⟨l, rfl, rfl, hp, hd, h⟩ := h
  have hok : LinkOk t l := ⟨ha, hb, hne, hst, by omega, by omega⟩
  rcases h with ⟨rfl, h⟩ | ⟨rfl, h24, _, hno⟩
  · exact h hl hok
  · exact ⟨t.Links.length, l, by simp, .inl ⟨rfl, rfl⟩⟩
end Go.AM.P16
namespace Go.AM.P16
open Go
structure Draws (d : Isochronref16Draft) : Prop where
  br : inR .u8 d.Bridges
  sts : inR .u8 d.Stations
  ch : ∀ v ∈ d.Chords, inR .u8 v
  ho : ∀ v ∈ d.Homes, inR .u8 v
  pe : ∀ v ∈ d.Pers, inR .u8 v
  de : ∀ v ∈ d.Delays, inR .u8 v
def Drawn (t : ApiTopo) : Prop := Fit t ∧ 0 < t.Links.length
/-- All bridges and stations are joined; c: how many links a station may have. -/
structure Done (b s : Int) (t : ApiTopo) (c : Int → Int) : Prop where
  lay : Lay b s t
  len : 0 < t.Links.length ∧ t.Links.length ≤ 24
  whole : ∀ n, IsN t n → Rch t [] 0 n
  cnt : ∀ n, b ≤ n → n < b + s → 1 ≤ P16.cnt t.Links n ∧ P16.cnt t.Links n ≤ c n
theorem Done.drawn {b s : Int} {t : ApiTopo} {c : Int → Int} (h : Done b s t c) (hc : ∀ n, b ≤ n → n < b + s → c n ≤ 2) : Drawn t :=
  ⟨⟨⟨h.lay.sized.n, h.lay.sized.s, h.len.2⟩, h.lay.links, fun n hn hs => by
    obtain ⟨h1, h2⟩ := (h.lay.st n).1 hs
    have := h.cnt n h1 h2
    have := hc n h1 h2
    omega, h.whole⟩, h.len.1⟩
theorem Done.more {b s : Int} {t u : ApiTopo} {c : Int → Int} {x y : Int} (h : Done b s t c) (hw : WithIs t x y u) (c' : Int → Int)
    (hc : ∀ n, b ≤ n → n < b + s → c n ≤ c' n ∧ ((n = x ∨ n = y) → x ≠ y ∧ c n + 1 ≤ c' n)) : Done b s u c' := by
  have m := hw.more h.len.2
  refine ⟨hw.lay h.lay, ⟨by have := h.len.1; have := m.len.1; omega, m.len.2.2⟩, fun n hn => ?_, fun n h1 h2 => ?_⟩
  · have : IsN t n := by unfold IsN at *; rw [← m.nodes]; exact hn
    exact (h.whole n this).links fun i e he => ⟨i, m.sub i e he⟩
  · have h3 := h.cnt n h1 h2
    have h4 := m.cnt n
    have h5 := hc n h1 h2
    refine ⟨by omega, ?_⟩
    by_cases hx : n = x ∨ n = y
    · have := h4.2.2 (h5.2 hx).1
      have := (h5.2 hx).2
      omega
    · have := h4.2.1 (fun e => hx (.inl e)) (fun e => hx (.inr e))
      omega
section
variable {d : Isochronref16Draft} {b s : Int}
theorem chords_has (D : Draws d) (hb : w64 (1 + w64 (Int.tmod d.Bridges 6)) = b) (hb0 : 1 ≤ b ∧ b ≤ 6) {t : ApiTopo} (h : Done b s t fun _ => 2) :
    Has (loopM (m_isochronref16_Draft_Topo_l1 d) LL (0, t.Nodes, t.Station, t.Links)) Drawn := by
  refine has_loop (fun y : Int × Int × List Bool × List ApiLink => 0 ≤ y.1 ∧ y.1 ≤ 20 ∧ Done b s ⟨y.2.1, y.2.2.1, y.2.2.2⟩ fun _ => 2) (fun y => (20 - y.1).toNat) (fun y hy => by omega) ⟨by simp, by simp, h⟩ ?_
  rintro ⟨i, N, st, ls⟩ rec ⟨h0, h1, h2⟩ ih
  simp only at h0 h1 h2
  unfold m_isochronref16_Draft_Topo_l1
  simp only [hb]
  refine has_sh ?_
  refine has_ite (fun hc => ?_) (fun hc => has_ok (h2.drawn fun _ _ _ => by omega))
  · obtain ⟨hc1, hc2⟩ := Bool.and_eq_true_iff.1 hc
    have hc1 := of_decide_eq_true hc1
    have hc2 := of_decide_eq_true hc2
    rw [w64_id (n := i + 1) (by omega) (by omega)] at hc1
    refine has_idx h0 (by omega) fun v hv => ?_
    refine has_must (by simp only [decide_eq_true_eq]; omega) ?_
    rw [w64_id (n := i + 1) (by omega) (by omega)]
    refine has_idx (by omega) hc1 fun w hw => ?_
    refine has_must (by simp only [decide_eq_true_eq]; omega) ?_
    have hv1 := inR_u8.1 (D.ch v (List.mem_of_getElem? hv))
    have hw1 := inR_u8.1 (D.ch w (List.mem_of_getElem? hw))
    rw [w64_id (n := v) (by omega) (by omega), w64_id (n := w) (by omega) (by omega), Int.tmod_eq_emod_of_nonneg hv1.1, Int.tmod_eq_emod_of_nonneg hw1.1]
    have e1 := Int.emod_nonneg v (show b ≠ 0 by omega)
    have e2 := Int.emod_lt_of_pos v (show 0 < b by omega)
    have e3 := Int.emod_nonneg w (show b ≠ 0 by omega)
    have e4 := Int.emod_lt_of_pos w (show 0 < b by omega)
    refine has_bind (with_has D.pe D.de h2.lay.sized h2.len.2 _ _) fun u hu => ?_
    rw [w64_id (n := i + 2) (by omega) (by omega)]
    refine ih _ ⟨by simp only; omega, by simp only; omega, ?_⟩ (by simp only; omega)
    exact h2.more hu _ fun n hn1 hn2 => ⟨Int.le_refl _, fun hx => by omega⟩
theorem seconds_has (D : Draws d) (hb : w64 (1 + w64 (Int.tmod d.Bridges 6)) = b) (hs : w64 (2 + w64 (Int.tmod d.Stations 5)) = s) (hb0 : 1 ≤ b ∧ b ≤ 6) (hs0 : 2 ≤ s ∧ s ≤ 6) {t : ApiTopo} (h : Done b s t fun _ => 1) :
    Has (loopM (m_isochronref16_Draft_Topo_l2 d) LL (0, t.Nodes, t.Station, t.Links)) Drawn := by
  refine has_loop (fun y : Int × Int × List Bool × List ApiLink => 0 ≤ y.1 ∧ y.1 ≤ s ∧ Done b s ⟨y.2.1, y.2.2.1, y.2.2.2⟩ fun n => if n < b + y.1 then 2 else 1) (fun y => (s - y.1).toNat) (fun y hy => by omega) ⟨by simp, by simp only; omega, ?_⟩ ?_
  · refine ⟨h.lay, h.len, h.whole, fun n h1 h2 => ?_⟩
    have := h.cnt n h1 h2
    simp only
    rw [if_neg (by omega)]; exact this
  rintro ⟨k, N, st, ls⟩ rec ⟨h0, h1, h2⟩ ih
  simp only at h0 h1 h2
  unfold m_isochronref16_Draft_Topo_l2
  simp only [hb, hs]
  refine has_ite (fun hk => ?_) (fun hk => ?_)
  · have hk := of_decide_eq_true hk
    rw [w64_id (n := 2 * k) (by omega) (by omega), w64_id (n := 2 * k + 1) (by omega) (by omega)]
    refine has_bind (pick_has D.ho (by omega)) fun p hp => ?_
    refine has_join (fun z : Int × List Bool × List ApiLink => Done b s ⟨z.1, z.2.1, z.2.2⟩ fun n => if n < b + (k + 1) then 2 else 1) (fun z hz => ?_) (fun j hj => ?_)
    · rw [w64_id (n := k + 1) (by omega) (by omega)]
      exact ih _ ⟨by simp only; omega, by simp only; omega, hz⟩ (by simp only; omega)
    · refine has_ite (fun _ => ?_) (fun _ => hj _ ?_)
      · refine has_bind (pick_has D.ho (by omega)) fun q hq => ?_
        refine has_must (by simp only [decide_eq_true_eq]; omega) ?_
        have e1 := Int.emod_nonneg q (show b ≠ 0 by omega)
        have e2 := Int.emod_lt_of_pos q (show 0 < b by omega)
        rw [Int.tmod_eq_emod_of_nonneg hq.1, w64_id (n := b + k) (by omega) (by omega)]
        refine has_bind (with_has D.pe D.de h2.lay.sized h2.len.2 _ _) fun u hu => hj _ ?_
        refine h2.more hu _ fun n hn1 hn2 => ⟨by split <;> split <;> omega, fun hx => ⟨by omega, ?_⟩⟩
        have hn : n = b + k := by omega
        rw [if_neg (by omega), if_pos (by omega)]; omega
      · refine ⟨h2.lay, h2.len, h2.whole, fun n hn1 hn2 => ?_⟩
        have := h2.cnt n hn1 hn2
        simp only at this ⊢
        refine ⟨this.1, ?_⟩
        have h3 := this.2
        split at h3 <;> split <;> omega
  · have hk : ¬ k < s := fun hh => hk (decide_eq_true hh)
    refine chords_has D hb hb0 (t := ⟨N, st, ls⟩) ⟨h2.lay, h2.len, h2.whole, fun n hn1 hn2 => ?_⟩
    have := h2.cnt n hn1 hn2
    rw [if_pos (by omega)] at this
    exact this
end
end Go.AM.P16
namespace Go.AM.P16
open Go
structure Part (b s k : Int) (t : ApiTopo) : Prop where
  lay : Lay b s t
  len : (t.Links.length : Int) ≤ b - 1 + k
  some_ : 0 < k → 0 < t.Links.length
  br : ∀ m, 0 ≤ m → m < b → Rch t [] 0 m
  done : ∀ n, b ≤ n → n < b + k → cnt t.Links n = 1 ∧ Rch t [] 0 n
  rest : ∀ n, b + k ≤ n → n < b + s → cnt t.Links n = 0
theorem More.rch {t u : ApiTopo} {a b : Int} (m : More t u a b) {x : Int} (h : Rch t [] 0 x) : Rch u [] 0 x := h.links fun i e he => ⟨i, m.sub i e he⟩
section
variable {d : Isochronref16Draft} {b s : Int}
theorem homes_has (D : Draws d) (hb : w64 (1 + w64 (Int.tmod d.Bridges 6)) = b) (hs : w64 (2 + w64 (Int.tmod d.Stations 5)) = s) (hb0 : 1 ≤ b ∧ b ≤ 6) (hs0 : 2 ≤ s ∧ s ≤ 6) {t : ApiTopo} (h : Part b s 0 t) :
    Has (loopM (m_isochronref16_Draft_Topo_l3 d) LL (0, t.Nodes, t.Station, t.Links)) Drawn := by
  refine has_loop (fun y : Int × Int × List Bool × List ApiLink => 0 ≤ y.1 ∧ y.1 ≤ s ∧ Part b s y.1 ⟨y.2.1, y.2.2.1, y.2.2.2⟩) (fun y => (s - y.1).toNat) (fun y hy => by omega) ⟨by simp, by simp only; omega, h⟩ ?_
  rintro ⟨k, N, st, ls⟩ rec ⟨h0, h1, h2⟩ ih
  simp only at h0 h1 h2
  unfold m_isochronref16_Draft_Topo_l3
  simp only [hb, hs]
  have hlen := h2.len
  simp only at hlen
  refine has_ite (fun hk => ?_) (fun hk => ?_)
  · have hk := of_decide_eq_true hk
    rw [w64_id (n := 2 * k) (by omega) (by omega)]
    refine has_bind (pick_has D.ho (by omega)) fun p hp => ?_
    refine has_must (by simp only [decide_eq_true_eq]; omega) ?_
    have e1 := Int.emod_nonneg p (show b ≠ 0 by omega)
    have e2 := Int.emod_lt_of_pos p (show 0 < b by omega)
    rw [Int.tmod_eq_emod_of_nonneg hp.1, w64_id (n := b + k) (by omega) (by omega)]
    refine has_bind (with_has D.pe D.de h2.lay.sized (by simp only; omega) _ _) fun u hu => ?_
    rw [w64_id (n := k + 1) (by omega) (by omega)]
    have hN : N = b + s := h2.lay.n
    have m := hu.more (by simp only; omega)
    have hnot : ¬ Seen st (p % b) := fun hh => by
      have := (h2.lay.st _).1 hh
      omega
    obtain ⟨i, f, hf, hj⟩ := hu.there (by simp only; omega) ⟨by omega, by simp only; omega⟩ ⟨e1, by simp only; omega⟩ (by omega) (fun hh => hnot hh.2)
    have hstep := Rch.step (t := u) (cut := []) (s := 0) hf (by simp) hj
    have hnew : Rch u [] 0 (b + k) := hstep.2 (m.rch (h2.br _ e1 e2))
    have hc1 := cnt_pos hf hj.ends.1
    have hc2 := (m.cnt (b + k)).2.2 (by omega)
    have hc3 := h2.rest (b + k) (by omega) (by omega)
    simp only at hc2 hc3
    have ml := m.len
    simp only at ml
    refine ih _ ⟨by simp only; omega, by simp only; omega, ⟨hu.lay h2.lay, by simp only; omega, fun _ => ?_, fun x hx0 hx1 => m.rch (h2.br x hx0 hx1), fun n hn0 hn1 => ?_, fun n hn0 hn1 => ?_⟩⟩ (by simp only; omega)
    · have := (List.getElem?_eq_some_iff.1 hf).1
      simp only; omega
    · by_cases hnk : n = b + k
      · subst hnk
        exact ⟨by simp only; omega, hnew⟩
      · have h3 := h2.done n hn0 (by simp only at hn1; omega)
        have h4 := (m.cnt n).2.1 hnk (by omega)
        exact ⟨by simp only at h3 h4 ⊢; omega, m.rch h3.2⟩
    · have h3 := h2.rest n (by simp only at hn0; omega) hn1
      have h4 := (m.cnt n).2.1 (by simp only at hn0; omega) (by simp only at hn0; omega)
      simp only at h3 h4 hn0 ⊢
      omega
  · have hk : ¬ k < s := fun hh => hk (decide_eq_true hh)
    have hks : k = s := by omega
    subst hks
    have hN : N = b + k := h2.lay.n
    have hdone : Done b k ⟨N, st, ls⟩ fun _ => 1 := ⟨h2.lay, ⟨h2.some_ (by omega), by simp only; omega⟩, fun n hn => by
      by_cases hnb : n < b
      · exact h2.br n hn.1 hnb
      · have := hn.2
        simp only at this
        exact (h2.done n (by omega) (by omega)).2, fun n h3 h4 => by have := (h2.done n h3 h4).1; omega⟩
    refine has_sh ?_
    refine has_join (fun z : Int × List Bool × List ApiLink => Done b k ⟨z.1, z.2.1, z.2.2⟩ fun _ => 1) (fun z hz => seconds_has D hb hs hb0 hs0 (t := ⟨z.1, z.2.1, z.2.2⟩) hz) (fun j hj => ?_)
    refine has_ite (fun hc => ?_) (fun _ => hj _ hdone)
    obtain ⟨hc1, _⟩ := Bool.and_eq_true_iff.1 hc
    have hc1 := of_decide_eq_true hc1
    refine has_bind (with_has D.pe D.de h2.lay.sized (by simp only; omega) _ _) fun u hu => hj _ ?_
    rw [w64_id (n := b - 1) (by omega) (by omega)] at hu
    exact hdone.more hu _ fun n hn1 hn2 => ⟨Int.le_refl _, fun hx => by omega⟩
structure Chain (b s n : Int) (t : ApiTopo) : Prop where
  lay : Lay b s t
  len : (t.Links.length : Int) ≤ n - 1
  br : ∀ m, 0 ≤ m → m < n → Rch t [] 0 m
  rest : ∀ x, b ≤ x → x < b + s → cnt t.Links x = 0
theorem chain_has (D : Draws d) (hb : w64 (1 + w64 (Int.tmod d.Bridges 6)) = b) (hs : w64 (2 + w64 (Int.tmod d.Stations 5)) = s) (hb0 : 1 ≤ b ∧ b ≤ 6) (hs0 : 2 ≤ s ∧ s ≤ 6) {t : ApiTopo} (h : Chain b s 1 t) :
    Has (loopM (m_isochronref16_Draft_Topo_l4 d) LL (1, t.Nodes, t.Station, t.Links)) Drawn := by
  refine has_loop (fun y : Int × Int × List Bool × List ApiLink => 1 ≤ y.1 ∧ y.1 ≤ b ∧ Chain b s y.1 ⟨y.2.1, y.2.2.1, y.2.2.2⟩) (fun y => (b - y.1).toNat) (fun y hy => by omega) ⟨by simp, by simp only; omega, h⟩ ?_
  rintro ⟨k, N, st, ls⟩ rec ⟨h0, h1, h2⟩ ih
  simp only at h0 h1 h2
  unfold m_isochronref16_Draft_Topo_l4
  simp only [hb, hs]
  have hlen := h2.len
  simp only at hlen
  have hN : N = b + s := h2.lay.n
  refine has_ite (fun hk => ?_) (fun hk => ?_)
  · have hk := of_decide_eq_true hk
    rw [w64_id (n := k - 1) (by omega) (by omega)]
    refine has_bind (with_has D.pe D.de h2.lay.sized (by simp only; omega) _ _) fun u hu => ?_
    rw [w64_id (n := k + 1) (by omega) (by omega)]
    have m := hu.more (by simp only; omega)
    have hnot : ¬ Seen st k := fun hh => by
      have := (h2.lay.st _).1 hh
      omega
    obtain ⟨i, f, hf, hj⟩ := hu.there (by simp only; omega) ⟨by omega, by simp only; omega⟩ ⟨by omega, by simp only; omega⟩ (by omega) (fun hh => hnot hh.2)
    have hstep := Rch.step (t := u) (cut := []) (s := 0) hf (by simp) hj
    have ml := m.len
    simp only at ml
    refine ih _ ⟨by simp only; omega, by simp only; omega, ⟨hu.lay h2.lay, by simp only; omega, fun x hx0 hx1 => ?_, fun x hx0 hx1 => ?_⟩⟩ (by simp only; omega)
    · simp only at hx1
      by_cases hxk : x = k
      · rw [hxk]; exact hstep.1 (m.rch (h2.br _ (by omega) (by omega)))
      · exact m.rch (h2.br x hx0 (by omega))
    · have h3 := h2.rest x hx0 hx1
      have h4 := (m.cnt x).2.1 (by omega) (by omega)
      simp only at h3 h4 ⊢
      omega
  · have hk : ¬ k < b := fun hh => hk (decide_eq_true hh)
    have hkb : k = b := by omega
    subst hkb
    refine homes_has D hb hs hb0 hs0 (t := ⟨N, st, ls⟩) ⟨h2.lay, by simp only; omega, fun h => by omega, fun x hx0 hx1 => h2.br x hx0 hx1, fun n hn0 hn1 => by omega, fun n hn0 hn1 => h2.rest n (by omega) hn1⟩
end
theorem Topo_has {d : Isochronref16Draft} (D : Draws d) : Has (m_isochronref16_Draft_Topo d) Drawn := by
  have hB := inR_u8.1 D.br
  have hS := inR_u8.1 D.sts
  obtain ⟨b, hb, hb0⟩ : ∃ b, w64 (1 + w64 (Int.tmod d.Bridges 6)) = b ∧ 1 ≤ b ∧ b ≤ 6 := by
    refine ⟨_, rfl, ?_⟩
    rw [Int.tmod_eq_emod_of_nonneg hB.1, w64_id (n := d.Bridges % 6) (by omega) (by omega), w64_id (by omega) (by omega)]
    omega
  obtain ⟨s, hs, hs0⟩ : ∃ s, w64 (2 + w64 (Int.tmod d.Stations 5)) = s ∧ 2 ≤ s ∧ s ≤ 6 := by
    refine ⟨_, rfl, ?_⟩
    rw [Int.tmod_eq_emod_of_nonneg hS.1, w64_id (n := d.Stations % 5) (by omega) (by omega), w64_id (by omega) (by omega)]
    omega
  unfold m_isochronref16_Draft_Topo
  refine has_loop (fun y : Int × List Bool => 0 ≤ y.1 ∧ y.1 ≤ b + s ∧ (y.2.length : Int) = y.1 ∧ ∀ n, Seen y.2 n ↔ b ≤ n ∧ n < y.1) (fun y => (b + s - y.1).toNat) (fun y hy => by omega) ⟨by simp, by simp only; omega, by simp, fun n => ⟨fun h => by have := h.lt; simp only [List.length_nil] at this; omega, fun h => by simp only at h; omega⟩⟩ ?_
  rintro ⟨i, st⟩ rec ⟨h0, h1, h2, h3⟩ ih
  simp only at h0 h1 h2 h3
  unfold m_isochronref16_Draft_Topo_l5
  simp only [hb, hs]
  have hbs : w64 (b + s) = b + s := w64_id (by omega) (by omega)
  rw [hbs]
  refine has_ite (fun hi => ?_) (fun hi => ?_)
  · have hi := of_decide_eq_true hi
    refine has_must (by unfold okLen; rw [Nat.ble_eq]; simp only [List.length_cons, List.length_nil]; omega) ?_
    rw [w64_id (n := i + 1) (by omega) (by omega)]
    refine ih _ ⟨by simp only; omega, by simp only; omega, by simp only [List.length_append, List.length_cons, List.length_nil]; omega, fun n => ?_⟩ (by simp only; omega)
    simp only
    constructor
    · intro hh
      have hlt := hh.lt
      simp only [List.length_append, List.length_cons, List.length_nil] at hlt
      by_cases hn : n < i
      · have : Seen st n := ⟨hh.1, by have := hh.2; rwa [List.getElem?_append_left (by omega)] at this⟩
        have := (h3 n).1 this
        omega
      · have hg := hh.2
        rw [List.getElem?_append_right (by omega)] at hg
        have : n.toNat - st.length = 0 := by omega
        rw [this] at hg
        simp at hg
        omega
    · rintro ⟨hn1, hn2⟩
      by_cases hn : n < i
      · have := (h3 n).2 ⟨hn1, hn⟩
        exact ⟨this.1, by rw [List.getElem?_append_left (by have := this.lt; omega)]; exact this.2⟩
      · refine ⟨by omega, ?_⟩
        rw [List.getElem?_append_right (by omega)]
        have : n.toNat - st.length = 0 := by omega
        rw [this]
        simp
        omega
  · have hi : ¬ i < b + s := fun hh => hi (decide_eq_true hh)
    refine chain_has D hb hs hb0 hs0 (t := ⟨b + s, st, []⟩) ⟨⟨rfl, ⟨by simp only; omega, by simp only; omega⟩, fun n => ?_, fun j e he => by simp at he⟩, by simp, fun x hx0 hx1 => ?_, fun x _ _ => rfl⟩
    · rw [h3 n]
      constructor
      · rintro ⟨a1, a2⟩; exact ⟨a1, by omega⟩
      · rintro ⟨a1, a2⟩; exact ⟨a1, by omega⟩
    · have : x = 0 := by omega
      subst this; exact .base
end Go.AM.P16
namespace Go.AM.P16
open Go
/-! ### The ends of ports, as numbers -/
def frm (t : ApiTopo) (p : Int) : Int := match t.Links[(p / 2).toNat]? with | some e => if p % 2 = 0 then e.A else e.B | none => 0
def too (t : ApiTopo) (p : Int) : Int := match t.Links[(p / 2).toNat]? with | some e => if p % 2 = 0 then e.B else e.A | none => 0
def bk (p : Int) : Int := if p % 2 = 0 then p + 1 else p - 1
theorem frm_at {t : ApiTopo} {p : Int} {e : ApiLink} (he : t.Links[(p / 2).toNat]? = some e) : frm t p = if p % 2 = 0 then e.A else e.B := by unfold frm; rw [he]
theorem too_at {t : ApiTopo} {p : Int} {e : ApiLink} (he : t.Links[(p / 2).toNat]? = some e) : too t p = if p % 2 = 0 then e.B else e.A := by unfold too; rw [he]
theorem isp_lt {t : ApiTopo} (h : Small t) {p : Int} (hp : IsP t p) : 0 ≤ p ∧ p < 48 := by
  have := h.l; obtain ⟨h0, h1⟩ := hp; omega
theorem From_ok {t : ApiTopo} (h : Fit t) {p : Int} (hp : IsP t p) : m_topo_From t p = .ok (frm t p, 0) := by
  obtain ⟨e, he⟩ := portlink hp
  have e1 : m_topo_From t p = pq t p m_topo_end_from := rfl
  rw [e1, pq_in h hp he from_ok, frm_at he, Int.tmod_eq_emod_of_nonneg hp.1]
theorem lim {t : ApiTopo} (h : Fit t) {e : ApiLink} {i : Nat} (he : t.Links[i]? = some e) : (0 ≤ e.A ∧ e.A < 1000000) ∧ (0 ≤ e.B ∧ e.B < 1000000) := by
  have hlk := (h.links _ _ he).1
  have := h.small.n
  have := hlk.a.2
  have := hlk.b.2
  exact ⟨⟨hlk.a.1, by omega⟩, hlk.b.1, by omega⟩
theorem To_ok {t : ApiTopo} (h : Fit t) {p : Int} (hp : IsP t p) : m_topo_To t p = .ok (too t p, 0) := by
  obtain ⟨e, he⟩ := portlink hp
  have e1 : m_topo_To t p = pq t p m_topo_end_to := rfl
  rw [e1, pq_in h hp he (to_ok (lim h he).1 (lim h he).2), too_at he, Int.tmod_eq_emod_of_nonneg hp.1]
theorem xor_ok {p : Int} (h0 : 0 ≤ p) (h1 : p < 48) : bitXor .i64 p 1 = bk p := by
  have := back_fin ⟨p.toNat, by omega⟩
  have hc : ((p.toNat : Nat) : Int) = p := by omega
  simp only [hc] at this
  rw [this, Int.tmod_eq_emod_of_nonneg h0]
  unfold bk
  by_cases h : p % 2 = 0
  · rw [if_neg (by omega), if_pos h, w64_id (by omega) (by omega)]
  · rw [if_pos (by omega), if_neg h, w64_id (by omega) (by omega)]
theorem rTo_ok {t : ApiTopo} (h : Small t) {p : Int} (hp : IsP t p) : m_isochronref16_To t p = .ok (too t p) := by
  obtain ⟨e, he⟩ := portlink hp
  have := isp_lt h hp
  rw [refTo hp.1 (by omega) he, too_at he, Int.tmod_eq_emod_of_nonneg hp.1]
theorem isp_bk {t : ApiTopo} {p : Int} (hp : IsP t p) : IsP t (bk p) := by
  obtain ⟨h0, h1⟩ := hp
  unfold bk IsP; split <;> omega
theorem bk_bk (p : Int) : bk (bk p) = p := by unfold bk; split <;> split <;> omega
theorem bk_half {p : Int} : bk p / 2 = p / 2 := by unfold bk; split <;> omega
theorem frm_bk {t : ApiTopo} (p : Int) : frm t (bk p) = too t p := by
  unfold frm too
  rw [bk_half]
  cases t.Links[(p / 2).toNat]? with
  | none => rfl
  | some e =>
    simp only
    by_cases h : p % 2 = 0
    · rw [if_neg (by unfold bk; rw [if_pos h]; omega), if_pos h]
    · rw [if_pos (by unfold bk; rw [if_neg h]; omega), if_neg h]
theorem too_bk {t : ApiTopo} (p : Int) : too t (bk p) = frm t p := by rw [← frm_bk, bk_bk]
theorem frm_N {t : ApiTopo} (h : Fit t) {p : Int} (hp : IsP t p) : IsN t (frm t p) := by
  obtain ⟨e, he⟩ := portlink hp
  rw [frm_at he]
  have := (h.links _ _ he).1
  split
  · exact this.a
  · exact this.b
theorem too_N {t : ApiTopo} (h : Fit t) {p : Int} (hp : IsP t p) : IsN t (too t p) := by rw [← frm_bk]; exact frm_N h (isp_bk hp)
theorem frm_ne {t : ApiTopo} (h : Fit t) {p : Int} (hp : IsP t p) : frm t p ≠ too t p := by
  obtain ⟨e, he⟩ := portlink hp
  rw [frm_at he, too_at he]
  have := (h.links _ _ he).1.ne
  split
  · exact this
  · exact fun e' => this e'.symm
theorem fromO_frm {t : ApiTopo} {q : Nat} (hq : q < 2 * t.Links.length) : fromO t q = some (frm t q) ∧ toO t q = some (too t q) := by
  have hlt : q / 2 < t.Links.length := by omega
  have he : t.Links[q / 2]? = some t.Links[q / 2] := List.getElem?_eq_getElem hlt
  have hc : (((q : Int) / 2).toNat) = q / 2 := by omega
  unfold fromO toO frm too
  rw [hc, he]
  simp only [Option.map_some]
  by_cases h : q % 2 = 0
  · rw [if_pos h, if_pos h, if_pos (by omega), if_pos (by omega)]; exact ⟨rfl, rfl⟩
  · rw [if_neg h, if_neg h, if_neg (by omega), if_neg (by omega)]; exact ⟨rfl, rfl⟩
end Go.AM.P16
namespace Go.AM.P16
open Go
/-! ### Routes -/
/-- Element i of a route. -/
def el (r : List Int) (i : Nat) : Int := r.getD i 0
/-- Node i of a route. -/
def nd (t : ApiTopo) (r : List Int) : Nat → Int
  | 0 => frm t (el r 0)
  | i + 1 => too t (el r i)
def ns (t : ApiTopo) (r : List Int) (k : Nat) : List Int := (List.range k).map (nd t r)
structure Okr (t : ApiTopo) (r : List Int) : Prop where
  len : 1 ≤ r.length ∧ r.length ≤ 8
  port : ∀ p ∈ r, IsP t p
  conn : ∀ j, j < r.length → frm t (el r j) = nd t r j
  inner : ∀ j, 0 < j → j < r.length → ¬ Seen t.Station (nd t r j)
  inj : ∀ i j, i < j → j ≤ r.length → nd t r i ≠ nd t r j
theorem el_get {r : List Int} {i : Nat} {p : Int} (h : r[i]? = some p) : el r i = p := by unfold el; rw [List.getD_eq_getElem?_getD, h]; rfl
theorem ns_succ (t : ApiTopo) (r : List Int) (k : Nat) : ns t r (k + 1) = ns t r k ++ [nd t r k] := by unfold ns; rw [List.range_succ, List.map_append]; rfl
theorem ns_len (t : ApiTopo) (r : List Int) (k : Nat) : (ns t r k).length = k := by unfold ns; simp
theorem ns_get {t : ApiTopo} {r : List Int} {k i : Nat} (h : i < k) : (ns t r k)[i]? = some (nd t r i) := by unfold ns; rw [List.getElem?_map, List.getElem?_range h]; rfl
theorem ns_mem {t : ApiTopo} {r : List Int} {k : Nat} {x : Int} : x ∈ ns t r k ↔ ∃ i, i < k ∧ nd t r i = x := by unfold ns; simp
theorem ns_idx {t : ApiTopo} {r : List Int} {k : Nat} {i : Int} (h0 : 0 ≤ i) (h1 : i.toNat < k) : idx (ns t r k) i = .ok (nd t r i.toNat) := idx_ok.2 ⟨h0, ns_get h1⟩
theorem walk_from_ok {t : ApiTopo} (hf : Fit t) {p : Int} (hp : IsP t p) : m_route_walk_from ⟨t⟩ p = .ok (frm t p) := by
  unfold m_route_walk_from
  rw [From_ok hf hp]; rfl
/-- What holds of a route up to node k. -/
structure Upto (t : ApiTopo) (r : List Int) (k : Nat) : Prop where
  conn : ∀ j, j + 1 < k → frm t (el r j) = nd t r j
  inner : ∀ j, 0 < j → j < k → j < r.length → ¬ Seen t.Station (nd t r j)
  inj : ∀ i j, i < j → j < k → nd t r i ≠ nd t r j
theorem Upto.one (t : ApiTopo) (r : List Int) : Upto t r 1 := ⟨fun j h => by omega, fun j h h' => by omega, fun i j h h' => by omega⟩
theorem Upto.step {t : ApiTopo} {r : List Int} {k : Nat} (h : Upto t r k) (h1 : ∀ j, j + 1 = k → frm t (el r j) = nd t r j) (h2 : 0 < k → k < r.length → ¬ Seen t.Station (nd t r k)) (h3 : nd t r k ∉ ns t r k) : Upto t r (k + 1) := by
  refine ⟨fun j hj => ?_, fun j g0 g1 g2 => ?_, fun i j g0 g1 => ?_⟩
  · by_cases e : j + 1 = k
    · exact h1 j e
    · exact h.conn j (by omega)
  · by_cases e : j = k
    · subst e; exact h2 g0 g2
    · exact h.inner j g0 (by omega) g2
  · by_cases e : j = k
    · subst e; exact fun e' => h3 (ns_mem.2 ⟨i, g0, e'⟩)
    · exact h.inj i j g0 (by omega)
def Pre (t : ApiTopo) (r : List Int) : Prop := (1 ≤ r.length ∧ r.length ≤ 8) ∧ ∀ p ∈ r, IsP t p
theorem Pre.okr {t : ApiTopo} {r : List Int} (h : Pre t r) (hu : Upto t r (r.length + 1)) : Okr t r := ⟨h.1, h.2, fun j hj => hu.conn j (by omega), fun j h0 h1 => hu.inner j h0 (by omega) h1, fun i j h0 h1 => hu.inj i j h0 (by omega)⟩
theorem valid_has {t : ApiTopo} (hf : Fit t) (r : List Int) : Has (m_route_walk_valid ⟨t⟩ r) (fun b => (b = true ↔ Okr t r)) := by
  have hS := hf.small.s
  have hL := hf.small.l
  unfold m_route_walk_valid
  refine has_sh ?_
  refine has_join (fun s => (s = true ↔ ¬ Pre t r)) (fun s hs => ?_) (fun j hj => ?_)
  · refine has_ite (fun h => ?_) (fun h => ?_)
    · have hn := hs.1 h
      exact has_ok (by simp only [Bool.false_eq_true, false_iff]; exact fun ho => hn ⟨ho.len, ho.port⟩)
    · have hpre : Pre t r := Classical.byContradiction fun hn => h (hs.2 hn)
      obtain ⟨⟨hl1, hl2⟩, hpp⟩ := hpre
      refine has_idx (by omega) (by omega) fun p0 hp0 => ?_
      have hp0' : r[0]? = some p0 := hp0
      refine has_beq (walk_from_ok hf (hpp _ (List.mem_of_getElem? hp0'))) ?_
      refine has_beq (contains_int (l := []) (by simp) _) ?_
      refine has_join (fun s => s = false) (fun s hs => ?_) (fun j hj => ?_)
      rotate_left
      · refine has_ite (fun h => by simp at h) (fun _ => hj _ rfl)
      · subst hs
        refine has_join (fun s => s = false) (fun s hs => ?_) (fun j hj => ?_)
        rotate_left
        · exact has_ite (fun h => by simp at h) (fun _ => hj _ rfl)
        · subst hs
          refine has_ite (fun h => by simp at h) (fun _ => ?_)
          refine has_must rfl ?_
          have e0 : ([] : List Int) ++ [frm t p0] = ns t r 1 := by
            rw [ns_succ]; show [] ++ [frm t p0] = [] ++ [frm t (el r 0)]; rw [el_get hp0']
          rw [e0]
          refine has_loop (fun y : Int × List Int => 0 ≤ y.1 ∧ y.1 ≤ r.length ∧ y.2 = ns t r (y.1.toNat + 1) ∧ Upto t r (y.1.toNat + 1)) (fun y => ((r.length : Int) - y.1).toNat) (fun y hy => by omega) ⟨by simp, by simp, rfl, Upto.one t r⟩ ?_
          rintro ⟨i, seen⟩ rec ⟨g0, g1, g2, g3⟩ ih
          simp only at g0 g1 g2 g3
          subst g2
          unfold m_route_walk_valid_l1
          simp only [decide_eq_true_eq]
          have hlen := ns_len t r (i.toNat + 1)
          refine has_ite (fun hi => ?_) (fun hi => ?_)
          · refine has_idx g0 hi fun p hp => ?_
            have hip := hpp _ (List.mem_of_getElem? hp)
            have hnd : nd t r (i.toNat + 1) = too t p := by show too t (el r i.toNat) = _; rw [el_get hp]
            have hN := too_N hf hip
            refine has_beq (To_ok hf hip) ?_
            refine has_beq (contains_int (by rw [hlen]; omega) _) ?_
            simp only [hlen]
            have hw : w64 (((i.toNat + 1 : Nat) : Int) - 1) = i := by rw [w64_id (by omega) (by omega)]; omega
            have hfail : (¬ Okr t r) → Has (.ok (decide (((i.toNat + 1 : Nat) : Int) = w64 ((r.length : Int) + 1)))) (fun b => (b = true ↔ Okr t r)) := fun hno => by
              refine has_ok ?_
              rw [w64_id (by omega) (by omega)]
              simp only [decide_eq_true_eq]
              exact ⟨fun h => by omega, fun h => absurd h hno⟩
            refine has_join (fun s => s.2 = ns t r (i.toNat + 1) ∧ (s.1 = false → too t p ∉ ns t r (i.toNat + 1) ∧ frm t (el r i.toNat) = nd t r i.toNat) ∧ (s.1 = true → ¬ Okr t r)) (fun s hs => ?_) (fun j hj => ?_)
            · obtain ⟨s1, s2⟩ := s
              obtain ⟨rfl, hs2, hs3⟩ := hs
              simp only at hs2 hs3
              simp only [hlen]
              refine has_join (fun b => (b = false → s1 = false ∧ (i.toNat + 1 < r.length → ¬ Seen t.Station (nd t r (i.toNat + 1)))) ∧ (b = true → ¬ Okr t r)) (fun b hb => ?_) (fun j hj => ?_)
              · refine has_ite (fun h => hfail (hb.2 h)) (fun h => ?_)
                obtain ⟨h1, h2⟩ := hb.1 (by simpa using h)
                obtain ⟨h3, h4⟩ := hs2 h1
                refine has_must (okLen_ok (by simp; omega)) ?_
                rw [w64_id (n := i + 1) (by omega) (by omega)]
                have e1 : (i + 1).toNat = i.toNat + 1 := by omega
                refine ih _ ⟨by simp only; omega, by simp only; omega, ?_, ?_⟩ (by simp only; omega)
                · simp only [e1]; rw [ns_succ t r (i.toNat + 1), hnd]
                · simp only [e1]
                  exact g3.step (fun j hj => by have : j = i.toNat := by omega
                                                rw [this]; exact h4) (fun _ => h2) (by rw [hnd]; exact h3)
              · refine has_ite (fun h => hj _ ⟨fun h' => by simp at h', fun _ => hs3 h⟩) (fun h => ?_)
                have h : s1 = false := by simpa using h
                refine has_ite (fun _ => ?_) (fun h' => by omega)
                refine has_ite (fun h' => ?_) (fun h' => hj _ ⟨fun _ => ⟨h, fun h2 => by omega⟩, fun h2 => by simp at h2⟩)
                refine has_idx hN.1 (by have := hN.2; show too t p < ((t.Station.length : Nat) : Int); omega) fun b hb => hj _ ?_
                have hsb := seen_get hN.1 hb
                refine ⟨fun hb0 => ⟨h, fun _ hse => ?_⟩, fun hb1 ho => ?_⟩
                · rw [hnd] at hse; rw [hsb.1 hse] at hb0; cases hb0
                · exact ho.inner (i.toNat + 1) (by omega) (by omega) (by rw [hnd]; exact hsb.2 hb1)
            · refine has_ite (fun h => ?_) (fun h => ?_)
              · refine hj _ ⟨rfl, fun h' => by simp at h', fun _ ho => ?_⟩
                have hm := of_decide_eq_true h
                obtain ⟨k, hk, hke⟩ := ns_mem.1 hm
                exact ho.inj k (i.toNat + 1) hk (by omega) (by rw [hke, hnd])
              · have hm : too t p ∉ ns t r (i.toNat + 1) := fun h' => h (by simpa using h')
                refine has_ite (fun _ => ?_) (fun h' => by omega)
                rw [hw]
                refine has_idx g0 hi fun p' hp' => ?_
                have : p' = p := by rw [hp] at hp'; cases hp'; rfl
                subst this
                refine has_beq (walk_from_ok hf hip) ?_
                refine has_beq (ns_idx g0 (by omega)) ?_
                refine hj _ ⟨rfl, fun h1 => ⟨hm, ?_⟩, fun h1 ho => ?_⟩
                · rw [el_get hp]; simpa using h1
                · have h1 := of_decide_eq_true h1
                  exact h1 (by rw [← el_get hp]; exact ho.conn _ (by omega))
          · refine has_ok ?_
            rw [hlen, w64_id (by omega) (by omega)]
            have e1 : i.toNat = r.length := by omega
            rw [e1] at g3
            simp only [decide_eq_true_eq]
            exact ⟨fun _ => Pre.okr ⟨⟨hl1, hl2⟩, hpp⟩ g3, fun _ => by omega⟩
  · refine has_ite (fun h => hj _ ⟨fun _ hp => ?_, fun _ => rfl⟩) (fun h => ?_)
    · simp only [Bool.or_eq_true, decide_eq_true_eq] at h
      have := hp.1; omega
    · simp only [Bool.or_eq_true, decide_eq_true_eq, not_or] at h
      refine has_loop (fun i : Int => 0 ≤ i ∧ i ≤ r.length ∧ ∀ k : Nat, (k : Int) < i → ∀ p, r[k]? = some p → IsP t p) (fun i => ((r.length : Int) - i).toNat) (fun y hy => by omega) ⟨by simp, by simp, fun k hk => by omega⟩ ?_
      rintro i rec ⟨g0, g1, g2⟩ ih
      unfold m_route_walk_valid_l2
      simp only [decide_eq_true_eq]
      refine has_ite (fun hi => ?_) (fun hi => ?_)
      · refine has_idx g0 hi fun p hp => has_sh ?_
        rw [isp_dec hf.small]
        refine has_ite (fun h1 => hj _ ⟨fun _ hp' => ?_, fun _ => by simpa using g0⟩) (fun h1 => ?_)
        · have h1 := of_decide_eq_true h1
          exact h1 (hp'.2 p (List.mem_of_getElem? hp))
        · have h1 : IsP t p := Classical.byContradiction fun hn => h1 (by simpa using hn)
          rw [w64_id (n := i + 1) (by omega) (by omega)]
          refine ih _ ⟨by omega, by omega, fun k hk q hq => ?_⟩ (by omega)
          by_cases hki : (k : Int) < i
          · exact g2 k hki q hq
          · have : k = i.toNat := by omega
            subst this; rw [hp] at hq; cases hq; exact h1
      · refine hj _ ⟨fun h1 => by simp at h1, fun h1 => absurd ⟨⟨by omega, by omega⟩, fun p hp => ?_⟩ h1⟩
        obtain ⟨k, hk⟩ := List.mem_iff_getElem?.1 hp
        have := (List.getElem?_eq_some_iff.1 hk).1
        exact g2 k (by omega) p hk
end Go.AM.P16
namespace Go.AM.P16
open Go
/-! ### What the program makes of a route -/
theorem list_ok {t : ApiTopo} (hf : Fit t) {r : List Int} (h0 : 1 ≤ r.length) (h8 : r.length ≤ 8) (hp : ∀ p ∈ r, IsP t p) : m_route_walk_list ⟨t⟩ r = .ok (ns t r (r.length + 1)) := by
  refine Has.eq ?_
  unfold m_route_walk_list
  refine has_idx (by omega) (by omega) fun p0 hp0 => ?_
  have hp0' : r[0]? = some p0 := hp0
  refine has_beq (walk_from_ok hf (hp _ (List.mem_of_getElem? hp0'))) ?_
  refine has_must rfl ?_
  have e0 : ([] : List Int) ++ [frm t p0] = ns t r 1 := by
    rw [ns_succ]; show [] ++ [frm t p0] = [] ++ [frm t (el r 0)]; rw [el_get hp0']
  rw [e0]
  refine has_loop (fun y : Int × List Int => 0 ≤ y.1 ∧ y.1 ≤ r.length ∧ y.2 = ns t r (y.1.toNat + 1)) (fun y => ((r.length : Int) - y.1).toNat) (fun y hy => by omega) ⟨by simp, by simp, rfl⟩ ?_
  rintro ⟨i, seen⟩ rec ⟨g0, g1, g2⟩ ih
  simp only at g0 g1 g2
  subst g2
  unfold m_route_walk_list_l1
  simp only [decide_eq_true_eq]
  refine has_ite (fun hi => ?_) (fun hi => ?_)
  · refine has_idx g0 hi fun p hpp => ?_
    have hip := hp _ (List.mem_of_getElem? hpp)
    refine has_beq (To_ok hf hip) ?_
    have hlen := ns_len t r (i.toNat + 1)
    refine has_must (okLen_ok (by rw [hlen]; simp; omega)) ?_
    rw [w64_id (n := i + 1) (by omega) (by omega)]
    have e1 : (i + 1).toNat = i.toNat + 1 := by omega
    refine ih _ ⟨by simp only; omega, by simp only; omega, ?_⟩ (by simp only; omega)
    simp only [e1]
    rw [ns_succ t r (i.toNat + 1)]
    show _ ++ [too t p] = _ ++ [too t (el r i.toNat)]
    rw [el_get hpp]
  · refine has_ok ?_
    have e1 : i.toNat = r.length := by omega
    simp only [e1]
/-- The error that a route has. -/
def RC (t : ApiTopo) (r : List Int) (e : Int) : Prop := (Fit t ∧ Okr t r ∧ e = 0) ∨ (Fit t ∧ ¬ Okr t r ∧ e = 310) ∨ (¬ Fit t ∧ e = 260)
theorem rCheck_rc (t : ApiTopo) (r : List Int) : Has (m_route_Check t r) (RC t r) := by
  unfold m_route_Check
  by_cases hf : Fit t
  · refine has_beq (Check_fit hf) ?_
    refine has_ite (fun h => by simp at h) (fun _ => ?_)
    refine has_bind (valid_has hf r) fun b hb => ?_
    cases b with
    | true => exact has_ite (fun h => by simp at h) (fun _ => has_ok (.inl ⟨hf, hb.1 rfl, rfl⟩))
    | false => exact has_ite (fun _ => has_ok (.inr (.inl ⟨hf, fun ho => (by have := hb.2 ho; cases this), rfl⟩))) (fun h => by simp at h)
  · refine has_beq (Check_unfit hf) ?_
    exact has_ite (fun _ => has_ok (.inr (.inr ⟨hf, rfl⟩))) (fun h => by simp at h)
theorem rCheck_ok {t : ApiTopo} (hf : Fit t) {r : List Int} (ho : Okr t r) : m_route_Check t r = .ok 0 := by
  obtain ⟨e, he, hr⟩ := rCheck_rc t r
  rw [he]
  rcases hr with ⟨_, _, rfl⟩ | ⟨_, h, _⟩ | ⟨h, _⟩
  · rfl
  · exact absurd ho h
  · exact absurd hf h
theorem rNodes_ok {t : ApiTopo} (hf : Fit t) {r : List Int} (ho : Okr t r) : m_route_Nodes t r = .ok (ns t r (r.length + 1), 0) := by
  unfold m_route_Nodes
  rw [rCheck_ok hf ho]
  simp [bindR, list_ok hf ho.len.1 ho.len.2 ho.port]
/-! Sums -/
def dl (t : ApiTopo) (p : Int) : Int := match t.Links[(p / 2).toNat]? with | some e => e.Delay | none => 0
def pr (t : ApiTopo) (p : Int) : Int := match t.Links[(p / 2).toNat]? with | some e => e.Per | none => 0
def sm (f : Int → Int) (r : List Int) (k : Nat) : Int := ((r.take k).map f).sum
theorem sm_succ {f : Int → Int} {r : List Int} {k : Nat} {p : Int} (h : r[k]? = some p) : sm f r (k + 1) = sm f r k + f p := by
  unfold sm; rw [List.take_add_one, h]; simp
theorem sm_range {f : Int → Int} {r : List Int} {B : Int} (hB : ∀ p ∈ r, 0 ≤ f p ∧ f p ≤ B) : ∀ k, k ≤ r.length → 0 ≤ sm f r k ∧ sm f r k ≤ k * B
  | 0, _ => by simp [sm]
  | k + 1, h => by
    have hk : r[k]? = some r[k] := List.getElem?_eq_getElem h
    have := sm_range hB k (by omega)
    have := hB r[k] (List.getElem_mem h)
    rw [sm_succ hk]
    have e : ((k + 1 : Nat) : Int) * B = k * B + B := by rw [Int.natCast_succ, Int.add_mul, Int.one_mul]
    omega
theorem link_at {t : ApiTopo} (hf : Fit t) {p : Int} (hp : IsP t p) : ∃ e, idx t.Links (w64 (Int.tdiv p 2)) = .ok e ∧ dl t p = e.Delay ∧ pr t p = e.Per ∧ (0 ≤ e.Delay ∧ e.Delay ≤ 10000) ∧ (1 ≤ e.Per ∧ e.Per ≤ 1000) := by
  obtain ⟨e, he⟩ := portlink hp
  have := isp_lt hf.small hp
  have hl := (hf.links _ _ he).1
  refine ⟨e, ?_, ?_, ?_, hl.delay, hl.per⟩
  · rw [half hp.1 (by omega)]; exact idx_ok.2 ⟨by omega, he⟩
  · unfold dl; rw [he]
  · unfold pr; rw [he]
/-- How long a frame takes at a port. -/
def tm (t : ApiTopo) (z p : Int) : Int := z * pr t p + dl t p
theorem mul_range {z e : Int} (hz : 0 ≤ z ∧ z ≤ 2000) (he : 1 ≤ e ∧ e ≤ 1000) : 0 ≤ z * e ∧ z * e ≤ 2000000 := by
  constructor
  · exact Int.mul_nonneg hz.1 (by omega)
  · have := Int.mul_le_mul hz.2 he.2 (by omega) (by omega : (0 : Int) ≤ 2000)
    omega
theorem tm_range {t : ApiTopo} (hf : Fit t) {r : List Int} (hp : ∀ p ∈ r, IsP t p) {z : Int} (hz : 0 ≤ z ∧ z ≤ 2000) : ∀ p ∈ r, 0 ≤ tm t z p ∧ tm t z p ≤ 3000000 := fun p h => by
  obtain ⟨e, _, h1, h2, h3, h4⟩ := link_at hf (hp p h)
  have := mul_range hz h4
  unfold tm
  rw [h1, h2]; omega
theorem rTime_ok {t : ApiTopo} (hf : Fit t) {r : List Int} (ho : Okr t r) {z : Int} (h1 : 84 ≤ z) (h2 : z ≤ 1542) : m_route_Time t r z = .ok (sm (tm t z) r r.length, 0) := by
  have hl := ho.len
  refine Has.eq ?_
  unfold m_route_Time
  refine has_beq (rCheck_ok hf ho) ?_
  refine has_ite (fun h => by simp at h) (fun _ => has_sh ?_)
  refine has_ite (fun h => ?_) (fun _ => ?_)
  · simp only [Bool.or_eq_true, decide_eq_true_eq] at h; omega
  refine has_beq (rCheck_ok hf ho) ?_
  refine has_ite (fun h => by simp at h) (fun _ => ?_)
  refine has_loop (fun y : Int × Int => 0 ≤ y.2 ∧ y.2 ≤ r.length ∧ y.1 = sm (tm t z) r y.2.toNat) (fun y => ((r.length : Int) - y.2).toNat) (fun y hy => by omega) ⟨by simp, by simp, rfl⟩ ?_
  rintro ⟨n, i⟩ rec ⟨g0, g1, g2⟩ ih
  simp only at g0 g1 g2
  unfold m_route_Time_l1
  simp only [decide_eq_true_eq]
  refine has_ite (fun hi => ?_) (fun hi => ?_)
  · refine has_idx g0 hi fun p hp => ?_
    obtain ⟨e, he, h3, h4, h5, h6⟩ := link_at hf (ho.port _ (List.mem_of_getElem? hp))
    refine has_beq he ?_
    have hr := sm_range (tm_range hf ho.port (z := z) ⟨by omega, by omega⟩) i.toNat (by omega)
    have hm := mul_range (z := z) ⟨by omega, by omega⟩ h6
    rw [w64_id (n := i + 1) (by omega) (by omega), w64_id (n := z * e.Per) (by omega) (by omega), w64_id (n := z * e.Per + e.Delay) (by omega) (by omega), w64_id (by omega) (by omega)]
    have e1 : (i + 1).toNat = i.toNat + 1 := by omega
    exact ih _ ⟨by simp only; omega, by simp only; omega, by simp only [e1]; rw [sm_succ hp, g2]; unfold tm; rw [h3, h4]⟩ (by simp only; omega)
  · refine has_ok ?_
    have e1 : i.toNat = r.length := by omega
    rw [g2, e1]
/-! Back -/
def bkr (r : List Int) : List Int := (r.reverse).map bk
theorem bkr_step {r : List Int} {i : Nat} {p : Int} (h : r[i]? = some p) : bkr (r.drop i) = bkr (r.drop (i + 1)) ++ [bk p] := by
  obtain ⟨hlt, hg⟩ := List.getElem?_eq_some_iff.1 h
  unfold bkr
  rw [List.drop_eq_getElem_cons hlt, hg, List.reverse_cons, List.map_append]; rfl
theorem bkr_len (r : List Int) : (bkr r).length = r.length := by unfold bkr; simp
theorem rBack_r {t : ApiTopo} (hf : Fit t) {r : List Int} (ho : Okr t r) : m_route_Back t r = .ok (bkr r, 0) := by
  have hl := ho.len
  refine Has.eq ?_
  unfold m_route_Back
  refine has_beq (rCheck_ok hf ho) ?_
  refine has_ite (fun h => by simp at h) (fun _ => ?_)
  rw [w64_id (by omega) (by omega)]
  refine has_loop (fun y : Int × List Int => -1 ≤ y.1 ∧ y.1 < r.length ∧ y.2 = bkr (r.drop (y.1 + 1).toNat)) (fun y => (y.1 + 1).toNat) (fun y hy => by omega) ⟨by simp only; omega, by simp only; omega, ?_⟩ ?_
  · simp only
    rw [List.drop_of_length_le (by omega)]; rfl
  rintro ⟨i, out⟩ rec ⟨g0, g1, g2⟩ ih
  simp only at g0 g1 g2
  unfold m_route_Back_l1
  simp only [decide_eq_true_eq]
  refine has_ite (fun hi => ?_) (fun hi => ?_)
  · refine has_idx hi g1 fun p hp => ?_
    have hip := isp_lt hf.small (ho.port _ (List.mem_of_getElem? hp))
    have hol : out.length ≤ 8 := by rw [g2, bkr_len, List.length_drop]; omega
    refine has_must (okLen_ok (by simp; omega)) ?_
    rw [w64_id (n := i - 1) (by omega) (by omega), xor_ok hip.1 hip.2]
    refine ih _ ⟨by simp only; omega, by simp only; omega, ?_⟩ (by simp only; omega)
    simp only
    have e1 : (i - 1 + 1).toNat = i.toNat := by omega
    have e2 : (i + 1).toNat = i.toNat + 1 := by omega
    rw [e1, bkr_step hp, g2, e2]
  · refine has_ok ?_
    have e1 : (i + 1).toNat = 0 := by omega
    rw [g2, e1, List.drop_zero]
end Go.AM.P16
namespace Go.AM.P16
open Go
/-! ### The reference's routes -/
theorem in_eq {l : List Int} (hl : l.length < 1000000) (x : Int) : m_isochronref16_In l x = .ok (decide (x ∈ l)) := (in_ok hl x).eq
/-! The law's own helps -/
theorem wakes21 : m_isochronlaw21_wakes = .ok true := by kernel_rfl
theorem equal_route {a b : List Int} (ha : a.length < 1000000) : m_slices_Equal_api_Route_int a b = .ok (decide (a = b)) := equal_int ha
end Go.AM.P16
namespace Go.AM.P16
open Go
/-! ### Routes that are apart -/
def Shares (a b : List Int) : Prop := ∃ p ∈ a, ∃ q ∈ b, p / 2 = q / 2
end Go.AM.P16
namespace Go.AM.P16
open Go
/-! ### A chosen route -/
theorem pl_mem' {t : ApiTopo} {n p : Int} : ∀ {k : Nat}, p ∈ pl t n k ↔ ∃ q : Nat, q < k ∧ p = q ∧ fromO t q = some n
  | 0 => by simp [pl]
  | k + 1 => by
    rw [pl_succ, List.mem_append, pl_mem']
    constructor
    · rintro (⟨q, h1, h2, h3⟩ | h)
      · exact ⟨q, by omega, h2, h3⟩
      · split at h
        · rename_i hf; simp at h; exact ⟨k, by omega, h, hf⟩
        · simp at h
    · rintro ⟨q, h1, h2, h3⟩
      by_cases hq : q < k
      · exact .inl ⟨q, hq, h2, h3⟩
      · have : q = k := by omega
        subst this
        right; rw [if_pos h3]; simp [h2]
theorem pl_port' {t : ApiTopo} {n p : Int} (h : p ∈ pl t n (2 * t.Links.length)) : IsP t p ∧ frm t p = n := by
  obtain ⟨q, h1, rfl, h3⟩ := pl_mem'.1 h
  rw [(fromO_frm h1).1] at h3
  exact ⟨⟨by omega, by omega⟩, Option.some.inj h3⟩
theorem touch {t : ApiTopo} {x : Int} (h : Rch t [] 0 x) (hx : x ≠ 0) : ∃ (i : Nat) (e : ApiLink), t.Links[i]? = some e ∧ (e.A = 0 ∨ e.B = 0) := by
  induction h with
  | base => exact absurd rfl hx
  | @fwd i e h1 _ _ ih =>
    by_cases h0 : e.A = 0
    · exact ⟨i, e, h1, .inl h0⟩
    · exact ih h0
  | @bwd i e h1 _ _ ih =>
    by_cases h0 : e.B = 0
    · exact ⟨i, e, h1, .inr h0⟩
    · exact ih h0
theorem some_port {t : ApiTopo} (hf : Fit t) {n : Int} (hn : IsN t n) : ∃ p, p ∈ pl t n (2 * t.Links.length) := by
  have key : ∃ (i : Nat) (e : ApiLink), t.Links[i]? = some e ∧ (e.A = n ∨ e.B = n) := by
    by_cases h0 : n = 0
    · subst h0
      have := hf.small.n
      exact touch (hf.whole 1 ⟨by omega, by omega⟩) (by omega)
    · have h := hf.whole n hn
      cases h with
      | base => exact absurd rfl h0
      | @fwd i e h1 _ _ => exact ⟨i, e, h1, .inr rfl⟩
      | @bwd i e h1 _ _ => exact ⟨i, e, h1, .inl rfl⟩
  obtain ⟨i, e, he, h⟩ := key
  have hlt := (List.getElem?_eq_some_iff.1 he).1
  rcases h with h | h
  · exact ⟨_, pl_mem'.2 ⟨2 * i, by omega, rfl, by rw [(fromO_even he).1, h]⟩⟩
  · exact ⟨_, pl_mem'.2 ⟨2 * i + 1, by omega, rfl, by rw [(fromO_odd he).1, h]⟩⟩
theorem el_app {r : List Int} {p : Int} {i : Nat} (h : i < r.length) : el (r ++ [p]) i = el r i := by unfold el; rw [List.getD_eq_getElem?_getD, List.getD_eq_getElem?_getD, List.getElem?_append_left h]
theorem el_end {r : List Int} {p : Int} : el (r ++ [p]) r.length = p := by unfold el; rw [List.getD_eq_getElem?_getD, List.getElem?_append_right (Nat.le_refl _)]; simp
theorem nd_app {t : ApiTopo} {r : List Int} {p : Int} (h0 : 0 < r.length) : ∀ {i : Nat}, i ≤ r.length → nd t (r ++ [p]) i = nd t r i
  | 0, _ => by show frm t _ = frm t _; rw [el_app h0]
  | i + 1, h => by show too t _ = too t _; rw [el_app h]
theorem Okr.more {t : ApiTopo} {r : List Int} (ho : Okr t r) {p : Int} (h8 : r.length < 8) (hp : IsP t p) (h1 : frm t p = nd t r r.length) (h2 : ¬ Seen t.Station (nd t r r.length)) (h3 : too t p ∉ ns t r (r.length + 1)) : Okr t (r ++ [p]) := by
  have h0 := ho.len.1
  have hl : (r ++ [p]).length = r.length + 1 := by simp
  refine ⟨by omega, fun q hq => ?_, fun j hj => ?_, fun j g0 g1 => ?_, fun i j g0 g1 => ?_⟩
  · rcases List.mem_append.1 hq with h | h
    · exact ho.port q h
    · rw [List.mem_singleton] at h; subst h; exact hp
  · by_cases e : j = r.length
    · subst e; rw [el_end, nd_app h0 (Nat.le_refl _)]; exact h1
    · rw [el_app (by omega), nd_app h0 (by omega)]; exact ho.conn j (by omega)
  · rw [nd_app h0 (by omega)]
    by_cases e : j = r.length
    · subst e; exact h2
    · exact ho.inner j g0 (by omega)
  · rw [nd_app h0 (by omega)]
    by_cases e : j = r.length + 1
    · subst e
      show _ ≠ too t (el (r ++ [p]) r.length)
      rw [el_end]
      exact fun e' => h3 (ns_mem.2 ⟨i, g0, e'⟩)
    · rw [nd_app h0 (by omega)]; exact ho.inj i j g0 (by omega)
theorem Okr.single {t : ApiTopo} (hf : Fit t) {p : Int} (hp : IsP t p) : Okr t [p] := by
  refine ⟨by simp, fun q hq => ?_, fun j hj => ?_, fun j g0 g1 => by simp at g1; omega, fun i j g0 g1 => ?_⟩
  · rw [List.mem_singleton] at hq; subst hq; exact hp
  · simp at hj; subst hj; rfl
  · simp at g1
    have : i = 0 := by omega
    have : j = 1 := by omega
    subst i j
    exact frm_ne hf hp
structure Inv (t : ApiTopo) (at_ : Int) (seen out : List Int) : Prop where
  node : IsN t at_
  how : (out = [] ∧ seen = [at_]) ∨ (Okr t out ∧ seen = ns t out (out.length + 1) ∧ at_ = nd t out out.length)
theorem Inv.next {t : ApiTopo} (hf : Fit t) {a : Int} {seen out : List Int} (h : Inv t a seen out) (h8 : out.length < 8) (hs : out ≠ [] → ¬ Seen t.Station a) {p : Int} (hp : p ∈ pl t a (2 * t.Links.length)) (hn : too t p ∉ seen) : Inv t (too t p) (seen ++ [too t p]) (out ++ [p]) := by
  obtain ⟨h1, h2⟩ := pl_port' hp
  refine ⟨too_N hf h1, .inr ?_⟩
  rcases h.how with ⟨rfl, rfl⟩ | ⟨ho, rfl, rfl⟩
  · refine ⟨Okr.single hf h1, ?_, rfl⟩
    show [a] ++ [too t p] = ns t [p] 2
    rw [← h2]; rfl
  · have h0 := ho.len.1
    have ho2 := ho.more h8 h1 h2 (hs (by intro e; rw [e] at h0; simp at h0)) hn
    have hl : (out ++ [p]).length = out.length + 1 := by simp
    refine ⟨ho2, ?_, ?_⟩
    · rw [hl, ns_succ t (out ++ [p]) (out.length + 1)]
      congr 1
      · unfold ns
        exact List.map_congr_left fun i hi => by rw [nd_app h0 (by have := List.mem_range.1 hi; omega)]
      · show _ = [too t (el (out ++ [p]) out.length)]; rw [el_end]
    · rw [hl]; show _ = too t (el (out ++ [p]) out.length); rw [el_end]
theorem Some_has {t : ApiTopo} (hf : Fit t) {n k : Int} (hn : 0 ≤ n ∧ n ≤ 255) (hk : 0 ≤ k ∧ k ≤ 255) : Has (m_isochronref21_Some t n k) (Okr t) := by
  have hN := hf.small.n
  have hS := hf.small.s
  have hL := hf.small.l
  unfold m_isochronref21_Some
  refine has_must (by simp only [decide_eq_true_eq]; omega) ?_
  have e1 : w64 n = n := w64_id (by omega) (by omega)
  have e2 : w64 k = k := w64_id (by omega) (by omega)
  rw [e1, Int.tmod_eq_emod_of_nonneg hn.1]
  have hst : IsN t (n % t.Nodes) := ⟨Int.emod_nonneg _ (by omega), Int.emod_lt_of_pos _ (by omega)⟩
  refine has_loop (fun y : Int × List Int × List Int => Inv t y.1 y.2.1 y.2.2 ∧ y.2.2.length ≤ 8) (fun y => 8 - y.2.2.length) (fun y hy => by omega) ⟨⟨hst, .inl ⟨rfl, rfl⟩⟩, by simp⟩ ?_
  rintro ⟨a, seen, out⟩ rec ⟨hi, h8⟩ ih
  simp only at hi h8
  have hns : out ≠ [] → Okr t out := fun h => by
    rcases hi.how with ⟨h', _⟩ | ⟨h', _⟩
    · exact absurd h' h
    · exact h'
  have hsl : seen.length = out.length + 1 := by
    rcases hi.how with ⟨rfl, rfl⟩ | ⟨_, rfl, _⟩
    · rfl
    · exact ns_len ..
  have hpl := pl_len t a (2 * t.Links.length)
  unfold m_isochronref21_Some_l2
  simp only [decide_eq_true_eq, e2]
  refine has_join (fun b => (b = true → out.length < 8 ∧ (out ≠ [] → ¬ Seen t.Station a)) ∧ (b = false → out ≠ [])) (fun b hb => ?_) (fun j hj => ?_)
  · refine has_ite (fun h => ?_) (fun h => has_ok (hns (hb.2 (by simpa using h))))
    obtain ⟨hlt, hnst⟩ := hb.1 h
    refine has_beq (refPorts_ok (by omega) a) ?_
    refine has_loop (fun y : List Int × List Int × Int => y.2.1 = pl t a (2 * t.Links.length) ∧ 0 ≤ y.2.2 ∧ y.2.2 ≤ (pl t a (2 * t.Links.length)).length ∧ (y.1.length : Int) ≤ y.2.2 ∧ (∀ p ∈ y.1, p ∈ pl t a (2 * t.Links.length) ∧ too t p ∉ seen) ∧ (y.1 = [] → ∀ q : Nat, (q : Int) < y.2.2 → ∀ p, (pl t a (2 * t.Links.length))[q]? = some p → too t p ∈ seen))
      (fun y => ((pl t a (2 * t.Links.length)).length - y.2.2).toNat) (fun y hy => by omega) ⟨rfl, by simp, by simp, by simp, fun p hp => by simp at hp, fun _ q hq => by simp at hq; omega⟩ ?_
    rintro ⟨nx, ps, i⟩ rec2 ⟨g0, g1, g2, g5, g3, g4⟩ ih2
    simp only at g0 g1 g2 g3 g4 g5
    subst g0
    unfold m_isochronref21_Some_l1
    simp only [decide_eq_true_eq, e2]
    refine has_ite (fun hlt2 => ?_) (fun hge => ?_)
    · refine has_idx g1 hlt2 fun p hp => ?_
      have hpm := List.mem_of_getElem? hp
      obtain ⟨hip, hfp⟩ := pl_port' hpm
      refine has_beq (rTo_ok hf.small hip) ?_
      refine has_beq (in_eq (by omega) _) ?_
      refine has_join (fun z => (too t p ∈ seen ∧ z = nx) ∨ (too t p ∉ seen ∧ z = nx ++ [p])) (fun z hz => ?_) (fun j' hj' => ?_)
      · rw [w64_id (n := i + 1) (by omega) (by omega)]
        refine ih2 _ ⟨rfl, by simp only; omega, by simp only; omega, ?_, ?_, ?_⟩ (by simp only; omega)
        · rcases hz with ⟨_, rfl⟩ | ⟨_, rfl⟩
          · simp only; omega
          · simp only [List.length_append, List.length_cons, List.length_nil]; omega
        · rcases hz with ⟨_, rfl⟩ | ⟨h1, rfl⟩
          · exact g3
          · intro q hq
            simp only [List.mem_append, List.mem_singleton] at hq
            rcases hq with h | rfl
            · exact g3 q h
            · exact ⟨hpm, h1⟩
        · intro hz0 q hq p' hp'
          simp only at hz0 hq
          rcases hz with ⟨h1, rfl⟩ | ⟨_, rfl⟩
          · by_cases hqi : (q : Int) < i
            · exact g4 hz0 q hqi p' hp'
            · have : q = i.toNat := by omega
              subst this; rw [hp] at hp'; cases hp'; exact h1
          · simp at hz0
      · refine has_ite (fun h1 => ?_) (fun h1 => hj' _ (.inl ⟨by simpa using h1, rfl⟩))
        refine has_idx g1 hlt2 fun p' hp' => ?_
        have : p' = p := by rw [hp] at hp'; cases hp'; rfl
        subst this
        refine has_must (okLen_ok (by simp; omega)) (hj' _ (.inr ⟨by simpa using h1, rfl⟩))
    · refine has_ite (fun h0 => ?_) (fun h0 => ?_)
      · have hnil : nx = [] := List.length_eq_zero_iff.1 (by omega)
        have hall := g4 hnil
        refine has_ok (hns fun hout => ?_)
        obtain ⟨p, hp⟩ := some_port hf hi.node
        obtain ⟨q, hq⟩ := List.mem_iff_getElem?.1 hp
        have hql := (List.getElem?_eq_some_iff.1 hq).1
        have hm := hall q (by omega) p hq
        obtain ⟨hip, hfp⟩ := pl_port' hp
        rcases hi.how with ⟨_, rfl⟩ | ⟨ho, _⟩
        · rw [List.mem_singleton] at hm
          exact frm_ne hf hip (by rw [hfp, hm])
        · rw [hout] at ho; have := ho.len; simp at this
      · refine has_must (by simp only [decide_eq_true_eq]; omega) ?_
        have e3 : w64 (3 * (out.length : Int)) = 3 * out.length := w64_id (by omega) (by omega)
        have e4 : w64 (k + 3 * (out.length : Int)) = k + 3 * out.length := w64_id (by omega) (by omega)
        rw [e3, e4, Int.tmod_eq_emod_of_nonneg (by omega)]
        refine has_idx (Int.emod_nonneg _ (by omega)) (Int.emod_lt_of_pos _ (by omega)) fun p hp => ?_
        obtain ⟨hpm, hps⟩ := g3 p (List.mem_of_getElem? hp)
        refine has_must (okLen_ok (by simp; omega)) ?_
        refine has_beq (rTo_ok hf.small (pl_port' hpm).1) ?_
        refine has_must (okLen_ok (by simp; omega)) ?_
        exact ih _ ⟨hi.next hf hlt hnst hpm hps, by simp; omega⟩ (by simp only [List.length_append, List.length_cons, List.length_nil]; omega)
  · refine has_ite (fun h => ?_) (fun h => hj _ ⟨fun h' => by simp at h', fun _ h' => by rw [h'] at h; simp at h⟩)
    refine has_ite (fun h0 => ?_) (fun h0 => ?_)
    · have hnil : out = [] := List.length_eq_zero_iff.1 (by omega)
      exact hj _ ⟨fun _ => ⟨by omega, fun h' => absurd hnil h'⟩, fun h' => by simp at h'⟩
    · have hne : out ≠ [] := fun h' => by rw [h'] at h0; simp at h0
      have hnn := hi.node
      refine has_idx hnn.1 (by have := hnn.2; omega) fun s hs => hj _ ⟨fun h' => ⟨by omega, fun _ hse => ?_⟩, fun _ => hne⟩
      rw [(seen_get hnn.1 hs).1 hse] at h'; simp at h'
/-! Parts of a route -/
theorem el_drop {r : List Int} {i j : Nat} : el (r.drop i) j = el r (i + j) := by unfold el; rw [List.getD_eq_getElem?_getD, List.getD_eq_getElem?_getD, List.getElem?_drop]
theorem nd_drop {t : ApiTopo} {r : List Int} (ho : Okr t r) {i : Nat} (h : i < r.length) : ∀ {j : Nat}, nd t (r.drop i) j = nd t r (i + j)
  | 0 => by show frm t (el (r.drop i) 0) = _; rw [el_drop]; exact ho.conn _ (by omega)
  | j + 1 => by show too t (el (r.drop i) j) = too t (el r (i + j)); rw [el_drop]
theorem Okr.rest {t : ApiTopo} {r : List Int} (ho : Okr t r) {i : Nat} (h : i < r.length) : Okr t (r.drop i) := by
  have hl : (r.drop i).length = r.length - i := List.length_drop ..
  have := ho.len
  refine ⟨by omega, fun p hp => ho.port p (List.mem_of_mem_drop hp), fun j hj => ?_, fun j g0 g1 => ?_, fun a b g0 g1 => ?_⟩
  · rw [el_drop, nd_drop ho h]; exact ho.conn _ (by omega)
  · rw [nd_drop ho h]; exact ho.inner _ (by omega) (by omega)
  · rw [nd_drop ho h, nd_drop ho h]; exact ho.inj _ _ (by omega) (by omega)
theorem sm_all (f : Int → Int) (r : List Int) : sm f r r.length = (r.map f).sum := by unfold sm; rw [List.take_length]
end Go.AM.P16
namespace Go.AM.P16
open Go
/-! ### A route and its reverse -/
theorem el_bkr {r : List Int} {i : Nat} (h : i < r.length) : el (bkr r) i = bk (el r (r.length - 1 - i)) := by
  unfold el bkr
  rw [List.getD_eq_getElem?_getD, List.getD_eq_getElem?_getD, List.getElem?_map, List.getElem?_reverse h]
  rw [List.getElem?_eq_getElem (show r.length - 1 - i < r.length by omega)]
  rfl
theorem nd_bkr {t : ApiTopo} {r : List Int} (ho : Okr t r) : ∀ {i : Nat}, i ≤ r.length → nd t (bkr r) i = nd t r (r.length - i)
  | 0, _ => by
    have := ho.len
    show frm t (el (bkr r) 0) = _
    rw [el_bkr (by omega), frm_bk]
    obtain ⟨n, hn⟩ : ∃ n, r.length = n + 1 := ⟨r.length - 1, by omega⟩
    rw [hn]; rfl
  | i + 1, h => by
    show too t (el (bkr r) i) = _
    rw [el_bkr (by omega), too_bk, ho.conn _ (by omega)]
    congr 1; omega
theorem Okr.back {t : ApiTopo} {r : List Int} (ho : Okr t r) : Okr t (bkr r) := by
  have hl := bkr_len r
  have := ho.len
  refine ⟨by omega, fun p hp => ?_, fun j hj => ?_, fun j g0 g1 => ?_, fun a b g0 g1 => ?_⟩
  · unfold bkr at hp
    obtain ⟨q, hq, rfl⟩ := List.mem_map.1 hp
    exact isp_bk (ho.port q (List.mem_reverse.1 hq))
  · rw [el_bkr (by omega), frm_bk, nd_bkr ho (by omega)]
    obtain ⟨n, hn⟩ : ∃ n, r.length - j = n + 1 := ⟨r.length - j - 1, by omega⟩
    rw [hn, show r.length - 1 - j = n by omega]; rfl
  · rw [nd_bkr ho (by omega)]; exact ho.inner _ (by omega) (by omega)
  · rw [nd_bkr ho (by omega), nd_bkr ho (by omega)]
    exact fun e => ho.inj (r.length - b) (r.length - a) (by omega) (by omega) e.symm
theorem bkr_bkr (r : List Int) : bkr (bkr r) = r := by
  unfold bkr
  rw [← List.map_reverse, List.reverse_reverse, List.map_map]
  have : (bk ∘ bk) = id := by funext p; exact bk_bk p
  rw [this, List.map_id]
theorem ns_bkr {t : ApiTopo} {r : List Int} (ho : Okr t r) : ns t (bkr r) (r.length + 1) = (ns t r (r.length + 1)).reverse := by
  apply List.ext_getElem?
  intro i
  by_cases h : i < r.length + 1
  · rw [ns_get h, List.getElem?_reverse (by rw [ns_len]; exact h), ns_len, ns_get (by omega), nd_bkr ho (by omega)]; rfl
  · rw [List.getElem?_eq_none (by rw [ns_len]; omega), List.getElem?_eq_none (by rw [List.length_reverse, ns_len]; omega)]
theorem mem_bkr {r : List Int} {p : Int} : p ∈ bkr r ↔ bk p ∈ r := by
  unfold bkr
  rw [List.mem_map]
  constructor
  · rintro ⟨q, hq, rfl⟩; rw [bk_bk]; exact List.mem_reverse.1 hq
  · intro h; exact ⟨bk p, List.mem_reverse.2 h, bk_bk p⟩
theorem Shares.symm {a b : List Int} (h : Shares a b) : Shares b a := by
  obtain ⟨p, hp, q, hq, he⟩ := h
  exact ⟨q, hq, p, hp, he.symm⟩
theorem Shares.back {a b : List Int} (h : Shares a b) : Shares a (bkr b) := by
  obtain ⟨p, hp, q, hq, he⟩ := h
  exact ⟨p, hp, bk q, mem_bkr.2 (by rw [bk_bk]; exact hq), by rw [bk_half]; exact he⟩
/-! ### A tree -/
theorem cmpI_ups (l : List Int) (p : Int) (h : (p :: l).Pairwise (· ≤ ·)) : (p :: cmpI p l).Pairwise (· < ·) ∧ ∀ x, x ∈ (p :: cmpI p l) ↔ x ∈ p :: l := by
  induction l generalizing p with
  | nil => exact ⟨List.pairwise_singleton .., fun x => Iff.rfl⟩
  | cons y l ih =>
    have hc := List.pairwise_cons.1 h
    have hpy := hc.1 y (List.mem_cons_self ..)
    unfold cmpI
    split
    · rename_i he _
      subst he
      have := ih y hc.2
      refine ⟨this.1, fun x => ?_⟩
      rw [this.2 x]; simp
    · rename_i he _
      have hih := ih y hc.2
      have hlt : p < y := by omega
      refine ⟨List.pairwise_cons.2 ⟨fun z hz => ?_, hih.1⟩, fun x => ?_⟩
      · rcases (List.mem_cons.1 ((hih.2 z).1 hz)) with rfl | hz
        · exact hlt
        · exact Int.lt_of_lt_of_le hlt ((List.pairwise_cons.1 hc.2).1 z hz)
      · rw [List.mem_cons, hih.2 x, List.mem_cons]; simp
theorem compact_ups {l : List Int} (h : l.Pairwise (· ≤ ·)) : (compactI l).Pairwise (· < ·) ∧ ∀ x, x ∈ compactI l ↔ x ∈ l := by
  cases l with
  | nil => exact ⟨List.Pairwise.nil, fun x => Iff.rfl⟩
  | cons y l => exact cmpI_ups l y h
/-- The ports of a list, each once, in order. -/
def portsOf (l : List Int) : List Int := compactI (sortI l)
theorem portsOf_ups (l : List Int) : (portsOf l).Pairwise (· < ·) ∧ ∀ x, x ∈ portsOf l ↔ x ∈ l := by
  have := compact_ups (sortI_sorted l)
  exact ⟨this.1, fun x => by unfold portsOf; rw [this.2 x, (sortI_perm l).mem_iff]⟩
theorem portsOf_len (l : List Int) : (portsOf l).length ≤ l.length := by
  have := compactI_length (sortI l)
  rw [sortI_length] at this; exact this
/-- All ports lead to different nodes, and all routes begin at the first one's node. -/
structure TreeP (t : ApiTopo) (l : List (List Int)) : Prop where
  reach : ∀ p ∈ l.flatten, ∀ q ∈ l.flatten, too t p = too t q → p = q
  start : ∀ r ∈ l, frm t (el r 0) = frm t (el (l.headD []) 0)
theorem Tree_has {t : ApiTopo} (hf : Fit t) {l : List (List Int)} (hl : l.length ≤ 8) (ho : ∀ r ∈ l, Okr t r) : Has (m_route_Tree t l) (fun v => v.1 = portsOf l.flatten ∧ v.2.2 = 0 ∧ (v.2.1 = true ↔ TreeP t l)) := by
  unfold m_route_Tree
  refine has_beq (Check_fit hf) ?_
  refine has_ite (fun h => by simp at h) (fun _ => ?_)
  have hfl : ∀ k, k ≤ l.length → ((l.take k).flatten).length ≤ k * 8 := fun k => by
    induction k with
    | zero => intro _; simp
    | succ k ih =>
      intro hk
      have hk' : l[k]? = some l[k] := List.getElem?_eq_getElem hk
      have := (ho _ (List.getElem_mem hk)).len
      have := ih (by omega)
      rw [List.take_add_one, hk', List.flatten_append]
      simp only [List.length_append, Option.toList_some, List.flatten_cons, List.flatten_nil, List.append_nil]
      omega
  refine has_loop (fun y : List Int × Int => 0 ≤ y.2 ∧ y.2 ≤ l.length ∧ y.1 = (l.take y.2.toNat).flatten) (fun y => ((l.length : Int) - y.2).toNat) (fun y hy => by omega) ⟨by simp, by simp, rfl⟩ ?_
  rintro ⟨ps, i⟩ rec ⟨g0, g1, g2⟩ ih
  simp only at g0 g1 g2
  unfold m_route_Tree_l3
  simp only [decide_eq_true_eq]
  have hpl := hfl i.toNat (by omega)
  rw [← g2] at hpl
  refine has_ite (fun hi => ?_) (fun hi => ?_)
  · refine has_idx g0 hi fun r hr => ?_
    have hor := ho r (List.mem_of_getElem? hr)
    have := hor.len
    refine has_bind (valid_has hf r) fun b hb => ?_
    have hb : b = true := hb.2 hor
    subst hb
    refine has_ite (fun h => by simp at h) (fun _ => ?_)
    refine has_must (okLen_ok (by omega)) ?_
    rw [w64_id (n := i + 1) (by omega) (by omega)]
    have e1 : (i + 1).toNat = i.toNat + 1 := by omega
    refine ih _ ⟨by simp only; omega, by simp only; omega, ?_⟩ (by simp only; omega)
    simp only [e1]
    rw [List.take_add_one, hr, List.flatten_append, g2]; simp
  have hall : ps = l.flatten := by rw [g2, List.take_of_length_le (by omega)]
  have hport : ∀ p ∈ portsOf ps, IsP t p := fun p hp => by
    have := ((portsOf_ups ps).2 p).1 hp
    rw [hall] at this
    obtain ⟨r, hr, hpr⟩ := List.mem_flatten.1 this
    exact (ho r hr).port p hpr
  have hsl := sortI_length ps
  refine has_beq (show m_sort ps = .ok (sortI ps) by unfold m_sort; rw [okLen_ok (by omega)]; rfl) ?_
  refine has_beq (show m_compact (sortI ps) = .ok (portsOf ps) by unfold m_compact; rw [okLen_ok (by omega)]; rfl) ?_
  have hcl := portsOf_len ps
  have hups := portsOf_ups ps
  generalize hP : portsOf ps = P at hport hcl hups ⊢
  refine has_loop (fun y : List Int × Bool × List Int × Int => y.1 = P ∧ 0 ≤ y.2.2.2 ∧ y.2.2.2 ≤ P.length ∧ y.2.2.1 = (P.take y.2.2.2.toNat).map (too t) ∧ (y.2.1 = true ↔ ((P.take y.2.2.2.toNat).map (too t)).Nodup)) (fun y => ((P.length : Int) - y.2.2.2).toNat) (fun y hy => by omega) ⟨rfl, by simp, by simp, rfl, by simp⟩ ?_
  rintro ⟨P', tr, rd, k⟩ rec2 ⟨k0, k1, k2, k3, k4⟩ ih2
  simp only at k0 k1 k2 k3 k4
  subst k0
  unfold m_route_Tree_l2
  simp only [decide_eq_true_eq]
  refine has_ite (fun hk => ?_) (fun hk => ?_)
  · refine has_idx k1 hk fun p hp => ?_
    have hip := hport p (List.mem_of_getElem? hp)
    have hrl : rd.length = k.toNat := by rw [k3, List.length_map, List.length_take]; omega
    have e1 : (k + 1).toNat = k.toNat + 1 := by omega
    have etk : (P'.take (k.toNat + 1)).map (too t) = rd ++ [too t p] := by rw [List.take_add_one, hp, List.map_append, k3]; rfl
    have hnd : ((P'.take (k.toNat + 1)).map (too t)).Nodup ↔ tr = true ∧ too t p ∉ rd := by
      rw [etk, List.nodup_append, k4, ← k3]
      constructor
      · rintro ⟨h1, _, h3⟩
        exact ⟨h1, fun h => h3 _ h _ (List.mem_singleton.2 rfl) rfl⟩
      · rintro ⟨h1, h2⟩
        exact ⟨h1, List.pairwise_singleton .., fun a ha b hb => by rw [List.mem_singleton] at hb; subst hb; exact fun e => h2 (e ▸ ha)⟩
    refine has_join (fun b => (b = true ↔ ((P'.take (k.toNat + 1)).map (too t)).Nodup)) (fun b hb => ?_) (fun j hj => ?_)
    · refine has_beq (To_ok hf hip) ?_
      refine has_must (okLen_ok (by simp; omega)) ?_
      rw [w64_id (n := k + 1) (by omega) (by omega)]
      exact ih2 _ ⟨rfl, by simp only; omega, by simp only; omega, by simp only [e1]; exact etk.symm, by simp only [e1]; exact hb⟩ (by simp only; omega)
    · refine has_ite (fun h => ?_) (fun h => hj _ ⟨fun h' => by simp at h', fun h' => absurd (hnd.1 h').1 h⟩)
      refine has_beq (To_ok hf hip) ?_
      refine has_beq (contains_int (by omega) _) (hj _ ?_)
      rw [hnd]
      simp [h]
  · have htk : P'.take k.toNat = P' := List.take_of_length_le (by omega)
    rw [htk] at k4
    have hreach : tr = true ↔ ∀ p ∈ l.flatten, ∀ q ∈ l.flatten, too t p = too t q → p = q := by
      rw [k4]
      constructor
      · intro h p hp q hq he
        rw [← hall] at hp hq
        obtain ⟨a, ha⟩ := List.mem_iff_getElem?.1 ((hups.2 p).2 hp)
        obtain ⟨b, hb⟩ := List.mem_iff_getElem?.1 ((hups.2 q).2 hq)
        have hal := (List.getElem?_eq_some_iff.1 ha).1
        have hbl := (List.getElem?_eq_some_iff.1 hb).1
        have h1 : (P'.map (too t))[a]? = some (too t p) := by rw [List.getElem?_map, ha]; rfl
        have h2 : (P'.map (too t))[b]? = some (too t q) := by rw [List.getElem?_map, hb]; rfl
        have : a = b := by
          rcases Nat.lt_trichotomy a b with hlt | heq | hlt
          · exact absurd he ((List.pairwise_iff_getElem.1 h) a b (by simpa using hal) (by simpa using hbl) hlt |> fun h => by
              rw [List.getElem?_eq_getElem (by simpa using hal)] at h1
              rw [List.getElem?_eq_getElem (by simpa using hbl)] at h2
              rw [Option.some.inj h1, Option.some.inj h2] at h; exact h)
          · exact heq
          · exact absurd he.symm ((List.pairwise_iff_getElem.1 h) b a (by simpa using hbl) (by simpa using hal) hlt |> fun h => by
              rw [List.getElem?_eq_getElem (by simpa using hal)] at h1
              rw [List.getElem?_eq_getElem (by simpa using hbl)] at h2
              rw [Option.some.inj h1, Option.some.inj h2] at h; exact h)
        subst this
        rw [ha] at hb; exact Option.some.inj hb
      · intro h
        show (P'.map (too t)).Pairwise (· ≠ ·)
        rw [List.pairwise_map]
        refine (List.Pairwise.and_mem.1 hups.1).imp fun {p q} h1 he => ?_
        have := h p (by rw [← hall]; exact (hups.2 p).1 h1.1) q (by rw [← hall]; exact (hups.2 q).1 h1.2.1) he
        omega
    have hh0 : l.headD [] = (l[0]?).getD [] := by cases l <;> rfl
    refine has_loop (fun y : Bool × Int => 0 ≤ y.2 ∧ y.2 ≤ l.length ∧ (y.1 = true ↔ tr = true ∧ ∀ r ∈ l.take y.2.toNat, frm t (el r 0) = frm t (el (l.headD []) 0))) (fun y => ((l.length : Int) - y.2).toNat) (fun y hy => by omega) ⟨by simp, by simp, by simp⟩ ?_
    rintro ⟨b, i2⟩ rec3 ⟨j0, j1, j2⟩ ih3
    simp only at j0 j1 j2
    unfold m_route_Tree_l1
    simp only [decide_eq_true_eq]
    refine has_ite (fun hi2 => ?_) (fun hi2 => ?_)
    · refine has_idx j0 hi2 fun r hr => ?_
      have hor := ho r (List.mem_of_getElem? hr)
      have hrl := hor.len
      have e1 : (i2 + 1).toNat = i2.toNat + 1 := by omega
      have etk : ∀ (A : List Int → Prop), (∀ q ∈ l.take (i2.toNat + 1), A q) ↔ (∀ q ∈ l.take i2.toNat, A q) ∧ A r := fun A => by
        rw [List.take_add_one, hr]
        simp only [Option.toList_some, List.mem_append, List.mem_singleton]
        exact ⟨fun h => ⟨fun q hq => h q (.inl hq), h r (.inr rfl)⟩, fun h q hq => by rcases hq with hq | rfl; exact h.1 q hq; exact h.2⟩
      refine has_join (fun c => (c = true ↔ b = true ∧ frm t (el r 0) = frm t (el (l.headD []) 0))) (fun c hc => ?_) (fun j hj => ?_)
      · rw [w64_id (n := i2 + 1) (by omega) (by omega)]
        refine ih3 _ ⟨by simp only; omega, by simp only; omega, ?_⟩ (by simp only; omega)
        simp only [e1]
        rw [hc, etk, j2, and_assoc]
      · refine has_ite (fun h => ?_) (fun h => hj _ ⟨fun h' => by simp at h', fun h' => absurd h'.1 h⟩)
        refine has_idx (by omega) (by omega) fun p hp => ?_
        have hp0 : r[0]? = some p := hp
        refine has_beq (walk_from_ok hf (hor.port p (List.mem_of_getElem? hp0))) ?_
        refine has_idx (by omega) (by omega) fun r0 hr0 => ?_
        have hr0' : l[0]? = some r0 := hr0
        have hor0 := ho r0 (List.mem_of_getElem? hr0')
        have := hor0.len
        refine has_idx (by omega) (by omega) fun q hq => ?_
        have hq0 : r0[0]? = some q := hq
        refine has_beq (walk_from_ok hf (hor0.port q (List.mem_of_getElem? hq0))) (hj _ ?_)
        rw [decide_eq_true_eq, hh0, hr0', el_get hp0]
        show _ ↔ _ ∧ _ = frm t (el r0 0)
        rw [el_get hq0]
        simp [h]
    · refine has_ok ⟨by rw [hall] at hP; exact hP.symm, rfl, ?_⟩
      rw [List.take_of_length_le (by omega), hreach] at j2
      exact j2.trans ⟨fun h => ⟨h.1, h.2⟩, fun h => ⟨h.reach, h.start⟩⟩
end Go.AM.P16
namespace Go.AM.P16
open Go
theorem sum_rev (l : List Int) : l.reverse.sum = l.sum := by
  induction l with
  | nil => rfl
  | cons x l ih => rw [List.reverse_cons, List.sum_append, ih, List.sum_cons]; simp [Int.add_comm]
theorem Reverse_ok (l : List Int) (hl : l.length < 1000) : m_slices_Reverse_int_int l = .ok l.reverse := by
  refine Has.eq ?_
  unfold m_slices_Reverse_int_int
  rw [w64_id (by omega) (by omega)]
  refine has_loop (fun y : List Int × Int × Int => y.1.length = l.length ∧ 0 ≤ y.2.1 ∧ y.2.1 + y.2.2 = (l.length : Int) - 1 ∧ y.2.1 ≤ y.2.2 + 2 ∧ ∀ k : Nat, k < l.length → y.1[k]? = if (k : Int) < y.2.1 ∨ y.2.2 < (k : Int) then l[l.length - 1 - k]? else l[k]?)
    (fun y => (y.2.2 + 2).toNat) (fun y hy => by omega) ⟨rfl, by simp, by simp, by simp only; omega, fun k hk => by rw [if_neg (by simp only; omega)]⟩ ?_
  rintro ⟨l', i, j⟩ rec ⟨g0, g1, g2, g3, g4⟩ ih
  simp only at g0 g1 g2 g3 g4
  unfold m_slices_Reverse_int_int_l1
  simp only [decide_eq_true_eq]
  refine has_ite (fun hij => ?_) (fun hij => has_ok ?_)
  · refine has_idx (by omega) (by omega) fun a ha => ?_
    refine has_idx (by omega) (by omega) fun b hb => ?_
    refine has_idx (by omega) (by omega) fun _ _ => ?_
    refine has_idx (by omega) (by rw [List.length_set]; omega) fun _ _ => ?_
    rw [w64_id (n := i + 1) (by omega) (by omega), w64_id (n := j - 1) (by omega) (by omega)]
    refine ih _ ⟨by simp only [List.length_set]; exact g0, by simp only; omega, by simp only; omega, by simp only; omega, fun k hk => ?_⟩ (by simp only; omega)
    simp only
    have ha' := g4 j.toNat (by omega)
    have hb' := g4 i.toNat (by omega)
    rw [if_neg (by omega)] at ha' hb'
    rw [ha] at ha'
    rw [hb] at hb'
    rw [List.getElem?_set, List.getElem?_set]
    by_cases hkj : j.toNat = k
    · rw [if_pos hkj, if_pos (by rw [List.length_set]; omega), if_pos (by omega), hb']
      congr 1; omega
    · rw [if_neg hkj]
      by_cases hki : i.toNat = k
      · rw [if_pos hki, if_pos (by omega), if_pos (by omega), ha']
        congr 1; omega
      · rw [if_neg hki, g4 k hk]
        by_cases hc : (k : Int) < i ∨ j < (k : Int)
        · rw [if_pos hc, if_pos (by omega)]
        · rw [if_neg hc, if_neg (by omega)]
  · apply List.ext_getElem?
    intro k
    by_cases hk : k < l.length
    · rw [g4 k hk, List.getElem?_reverse hk]
      split
      · rfl
      · congr 1; omega
    · rw [List.getElem?_eq_none (by omega), List.getElem?_eq_none (by rw [List.length_reverse]; omega)]
theorem tm_bk {t : ApiTopo} (z p : Int) : tm t z (bk p) = tm t z p := by unfold tm pr dl; rw [bk_half]
theorem sm_bkr {t : ApiTopo} (z : Int) (r : List Int) : sm (tm t z) (bkr r) (bkr r).length = sm (tm t z) r r.length := by
  rw [sm_all, sm_all]
  unfold bkr
  rw [List.map_map]
  have : (tm t z ∘ bk) = tm t z := by funext p; exact tm_bk z p
  rw [this, List.map_reverse]
  exact sum_rev _
theorem Okr.too_inj {t : ApiTopo} {r : List Int} (ho : Okr t r) {p q : Int} (hp : p ∈ r) (hq : q ∈ r) (he : too t p = too t q) : p = q := by
  obtain ⟨a, ha⟩ := List.mem_iff_getElem?.1 hp
  obtain ⟨b, hb⟩ := List.mem_iff_getElem?.1 hq
  have hal := (List.getElem?_eq_some_iff.1 ha).1
  have hbl := (List.getElem?_eq_some_iff.1 hb).1
  have e1 : nd t r (a + 1) = too t p := by show too t (el r a) = _; rw [el_get ha]
  have e2 : nd t r (b + 1) = too t q := by show too t (el r b) = _; rw [el_get hb]
  have : a = b := by
    rcases Nat.lt_trichotomy a b with h | h | h
    · exact absurd (by rw [e1, e2, he]) (ho.inj (a + 1) (b + 1) (by omega) (by omega))
    · exact h
    · exact absurd (by rw [e1, e2, he]) (ho.inj (b + 1) (a + 1) (by omega) (by omega))
  subst this
  rw [ha] at hb; exact Option.some.inj hb
theorem Okr.nodup {t : ApiTopo} {r : List Int} (ho : Okr t r) : r.Nodup := by
  show r.Pairwise (· ≠ ·)
  rw [List.pairwise_iff_getElem]
  intro a b ha hb hab he
  have ha' : r[a]? = some r[a] := List.getElem?_eq_getElem ha
  have hb' : r[b]? = some r[b] := List.getElem?_eq_getElem hb
  have e1 : nd t r (a + 1) = too t r[a] := by show too t (el r a) = _; rw [el_get ha']
  have e2 : nd t r (b + 1) = too t r[b] := by show too t (el r b) = _; rw [el_get hb']
  exact ho.inj (a + 1) (b + 1) (by omega) (by omega) (by rw [e1, e2, he])
theorem RouteTurns_pure (x0 : Isochronref16Draft) (x1 x2 : Int) (D : Draws x0) (h1 : inR .u8 x1) (h2 : inR .u8 x2) : m_isochronlaw21_RouteTurns x0 x1 x2 = .ok true := by
  refine Has.eq ?_
  unfold m_isochronlaw21_RouteTurns
  refine has_beq wakes21 ?_
  refine has_ite (fun h => by simp at h) (fun _ => ?_)
  refine has_bind (Topo_has D) fun t ht => ?_
  obtain ⟨hf, _⟩ := ht
  refine has_bind (Some_has hf (inR_u8.1 h1) (inR_u8.1 h2)) fun r ho => ?_
  have hl := ho.len
  have hob := ho.back
  refine has_beq (rBack_r hf ho) ?_
  refine has_beq (rBack_r hf hob) ?_
  refine has_beq (rNodes_ok hf ho) ?_
  refine has_beq (rNodes_ok hf hob) ?_
  simp only [sh, bkr_bkr, ne_eq, not_true_eq_false, decide_false, Bool.or_self, Bool.false_eq_true, if_false]
  refine has_beq (equal_route (by omega)) ?_
  have e1 : w64 ((r.length : Int) + 1) = r.length + 1 := w64_id (by omega) (by omega)
  rw [ns_len, e1]
  have e2 : ¬ ¬ ((r.length + 1 : Nat) : Int) = (r.length : Int) + 1 := fun h => h (by omega)
  simp only [decide_true, Bool.not_true, e2, decide_false, Bool.or_self, Bool.false_eq_true, if_false]
  refine has_beq (Reverse_ok _ (by rw [ns_len, bkr_len]; omega)) ?_
  rw [bkr_len, ns_bkr ho, List.reverse_reverse]
  refine has_beq (rTime_ok hf ho (z := 84) (by omega) (by omega)) ?_
  refine has_beq (rTime_ok hf hob (z := 84) (by omega) (by omega)) ?_
  refine has_bind (Tree_has hf (l := [r]) (by simp) (fun q hq => by rw [List.mem_singleton] at hq; subst hq; exact ho)) fun v hv => ?_
  refine has_beq (equal_int (by rw [ns_len]; omega)) ?_
  have hfl : [r].flatten = r := by simp
  have htree : v.2.1 = true := hv.2.2.2 ⟨fun p hp q hq he => by rw [hfl] at hp hq; exact ho.too_inj hp hq he, fun q hq => by rw [List.mem_singleton] at hq; subst hq; rfl⟩
  have hplen : (portsOf r).length = r.length := by
    have hu := portsOf_ups r
    have hn : (portsOf r).Nodup := hu.1.imp fun h => by omega
    exact ((List.perm_ext_iff_of_nodup hn ho.nodup).2 hu.2).length_eq
  rw [sm_bkr, hv.1, hfl, hplen]
  simp only [hv.2.1, htree, decide_true, Bool.and_self]
  exact has_ok rfl
end Go.AM.P16
