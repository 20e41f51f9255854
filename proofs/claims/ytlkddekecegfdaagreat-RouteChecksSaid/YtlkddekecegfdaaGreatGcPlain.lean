/- The plain law: lemmas over plain data, no program; no claim of its own; no condition. -/
import Derived.Test.YtlkddekecegfdaaGreatGcDefs
import Derived.Test.YtlkddekecegfdaaGreatLfK
set_option linter.unusedVariables false
set_option linter.unusedSimpArgs false
namespace Go.AM.P16
open Go
/-! ### Links -/
theorem from_ok {e : ApiLink} {p : Int} : m_topo_end_from ⟨e, p⟩ = .ok (if p.tmod 2 = 0 then e.A else e.B) := by
  unfold m_topo_end_from
  simp only [decide_eq_true_eq]
  split <;> rfl
theorem tmod_even {i : Int} (h : 0 ≤ i) : (2 * i).tmod 2 = 0 := by rw [Int.tmod_eq_emod_of_nonneg (by omega)]; omega
theorem tmod_odd {i : Int} (h : 0 ≤ i) : (2 * i + 1).tmod 2 = 1 := by rw [Int.tmod_eq_emod_of_nonneg (by omega)]; omega
theorem from_even {e : ApiLink} {i : Int} (h : 0 ≤ i) (h1 : i < 1000000) : m_topo_end_from ⟨e, w64 (2 * i)⟩ = .ok e.A := by
  rw [w64_id (by omega) (by omega), from_ok, if_pos (tmod_even h)]
theorem from_odd {e : ApiLink} {i : Int} (h : 0 ≤ i) (h1 : i < 1000000) : m_topo_end_from ⟨e, w64 ((w64 (2 * i)) + 1)⟩ = .ok e.B := by
  rw [w64_id (n := 2 * i) (by omega) (by omega), w64_id (by omega) (by omega), from_ok, if_neg (by rw [tmod_odd h]; decide)]
theorem to_ok {e : ApiLink} {p : Int} (ha : 0 ≤ e.A ∧ e.A < 1000000) (hb : 0 ≤ e.B ∧ e.B < 1000000) : m_topo_end_to ⟨e, p⟩ = .ok (if p.tmod 2 = 0 then e.B else e.A) := by
  unfold m_topo_end_to
  rw [from_ok]
  simp only [bindR]
  rw [w64_id (n := e.A + e.B) (by omega) (by omega)]
  split <;> (rw [w64_id (by omega) (by omega)]; congr 1; omega)
theorem to_even {e : ApiLink} {i : Int} (ha : 0 ≤ e.A ∧ e.A < 1000000) (hb : 0 ≤ e.B ∧ e.B < 1000000) (h : 0 ≤ i) (h1 : i < 1000000) : m_topo_end_to ⟨e, w64 (2 * i)⟩ = .ok e.B := by
  rw [w64_id (by omega) (by omega), to_ok ha hb, if_pos (tmod_even h)]
theorem to_odd {e : ApiLink} {i : Int} (ha : 0 ≤ e.A ∧ e.A < 1000000) (hb : 0 ≤ e.B ∧ e.B < 1000000) (h : 0 ≤ i) (h1 : i < 1000000) : m_topo_end_to ⟨e, w64 ((w64 (2 * i)) + 1)⟩ = .ok e.A := by
  rw [w64_id (n := 2 * i) (by omega) (by omega), w64_id (by omega) (by omega), to_ok ha hb, if_neg (by rw [tmod_odd h]; decide)]

/-! ### What a topology must be -/
def Joins (e : ApiLink) (a b : Int) : Prop := (e.A = a ∧ e.B = b) ∨ (e.A = b ∧ e.B = a)
def IsN (t : ApiTopo) (n : Int) : Prop := 0 ≤ n ∧ n < t.Nodes
instance (t : ApiTopo) (n : Int) : Decidable (IsN t n) := inferInstanceAs (Decidable (_ ∧ _))
structure LinkOk (t : ApiTopo) (e : ApiLink) : Prop where
  a : IsN t e.A
  b : IsN t e.B
  ne : e.A ≠ e.B
  st : ¬ (Seen t.Station e.A ∧ Seen t.Station e.B)
  per : 1 ≤ e.Per ∧ e.Per ≤ 1000
  delay : 0 ≤ e.Delay ∧ e.Delay ≤ 10000
def Alone (ls : List ApiLink) (i : Nat) (e : ApiLink) : Prop := ∀ (j : Nat) (f : ApiLink), j < i → ls[j]? = some f → ¬ Joins f e.A e.B
structure Small (t : ApiTopo) : Prop where
  n : 2 ≤ t.Nodes ∧ t.Nodes ≤ 12
  s : (t.Station.length : Int) = t.Nodes
  l : t.Links.length ≤ 24
def LinksOk (t : ApiTopo) : Prop := ∀ (i : Nat) (e : ApiLink), t.Links[i]? = some e → LinkOk t e ∧ Alone t.Links i e
def ends (e : ApiLink) (n : Int) : Int := (if e.A = n then 1 else 0) + (if e.B = n then 1 else 0)
def cnt (ls : List ApiLink) (n : Int) : Int := (ls.map (ends · n)).sum
inductive Rch (t : ApiTopo) (cut : List Int) (s : Int) : Int → Prop
  | base : Rch t cut s s
  | fwd {i : Nat} {e : ApiLink} : t.Links[i]? = some e → (i : Int) ∉ cut → Rch t cut s e.A → Rch t cut s e.B
  | bwd {i : Nat} {e : ApiLink} : t.Links[i]? = some e → (i : Int) ∉ cut → Rch t cut s e.B → Rch t cut s e.A
structure Fit (t : ApiTopo) : Prop where
  small : Small t
  links : LinksOk t
  stations : ∀ n, IsN t n → Seen t.Station n → 1 ≤ cnt t.Links n ∧ cnt t.Links n ≤ 2
  whole : ∀ n, IsN t n → Rch t [] 0 n

theorem ends_range (e : ApiLink) (n : Int) : 0 ≤ ends e n ∧ ends e n ≤ 2 := by
  unfold ends; split <;> split <;> omega
theorem cnt_range (ls : List ApiLink) (n : Int) : 0 ≤ cnt ls n ∧ cnt ls n ≤ 2 * ls.length := by
  induction ls with
  | nil => simp [cnt]
  | cons e ls ih =>
    have := ends_range e n
    simp only [cnt, List.map_cons, List.sum_cons, List.length_cons] at ih ⊢
    omega
theorem cnt_take {ls : List ApiLink} {i : Nat} {e : ApiLink} (h : ls[i]? = some e) (n : Int) : cnt (ls.take (i + 1)) n = cnt (ls.take i) n + ends e n := by
  rw [List.take_add_one, h]
  simp [cnt]

theorem isNode_ok (t : ApiTopo) (n : Int) : m_topo_isNode t n = .ok (decide (IsN t n)) := by
  unfold m_topo_isNode sh
  by_cases h1 : 0 ≤ n <;> by_cases h2 : n < t.Nodes <;> simp [IsN, h1, h2]
end Go.AM.P16
namespace Go.AM.P16
open Go
end Go.AM.P16
namespace Go.AM.P16
open Go
/-! ### Looking in rows -/
theorem index_int_has {l : List Int} (hl : l.length < 1000000) (x : Int) : Has (m_slices_Index_int_int l x) (fun r => (0 ≤ r ↔ x ∈ l)) := by
  unfold m_slices_Index_int_int
  refine has_loop (fun i : Int => 0 ≤ i ∧ i ≤ l.length ∧ ∀ j : Nat, (j : Int) < i → l[j]? ≠ some x) (fun i => ((l.length : Int) - i).toNat) (fun y hy => by omega) ⟨by omega, by omega, fun j hj => by omega⟩ ?_
  rintro i rec ⟨h0, h1, h2⟩ ih
  unfold m_slices_Index_int_int_l1
  simp only [decide_eq_true_eq]
  refine has_ite (fun hi => ?_) (fun hi => ?_)
  · refine has_idx h0 hi fun a ha => ?_
    refine has_ite (fun he => ?_) (fun he => ?_)
    · subst he
      exact has_ok ⟨fun _ => List.mem_of_getElem? ha, fun _ => h0⟩
    · rw [w64_id (by omega) (by omega)]
      refine ih _ ⟨by omega, by omega, fun j hj => ?_⟩ (by omega)
      by_cases hji : (j : Int) < i
      · exact h2 j hji
      · have : j = i.toNat := by omega
        rw [this, ha]; intro hx; cases hx; exact he rfl
  · refine has_ok ⟨fun h => by omega, fun h => ?_⟩
    obtain ⟨j, hj⟩ := List.mem_iff_getElem?.1 h
    have := (List.getElem?_eq_some_iff.1 hj).1
    exact absurd hj (h2 j (by omega))
theorem contains_int {l : List Int} (hl : l.length < 1000000) (x : Int) : m_slices_Contains_int_int l x = .ok (decide (x ∈ l)) := by
  unfold m_slices_Contains_int_int
  obtain ⟨r, h1, h2⟩ := index_int_has hl x
  rw [h1]
  simp only [bindR, h2]
theorem index_bool_has {l : List Bool} (hl : l.length < 1000000) (x : Bool) : Has (m_slices_Index_bool_bool l x) (fun r => (0 ≤ r ↔ x ∈ l)) := by
  unfold m_slices_Index_bool_bool
  refine has_loop (fun i : Int => 0 ≤ i ∧ i ≤ l.length ∧ ∀ j : Nat, (j : Int) < i → l[j]? ≠ some x) (fun i => ((l.length : Int) - i).toNat) (fun y hy => by omega) ⟨by omega, by omega, fun j hj => by omega⟩ ?_
  rintro i rec ⟨h0, h1, h2⟩ ih
  unfold m_slices_Index_bool_bool_l1
  simp only [decide_eq_true_eq, beq_iff_eq]
  refine has_ite (fun hi => ?_) (fun hi => ?_)
  · refine has_idx h0 hi fun a ha => ?_
    refine has_ite (fun he => ?_) (fun he => ?_)
    · subst he
      exact has_ok ⟨fun _ => List.mem_of_getElem? ha, fun _ => h0⟩
    · rw [w64_id (by omega) (by omega)]
      refine ih _ ⟨by omega, by omega, fun j hj => ?_⟩ (by omega)
      by_cases hji : (j : Int) < i
      · exact h2 j hji
      · have : j = i.toNat := by omega
        rw [this, ha]; intro hx; cases hx; exact he rfl
  · refine has_ok ⟨fun h => by omega, fun h => ?_⟩
    obtain ⟨j, hj⟩ := List.mem_iff_getElem?.1 h
    have := (List.getElem?_eq_some_iff.1 hj).1
    exact absurd hj (h2 j (by omega))
theorem contains_bool {l : List Bool} (hl : l.length < 1000000) (x : Bool) : m_slices_Contains_bool_bool l x = .ok (decide (x ∈ l)) := by
  unfold m_slices_Contains_bool_bool
  obtain ⟨r, h1, h2⟩ := index_bool_has hl x
  rw [h1]
  simp only [bindR, h2]
theorem in_ok {l : List Int} (hl : l.length < 1000000) (x : Int) : Has (m_isochronref16_In l x) (fun r => r = decide (x ∈ l)) := by
  unfold m_isochronref16_In
  refine has_loop (fun i : Int => 0 ≤ i ∧ i ≤ l.length ∧ ∀ j : Nat, (j : Int) < i → l[j]? ≠ some x) (fun i => ((l.length : Int) - i).toNat) (fun y hy => by omega) ⟨by omega, by omega, fun j hj => by omega⟩ ?_
  rintro i rec ⟨h0, h1, h2⟩ ih
  unfold m_isochronref16_In_l1
  simp only [decide_eq_true_eq]
  refine has_ite (fun hi => ?_) (fun hi => ?_)
  · refine has_idx h0 hi fun a ha => ?_
    refine has_ite (fun he => ?_) (fun he => ?_)
    · subst he
      exact has_ok (by simp [List.mem_of_getElem? ha])
    · rw [w64_id (by omega) (by omega)]
      refine ih _ ⟨by omega, by omega, fun j hj => ?_⟩ (by omega)
      by_cases hji : (j : Int) < i
      · exact h2 j hji
      · have : j = i.toNat := by omega
        rw [this, ha]; intro hx; cases hx; exact he rfl
  · refine has_ok ?_
    have : x ∉ l := fun h => by
      obtain ⟨j, hj⟩ := List.mem_iff_getElem?.1 h
      have := (List.getElem?_eq_some_iff.1 hj).1
      exact absurd hj (h2 j (by omega))
    simp [this]

/-! ### Counting -/
theorem degree_ok {t : ApiTopo} (ht : t.Links.length ≤ 24) (n : Int) : m_topo_degree t n = .ok (cnt t.Links n) := by
  refine Has.eq ?_
  unfold m_topo_degree
  refine has_loop (fun s : Int × Int => 0 ≤ s.1 ∧ s.1 ≤ t.Links.length ∧ s.2 = cnt (t.Links.take s.1.toNat) n) (fun s => ((t.Links.length : Int) - s.1).toNat) (fun y hy => by omega) ⟨by simp, by simp, by simp [cnt]⟩ ?_
  rintro ⟨i, c⟩ rec ⟨h0, h1, h2⟩ ih
  unfold m_topo_degree_l1
  simp only [decide_eq_true_eq] at *
  refine has_ite (fun hi => ?_) (fun hi => ?_)
  · refine has_idx h0 hi fun e he => ?_
    have hstep := cnt_take he n
    have hr := cnt_range (t.Links.take i.toNat) n
    have hlen : (t.Links.take i.toNat).length ≤ 24 := by rw [List.length_take]; omega
    have hend : cnt (t.Links.take (i + 1).toNat) n = c + ends e n := by
      have : (i + 1).toNat = i.toNat + 1 := by omega
      rw [this, hstep, h2]
    refine has_beq (from_even h0 (by omega)) (has_sh ?_)
    refine has_ite (fun ha => ?_) (fun ha => ?_) <;>
    · refine has_beq (from_odd h0 (by omega)) (has_sh ?_)
      refine has_ite (fun hb => ?_) (fun hb => ?_) <;>
      · show Has (rec _) _
        rw [w64_id (n := i + 1) (by omega) (by omega)]
        refine ih _ ⟨by simp only; omega, by simp only; omega, ?_⟩ (by simp only; omega)
        simp only
        rw [hend]
        unfold ends
        simp only [ha, hb, if_true, if_false]
        try rw [w64_id (n := c + 1) (by omega) (by omega)]
        try rw [w64_id (by omega) (by omega)]
        try omega
  · refine has_ok ?_
    rw [h2, List.take_of_length_le (by omega)]
end Go.AM.P16
namespace Go.AM.P16
open Go
theorem joins_dec {e : ApiLink} {a b : Int} : ((decide (e.A = a) && decide (e.B = b)) || (decide (e.A = b) && decide (e.B = a))) = true ↔ Joins e a b := by
  simp [Joins]
theorem validLink_has {t : ApiTopo} (ht : Small t) {p : Int} {e : ApiLink} (h0 : 0 ≤ p) (he : t.Links[p.toNat]? = some e) :
    Has (m_topo_validLink t p) (fun r => (r = true ↔ LinkOk t e ∧ Alone t.Links p.toNat e)) := by
  have hp := (List.getElem?_eq_some_iff.1 he).1
  have hl := ht.l
  have hs := ht.s
  unfold m_topo_validLink
  refine has_idx h0 (by omega) fun e' he' => ?_
  rw [he] at he'; cases he'
  refine has_beq (isNode_ok _ _) ?_
  refine has_join (fun s => (s = true ↔ IsN t e.A ∧ IsN t e.B)) (fun s hs1 => ?_) (fun j hj => ?_)
  · refine has_sh ?_
    simp only [Bool.not_eq_true', Bool.and_eq_false_iff, decide_eq_false_iff_not, Decidable.not_not]
    refine has_ite (fun h => has_ok ?_) (fun h => ?_)
    · simp only [Bool.false_eq_true, false_iff]
      rintro ⟨h1, _⟩
      rcases h with h | h
      · rw [hs1.2 ⟨h1.a, h1.b⟩] at h; cases h
      · exact h1.ne h
    · rw [not_or, Bool.not_eq_false, hs1] at h
      obtain ⟨⟨ha, hb⟩, hne⟩ := h
      refine has_idx ha.1 (by have := ha.2; omega) fun sa hsa => ?_
      refine has_join (fun s => (s = true ↔ ¬ (Seen t.Station e.A ∧ Seen t.Station e.B))) (fun s hs2 => ?_) (fun j hj => ?_)
      · refine has_ite (fun h => has_ok ?_) (fun h => ?_)
        · simp only [Bool.false_eq_true, false_iff]
          rintro ⟨h1, _⟩
          rw [hs2.2 h1.st] at h; cases h
        · have h : s = true := by simpa using h
          rw [hs2] at h
          refine has_sh (has_sh (has_sh ?_))
          simp only [Bool.not_eq_true', Bool.and_eq_false_iff, decide_eq_false_iff_not]
          refine has_ite (fun h2 => has_ok ?_) (fun h2 => ?_)
          · simp only [Bool.false_eq_true, false_iff]
            rintro ⟨h1, _⟩
            have h3 := h1.per; have h4 := h1.delay
            omega
          · have ok : LinkOk t e := ⟨ha, hb, hne, h, by omega, by omega⟩
            refine has_must (by simp only [decide_eq_true_eq]; omega) ?_
            have hlen : (t.Links.take p.toNat).length = p.toNat := by rw [List.length_take]; omega
            refine has_loop (fun i : Int => 0 ≤ i ∧ i ≤ p ∧ Alone t.Links i.toNat e) (fun i => (p - i).toNat) (fun y hy => by omega) ⟨by omega, by omega, fun j f hj => by simp at hj⟩ ?_
            rintro i rec ⟨g0, g1, g2⟩ ih
            unfold m_topo_validLink_l1
            simp only [decide_eq_true_eq, hlen]
            refine has_ite (fun hi => ?_) (fun hi => has_ok ?_)
            · refine has_idx g0 (by rw [hlen]; omega) fun f hf => ?_
              rw [List.getElem?_take_of_lt (by omega)] at hf
              refine has_sh (has_sh ?_)
              refine has_ite (fun hjn => ?_) (fun hjn => ?_)
              · have hjn := joins_dec.1 hjn
                have : ¬ Alone t.Links p.toNat e := fun h => h i.toNat f (by omega) hf hjn
                simp only [g0, this, and_false, iff_false, decide_true, Bool.not_true, Bool.not_false, Bool.false_eq_true, if_false, if_true]
                exact has_ok (by simp)
              · have hjn : ¬ Joins f e.A e.B := fun h => hjn (joins_dec.2 h)
                rw [w64_id (by omega) (by omega)]
                refine ih _ ⟨by omega, by omega, fun j f' hj hf' => ?_⟩ (by omega)
                by_cases hji : j < i.toNat
                · exact g2 j f' hji hf'
                · have : j = i.toNat := by omega
                  rw [this, hf] at hf'; cases hf'; exact hjn
            · have : i = p := by omega
              subst this
              simp [ok, g2]
      · refine has_ite (fun h => ?_) (fun h => ?_)
        · refine hj _ ?_
          have : sa = false := by simpa using h
          subst this
          have : ¬ Seen t.Station e.A := by rw [seen_get ha.1 hsa]; simp
          simp [this]
        · refine has_idx hb.1 (by have := hb.2; omega) fun sb hsb => hj _ ?_
          have h1 : Seen t.Station e.A := by rw [seen_get ha.1 hsa]; simpa using h
          have h2 := seen_get hb.1 hsb
          simp [h1, h2]
  · refine has_ite (fun h => ?_) (fun h => ?_)
    · refine has_beq (isNode_ok _ _) (hj _ ?_)
      have : IsN t e.A := by simpa using h
      simp [this]
    · refine hj _ ?_
      have : ¬ IsN t e.A := by simpa using h
      simp [this]
end Go.AM.P16
namespace Go.AM.P16
open Go
/-- All links end at nodes. -/
def InL (t : ApiTopo) : Prop := ∀ (i : Nat) (e : ApiLink), t.Links[i]? = some e → IsN t e.A ∧ IsN t e.B
def Closed (t : ApiTopo) (cut : List Int) (l : List Bool) : Prop := ∀ (i : Nat) (e : ApiLink), t.Links[i]? = some e → (i : Int) ∉ cut → (Seen l e.A ↔ Seen l e.B)
theorem Closed.all {t : ApiTopo} {cut : List Int} {l : List Bool} {s x : Int} (h : Closed t cut l) (hs : Seen l s) (hx : Rch t cut s x) : Seen l x := by
  induction hx with
  | base => exact hs
  | fwd h1 h2 _ ih => exact (h _ _ h1 h2).1 ih
  | bwd h1 h2 _ ih => exact (h _ _ h1 h2).2 ih
def IsReach (t : ApiTopo) (cut : List Int) (s : Int) (l : List Bool) : Prop := (l.length : Int) = t.Nodes ∧ ∀ x, Seen l x ↔ Rch t cut s x
theorem not_seen {l : List Bool} {i : Int} (h0 : 0 ≤ i) (h1 : i < l.length) (h : ¬ Seen l i) : l[i.toNat]? = some false := by
  have hlt : i.toNat < l.length := by omega
  rw [List.getElem?_eq_getElem hlt]
  cases hb : l[i.toNat] with
  | false => rfl
  | true => exact absurd ⟨h0, by rw [List.getElem?_eq_getElem hlt, hb]⟩ h
theorem reach_has {t : ApiTopo} (ht : Small t) (hi : InL t) {cut : List Int} (hc : cut.length < 1000000) {s : Int} (hs : IsN t s) : Has (m_topo_reach t s cut) (IsReach t cut s) := by
  have hn := ht.n
  have hlk := ht.l
  have hs0 := hs.1
  have hs1 := hs.2
  unfold m_topo_reach
  refine has_must (by simp only [decide_eq_true_eq]; omega) ?_
  have hrl : (List.replicate (t.Nodes).toNat false).length = t.Nodes.toNat := List.length_replicate ..
  refine has_idx hs0 (by rw [hrl]; omega) fun _ _ => ?_
  refine has_loop (fun l : List Bool => (l.length : Int) = t.Nodes ∧ Seen l s ∧ ∀ x, Seen l x → Rch t cut s x) low (fun l hl => by have := low_le l; omega) ⟨by rw [List.length_set, hrl]; omega, (seen_set (by rw [hrl]; omega)).2 (.inr rfl), fun x hx => ?_⟩ ?_
  · rcases (seen_set (by rw [hrl]; omega)).1 hx with h | rfl
    · exact absurd h seen_rep
    · exact .base
  rintro l rec ⟨hl, hls, hlr⟩ ih
  unfold m_topo_reach_l2
  refine has_loop (fun y : Int × List Bool => y.2 = l ∧ 0 ≤ y.1 ∧ y.1 ≤ t.Links.length ∧ ∀ (j : Nat) (e : ApiLink), (j : Int) < y.1 → t.Links[j]? = some e → (j : Int) ∉ cut → (Seen l e.A ↔ Seen l e.B)) (fun y => ((t.Links.length : Int) - y.1).toNat) (fun y hy => by omega) ⟨rfl, by simp, by simp, fun j e hj => by simp at hj; omega⟩ ?_
  rintro ⟨i, l'⟩ rec2 ⟨g0, g1, g2, g3⟩ ih2
  simp only at g0 g1 g2 g3
  subst g0
  unfold m_topo_reach_l1
  simp only [decide_eq_true_eq]
  refine has_ite (fun hil => ?_) (fun hil => ?_)
  rotate_left
  · refine has_ok ⟨hl, fun x => ⟨hlr x, fun hx => ?_⟩⟩
    exact Closed.all (fun j e hj hjc => g3 j e (by have := (List.getElem?_eq_some_iff.1 hj).1; omega) hj hjc) hls hx
  refine has_idx g1 hil fun e he => ?_
  obtain ⟨⟨hA0, hA1⟩, ⟨hB0, hB1⟩⟩ := hi _ _ he
  have hA : 0 ≤ e.A ∧ e.A < 1000000 := ⟨hA0, by omega⟩
  have hB : 0 ≤ e.B ∧ e.B < 1000000 := ⟨hB0, by omega⟩
  have hq1 : (w64 ((w64 (2 * i)).tdiv 2)) = i := by
    rw [w64_id (n := 2 * i) (by omega) (by omega), Int.tdiv_eq_ediv_of_nonneg (by omega), w64_id (by omega) (by omega)]; omega
  have hq2 : (w64 ((w64 ((w64 (2 * i)) + 1)).tdiv 2)) = i := by
    rw [w64_id (n := 2 * i) (by omega) (by omega), w64_id (n := 2 * i + 1) (by omega) (by omega), Int.tdiv_eq_ediv_of_nonneg (by omega), w64_id (by omega) (by omega)]; omega
  have hcast : ((i.toNat : Nat) : Int) = i := by omega
  refine has_beq (from_even g1 (by omega)) ?_
  refine has_idx hA0 (by omega) fun sa hsa => ?_
  have hsa := seen_get hA0 hsa
  refine has_join (fun b => (b = true ↔ Seen l' e.A ∧ ¬ Seen l' e.B)) (fun b hb => ?_) (fun j hj => ?_)
  · refine has_join (fun b => (b = true ↔ (Seen l' e.A ∧ ¬ Seen l' e.B) ∧ i ∉ cut)) (fun b hb => ?_) (fun j hj => ?_)
    · refine has_ite (fun h => ?_) (fun h => ?_)
      · obtain ⟨⟨h1, h2⟩, h3⟩ := hb.1 h
        refine has_beq (to_even hA hB g1 (by omega)) ?_
        refine has_idx hB0 (by omega) fun _ _ => ?_
        refine ih _ ⟨by rw [List.length_set]; exact hl, (seen_set (by omega)).2 (.inl hls), fun x hx => ?_⟩ (by have := low_set (not_seen hB0 (by omega) h2); omega)
        rcases (seen_set (by omega)).1 hx with h | rfl
        · exact hlr x h
        · exact .fwd he (by rw [hcast]; exact h3) (hlr _ h1)
      · have hb1 : ¬ ((Seen l' e.A ∧ ¬ Seen l' e.B) ∧ i ∉ cut) := fun hh => h (hb.2 hh)
        refine has_beq (from_odd g1 (by omega)) ?_
        refine has_idx hB0 (by omega) fun sb hsb => ?_
        have hsb := seen_get hB0 hsb
        refine has_join (fun b => (b = true ↔ Seen l' e.B ∧ ¬ Seen l' e.A)) (fun b hb => ?_) (fun j hj => ?_)
        · refine has_join (fun b => (b = true ↔ (Seen l' e.B ∧ ¬ Seen l' e.A) ∧ i ∉ cut)) (fun b hb => ?_) (fun j hj => ?_)
          · refine has_ite (fun h => ?_) (fun h => ?_)
            · obtain ⟨⟨h1, h2⟩, h3⟩ := hb.1 h
              refine has_beq (to_odd hA hB g1 (by omega)) ?_
              refine has_idx hA0 (by omega) fun _ _ => ?_
              refine ih _ ⟨by rw [List.length_set]; exact hl, (seen_set (by omega)).2 (.inl hls), fun x hx => ?_⟩ (by have := low_set (not_seen hA0 (by omega) h2); omega)
              rcases (seen_set (by omega)).1 hx with h | rfl
              · exact hlr x h
              · exact .bwd he (by rw [hcast]; exact h3) (hlr _ h1)
            · have hb2 : ¬ ((Seen l' e.B ∧ ¬ Seen l' e.A) ∧ i ∉ cut) := fun hh => h (hb.2 hh)
              rw [w64_id (n := i + 1) (by omega) (by omega)]
              refine ih2 _ ⟨rfl, by simp only; omega, by simp only; omega, fun j e' hj hj2 hj3 => ?_⟩ (by simp only; omega)
              simp only at hj
              by_cases hji : (j : Int) < i
              · exact g3 j e' hji hj2 hj3
              · have hjn : j = i.toNat := by omega
                rw [hjn] at hj2 hj3
                rw [he] at hj2; cases hj2
                rw [hcast] at hj3
                by_cases ha : Seen l' e.A <;> by_cases hb : Seen l' e.B <;> simp_all
          · refine has_ite (fun h => ?_) (fun h => ?_)
            · refine has_beq (contains_int hc _) (hj _ ?_)
              rw [hq2]; simp [hb.1 h]
            · refine hj _ ?_
              have : ¬ (Seen l' e.B ∧ ¬ Seen l' e.A) := fun hh => h (hb.2 hh)
              simp [this]
        · refine has_ite (fun h => ?_) (fun h => ?_)
          · refine has_beq (to_odd hA hB g1 (by omega)) ?_
            refine has_idx hA0 (by omega) fun sa2 hsa2 => hj _ ?_
            have hsa2 := seen_get hA0 hsa2
            rw [hsb, hsa2, h]; simp
          · refine hj _ ?_
            rw [hsb]; simp [h]
    · refine has_ite (fun h => ?_) (fun h => ?_)
      · refine has_beq (contains_int hc _) (hj _ ?_)
        rw [hq1]; simp [hb.1 h]
      · refine hj _ ?_
        have : ¬ (Seen l' e.A ∧ ¬ Seen l' e.B) := fun hh => h (hb.2 hh)
        simp [this]
  · refine has_ite (fun h => ?_) (fun h => ?_)
    · refine has_beq (to_even hA hB g1 (by omega)) ?_
      refine has_idx hB0 (by omega) fun sb2 hsb2 => hj _ ?_
      have hsb2 := seen_get hB0 hsb2
      rw [hsa, hsb2, h]; simp
    · refine hj _ ?_
      rw [hsa]; simp [h]
end Go.AM.P16
namespace Go.AM.P16
open Go
theorem Reach_has {t : ApiTopo} (ht : Small t) (hi : InL t) {cut : List Int} (hc : cut.length < 1000000) {s : Int} (hs : IsN t s) : Has (m_isochronref16_Reach t s cut) (IsReach t cut s) := by
  have hn := ht.n
  have hlk := ht.l
  have hs0 := hs.1
  have hs1 := hs.2
  unfold m_isochronref16_Reach
  refine has_must (by simp only [decide_eq_true_eq]; omega) ?_
  have hrl : (List.replicate (t.Nodes).toNat false).length = t.Nodes.toNat := List.length_replicate ..
  refine has_idx hs0 (by rw [hrl]; omega) fun b0 hb0 => ?_
  have hb0' : (List.replicate (t.Nodes).toNat false)[s.toNat]? = some false := by
    rw [List.getElem?_replicate, if_pos (by omega)]
  refine has_loop (fun y : List Bool × Int => 0 ≤ y.2 ∧ y.2 ≤ t.Nodes ∧ (y.1.length : Int) = t.Nodes ∧ Seen y.1 s ∧ (∀ x, Seen y.1 x → Rch t cut s x) ∧ (Closed t cut y.1 ∨ (low y.1 : Int) + y.2 + 1 ≤ t.Nodes)) (fun y => (t.Nodes - y.2).toNat) (fun l hl => by omega) ⟨by simp, by simp only; omega, by rw [List.length_set, hrl]; omega, (seen_set (by rw [hrl]; omega)).2 (.inr rfl), fun x hx => ?_, .inr ?_⟩ ?_
  · rcases (seen_set (by rw [hrl]; omega)).1 hx with h | rfl
    · exact absurd h seen_rep
    · exact .base
  · have h1 := low_set hb0'
    have h2 := low_le (List.replicate (t.Nodes).toNat false)
    rw [hrl] at h2
    simp only
    omega
  rintro ⟨l0, r⟩ rec ⟨hr0, hr1, hl0, hls0, hlr0, hcl⟩ ih
  simp only at hr0 hr1 hl0 hls0 hlr0 hcl
  unfold m_isochronref16_Reach_l2
  simp only [decide_eq_true_eq]
  refine has_ite (fun hrn => ?_) (fun hrn => ?_)
  rotate_left
  · refine has_ok ⟨hl0, fun x => ⟨hlr0 x, fun hx => ?_⟩⟩
    rcases hcl with h | h
    · exact h.all hls0 hx
    · omega
  refine has_loop (fun y : List Bool × Int => 0 ≤ y.2 ∧ y.2 ≤ t.Links.length ∧ (y.1.length : Int) = t.Nodes ∧ Seen y.1 s ∧ (∀ x, Seen y.1 x → Rch t cut s x) ∧ ((y.1 = l0 ∧ ∀ (j : Nat) (e : ApiLink), (j : Int) < y.2 → t.Links[j]? = some e → (j : Int) ∉ cut → (Seen l0 e.A ↔ Seen l0 e.B)) ∨ (low y.1 < low l0 ∧ ¬ Closed t cut l0))) (fun y => ((t.Links.length : Int) - y.2).toNat) (fun y hy => by omega) ⟨by simp, by simp, hl0, hls0, hlr0, .inl ⟨rfl, fun j e hj => by simp at hj; omega⟩⟩ ?_
  rintro ⟨l, i⟩ rec2 ⟨g1, g2, hl, hls, hlr, hd⟩ ih2
  simp only at g1 g2 hl hls hlr hd
  unfold m_isochronref16_Reach_l1
  simp only [decide_eq_true_eq]
  refine has_ite (fun hil => ?_) (fun hil => ?_)
  rotate_left
  · rw [w64_id (by omega) (by omega)]
    refine ih _ ⟨by simp only; omega, by simp only; omega, hl, hls, hlr, ?_⟩ (by simp only; omega)
    simp only
    rcases hd with ⟨rfl, h⟩ | ⟨h1, h2⟩
    · exact .inl fun j e hj hjc => h j e (by have := (List.getElem?_eq_some_iff.1 hj).1; omega) hj hjc
    · rcases hcl with h | h
      · exact absurd h h2
      · exact .inr (by omega)
  refine has_idx g1 hil fun e he => ?_
  obtain ⟨⟨hA0, hA1⟩, ⟨hB0, hB1⟩⟩ := hi _ _ he
  have hcast : ((i.toNat : Nat) : Int) = i := by omega
  refine has_bind (in_ok hc i) fun b hb => ?_
  subst hb
  refine has_join (fun y : List Bool × Bool => y.1 = l ∧ (y.2 = true ↔ i ∉ cut ∧ (Seen l e.A ∨ Seen l e.B))) (fun y hy => ?_) (fun j hj => ?_)
  · obtain ⟨l', fire⟩ := y
    obtain ⟨hy1, hy2⟩ := hy
    simp only at hy1 hy2
    subst hy1
    -- the row after this link
    refine has_join (fun z : List Bool => (z.length : Int) = t.Nodes ∧ Seen z s ∧ (∀ x, Seen z x → Rch t cut s x) ∧ ((z = l' ∧ (i ∉ cut → (Seen l' e.A ↔ Seen l' e.B))) ∨ (low z < low l' ∧ i ∉ cut ∧ ¬ (Seen l' e.A ↔ Seen l' e.B)))) (fun z hz => ?_) (fun j hj => ?_)
    · obtain ⟨k1, k2, k3, k4⟩ := hz
      rw [w64_id (by omega) (by omega)]
      refine ih2 _ ⟨by simp only; omega, by simp only; omega, k1, k2, k3, ?_⟩ (by simp only; omega)
      simp only
      rcases hd with ⟨rfl, h⟩ | ⟨h1, h2⟩
      · rcases k4 with ⟨k4, k5⟩ | ⟨k4, k5, k6⟩
        · refine .inl ⟨k4, fun j e' hj hj2 hj3 => ?_⟩
          by_cases hji : (j : Int) < i
          · exact h j e' hji hj2 hj3
          · have hjn : j = i.toNat := by omega
            rw [hjn] at hj2 hj3
            rw [he] at hj2; cases hj2
            rw [hcast] at hj3
            exact k5 hj3
        · exact .inr ⟨k4, fun hcd => k6 (hcd _ _ he (by rw [hcast]; exact k5))⟩
      · refine .inr ⟨?_, h2⟩
        rcases k4 with ⟨k4, k5⟩ | ⟨k4, k5, k6⟩
        · rw [k4]; exact h1
        · omega
    · refine has_ite (fun h => ?_) (fun h => ?_)
      · obtain ⟨hnc, hor⟩ := hy2.1 h
        simp only
        refine has_idx hA0 (by omega) fun _ _ => ?_
        refine has_idx hB0 (by rw [List.length_set]; omega) fun _ _ => hj _ ?_
        refine ⟨by rw [List.length_set, List.length_set]; exact hl, ?_, fun x hx => ?_, ?_⟩
        · rw [seen_set (by rw [List.length_set]; omega), seen_set (by omega)]; exact .inl (.inl hls)
        · rw [seen_set (by rw [List.length_set]; omega), seen_set (by omega)] at hx
          have hab : Rch t cut s e.A ∧ Rch t cut s e.B := by
            rcases hor with h | h
            · exact ⟨hlr _ h, .fwd he (by rw [hcast]; exact hnc) (hlr _ h)⟩
            · exact ⟨.bwd he (by rw [hcast]; exact hnc) (hlr _ h), hlr _ h⟩
          rcases hx with (h | rfl) | rfl
          · exact hlr _ h
          · exact hab.1
          · exact hab.2
        · by_cases ha : Seen l' e.A
          · rw [set_self ha.2]
            by_cases hb : Seen l' e.B
            · rw [set_self hb.2]; exact .inl ⟨rfl, fun _ => by simp [ha, hb]⟩
            · exact .inr ⟨by have := low_set (not_seen hB0 (by omega) hb); omega, hnc, by simp [ha, hb]⟩
          · have hb : Seen l' e.B := hor.resolve_left ha
            refine .inr ⟨?_, hnc, by simp [ha, hb]⟩
            have h1 := low_set (not_seen hA0 (by omega) ha)
            have h2 := low_set_le (l := l'.set e.A.toNat true) (i := e.B.toNat)
            omega
      · refine hj _ ⟨hl, hls, hlr, .inl ⟨rfl, fun hnc => ?_⟩⟩
        have : ¬ (Seen l' e.A ∨ Seen l' e.B) := fun hh => h (hy2.2 ⟨hnc, hh⟩)
        by_cases ha : Seen l' e.A <;> by_cases hb : Seen l' e.B <;> simp_all
  · refine has_ite (fun h => ?_) (fun h => ?_)
    · have hnc : i ∉ cut := by simpa using h
      refine has_idx hA0 (by first | omega | (simp only; omega)) fun sa hsa => ?_
      have hsa := seen_get hA0 hsa
      refine has_ite (fun h2 => hj _ ⟨rfl, ?_⟩) (fun h2 => ?_)
      · simp [hnc, hsa, h2]
      · refine has_idx hB0 (by first | omega | (simp only; omega)) fun sb hsb => hj _ ⟨rfl, ?_⟩
        have hsb := seen_get hB0 hsb
        simp [hnc, hsa, hsb, h2]
    · refine hj _ ⟨rfl, ?_⟩
      have : i ∈ cut := by simpa using h
      simp [this]
end Go.AM.P16
namespace Go.AM.P16
open Go
theorem IsReach.whole {t : ApiTopo} {l : List Bool} (h : IsReach t [] 0 l) : false ∈ l ↔ ¬ ∀ n, IsN t n → Rch t [] 0 n := by
  obtain ⟨h1, h2⟩ := h
  constructor
  · intro hm hall
    obtain ⟨i, hi⟩ := List.mem_iff_getElem?.1 hm
    have hlt := (List.getElem?_eq_some_iff.1 hi).1
    have := (h2 (i : Int)).2 (hall i ⟨by omega, by omega⟩)
    obtain ⟨_, h⟩ := this
    rw [show ((i : Int).toNat) = i from rfl, hi] at h
    cases h
  · intro hn
    by_cases hf : false ∈ l
    · exact hf
    · refine absurd (fun n hnn => (h2 n).1 ?_) hn
      by_cases hs : Seen l n
      · exact hs
      · exact absurd (List.mem_of_getElem? (not_seen hnn.1 (by have := hnn.2; omega) hs)) hf
theorem LinksOk.inl {t : ApiTopo} (h : LinksOk t) : InL t := fun i e he => ⟨(h i e he).1.a, (h i e he).1.b⟩
def CheckIs (t : ApiTopo) (r : Int) : Prop := (Fit t ∧ r = 0) ∨ (¬ Fit t ∧ r = 260)
theorem small_dec {t : ApiTopo} : ((((decide (t.Nodes < 2)) || (decide (12 < t.Nodes))) || (decide ((t.Station.length : Int) ≠ t.Nodes))) || (decide (24 < (t.Links.length : Int)))) = true ↔ ¬ Small t := by
  simp only [Bool.or_eq_true, decide_eq_true_eq]
  constructor
  · intro h hs
    have h1 := hs.n; have h2 := hs.s; have h3 := hs.l
    omega
  · intro h
    by_cases h1 : t.Nodes < 2
    · exact .inl (.inl (.inl h1))
    by_cases h2 : 12 < t.Nodes
    · exact .inl (.inl (.inr h2))
    by_cases h3 : (t.Station.length : Int) = t.Nodes
    · refine .inr ?_
      by_cases h4 : t.Links.length ≤ 24
      · exact absurd ⟨⟨by omega, by omega⟩, h3, h4⟩ h
      · omega
    · exact .inl (.inr h3)
theorem Check_has (t : ApiTopo) : Has (m_topo_Check t) (CheckIs t) := by
  unfold m_topo_Check
  refine has_sh (has_sh (has_sh ?_))
  refine has_ite (fun h => has_ok ?_) (fun h => ?_)
  · exact .inr ⟨fun hf => small_dec.1 h hf.small, rfl⟩
  have ht : Small t := Classical.not_not.1 fun hn => h (small_dec.2 hn)
  have hn := ht.n
  have hlk := ht.l
  have hst := ht.s
  refine has_loop (fun i : Int => 0 ≤ i ∧ i ≤ t.Links.length ∧ ∀ (j : Nat) (e : ApiLink), (j : Int) < i → t.Links[j]? = some e → LinkOk t e ∧ Alone t.Links j e) (fun i => ((t.Links.length : Int) - i).toNat) (fun y hy => by omega) ⟨by omega, by omega, fun j e hj => by omega⟩ ?_
  rintro i rec ⟨g0, g1, g2⟩ ih
  unfold m_topo_Check_l2
  simp only [decide_eq_true_eq]
  refine has_ite (fun hi => ?_) (fun hi => ?_)
  · obtain ⟨e, he⟩ : ∃ e, t.Links[i.toNat]? = some e := ⟨_, List.getElem?_eq_getElem (by omega)⟩
    refine has_bind (validLink_has ht g0 he) fun r hr => ?_
    refine has_ite (fun h => has_ok ?_) (fun h => ?_)
    · refine .inr ⟨fun hf => ?_, rfl⟩
      rw [hr.2 (hf.links _ _ he)] at h
      cases h
    · have h : r = true := by simpa using h
      rw [w64_id (by omega) (by omega)]
      refine ih _ ⟨by omega, by omega, fun j f hj hf => ?_⟩ (by omega)
      by_cases hji : (j : Int) < i
      · exact g2 j f hji hf
      · have : j = i.toNat := by omega
        subst this
        rw [he] at hf; cases hf
        exact hr.1 h
  have hL : LinksOk t := fun j e he => g2 j e (by have := (List.getElem?_eq_some_iff.1 he).1; omega) he
  refine has_loop (fun i : Int => 0 ≤ i ∧ i ≤ t.Station.length ∧ ∀ n : Int, n < i → Seen t.Station n → 1 ≤ cnt t.Links n ∧ cnt t.Links n ≤ 2) (fun i => ((t.Station.length : Int) - i).toNat) (fun y hy => by omega) ⟨by omega, by omega, fun n hn hs => by have := hs.1; omega⟩ ?_
  rintro k rec2 ⟨k0, k1, k2⟩ ih2
  unfold m_topo_Check_l1
  simp only [decide_eq_true_eq]
  refine has_ite (fun hk => ?_) (fun hk => ?_)
  · refine has_idx k0 hk fun b hb => ?_
    have hb := seen_get k0 hb
    refine has_join (fun s => (s = true ↔ Seen t.Station k ∧ ¬ (1 ≤ cnt t.Links k ∧ cnt t.Links k ≤ 2))) (fun s hs => ?_) (fun j hj => ?_)
    · refine has_ite (fun h => has_ok ?_) (fun h => ?_)
      · obtain ⟨h1, h2⟩ := hs.1 h
        exact .inr ⟨fun hf => h2 (hf.stations k ⟨k0, by omega⟩ h1), rfl⟩
      · rw [w64_id (by omega) (by omega)]
        refine ih2 _ ⟨by omega, by omega, fun n hn hsn => ?_⟩ (by omega)
        by_cases hnk : n < k
        · exact k2 n hnk hsn
        · have : n = k := by omega
          subst this
          exact Decidable.byContradiction fun hh => h (hs.2 ⟨hsn, hh⟩)
    · refine has_ite (fun h => ?_) (fun h => ?_)
      · refine has_beq (degree_ok hlk k) ?_
        have hsn := hb.2 h
        refine has_ite (fun h2 => hj _ ?_) (fun h2 => ?_)
        · simp only [true_iff]; exact ⟨hsn, by omega⟩
        · refine has_beq (degree_ok hlk k) (hj _ ?_)
          simp only [decide_eq_true_eq]
          exact ⟨fun h3 => ⟨hsn, by omega⟩, fun ⟨_, h3⟩ => by omega⟩
      · refine hj _ ?_
        have : ¬ Seen t.Station k := fun hh => h (hb.1 hh)
        simp [this]
  · refine has_bind (reach_has ht hL.inl (cut := []) (by simp) (s := 0) ⟨by omega, by omega⟩) fun l hl => ?_
    have hw := hl.whole
    refine has_beq (contains_bool (by have := hl.1; omega) false) ?_
    refine has_ite (fun h => has_ok ?_) (fun h => has_ok ?_)
    · exact .inr ⟨fun hf => hw.1 (by simpa using h) hf.whole, rfl⟩
    · have h : ¬ false ∈ l := by simpa using h
      refine .inl ⟨⟨ht, hL, fun n hn hs => k2 n (by have := hs.lt; omega) hs, ?_⟩, rfl⟩
      exact Classical.not_not.1 fun hh => h (hw.2 hh)
/-! ### The reference -/
theorem node_ok (t : ApiTopo) (n : Int) : m_isochronref16_node t n = .ok (decide (IsN t n)) := by
  unfold m_isochronref16_node sh
  by_cases h1 : 0 ≤ n <;> by_cases h2 : n < t.Nodes <;> simp [IsN, h1, h2]
theorem joins_ok (e : ApiLink) (a b : Int) : Has (m_isochronref16_Joins e a b) (fun r => (r = true ↔ Joins e a b)) := by
  unfold m_isochronref16_Joins
  exact has_sh (has_sh (has_ok joins_dec))
theorem link_has {t : ApiTopo} (ht : Small t) (e : ApiLink) : Has (m_isochronref16_link t e) (fun r => (r = true ↔ LinkOk t e)) := by
  have hs := ht.s
  unfold m_isochronref16_link
  refine has_beq (node_ok _ _) ?_
  refine has_join (fun s => (s = true ↔ ¬ (IsN t e.A ∧ IsN t e.B))) (fun s hs1 => ?_) (fun j hj => ?_)
  · refine has_sh ?_
    refine has_join (fun s => (s = true ↔ ¬ (IsN t e.A ∧ IsN t e.B ∧ e.A ≠ e.B ∧ ¬ (Seen t.Station e.A ∧ Seen t.Station e.B)))) (fun s hs2 => ?_) (fun j hj => ?_)
    · refine has_ite (fun h => has_ok ?_) (fun h => ?_)
      · simp only [Bool.false_eq_true, false_iff]
        exact fun hl => hs2.1 h ⟨hl.a, hl.b, hl.ne, hl.st⟩
      · have h : IsN t e.A ∧ IsN t e.B ∧ e.A ≠ e.B ∧ ¬ (Seen t.Station e.A ∧ Seen t.Station e.B) := Classical.not_not.1 fun hh => h (hs2.2 hh)
        refine has_sh (has_sh (has_sh (has_ok ?_)))
        simp only [Bool.and_eq_true, decide_eq_true_eq]
        exact ⟨fun hh => ⟨h.1, h.2.1, h.2.2.1, h.2.2.2, by omega, by omega⟩, fun hl => ⟨⟨hl.per, hl.delay.1⟩, hl.delay.2⟩⟩
    · refine has_ite (fun h => hj _ ?_) (fun h => ?_)
      · simp only [true_iff]
        rintro ⟨h1, h2, h3, _⟩
        simp only [Bool.or_eq_true, decide_eq_true_eq] at h
        rcases h with h | h
        · exact hs1.1 h ⟨h1, h2⟩
        · exact h3 h
      · have hab : IsN t e.A ∧ IsN t e.B := Classical.not_not.1 fun hh => h (by simp [hs1.2 hh])
        have hne : e.A ≠ e.B := fun hh => h (by simp [hh])
        obtain ⟨ha, hb⟩ := hab
        refine has_idx ha.1 (by have := ha.2; omega) fun sa hsa => ?_
        have hsa := seen_get ha.1 hsa
        refine has_ite (fun h1 => ?_) (fun h1 => ?_)
        · refine has_idx hb.1 (by have := hb.2; omega) fun sb hsb => hj _ ?_
          have hsb := seen_get hb.1 hsb
          have h1 := hsa.2 h1
          rw [← hsb]
          simp [ha, hb, hne, h1]
        · refine hj _ ?_
          have : ¬ Seen t.Station e.A := fun hh => h1 (hsa.1 hh)
          simp [ha, hb, hne, this]
  · refine has_ite (fun h => hj _ ?_) (fun h => ?_)
    · have : ¬ IsN t e.A := by simpa using h
      simp [this]
    · refine has_beq (node_ok _ _) (hj _ ?_)
      have : IsN t e.A := by simpa using h
      simp [this]
def RightIs (t : ApiTopo) (r : Bool) : Prop := (r = true ↔ Fit t)
theorem Right_has (t : ApiTopo) : Has (m_isochronref16_Right t) (RightIs t) := by
  unfold m_isochronref16_Right
  refine has_sh (has_sh (has_sh ?_))
  refine has_ite (fun h => has_ok ?_) (fun h => ?_)
  · exact ⟨fun h => by simp at h, fun hf => absurd hf.small (small_dec.1 h)⟩
  have ht : Small t := Classical.not_not.1 fun hn => h (small_dec.2 hn)
  have hn := ht.n
  have hlk := ht.l
  have hst := ht.s
  refine has_must (by simp only [decide_eq_true_eq]; omega) ?_
  have bad : ∀ {p : Prop}, (Fit t → p) → ¬ p → RightIs t false := fun h1 h2 => ⟨fun h => (by simp at h), fun hf => absurd (h1 hf) h2⟩
  refine has_loop (fun y : List Int × Int => 0 ≤ y.2 ∧ y.2 ≤ t.Links.length ∧ (y.1.length : Int) = t.Nodes ∧ (∀ n, IsN t n → y.1[n.toNat]? = some (cnt (t.Links.take y.2.toNat) n)) ∧ ∀ (j : Nat) (e : ApiLink), (j : Int) < y.2 → t.Links[j]? = some e → LinkOk t e ∧ Alone t.Links j e) (fun y => ((t.Links.length : Int) - y.2).toNat) (fun y hy => by omega) ⟨by simp, by simp, by simp only [List.length_replicate]; omega, fun n hn' => ?_, fun j e hj => by simp at hj; omega⟩ ?_
  · rw [List.getElem?_replicate, if_pos (by have := hn'.1; have := hn'.2; omega)]
    rfl
  rintro ⟨c, i⟩ rec ⟨g0, g1, gl, gc, g2⟩ ih
  simp only at g0 g1 gl gc g2
  unfold m_isochronref16_Right_l3
  simp only [decide_eq_true_eq]
  refine has_ite (fun hi => ?_) (fun hi => ?_)
  · refine has_idx g0 hi fun e he => ?_
    refine has_bind (link_has ht e) fun r hr => ?_
    refine has_ite (fun h => has_ok ?_) (fun h => ?_)
    · have h : r = false := by simpa using h
      exact bad (fun hf => (hf.links _ _ he).1) (fun hh => by rw [hr.2 hh] at h; cases h)
    have hlok := hr.1 (by simpa using h)
    have ha := hlok.a
    have hb := hlok.b
    have hne := hlok.ne
    refine has_loop (fun j : Int => 0 ≤ j ∧ j ≤ i ∧ Alone t.Links j.toNat e) (fun j => (i - j).toNat) (fun y hy => by omega) ⟨by omega, by omega, fun j f hj => by simp at hj⟩ ?_
    rintro j rec2 ⟨j0, j1, j2⟩ ih2
    unfold m_isochronref16_Right_l1
    simp only [decide_eq_true_eq]
    refine has_ite (fun hj => ?_) (fun hj => ?_)
    · refine has_idx j0 (by omega) fun f hf => ?_
      refine has_bind (joins_ok f e.A e.B) fun b hb => ?_
      refine has_ite (fun h => has_ok ?_) (fun h => ?_)
      · exact bad (fun hf => (hf.links _ _ he).2) (fun hh => hh j.toNat f (by omega) hf (hb.1 h))
      · rw [w64_id (by omega) (by omega)]
        refine ih2 _ ⟨by omega, by omega, fun k f' hk hf' => ?_⟩ (by omega)
        by_cases hkj : k < j.toNat
        · exact j2 k f' hkj hf'
        · have : k = j.toNat := by omega
          rw [this, hf] at hf'; cases hf'
          exact fun hh => h (hb.2 hh)
    · have hji : j = i := by omega
      subst hji
      have hrA := cnt_range (t.Links.take j.toNat) e.A
      have hrB := cnt_range (t.Links.take j.toNat) e.B
      have hlen : (t.Links.take j.toNat).length ≤ 24 := by rw [List.length_take]; omega
      have hA := gc _ ha
      have hB := gc _ hb
      have hneN : e.A.toNat ≠ e.B.toNat := by have := ha.1; have := hb.1; omega
      have hltA : e.A.toNat < c.length := by have := ha.1; have := ha.2; omega
      have hltB : e.B.toNat < c.length := by have := hb.1; have := hb.2; omega
      refine has_beq (idx_ok.2 ⟨ha.1, hA⟩) ?_
      refine has_beq (idx_ok.2 ⟨ha.1, hA⟩) ?_
      have hB' : (c.set e.A.toNat (w64 (cnt (t.Links.take j.toNat) e.A + 1)))[e.B.toNat]? = some (cnt (t.Links.take j.toNat) e.B) := by
        rw [List.getElem?_set_ne hneN]; exact hB
      refine has_beq (idx_ok.2 ⟨hb.1, hB'⟩) ?_
      refine has_beq (idx_ok.2 ⟨hb.1, hB'⟩) ?_
      rw [w64_id (n := j + 1) (by omega) (by omega), w64_id (n := cnt (t.Links.take j.toNat) e.A + 1) (by omega) (by omega), w64_id (n := cnt (t.Links.take j.toNat) e.B + 1) (by omega) (by omega)]
      refine ih _ ⟨by simp only; omega, by simp only; omega, by simp only [List.length_set]; exact gl, fun n hn' => ?_, fun k f hk hf => ?_⟩ (by simp only; omega)
      · have h1 : (j + 1).toNat = j.toNat + 1 := by omega
        simp only
        rw [h1, cnt_take he]
        have h0 := hn'.1
        have hA0 := ha.1
        have hB0 := hb.1
        by_cases hb1 : e.B = n
        · subst hb1
          rw [List.getElem?_set_self (by rw [List.length_set]; exact hltB)]
          simp [ends, hne]
        · rw [List.getElem?_set_ne (by omega)]
          by_cases ha1 : e.A = n
          · subst ha1
            rw [List.getElem?_set_self hltA]
            simp [ends, hb1]
          · rw [List.getElem?_set_ne (by omega), gc _ hn']
            simp [ends, ha1, hb1]
      · simp only at hk
        by_cases hkj : (k : Int) < j
        · exact g2 k f hkj hf
        · have : k = j.toNat := by omega
          subst this
          rw [he] at hf; cases hf
          exact ⟨hlok, j2⟩
  have hL : LinksOk t := fun j e he => g2 j e (by have := (List.getElem?_eq_some_iff.1 he).1; omega) he
  have hc : ∀ n, IsN t n → c[n.toNat]? = some (cnt t.Links n) := fun n hn' => by
    rw [gc n hn', List.take_of_length_le (by omega)]
  refine has_bind (Reach_has ht hL.inl (cut := []) (by simp) (s := 0) ⟨by omega, by omega⟩) fun l hl => ?_
  obtain ⟨hll, hlr⟩ := hl
  refine has_loop (fun y : List Int × List Bool × Int => y.1 = c ∧ y.2.1 = l ∧ 0 ≤ y.2.2 ∧ y.2.2 ≤ t.Nodes ∧ ∀ n : Int, 0 ≤ n → n < y.2.2 → Rch t [] 0 n ∧ (Seen t.Station n → 1 ≤ cnt t.Links n ∧ cnt t.Links n ≤ 2)) (fun y => (t.Nodes - y.2.2).toNat) (fun y hy => by omega) ⟨rfl, rfl, by simp, by simp only; omega, fun n hn hs => by simp only at hs; omega⟩ ?_
  rintro ⟨c', l', k⟩ rec2 ⟨k0, k1, k2, k3, k4⟩ ih2
  simp only at k0 k1 k2 k3 k4
  subst k0 k1
  unfold m_isochronref16_Right_l2
  simp only [decide_eq_true_eq]
  refine has_ite (fun hk => ?_) (fun hk => ?_)
  · have hkn : IsN t k := ⟨k2, hk⟩
    refine has_idx k2 (by first | omega | (simp only; omega)) fun b hb => ?_
    have hb := seen_get k2 hb
    refine has_join (fun s : List Int × Bool => s.1 = c' ∧ (s.2 = true ↔ ¬ (Rch t [] 0 k ∧ (Seen t.Station k → 1 ≤ cnt t.Links k ∧ cnt t.Links k ≤ 2)))) (fun s hs => ?_) (fun j hj => ?_)
    · obtain ⟨s1, s2⟩ := s
      obtain ⟨hs1, hs2⟩ := hs
      simp only at hs1 hs2
      subst hs1
      refine has_ite (fun h => has_ok ?_) (fun h => ?_)
      · exact bad (fun hf => ⟨hf.whole k hkn, hf.stations k hkn⟩) (hs2.1 h)
      · have h := Classical.not_not.1 fun hh => h (hs2.2 hh)
        rw [w64_id (by first | omega | (simp only; omega)) (by first | omega | (simp only; omega))]
        refine ih2 _ ⟨rfl, rfl, by simp only; omega, by simp only; omega, fun n hn0 hn1 => ?_⟩ (by simp only; omega)
        simp only at hn1
        by_cases hnk : n < k
        · exact k4 n hn0 hnk
        · have : n = k := by omega
          subst this
          exact h
    · refine has_ite (fun h => hj _ ⟨rfl, ?_⟩) (fun h => ?_)
      · have h : b = false := by simpa using h
        have : ¬ Rch t [] 0 k := fun hh => by rw [hb.1 ((hlr k).2 hh)] at h; cases h
        simp [this]
      · have h : b = true := by simpa using h
        have hr : Rch t [] 0 k := (hlr k).1 (hb.2 h)
        refine has_idx k2 (by first | omega | (simp only; omega)) fun sb hsb => ?_
        have hsb := seen_get k2 hsb
        refine has_ite (fun h1 => ?_) (fun h1 => hj _ ⟨rfl, ?_⟩)
        · have h1 := hsb.2 h1
          refine has_beq (idx_ok.2 ⟨k2, hc k hkn⟩) ?_
          refine has_ite (fun h2 => hj _ ⟨rfl, ?_⟩) (fun h2 => ?_)
          · simp only [true_iff]; exact fun hh => by have := hh.2 h1; omega
          · refine has_beq (idx_ok.2 ⟨k2, hc k hkn⟩) (hj _ ⟨rfl, ?_⟩)
            simp only [decide_eq_true_eq]
            exact ⟨fun h3 hh => by have := hh.2 h1; omega, fun hh => Decidable.byContradiction fun h3 => hh ⟨hr, fun _ => by omega⟩⟩
        · have : ¬ Seen t.Station k := fun hh => h1 (hsb.1 hh)
          simp [this, hr]
  · refine has_ok ⟨fun _ => ⟨ht, hL, fun n hn' hs => (k4 n hn'.1 (by have := hn'.2; omega)).2 hs, fun n hn' => (k4 n hn'.1 (by have := hn'.2; omega)).1⟩, fun _ => rfl⟩
end Go.AM.P16
namespace Go.AM.P16
open Go
theorem Check_fit {t : ApiTopo} (h : Fit t) : m_topo_Check t = .ok 0 := by
  obtain ⟨r, h1, h2⟩ := Check_has t
  rcases h2 with ⟨_, rfl⟩ | ⟨h2, _⟩
  · exact h1
  · exact absurd h h2
theorem Check_unfit {t : ApiTopo} (h : ¬ Fit t) : m_topo_Check t = .ok 260 := by
  obtain ⟨r, h1, h2⟩ := Check_has t
  rcases h2 with ⟨h2, rfl⟩ | ⟨h2, rfl⟩
  · exact absurd h2 h
  · exact h1
theorem Right_fit {t : ApiTopo} (h : Fit t) : m_isochronref16_Right t = .ok true := by
  obtain ⟨r, h1, h2⟩ := Right_has t
  rw [h1, h2.2 h]
theorem Right_unfit {t : ApiTopo} (h : ¬ Fit t) : m_isochronref16_Right t = .ok false := by
  obtain ⟨r, h1, h2⟩ := Right_has t
  rw [h1]
  cases hr : r with
  | true => exact absurd (h2.1 hr) h
  | false => rfl
end Go.AM.P16
namespace Go.AM.P16
open Go
def IsP (t : ApiTopo) (p : Int) : Prop := 0 ≤ p ∧ p < 2 * t.Links.length
instance (t : ApiTopo) (p : Int) : Decidable (IsP t p) := inferInstanceAs (Decidable (_ ∧ _))
theorem w2l {t : ApiTopo} (h : Small t) : w64 (2 * (t.Links.length : Int)) = 2 * t.Links.length := by
  have := h.l
  rw [w64_id (by omega) (by omega)]
theorem half {p : Int} (h0 : 0 ≤ p) (h1 : p < 1000000) : w64 (p.tdiv 2) = p / 2 := by
  rw [Int.tdiv_eq_ediv_of_nonneg h0, w64_id (by omega) (by omega)]
/-- What stands at a port. -/
def pq (t : ApiTopo) (p : Int) (g : TopoEnd → R Int) : R (Int × Int) :=
  bindR (m_topo_Check t) fun e =>
  if (decide (e ≠ 0)) then (.ok (0, e))
  else (sh ((decide (p < 0)) || (decide ((w64 (2 * (t.Links.length : Int))) ≤ p))) fun (s : Bool) =>
  (if s then (.ok (0, 2))
  else (bindR (idx t.Links (w64 (Int.tdiv p 2))) fun e1 =>
  bindR (g ((TopoEnd.mk e1 p))) fun e2 =>
  .ok (e2, 0))))
theorem isp_dec {t : ApiTopo} (h : Small t) {p : Int} : ((decide (p < 0)) || (decide ((w64 (2 * (t.Links.length : Int))) ≤ p))) = decide (¬ IsP t p) := by
  rw [w2l h]
  by_cases h1 : p < 0 <;> by_cases h2 : 2 * (t.Links.length : Int) ≤ p <;> simp [IsP, h1, h2] <;> omega
theorem pq_in {t : ApiTopo} (h : Fit t) {p : Int} (hp : IsP t p) {e : ApiLink} (he : t.Links[(p / 2).toNat]? = some e) {g : TopoEnd → R Int} {v : Int} (hg : g ⟨e, p⟩ = .ok v) : pq t p g = .ok (v, 0) := by
  have := h.small.l
  obtain ⟨h0, h1⟩ := hp
  unfold pq
  rw [Check_fit h, isp_dec h.small, half h0 (by omega)]
  have : idx t.Links (p / 2) = .ok e := idx_ok.2 ⟨by omega, he⟩
  simp [bindR, sh, IsP, h0, h1, this, hg]
theorem refFrom {t : ApiTopo} {p : Int} (h0 : 0 ≤ p) (h1 : p < 1000000) {e : ApiLink} (he : t.Links[(p / 2).toNat]? = some e) : m_isochronref16_From t p = .ok (if p.tmod 2 = 0 then e.A else e.B) := by
  unfold m_isochronref16_From
  have : idx t.Links (p / 2) = .ok e := idx_ok.2 ⟨by omega, he⟩
  rw [half h0 h1, this]
  simp only [bindR, decide_eq_true_eq, Int.tmod_eq_emod_of_nonneg h0]
  by_cases h : p % 2 = 0
  · rw [if_neg (by omega), if_pos h]
  · rw [if_pos (by omega), if_neg h]
theorem refTo {t : ApiTopo} {p : Int} (h0 : 0 ≤ p) (h1 : p < 1000000) {e : ApiLink} (he : t.Links[(p / 2).toNat]? = some e) : m_isochronref16_To t p = .ok (if p.tmod 2 = 0 then e.B else e.A) := by
  unfold m_isochronref16_To
  have : idx t.Links (p / 2) = .ok e := idx_ok.2 ⟨by omega, he⟩
  rw [half h0 h1, this]
  simp only [bindR, decide_eq_true_eq, Int.tmod_eq_emod_of_nonneg h0]
  by_cases h : p % 2 = 0
  · rw [if_neg (by omega), if_pos h]
  · rw [if_pos (by omega), if_neg h]
theorem portlink {t : ApiTopo} {p : Int} (hp : IsP t p) : ∃ e, t.Links[(p / 2).toNat]? = some e := by
  obtain ⟨h0, h1⟩ := hp
  exact ⟨_, List.getElem?_eq_getElem (by omega)⟩

end Go.AM.P16
namespace Go.AM.P16
open Go
theorem back_fin : ∀ p : Fin 48, bitXor .i64 (p.1 : Int) 1 = (if ((p.1 : Int)).tmod 2 = 1 then w64 ((p.1 : Int) - 1) else w64 ((p.1 : Int) + 1)) := by decide +kernel
theorem back_ok {p : Int} (h0 : 0 ≤ p) (h1 : p < 48) : m_isochronref16_Back p = .ok (bitXor .i64 p 1) := by
  have := back_fin ⟨p.toNat, by omega⟩
  have hc : ((p.toNat : Nat) : Int) = p := by omega
  simp only [hc] at this
  rw [this]
  unfold m_isochronref16_Back
  simp only [decide_eq_true_eq]
  split <;> rfl
/-! ### The law of the ports -/
end Go.AM.P16
namespace Go.AM.P16
open Go
/-! ### Rows that are alike -/
theorem equal_int {a b : List Int} (ha : a.length < 1000000) : m_slices_Equal_int_int a b = .ok (decide (a = b)) := by
  refine Has.eq ?_
  unfold m_slices_Equal_int_int
  simp only [decide_eq_true_eq, ne_eq]
  refine has_ite (fun h => has_ok ?_) (fun h => ?_)
  · have : a ≠ b := fun e => h (by rw [e])
    simp [this]
  refine has_loop (fun i : Int => 0 ≤ i ∧ i ≤ a.length ∧ ∀ j : Nat, (j : Int) < i → a[j]? = b[j]?) (fun i => ((a.length : Int) - i).toNat) (fun y hy => by omega) ⟨by omega, by omega, fun j hj => by omega⟩ ?_
  rintro i rec ⟨h0, h1, h2⟩ ih
  unfold m_slices_Equal_int_int_l1
  simp only [decide_eq_true_eq, ne_eq]
  refine has_ite (fun hi => ?_) (fun hi => ?_)
  · refine has_idx h0 hi fun x hx => ?_
    refine has_idx h0 (by omega) fun y hy => ?_
    refine has_ite (fun he => has_ok ?_) (fun he => ?_)
    · have : a ≠ b := fun e => by
        rw [e, hy] at hx; cases hx; simp at he
      simp [this]
    · have he : x = y := by simpa using he
      rw [w64_id (by omega) (by omega)]
      refine ih _ ⟨by omega, by omega, fun j hj => ?_⟩ (by omega)
      by_cases hji : (j : Int) < i
      · exact h2 j hji
      · have : j = i.toNat := by omega
        rw [this, hx, hy, he]
  · refine has_ok ?_
    have : a = b := List.ext_getElem? fun j => by
      by_cases hj : j < a.length
      · exact h2 j (by omega)
      · rw [List.getElem?_eq_none (by omega), List.getElem?_eq_none (by omega)]
    simp [this]

end Go.AM.P16
namespace Go.AM.P16
open Go
/-! ### Which ports -/
theorem okLen_ok {n : Nat} (h : n ≤ 1000000000) : okLen n = true := by unfold okLen; rw [Nat.ble_eq]; exact h
/-! ### The port that leads from one to another -/
/-! ### The law of finding -/
end Go.AM.P16
namespace Go.AM.P16
open Go
end Go.AM.P16
namespace Go.AM.P16
open Go
/-! ### The ends of ports, as numbers -/
def frm (t : ApiTopo) (p : Int) : Int := match t.Links[(p / 2).toNat]? with | some e => if p % 2 = 0 then e.A else e.B | none => 0
def too (t : ApiTopo) (p : Int) : Int := match t.Links[(p / 2).toNat]? with | some e => if p % 2 = 0 then e.B else e.A | none => 0
def bk (p : Int) : Int := if p % 2 = 0 then p + 1 else p - 1
theorem frm_at {t : ApiTopo} {p : Int} {e : ApiLink} (he : t.Links[(p / 2).toNat]? = some e) : frm t p = if p % 2 = 0 then e.A else e.B := by unfold frm; rw [he]
theorem too_at {t : ApiTopo} {p : Int} {e : ApiLink} (he : t.Links[(p / 2).toNat]? = some e) : too t p = if p % 2 = 0 then e.B else e.A := by unfold too; rw [he]
theorem isp_lt {t : ApiTopo} (h : Small t) {p : Int} (hp : IsP t p) : 0 ≤ p ∧ p < 48 := by
  have := h.l; obtain ⟨h0, h1⟩ := hp; omega
theorem From_ok {t : ApiTopo} (h : Fit t) {p : Int} (hp : IsP t p) : m_topo_From t p = .ok (frm t p, 0) := by
  obtain ⟨e, he⟩ := portlink hp
  have e1 : m_topo_From t p = pq t p m_topo_end_from := rfl
  rw [e1, pq_in h hp he from_ok, frm_at he, Int.tmod_eq_emod_of_nonneg hp.1]
theorem lim {t : ApiTopo} (h : Fit t) {e : ApiLink} {i : Nat} (he : t.Links[i]? = some e) : (0 ≤ e.A ∧ e.A < 1000000) ∧ (0 ≤ e.B ∧ e.B < 1000000) := by
  have hlk := (h.links _ _ he).1
  have := h.small.n
  have := hlk.a.2
  have := hlk.b.2
  exact ⟨⟨hlk.a.1, by omega⟩, hlk.b.1, by omega⟩
theorem To_ok {t : ApiTopo} (h : Fit t) {p : Int} (hp : IsP t p) : m_topo_To t p = .ok (too t p, 0) := by
  obtain ⟨e, he⟩ := portlink hp
  have e1 : m_topo_To t p = pq t p m_topo_end_to := rfl
  rw [e1, pq_in h hp he (to_ok (lim h he).1 (lim h he).2), too_at he, Int.tmod_eq_emod_of_nonneg hp.1]
theorem xor_ok {p : Int} (h0 : 0 ≤ p) (h1 : p < 48) : bitXor .i64 p 1 = bk p := by
  have := back_fin ⟨p.toNat, by omega⟩
  have hc : ((p.toNat : Nat) : Int) = p := by omega
  simp only [hc] at this
  rw [this, Int.tmod_eq_emod_of_nonneg h0]
  unfold bk
  by_cases h : p % 2 = 0
  · rw [if_neg (by omega), if_pos h, w64_id (by omega) (by omega)]
  · rw [if_pos (by omega), if_neg h, w64_id (by omega) (by omega)]
theorem rFrom_ok {t : ApiTopo} (h : Small t) {p : Int} (hp : IsP t p) : m_isochronref16_From t p = .ok (frm t p) := by
  obtain ⟨e, he⟩ := portlink hp
  have := isp_lt h hp
  rw [refFrom hp.1 (by omega) he, frm_at he, Int.tmod_eq_emod_of_nonneg hp.1]
theorem rTo_ok {t : ApiTopo} (h : Small t) {p : Int} (hp : IsP t p) : m_isochronref16_To t p = .ok (too t p) := by
  obtain ⟨e, he⟩ := portlink hp
  have := isp_lt h hp
  rw [refTo hp.1 (by omega) he, too_at he, Int.tmod_eq_emod_of_nonneg hp.1]
theorem rBack_ok {p : Int} (h0 : 0 ≤ p) (h1 : p < 48) : m_isochronref16_Back p = .ok (bk p) := by rw [back_ok h0 h1, xor_ok h0 h1]
theorem isp_bk {t : ApiTopo} {p : Int} (hp : IsP t p) : IsP t (bk p) := by
  obtain ⟨h0, h1⟩ := hp
  unfold bk IsP; split <;> omega
theorem bk_half {p : Int} : bk p / 2 = p / 2 := by unfold bk; split <;> omega
theorem frm_bk {t : ApiTopo} (p : Int) : frm t (bk p) = too t p := by
  unfold frm too
  rw [bk_half]
  cases t.Links[(p / 2).toNat]? with
  | none => rfl
  | some e =>
    simp only
    by_cases h : p % 2 = 0
    · rw [if_neg (by unfold bk; rw [if_pos h]; omega), if_pos h]
    · rw [if_pos (by unfold bk; rw [if_neg h]; omega), if_neg h]
theorem frm_N {t : ApiTopo} (h : Fit t) {p : Int} (hp : IsP t p) : IsN t (frm t p) := by
  obtain ⟨e, he⟩ := portlink hp
  rw [frm_at he]
  have := (h.links _ _ he).1
  split
  · exact this.a
  · exact this.b
theorem too_N {t : ApiTopo} (h : Fit t) {p : Int} (hp : IsP t p) : IsN t (too t p) := by rw [← frm_bk]; exact frm_N h (isp_bk hp)
end Go.AM.P16
namespace Go.AM.P16
open Go
/-! ### Routes -/
/-- Element i of a route. -/
def el (r : List Int) (i : Nat) : Int := r.getD i 0
/-- Node i of a route. -/
def nd (t : ApiTopo) (r : List Int) : Nat → Int
  | 0 => frm t (el r 0)
  | i + 1 => too t (el r i)
def ns (t : ApiTopo) (r : List Int) (k : Nat) : List Int := (List.range k).map (nd t r)
structure Okr (t : ApiTopo) (r : List Int) : Prop where
  len : 1 ≤ r.length ∧ r.length ≤ 8
  port : ∀ p ∈ r, IsP t p
  conn : ∀ j, j < r.length → frm t (el r j) = nd t r j
  inner : ∀ j, 0 < j → j < r.length → ¬ Seen t.Station (nd t r j)
  inj : ∀ i j, i < j → j ≤ r.length → nd t r i ≠ nd t r j
theorem el_get {r : List Int} {i : Nat} {p : Int} (h : r[i]? = some p) : el r i = p := by unfold el; rw [List.getD_eq_getElem?_getD, h]; rfl
theorem el_mem {r : List Int} {i : Nat} (h : i < r.length) : el r i ∈ r := by
  have : r[i]? = some r[i] := List.getElem?_eq_getElem h
  rw [el_get this]; exact List.getElem_mem h
theorem ns_succ (t : ApiTopo) (r : List Int) (k : Nat) : ns t r (k + 1) = ns t r k ++ [nd t r k] := by unfold ns; rw [List.range_succ, List.map_append]; rfl
theorem ns_len (t : ApiTopo) (r : List Int) (k : Nat) : (ns t r k).length = k := by unfold ns; simp
theorem ns_get {t : ApiTopo} {r : List Int} {k i : Nat} (h : i < k) : (ns t r k)[i]? = some (nd t r i) := by unfold ns; rw [List.getElem?_map, List.getElem?_range h]; rfl
theorem ns_mem {t : ApiTopo} {r : List Int} {k : Nat} {x : Int} : x ∈ ns t r k ↔ ∃ i, i < k ∧ nd t r i = x := by unfold ns; simp
theorem ns_idx {t : ApiTopo} {r : List Int} {k : Nat} {i : Int} (h0 : 0 ≤ i) (h1 : i.toNat < k) : idx (ns t r k) i = .ok (nd t r i.toNat) := idx_ok.2 ⟨h0, ns_get h1⟩
theorem ns_take {t : ApiTopo} {r : List Int} {k i : Nat} (h : i ≤ k) : (ns t r k).take i = ns t r i := by unfold ns; rw [← List.map_take, List.take_range, Nat.min_eq_left h]
theorem nd_N {t : ApiTopo} (hf : Fit t) {r : List Int} (hp : ∀ p ∈ r, IsP t p) (h0 : 0 < r.length) : ∀ {i : Nat}, i ≤ r.length → IsN t (nd t r i)
  | 0, _ => frm_N hf (hp _ (el_mem h0))
  | i + 1, h => too_N hf (hp _ (el_mem h))
theorem walk_from_ok {t : ApiTopo} (hf : Fit t) {p : Int} (hp : IsP t p) : m_route_walk_from ⟨t⟩ p = .ok (frm t p) := by
  unfold m_route_walk_from
  rw [From_ok hf hp]; rfl
/-- What holds of a route up to node k. -/
structure Upto (t : ApiTopo) (r : List Int) (k : Nat) : Prop where
  conn : ∀ j, j + 1 < k → frm t (el r j) = nd t r j
  inner : ∀ j, 0 < j → j < k → j < r.length → ¬ Seen t.Station (nd t r j)
  inj : ∀ i j, i < j → j < k → nd t r i ≠ nd t r j
theorem Upto.one (t : ApiTopo) (r : List Int) : Upto t r 1 := ⟨fun j h => by omega, fun j h h' => by omega, fun i j h h' => by omega⟩
theorem Upto.step {t : ApiTopo} {r : List Int} {k : Nat} (h : Upto t r k) (h1 : ∀ j, j + 1 = k → frm t (el r j) = nd t r j) (h2 : 0 < k → k < r.length → ¬ Seen t.Station (nd t r k)) (h3 : nd t r k ∉ ns t r k) : Upto t r (k + 1) := by
  refine ⟨fun j hj => ?_, fun j g0 g1 g2 => ?_, fun i j g0 g1 => ?_⟩
  · by_cases e : j + 1 = k
    · exact h1 j e
    · exact h.conn j (by omega)
  · by_cases e : j = k
    · subst e; exact h2 g0 g2
    · exact h.inner j g0 (by omega) g2
  · by_cases e : j = k
    · subst e; exact fun e' => h3 (ns_mem.2 ⟨i, g0, e'⟩)
    · exact h.inj i j g0 (by omega)
def Pre (t : ApiTopo) (r : List Int) : Prop := (1 ≤ r.length ∧ r.length ≤ 8) ∧ ∀ p ∈ r, IsP t p
theorem Pre.okr {t : ApiTopo} {r : List Int} (h : Pre t r) (hu : Upto t r (r.length + 1)) : Okr t r := ⟨h.1, h.2, fun j hj => hu.conn j (by omega), fun j h0 h1 => hu.inner j h0 (by omega) h1, fun i j h0 h1 => hu.inj i j h0 (by omega)⟩
theorem valid_has {t : ApiTopo} (hf : Fit t) (r : List Int) : Has (m_route_walk_valid ⟨t⟩ r) (fun b => (b = true ↔ Okr t r)) := by
  have hS := hf.small.s
  have hL := hf.small.l
  unfold m_route_walk_valid
  refine has_sh ?_
  refine has_join (fun s => (s = true ↔ ¬ Pre t r)) (fun s hs => ?_) (fun j hj => ?_)
  · refine has_ite (fun h => ?_) (fun h => ?_)
    · have hn := hs.1 h
      exact has_ok (by simp only [Bool.false_eq_true, false_iff]; exact fun ho => hn ⟨ho.len, ho.port⟩)
    · have hpre : Pre t r := Classical.byContradiction fun hn => h (hs.2 hn)
      obtain ⟨⟨hl1, hl2⟩, hpp⟩ := hpre
      refine has_idx (by omega) (by omega) fun p0 hp0 => ?_
      have hp0' : r[0]? = some p0 := hp0
      refine has_beq (walk_from_ok hf (hpp _ (List.mem_of_getElem? hp0'))) ?_
      refine has_beq (contains_int (l := []) (by simp) _) ?_
      refine has_join (fun s => s = false) (fun s hs => ?_) (fun j hj => ?_)
      rotate_left
      · refine has_ite (fun h => by simp at h) (fun _ => hj _ rfl)
      · subst hs
        refine has_join (fun s => s = false) (fun s hs => ?_) (fun j hj => ?_)
        rotate_left
        · exact has_ite (fun h => by simp at h) (fun _ => hj _ rfl)
        · subst hs
          refine has_ite (fun h => by simp at h) (fun _ => ?_)
          refine has_must rfl ?_
          have e0 : ([] : List Int) ++ [frm t p0] = ns t r 1 := by
            rw [ns_succ]; show [] ++ [frm t p0] = [] ++ [frm t (el r 0)]; rw [el_get hp0']
          rw [e0]
          refine has_loop (fun y : Int × List Int => 0 ≤ y.1 ∧ y.1 ≤ r.length ∧ y.2 = ns t r (y.1.toNat + 1) ∧ Upto t r (y.1.toNat + 1)) (fun y => ((r.length : Int) - y.1).toNat) (fun y hy => by omega) ⟨by simp, by simp, rfl, Upto.one t r⟩ ?_
          rintro ⟨i, seen⟩ rec ⟨g0, g1, g2, g3⟩ ih
          simp only at g0 g1 g2 g3
          subst g2
          unfold m_route_walk_valid_l1
          simp only [decide_eq_true_eq]
          have hlen := ns_len t r (i.toNat + 1)
          refine has_ite (fun hi => ?_) (fun hi => ?_)
          · refine has_idx g0 hi fun p hp => ?_
            have hip := hpp _ (List.mem_of_getElem? hp)
            have hnd : nd t r (i.toNat + 1) = too t p := by show too t (el r i.toNat) = _; rw [el_get hp]
            have hN := too_N hf hip
            refine has_beq (To_ok hf hip) ?_
            refine has_beq (contains_int (by rw [hlen]; omega) _) ?_
            simp only [hlen]
            have hw : w64 (((i.toNat + 1 : Nat) : Int) - 1) = i := by rw [w64_id (by omega) (by omega)]; omega
            have hfail : (¬ Okr t r) → Has (.ok (decide (((i.toNat + 1 : Nat) : Int) = w64 ((r.length : Int) + 1)))) (fun b => (b = true ↔ Okr t r)) := fun hno => by
              refine has_ok ?_
              rw [w64_id (by omega) (by omega)]
              simp only [decide_eq_true_eq]
              exact ⟨fun h => by omega, fun h => absurd h hno⟩
            refine has_join (fun s => s.2 = ns t r (i.toNat + 1) ∧ (s.1 = false → too t p ∉ ns t r (i.toNat + 1) ∧ frm t (el r i.toNat) = nd t r i.toNat) ∧ (s.1 = true → ¬ Okr t r)) (fun s hs => ?_) (fun j hj => ?_)
            · obtain ⟨s1, s2⟩ := s
              obtain ⟨rfl, hs2, hs3⟩ := hs
              simp only at hs2 hs3
              simp only [hlen]
              refine has_join (fun b => (b = false → s1 = false ∧ (i.toNat + 1 < r.length → ¬ Seen t.Station (nd t r (i.toNat + 1)))) ∧ (b = true → ¬ Okr t r)) (fun b hb => ?_) (fun j hj => ?_)
              · refine has_ite (fun h => hfail (hb.2 h)) (fun h => ?_)
                obtain ⟨h1, h2⟩ := hb.1 (by simpa using h)
                obtain ⟨h3, h4⟩ := hs2 h1
                refine has_must (okLen_ok (by simp; omega)) ?_
                rw [w64_id (n := i + 1) (by omega) (by omega)]
                have e1 : (i + 1).toNat = i.toNat + 1 := by omega
                refine ih _ ⟨by simp only; omega, by simp only; omega, ?_, ?_⟩ (by simp only; omega)
                · simp only [e1]; rw [ns_succ t r (i.toNat + 1), hnd]
                · simp only [e1]
                  exact g3.step (fun j hj => by have : j = i.toNat := by omega
                                                rw [this]; exact h4) (fun _ => h2) (by rw [hnd]; exact h3)
              · refine has_ite (fun h => hj _ ⟨fun h' => by simp at h', fun _ => hs3 h⟩) (fun h => ?_)
                have h : s1 = false := by simpa using h
                refine has_ite (fun _ => ?_) (fun h' => by omega)
                refine has_ite (fun h' => ?_) (fun h' => hj _ ⟨fun _ => ⟨h, fun h2 => by omega⟩, fun h2 => by simp at h2⟩)
                refine has_idx hN.1 (by have := hN.2; show too t p < ((t.Station.length : Nat) : Int); omega) fun b hb => hj _ ?_
                have hsb := seen_get hN.1 hb
                refine ⟨fun hb0 => ⟨h, fun _ hse => ?_⟩, fun hb1 ho => ?_⟩
                · rw [hnd] at hse; rw [hsb.1 hse] at hb0; cases hb0
                · exact ho.inner (i.toNat + 1) (by omega) (by omega) (by rw [hnd]; exact hsb.2 hb1)
            · refine has_ite (fun h => ?_) (fun h => ?_)
              · refine hj _ ⟨rfl, fun h' => by simp at h', fun _ ho => ?_⟩
                have hm := of_decide_eq_true h
                obtain ⟨k, hk, hke⟩ := ns_mem.1 hm
                exact ho.inj k (i.toNat + 1) hk (by omega) (by rw [hke, hnd])
              · have hm : too t p ∉ ns t r (i.toNat + 1) := fun h' => h (by simpa using h')
                refine has_ite (fun _ => ?_) (fun h' => by omega)
                rw [hw]
                refine has_idx g0 hi fun p' hp' => ?_
                have : p' = p := by rw [hp] at hp'; cases hp'; rfl
                subst this
                refine has_beq (walk_from_ok hf hip) ?_
                refine has_beq (ns_idx g0 (by omega)) ?_
                refine hj _ ⟨rfl, fun h1 => ⟨hm, ?_⟩, fun h1 ho => ?_⟩
                · rw [el_get hp]; simpa using h1
                · have h1 := of_decide_eq_true h1
                  exact h1 (by rw [← el_get hp]; exact ho.conn _ (by omega))
          · refine has_ok ?_
            rw [hlen, w64_id (by omega) (by omega)]
            have e1 : i.toNat = r.length := by omega
            rw [e1] at g3
            simp only [decide_eq_true_eq]
            exact ⟨fun _ => Pre.okr ⟨⟨hl1, hl2⟩, hpp⟩ g3, fun _ => by omega⟩
  · refine has_ite (fun h => hj _ ⟨fun _ hp => ?_, fun _ => rfl⟩) (fun h => ?_)
    · simp only [Bool.or_eq_true, decide_eq_true_eq] at h
      have := hp.1; omega
    · simp only [Bool.or_eq_true, decide_eq_true_eq, not_or] at h
      refine has_loop (fun i : Int => 0 ≤ i ∧ i ≤ r.length ∧ ∀ k : Nat, (k : Int) < i → ∀ p, r[k]? = some p → IsP t p) (fun i => ((r.length : Int) - i).toNat) (fun y hy => by omega) ⟨by simp, by simp, fun k hk => by omega⟩ ?_
      rintro i rec ⟨g0, g1, g2⟩ ih
      unfold m_route_walk_valid_l2
      simp only [decide_eq_true_eq]
      refine has_ite (fun hi => ?_) (fun hi => ?_)
      · refine has_idx g0 hi fun p hp => has_sh ?_
        rw [isp_dec hf.small]
        refine has_ite (fun h1 => hj _ ⟨fun _ hp' => ?_, fun _ => by simpa using g0⟩) (fun h1 => ?_)
        · have h1 := of_decide_eq_true h1
          exact h1 (hp'.2 p (List.mem_of_getElem? hp))
        · have h1 : IsP t p := Classical.byContradiction fun hn => h1 (by simpa using hn)
          rw [w64_id (n := i + 1) (by omega) (by omega)]
          refine ih _ ⟨by omega, by omega, fun k hk q hq => ?_⟩ (by omega)
          by_cases hki : (k : Int) < i
          · exact g2 k hki q hq
          · have : k = i.toNat := by omega
            subst this; rw [hp] at hq; cases hq; exact h1
      · refine hj _ ⟨fun h1 => by simp at h1, fun h1 => absurd ⟨⟨by omega, by omega⟩, fun p hp => ?_⟩ h1⟩
        obtain ⟨k, hk⟩ := List.mem_iff_getElem?.1 hp
        have := (List.getElem?_eq_some_iff.1 hk).1
        exact g2 k (by omega) p hk
end Go.AM.P16
namespace Go.AM.P16
open Go
/-! ### What the program makes of a route -/
theorem list_ok {t : ApiTopo} (hf : Fit t) {r : List Int} (h0 : 1 ≤ r.length) (h8 : r.length ≤ 8) (hp : ∀ p ∈ r, IsP t p) : m_route_walk_list ⟨t⟩ r = .ok (ns t r (r.length + 1)) := by
  refine Has.eq ?_
  unfold m_route_walk_list
  refine has_idx (by omega) (by omega) fun p0 hp0 => ?_
  have hp0' : r[0]? = some p0 := hp0
  refine has_beq (walk_from_ok hf (hp _ (List.mem_of_getElem? hp0'))) ?_
  refine has_must rfl ?_
  have e0 : ([] : List Int) ++ [frm t p0] = ns t r 1 := by
    rw [ns_succ]; show [] ++ [frm t p0] = [] ++ [frm t (el r 0)]; rw [el_get hp0']
  rw [e0]
  refine has_loop (fun y : Int × List Int => 0 ≤ y.1 ∧ y.1 ≤ r.length ∧ y.2 = ns t r (y.1.toNat + 1)) (fun y => ((r.length : Int) - y.1).toNat) (fun y hy => by omega) ⟨by simp, by simp, rfl⟩ ?_
  rintro ⟨i, seen⟩ rec ⟨g0, g1, g2⟩ ih
  simp only at g0 g1 g2
  subst g2
  unfold m_route_walk_list_l1
  simp only [decide_eq_true_eq]
  refine has_ite (fun hi => ?_) (fun hi => ?_)
  · refine has_idx g0 hi fun p hpp => ?_
    have hip := hp _ (List.mem_of_getElem? hpp)
    refine has_beq (To_ok hf hip) ?_
    have hlen := ns_len t r (i.toNat + 1)
    refine has_must (okLen_ok (by rw [hlen]; simp; omega)) ?_
    rw [w64_id (n := i + 1) (by omega) (by omega)]
    have e1 : (i + 1).toNat = i.toNat + 1 := by omega
    refine ih _ ⟨by simp only; omega, by simp only; omega, ?_⟩ (by simp only; omega)
    simp only [e1]
    rw [ns_succ t r (i.toNat + 1)]
    show _ ++ [too t p] = _ ++ [too t (el r i.toNat)]
    rw [el_get hpp]
  · refine has_ok ?_
    have e1 : i.toNat = r.length := by omega
    simp only [e1]
/-- The error that a route has. -/
def RC (t : ApiTopo) (r : List Int) (e : Int) : Prop := (Fit t ∧ Okr t r ∧ e = 0) ∨ (Fit t ∧ ¬ Okr t r ∧ e = 310) ∨ (¬ Fit t ∧ e = 260)
theorem RC.uniq {t : ApiTopo} {r : List Int} {e f : Int} (h : RC t r e) (h' : RC t r f) : e = f := by
  rcases h with ⟨h1, h2, rfl⟩ | ⟨h1, h2, rfl⟩ | ⟨h1, rfl⟩ <;> rcases h' with ⟨g1, g2, rfl⟩ | ⟨g1, g2, rfl⟩ | ⟨g1, rfl⟩ <;> first | rfl | exact absurd ‹Okr t r› ‹_› | exact absurd ‹Fit t› ‹_›
theorem rCheck_rc (t : ApiTopo) (r : List Int) : Has (m_route_Check t r) (RC t r) := by
  unfold m_route_Check
  by_cases hf : Fit t
  · refine has_beq (Check_fit hf) ?_
    refine has_ite (fun h => by simp at h) (fun _ => ?_)
    refine has_bind (valid_has hf r) fun b hb => ?_
    cases b with
    | true => exact has_ite (fun h => by simp at h) (fun _ => has_ok (.inl ⟨hf, hb.1 rfl, rfl⟩))
    | false => exact has_ite (fun _ => has_ok (.inr (.inl ⟨hf, fun ho => (by have := hb.2 ho; cases this), rfl⟩))) (fun h => by simp at h)
  · refine has_beq (Check_unfit hf) ?_
    exact has_ite (fun _ => has_ok (.inr (.inr ⟨hf, rfl⟩))) (fun h => by simp at h)
theorem rCheck_ok {t : ApiTopo} (hf : Fit t) {r : List Int} (ho : Okr t r) : m_route_Check t r = .ok 0 := by
  obtain ⟨e, he, hr⟩ := rCheck_rc t r
  rw [he]
  rcases hr with ⟨_, _, rfl⟩ | ⟨_, h, _⟩ | ⟨h, _⟩
  · rfl
  · exact absurd ho h
  · exact absurd hf h
theorem rCheck_bad {t : ApiTopo} {r : List Int} (h : ¬ (Fit t ∧ Okr t r)) : ∃ e, m_route_Check t r = .ok e ∧ RC t r e ∧ e ≠ 0 := by
  obtain ⟨e, he, hr⟩ := rCheck_rc t r
  refine ⟨e, he, hr, ?_⟩
  rcases hr with ⟨h1, h2, rfl⟩ | ⟨_, _, rfl⟩ | ⟨_, rfl⟩
  · exact absurd ⟨h1, h2⟩ h
  · decide
  · decide
theorem rNodes_ok {t : ApiTopo} (hf : Fit t) {r : List Int} (ho : Okr t r) : m_route_Nodes t r = .ok (ns t r (r.length + 1), 0) := by
  unfold m_route_Nodes
  rw [rCheck_ok hf ho]
  simp [bindR, list_ok hf ho.len.1 ho.len.2 ho.port]
theorem rNodes_bad {t : ApiTopo} {r : List Int} {e : Int} (h : m_route_Check t r = .ok e) (he : e ≠ 0) : m_route_Nodes t r = .ok ([], e) := by
  unfold m_route_Nodes
  rw [h]; simp [bindR, he]
theorem rEnds_ok {t : ApiTopo} (hf : Fit t) {r : List Int} (ho : Okr t r) : m_route_Ends t r = .ok (nd t r 0, nd t r r.length, 0) := by
  have := ho.len
  unfold m_route_Ends
  rw [rNodes_ok hf ho]
  have e1 : w64 (((ns t r (r.length + 1)).length : Int) - 1) = r.length := by rw [ns_len, w64_id (by omega) (by omega)]; omega
  simp only [bindR, ne_eq, not_true_eq_false, decide_false, Bool.false_eq_true, if_false, e1]
  rw [ns_idx (i := 0) (by omega) (by omega), ns_idx (by omega) (by omega)]
  rfl
theorem rEnds_bad {t : ApiTopo} {r : List Int} {e : Int} (h : m_route_Check t r = .ok e) (he : e ≠ 0) : m_route_Ends t r = .ok (0, 0, e) := by
  unfold m_route_Ends
  rw [rNodes_bad h he]; simp [bindR, he]
/-! Sums -/
def dl (t : ApiTopo) (p : Int) : Int := match t.Links[(p / 2).toNat]? with | some e => e.Delay | none => 0
def pr (t : ApiTopo) (p : Int) : Int := match t.Links[(p / 2).toNat]? with | some e => e.Per | none => 0
def sm (f : Int → Int) (r : List Int) (k : Nat) : Int := ((r.take k).map f).sum
theorem sm_succ {f : Int → Int} {r : List Int} {k : Nat} {p : Int} (h : r[k]? = some p) : sm f r (k + 1) = sm f r k + f p := by
  unfold sm; rw [List.take_add_one, h]; simp
theorem sm_range {f : Int → Int} {r : List Int} {B : Int} (hB : ∀ p ∈ r, 0 ≤ f p ∧ f p ≤ B) : ∀ k, k ≤ r.length → 0 ≤ sm f r k ∧ sm f r k ≤ k * B
  | 0, _ => by simp [sm]
  | k + 1, h => by
    have hk : r[k]? = some r[k] := List.getElem?_eq_getElem h
    have := sm_range hB k (by omega)
    have := hB r[k] (List.getElem_mem h)
    rw [sm_succ hk]
    have e : ((k + 1 : Nat) : Int) * B = k * B + B := by rw [Int.natCast_succ, Int.add_mul, Int.one_mul]
    omega
theorem link_at {t : ApiTopo} (hf : Fit t) {p : Int} (hp : IsP t p) : ∃ e, idx t.Links (w64 (Int.tdiv p 2)) = .ok e ∧ dl t p = e.Delay ∧ pr t p = e.Per ∧ (0 ≤ e.Delay ∧ e.Delay ≤ 10000) ∧ (1 ≤ e.Per ∧ e.Per ≤ 1000) := by
  obtain ⟨e, he⟩ := portlink hp
  have := isp_lt hf.small hp
  have hl := (hf.links _ _ he).1
  refine ⟨e, ?_, ?_, ?_, hl.delay, hl.per⟩
  · rw [half hp.1 (by omega)]; exact idx_ok.2 ⟨by omega, he⟩
  · unfold dl; rw [he]
  · unfold pr; rw [he]
theorem dl_range {t : ApiTopo} (hf : Fit t) {r : List Int} (hp : ∀ p ∈ r, IsP t p) : ∀ p ∈ r, 0 ≤ dl t p ∧ dl t p ≤ 10000 := fun p h => by
  obtain ⟨e, _, h1, _, h2, _⟩ := link_at hf (hp p h)
  rw [h1]; exact h2
/-- How long a frame takes at a port. -/
def tm (t : ApiTopo) (z p : Int) : Int := z * pr t p + dl t p
theorem mul_range {z e : Int} (hz : 0 ≤ z ∧ z ≤ 2000) (he : 1 ≤ e ∧ e ≤ 1000) : 0 ≤ z * e ∧ z * e ≤ 2000000 := by
  constructor
  · exact Int.mul_nonneg hz.1 (by omega)
  · have := Int.mul_le_mul hz.2 he.2 (by omega) (by omega : (0 : Int) ≤ 2000)
    omega
theorem tm_range {t : ApiTopo} (hf : Fit t) {r : List Int} (hp : ∀ p ∈ r, IsP t p) {z : Int} (hz : 0 ≤ z ∧ z ≤ 2000) : ∀ p ∈ r, 0 ≤ tm t z p ∧ tm t z p ≤ 3000000 := fun p h => by
  obtain ⟨e, _, h1, h2, h3, h4⟩ := link_at hf (hp p h)
  have := mul_range hz h4
  unfold tm
  rw [h1, h2]; omega
theorem rDelay_ok {t : ApiTopo} (hf : Fit t) {r : List Int} (ho : Okr t r) : m_route_Delay t r = .ok (sm (dl t) r r.length, 0) := by
  have hl := ho.len
  refine Has.eq ?_
  unfold m_route_Delay
  refine has_beq (rCheck_ok hf ho) ?_
  refine has_ite (fun h => by simp at h) (fun _ => ?_)
  refine has_loop (fun y : Int × Int => 0 ≤ y.2 ∧ y.2 ≤ r.length ∧ y.1 = sm (dl t) r y.2.toNat) (fun y => ((r.length : Int) - y.2).toNat) (fun y hy => by omega) ⟨by simp, by simp, rfl⟩ ?_
  rintro ⟨n, i⟩ rec ⟨g0, g1, g2⟩ ih
  simp only at g0 g1 g2
  unfold m_route_Delay_l1
  simp only [decide_eq_true_eq]
  refine has_ite (fun hi => ?_) (fun hi => ?_)
  · refine has_idx g0 hi fun p hp => ?_
    obtain ⟨e, he, h1, _, h2, _⟩ := link_at hf (ho.port _ (List.mem_of_getElem? hp))
    refine has_beq he ?_
    refine has_beq (show m_route_Delay_1 e = .ok e.Delay from rfl) ?_
    have hr := sm_range (dl_range hf ho.port) i.toNat (by omega)
    rw [w64_id (n := i + 1) (by omega) (by omega), w64_id (n := n + e.Delay) (by omega) (by omega)]
    have e1 : (i + 1).toNat = i.toNat + 1 := by omega
    exact ih _ ⟨by simp only; omega, by simp only; omega, by simp only [e1]; rw [sm_succ hp, h1, g2]⟩ (by simp only; omega)
  · refine has_ok ?_
    have e1 : i.toNat = r.length := by omega
    rw [g2, e1]
theorem rDelay_bad {t : ApiTopo} {r : List Int} {e : Int} (h : m_route_Check t r = .ok e) (he : e ≠ 0) : m_route_Delay t r = .ok (0, e) := by
  unfold m_route_Delay
  rw [h]; simp [bindR, he]
theorem rTime_ok {t : ApiTopo} (hf : Fit t) {r : List Int} (ho : Okr t r) {z : Int} (h1 : 84 ≤ z) (h2 : z ≤ 1542) : m_route_Time t r z = .ok (sm (tm t z) r r.length, 0) := by
  have hl := ho.len
  refine Has.eq ?_
  unfold m_route_Time
  refine has_beq (rCheck_ok hf ho) ?_
  refine has_ite (fun h => by simp at h) (fun _ => has_sh ?_)
  refine has_ite (fun h => ?_) (fun _ => ?_)
  · simp only [Bool.or_eq_true, decide_eq_true_eq] at h; omega
  refine has_beq (rCheck_ok hf ho) ?_
  refine has_ite (fun h => by simp at h) (fun _ => ?_)
  refine has_loop (fun y : Int × Int => 0 ≤ y.2 ∧ y.2 ≤ r.length ∧ y.1 = sm (tm t z) r y.2.toNat) (fun y => ((r.length : Int) - y.2).toNat) (fun y hy => by omega) ⟨by simp, by simp, rfl⟩ ?_
  rintro ⟨n, i⟩ rec ⟨g0, g1, g2⟩ ih
  simp only at g0 g1 g2
  unfold m_route_Time_l1
  simp only [decide_eq_true_eq]
  refine has_ite (fun hi => ?_) (fun hi => ?_)
  · refine has_idx g0 hi fun p hp => ?_
    obtain ⟨e, he, h3, h4, h5, h6⟩ := link_at hf (ho.port _ (List.mem_of_getElem? hp))
    refine has_beq he ?_
    have hr := sm_range (tm_range hf ho.port (z := z) ⟨by omega, by omega⟩) i.toNat (by omega)
    have hm := mul_range (z := z) ⟨by omega, by omega⟩ h6
    rw [w64_id (n := i + 1) (by omega) (by omega), w64_id (n := z * e.Per) (by omega) (by omega), w64_id (n := z * e.Per + e.Delay) (by omega) (by omega), w64_id (by omega) (by omega)]
    have e1 : (i + 1).toNat = i.toNat + 1 := by omega
    exact ih _ ⟨by simp only; omega, by simp only; omega, by simp only [e1]; rw [sm_succ hp, g2]; unfold tm; rw [h3, h4]⟩ (by simp only; omega)
  · refine has_ok ?_
    have e1 : i.toNat = r.length := by omega
    rw [g2, e1]
theorem rTime_size {t : ApiTopo} (hf : Fit t) {r : List Int} (ho : Okr t r) {z : Int} (h : z < 84 ∨ 1542 < z) : m_route_Time t r z = .ok (0, 2) := by
  unfold m_route_Time
  rw [rCheck_ok hf ho]
  have : ((decide (z < 84)) || (decide (1542 < z))) = true := by simpa using h
  simp [bindR, sh, this]
theorem rTime_bad {t : ApiTopo} {r : List Int} {e : Int} (h : m_route_Check t r = .ok e) (he : e ≠ 0) (z : Int) : m_route_Time t r z = .ok (0, e) := by
  unfold m_route_Time
  rw [h]; simp [bindR, he]
/-! Back -/
def bkr (r : List Int) : List Int := (r.reverse).map bk
theorem bkr_step {r : List Int} {i : Nat} {p : Int} (h : r[i]? = some p) : bkr (r.drop i) = bkr (r.drop (i + 1)) ++ [bk p] := by
  obtain ⟨hlt, hg⟩ := List.getElem?_eq_some_iff.1 h
  unfold bkr
  rw [List.drop_eq_getElem_cons hlt, hg, List.reverse_cons, List.map_append]; rfl
theorem bkr_len (r : List Int) : (bkr r).length = r.length := by unfold bkr; simp
theorem rBack_r {t : ApiTopo} (hf : Fit t) {r : List Int} (ho : Okr t r) : m_route_Back t r = .ok (bkr r, 0) := by
  have hl := ho.len
  refine Has.eq ?_
  unfold m_route_Back
  refine has_beq (rCheck_ok hf ho) ?_
  refine has_ite (fun h => by simp at h) (fun _ => ?_)
  rw [w64_id (by omega) (by omega)]
  refine has_loop (fun y : Int × List Int => -1 ≤ y.1 ∧ y.1 < r.length ∧ y.2 = bkr (r.drop (y.1 + 1).toNat)) (fun y => (y.1 + 1).toNat) (fun y hy => by omega) ⟨by simp only; omega, by simp only; omega, ?_⟩ ?_
  · simp only
    rw [List.drop_of_length_le (by omega)]; rfl
  rintro ⟨i, out⟩ rec ⟨g0, g1, g2⟩ ih
  simp only at g0 g1 g2
  unfold m_route_Back_l1
  simp only [decide_eq_true_eq]
  refine has_ite (fun hi => ?_) (fun hi => ?_)
  · refine has_idx hi g1 fun p hp => ?_
    have hip := isp_lt hf.small (ho.port _ (List.mem_of_getElem? hp))
    have hol : out.length ≤ 8 := by rw [g2, bkr_len, List.length_drop]; omega
    refine has_must (okLen_ok (by simp; omega)) ?_
    rw [w64_id (n := i - 1) (by omega) (by omega), xor_ok hip.1 hip.2]
    refine ih _ ⟨by simp only; omega, by simp only; omega, ?_⟩ (by simp only; omega)
    simp only
    have e1 : (i - 1 + 1).toNat = i.toNat := by omega
    have e2 : (i + 1).toNat = i.toNat + 1 := by omega
    rw [e1, bkr_step hp, g2, e2]
  · refine has_ok ?_
    have e1 : (i + 1).toNat = 0 := by omega
    rw [g2, e1, List.drop_zero]
theorem rBack_bad {t : ApiTopo} {r : List Int} {e : Int} (h : m_route_Check t r = .ok e) (he : e ≠ 0) : m_route_Back t r = .ok ([], e) := by
  unfold m_route_Back
  rw [h]; simp [bindR, he]
end Go.AM.P16
namespace Go.AM.P16
open Go
/-! ### The reference's routes -/
theorem in_eq {l : List Int} (hl : l.length < 1000000) (x : Int) : m_isochronref16_In l x = .ok (decide (x ∈ l)) := (in_ok hl x).eq
theorem port_dec {t : ApiTopo} (h : Small t) (p : Int) : m_isochronref16_Port t p = .ok (decide (IsP t p)) := by
  unfold m_isochronref16_Port sh
  rw [w2l h]
  by_cases h1 : 0 ≤ p <;> by_cases h2 : p < 2 * (t.Links.length : Int) <;> simp [IsP, h1, h2]
theorem rnNodes_ok {t : ApiTopo} (hs : Small t) {r : List Int} (h0 : 1 ≤ r.length) (h8 : r.length ≤ 8) (hp : ∀ p ∈ r, IsP t p) : m_isochronref21_Nodes t r = .ok (ns t r (r.length + 1)) := by
  refine Has.eq ?_
  unfold m_isochronref21_Nodes
  refine has_idx (by omega) (by omega) fun p0 hp0 => ?_
  have hp0' : r[0]? = some p0 := hp0
  refine has_beq (rFrom_ok hs (hp _ (List.mem_of_getElem? hp0'))) ?_
  have e0 : [frm t p0] = ns t r 1 := by
    rw [ns_succ]; show [frm t p0] = [] ++ [frm t (el r 0)]; rw [el_get hp0']; rfl
  rw [e0]
  refine has_loop (fun y : List Int × Int => 0 ≤ y.2 ∧ y.2 ≤ r.length ∧ y.1 = ns t r (y.2.toNat + 1)) (fun y => ((r.length : Int) - y.2).toNat) (fun y hy => by omega) ⟨by simp, by simp, rfl⟩ ?_
  rintro ⟨seen, i⟩ rec ⟨g0, g1, g2⟩ ih
  simp only at g0 g1 g2
  subst g2
  unfold m_isochronref21_Nodes_l1
  simp only [decide_eq_true_eq]
  refine has_ite (fun hi => ?_) (fun hi => ?_)
  · refine has_idx g0 hi fun p hpp => ?_
    have hip := hp _ (List.mem_of_getElem? hpp)
    refine has_beq (rTo_ok hs hip) ?_
    have hlen := ns_len t r (i.toNat + 1)
    refine has_must (okLen_ok (by rw [hlen]; simp; omega)) ?_
    rw [w64_id (n := i + 1) (by omega) (by omega)]
    have e1 : (i + 1).toNat = i.toNat + 1 := by omega
    refine ih _ ⟨by simp only; omega, by simp only; omega, ?_⟩ (by simp only; omega)
    simp only [e1]
    rw [ns_succ t r (i.toNat + 1)]
    show _ ++ [too t p] = _ ++ [too t (el r i.toNat)]
    rw [el_get hpp]
  · refine has_ok ?_
    have e1 : i.toNat = r.length := by omega
    simp only [e1]
/-- What the reference asks up to node k. -/
structure Upto' (t : ApiTopo) (r : List Int) (k : Nat) : Prop where
  conn : ∀ j, 0 < j → j < k → j < r.length → frm t (el r j) = nd t r j
  inner : ∀ j, 0 < j → j < k → j < r.length → ¬ Seen t.Station (nd t r j)
  inj : ∀ i j, i < j → j < k → nd t r i ≠ nd t r j
theorem Pre.okr' {t : ApiTopo} {r : List Int} (h : Pre t r) (hu : Upto' t r (r.length + 1)) : Okr t r :=
  ⟨h.1, h.2, fun j hj => by
    cases j with
    | zero => rfl
    | succ j => exact hu.conn _ (by omega) (by omega) hj, fun j h0 h1 => hu.inner j h0 (by omega) h1, fun i j h0 h1 => hu.inj i j h0 (by omega)⟩
theorem refRight_has {t : ApiTopo} (hf : Fit t) (r : List Int) : Has (m_isochronref21_Right t r) (fun b => (b = true ↔ Okr t r)) := by
  have hS := hf.small.s
  have hL := hf.small.l
  unfold m_isochronref21_Right
  refine has_sh (has_ite (fun h => ?_) (fun h => ?_))
  · simp only [Bool.or_eq_true, decide_eq_true_eq] at h
    refine has_ok ⟨fun h => by simp at h, fun ho => by have := ho.len; omega⟩
  simp only [Bool.or_eq_true, decide_eq_true_eq, not_or] at h
  refine has_loop (fun i : Int => 0 ≤ i ∧ i ≤ r.length ∧ ∀ k : Nat, (k : Int) < i → ∀ p, r[k]? = some p → IsP t p) (fun i => ((r.length : Int) - i).toNat) (fun y hy => by omega) ⟨by simp, by simp, fun k hk => by omega⟩ ?_
  rintro i rec ⟨g0, g1, g2⟩ ih
  unfold m_isochronref21_Right_l2
  simp only [decide_eq_true_eq]
  refine has_ite (fun hi => ?_) (fun hi => ?_)
  · refine has_idx g0 hi fun p hp => ?_
    refine has_beq (port_dec hf.small p) ?_
    refine has_ite (fun h1 => ?_) (fun h1 => ?_)
    · have h1 : ¬ IsP t p := by simpa using h1
      exact has_ok ⟨fun h => by simp at h, fun ho => absurd (ho.port p (List.mem_of_getElem? hp)) h1⟩
    · have h1 : IsP t p := by simpa using h1
      rw [w64_id (n := i + 1) (by omega) (by omega)]
      refine ih _ ⟨by omega, by omega, fun k hk q hq => ?_⟩ (by omega)
      by_cases hki : (k : Int) < i
      · exact g2 k hki q hq
      · have : k = i.toNat := by omega
        subst this; rw [hp] at hq; cases hq; exact h1
  have hpp : ∀ p ∈ r, IsP t p := fun p hp => by
    obtain ⟨k, hk⟩ := List.mem_iff_getElem?.1 hp
    have := (List.getElem?_eq_some_iff.1 hk).1
    exact g2 k (by omega) p hk
  have hpre : Pre t r := ⟨⟨by omega, by omega⟩, hpp⟩
  refine has_beq (rnNodes_ok hf.small (by omega) (by omega) hpp) ?_
  have hlen := ns_len t r (r.length + 1)
  refine has_loop (fun i : Int => 0 ≤ i ∧ i ≤ ((r.length + 1 : Nat) : Int) ∧ Upto' t r i.toNat) (fun i => (((r.length + 1 : Nat) : Int) - i).toNat) (fun y hy => by omega) ⟨by omega, by omega, ⟨fun j h1 h2 => absurd h2 (by simp), fun j h1 h2 => absurd h2 (by simp), fun i j h1 h2 => absurd h2 (by simp)⟩⟩ ?_
  rintro k rec2 ⟨k0, k1, k2⟩ ih2
  unfold m_isochronref21_Right_l1
  simp only [decide_eq_true_eq, hlen]
  refine has_ite (fun hk => ?_) (fun hk => ?_)
  rotate_left
  · refine has_ok ⟨fun _ => Pre.okr' hpre ?_, fun _ => rfl⟩
    have : k.toNat = r.length + 1 := by omega
    rw [← this]; exact k2
  refine has_must (by simp only [decide_eq_true_eq]; omega) ?_
  refine has_beq (ns_idx k0 (by omega)) ?_
  rw [ns_take (by omega)]
  refine has_beq (in_eq (by rw [ns_len]; omega) _) ?_
  refine has_ite (fun h1 => ?_) (fun h1 => ?_)
  · have h1 := of_decide_eq_true h1
    obtain ⟨q, hq, hqe⟩ := ns_mem.1 h1
    exact has_ok ⟨fun h => by simp at h, fun ho => absurd hqe (ho.inj q k.toNat hq (by omega))⟩
  have h1 : nd t r k.toNat ∉ ns t r k.toNat := by simpa using h1
  have hinj : ∀ i j, i < j → j < k.toNat + 1 → nd t r i ≠ nd t r j := fun i j h2 h3 => by
    by_cases e : j = k.toNat
    · subst e; exact fun e' => h1 (ns_mem.2 ⟨i, h2, e'⟩)
    · exact k2.inj i j h2 (by omega)
  have hN := nd_N hf hpp (by omega) (i := k.toNat) (by omega)
  refine has_sh ?_
  have go : (0 < k.toNat → k.toNat < r.length → frm t (el r k.toNat) = nd t r k.toNat ∧ ¬ Seen t.Station (nd t r k.toNat)) → Has (rec2 (w64 (k + 1))) (fun b => (b = true ↔ Okr t r)) := fun hh => by
    rw [w64_id (n := k + 1) (by omega) (by omega)]
    have e1 : (k + 1).toNat = k.toNat + 1 := by omega
    refine ih2 _ ⟨by omega, by omega, ?_⟩ (by omega)
    rw [e1]
    refine ⟨fun j h2 h3 h4 => ?_, fun j h2 h3 h4 => ?_, hinj⟩
    · by_cases e : j = k.toNat
      · subst e; exact (hh h2 h4).1
      · exact k2.conn j h2 (by omega) h4
    · by_cases e : j = k.toNat
      · subst e; exact (hh h2 h4).2
      · exact k2.inner j h2 (by omega) h4
  refine has_join (fun b => (b = true → ¬ Okr t r) ∧ (b = false → 0 < k.toNat → k.toNat < r.length → frm t (el r k.toNat) = nd t r k.toNat ∧ ¬ Seen t.Station (nd t r k.toNat))) (fun b hb => ?_) (fun j hj => ?_)
  · refine has_ite (fun h => has_ok ⟨fun h' => by simp at h', fun ho => absurd ho (hb.1 h)⟩) (fun h => go (hb.2 (by simpa using h)))
  · refine has_ite (fun h => ?_) (fun h => ?_)
    · simp only [Bool.and_eq_true, decide_eq_true_eq] at h
      have hkl : k.toNat < r.length := by omega
      refine has_beq (ns_idx k0 (by omega)) ?_
      refine has_idx hN.1 (by have := hN.2; omega) fun s hs => ?_
      have hse := seen_get hN.1 hs
      refine has_ite (fun h2 => hj _ ⟨fun _ ho => ho.inner k.toNat (by omega) hkl (hse.2 h2), fun h3 => by simp at h3⟩) (fun h2 => ?_)
      refine has_idx k0 (by omega) fun p hp => ?_
      refine has_beq (rFrom_ok hf.small (hpp _ (List.mem_of_getElem? hp))) ?_
      refine has_beq (ns_idx k0 (by omega)) (hj _ ⟨fun h3 ho => ?_, fun h3 _ _ => ⟨?_, fun h4 => h2 (hse.1 h4)⟩⟩)
      · have h3 := of_decide_eq_true h3
        exact h3 (by rw [← el_get hp]; exact ho.conn _ hkl)
      · rw [el_get hp]; simpa using h3
    · refine hj _ ⟨fun h2 => by simp at h2, fun _ h2 h3 => ?_⟩
      simp only [Bool.and_eq_true, decide_eq_true_eq, not_and] at h
      omega
theorem rfDelay_ok {t : ApiTopo} (hf : Fit t) {r : List Int} (ho : Okr t r) : m_isochronref21_Delay t r = .ok (sm (dl t) r r.length) := by
  have hl := ho.len
  refine Has.eq ?_
  unfold m_isochronref21_Delay
  refine has_loop (fun y : Int × Int => 0 ≤ y.2 ∧ y.2 ≤ r.length ∧ y.1 = sm (dl t) r y.2.toNat) (fun y => ((r.length : Int) - y.2).toNat) (fun y hy => by omega) ⟨by simp, by simp, rfl⟩ ?_
  rintro ⟨n, i⟩ rec ⟨g0, g1, g2⟩ ih
  simp only at g0 g1 g2
  unfold m_isochronref21_Delay_l1
  simp only [decide_eq_true_eq]
  refine has_ite (fun hi => ?_) (fun hi => ?_)
  · refine has_idx g0 hi fun p hp => ?_
    obtain ⟨e, he, h1, _, h2, _⟩ := link_at hf (ho.port _ (List.mem_of_getElem? hp))
    refine has_beq (show m_isochronref16_Delay t p = .ok e.Delay by unfold m_isochronref16_Delay; rw [he]; rfl) ?_
    have hr := sm_range (dl_range hf ho.port) i.toNat (by omega)
    rw [w64_id (n := i + 1) (by omega) (by omega), w64_id (n := n + e.Delay) (by omega) (by omega)]
    have e1 : (i + 1).toNat = i.toNat + 1 := by omega
    exact ih _ ⟨by simp only; omega, by simp only; omega, by simp only [e1]; rw [sm_succ hp, h1, g2]⟩ (by simp only; omega)
  · refine has_ok ?_
    have e1 : i.toNat = r.length := by omega
    rw [g2, e1]
theorem rfTime_ok {t : ApiTopo} (hf : Fit t) {r : List Int} (ho : Okr t r) {z : Int} (h1 : 84 ≤ z) (h2 : z ≤ 1542) : m_isochronref21_Time t r z = .ok (sm (tm t z) r r.length) := by
  have hl := ho.len
  refine Has.eq ?_
  unfold m_isochronref21_Time
  refine has_loop (fun y : Int × Int => 0 ≤ y.2 ∧ y.2 ≤ r.length ∧ y.1 = sm (tm t z) r y.2.toNat) (fun y => ((r.length : Int) - y.2).toNat) (fun y hy => by omega) ⟨by simp, by simp, rfl⟩ ?_
  rintro ⟨n, i⟩ rec ⟨g0, g1, g2⟩ ih
  simp only at g0 g1 g2
  unfold m_isochronref21_Time_l1
  simp only [decide_eq_true_eq]
  refine has_ite (fun hi => ?_) (fun hi => ?_)
  · refine has_idx g0 hi fun p hp => ?_
    obtain ⟨e, he, h3, h4, h5, h6⟩ := link_at hf (ho.port _ (List.mem_of_getElem? hp))
    refine has_beq (show m_isochronref16_Per t p = .ok e.Per by unfold m_isochronref16_Per; rw [he]; rfl) ?_
    refine has_idx g0 hi fun p' hp' => ?_
    have : p' = p := by rw [hp] at hp'; cases hp'; rfl
    subst this
    refine has_beq (show m_isochronref16_Delay t p' = .ok e.Delay by unfold m_isochronref16_Delay; rw [he]; rfl) ?_
    have hr := sm_range (tm_range hf ho.port (z := z) ⟨by omega, by omega⟩) i.toNat (by omega)
    have hm := mul_range (z := z) ⟨by omega, by omega⟩ h6
    rw [w64_id (n := i + 1) (by omega) (by omega), w64_id (n := z * e.Per) (by omega) (by omega), w64_id (n := n + z * e.Per) (by omega) (by omega), w64_id (by omega) (by omega)]
    have e1 : (i + 1).toNat = i.toNat + 1 := by omega
    exact ih _ ⟨by simp only; omega, by simp only; omega, by simp only [e1]; rw [sm_succ hp, g2]; unfold tm; rw [h3, h4]; omega⟩ (by simp only; omega)
  · refine has_ok ?_
    have e1 : i.toNat = r.length := by omega
    rw [g2, e1]
theorem rfBack_ok {t : ApiTopo} (hf : Fit t) {r : List Int} (ho : Okr t r) : m_isochronref21_Back r = .ok (bkr r) := by
  have hl := ho.len
  refine Has.eq ?_
  unfold m_isochronref21_Back
  rw [w64_id (by omega) (by omega)]
  refine has_loop (fun y : List Int × Int => -1 ≤ y.2 ∧ y.2 < r.length ∧ y.1 = bkr (r.drop (y.2 + 1).toNat)) (fun y => (y.2 + 1).toNat) (fun y hy => by omega) ⟨by simp only; omega, by simp only; omega, ?_⟩ ?_
  · simp only
    rw [List.drop_of_length_le (by omega)]; rfl
  rintro ⟨out, i⟩ rec ⟨g0, g1, g2⟩ ih
  simp only at g0 g1 g2
  unfold m_isochronref21_Back_l1
  simp only [decide_eq_true_eq]
  refine has_ite (fun hi => ?_) (fun hi => ?_)
  · refine has_idx hi g1 fun p hp => ?_
    have hip := isp_lt hf.small (ho.port _ (List.mem_of_getElem? hp))
    have hol : out.length ≤ 8 := by rw [g2, bkr_len, List.length_drop]; omega
    refine has_beq (rBack_ok hip.1 hip.2) ?_
    refine has_must (okLen_ok (by simp; omega)) ?_
    rw [w64_id (n := i - 1) (by omega) (by omega)]
    refine ih _ ⟨by simp only; omega, by simp only; omega, ?_⟩ (by simp only; omega)
    simp only
    have e1 : (i - 1 + 1).toNat = i.toNat := by omega
    have e2 : (i + 1).toNat = i.toNat + 1 := by omega
    rw [e1, bkr_step hp, g2, e2]
  · refine has_ok ?_
    have e1 : (i + 1).toNat = 0 := by omega
    rw [g2, e1, List.drop_zero]
/-! The law's own helps -/
theorem few21 (t : ApiTopo) : ∃ t', m_isochronlaw21_few t = .ok t' := by
  unfold m_isochronlaw21_few
  have : Has (bindR (must (decide (0 ≤ (min (t.Station.length : Int) 20) ∧ (min (t.Station.length : Int) 20) ≤ (t.Station.length : Int)))) fun _ =>
    bindR (must (decide (0 ≤ (min (t.Links.length : Int) 30) ∧ (min (t.Links.length : Int) 30) ≤ (t.Links.length : Int)))) fun _ =>
    .ok ((ApiTopo.mk t.Nodes (t.Station.take ((min (t.Station.length : Int) 20)).toNat) (t.Links.take ((min (t.Links.length : Int) 30)).toNat)))) (fun _ => True) := by
    refine has_must ?_ (has_must ?_ (has_ok trivial))
    · simp only [decide_eq_true_eq]; omega
    · simp only [decide_eq_true_eq]; omega
  obtain ⟨r, h, _⟩ := this
  exact ⟨r, h⟩
theorem cut21 (r : List Int) : Has (m_isochronlaw21_cut r) (fun l => l.length ≤ 12) := by
  unfold m_isochronlaw21_cut
  refine has_must (by simp only [decide_eq_true_eq]; omega) ?_
  refine has_must (okLen_ok (by simp; omega)) (has_ok ?_)
  rw [List.nil_append, List.length_take]; omega
theorem wakes21 : m_isochronlaw21_wakes = .ok true := by kernel_rfl
/-- The error of a list of routes. -/
def WC (t : ApiTopo) (l : List (List Int)) (e : Int) : Prop := (¬ Fit t ∧ e = 260) ∨ (Fit t ∧ (∃ r ∈ l, ¬ Okr t r) ∧ e = 310) ∨ (Fit t ∧ (∀ r ∈ l, Okr t r) ∧ e = 0)
theorem want_wc (t : ApiTopo) (l : List (List Int)) (hl : l.length < 1000) : Has (m_isochronlaw21_want t l) (WC t l) := by
  unfold m_isochronlaw21_want
  by_cases hf : Fit t
  · refine has_beq (Right_fit hf) ?_
    refine has_ite (fun h => by simp at h) (fun _ => ?_)
    refine has_loop (fun i : Int => 0 ≤ i ∧ i ≤ l.length ∧ ∀ k : Nat, (k : Int) < i → ∀ r, l[k]? = some r → Okr t r) (fun i => ((l.length : Int) - i).toNat) (fun y hy => by omega) ⟨by simp, by simp, fun k hk => by omega⟩ ?_
    rintro i rec ⟨g0, g1, g2⟩ ih
    unfold m_isochronlaw21_want_l1
    simp only [decide_eq_true_eq]
    refine has_ite (fun hi => ?_) (fun hi => ?_)
    · refine has_idx g0 hi fun r hr => ?_
      refine has_bind (refRight_has hf r) fun b hb => ?_
      refine has_ite (fun h1 => has_ok (.inr (.inl ⟨hf, ⟨r, List.mem_of_getElem? hr, fun ho => by rw [hb.2 ho] at h1; simp at h1⟩, rfl⟩))) (fun h1 => ?_)
      have h1 : Okr t r := hb.1 (by simpa using h1)
      rw [w64_id (n := i + 1) (by omega) (by omega)]
      refine ih _ ⟨by omega, by omega, fun k hk q hq => ?_⟩ (by omega)
      by_cases hki : (k : Int) < i
      · exact g2 k hki q hq
      · have : k = i.toNat := by omega
        subst this; rw [hr] at hq; cases hq; exact h1
    · refine has_ok (.inr (.inr ⟨hf, fun r hr => ?_, rfl⟩))
      obtain ⟨k, hk⟩ := List.mem_iff_getElem?.1 hr
      have := (List.getElem?_eq_some_iff.1 hk).1
      exact g2 k (by omega) r hk
  · refine has_beq (Right_unfit hf) ?_
    exact has_ite (fun _ => has_ok (.inl ⟨hf, rfl⟩)) (fun h => by simp at h)
theorem want_one (t : ApiTopo) (r : List Int) : Has (m_isochronlaw21_want t [r]) (RC t r) := (want_wc t [r] (by simp)).imp fun e h => by
  rcases h with ⟨h1, h2⟩ | ⟨h1, ⟨q, hq, hn⟩, h2⟩ | ⟨h1, h3, h2⟩
  · exact .inr (.inr ⟨h1, h2⟩)
  · rw [List.mem_singleton] at hq; subst hq; exact .inr (.inl ⟨h1, hn, h2⟩)
  · exact .inl ⟨h1, h3 r (by simp), h2⟩
theorem equal_route {a b : List Int} (ha : a.length < 1000000) : m_slices_Equal_api_Route_int a b = .ok (decide (a = b)) := equal_int ha
end Go.AM.P16
namespace Go.AM.P16
open Go
theorem RouteChecks_pure (x0 : ApiTopo) (x1 : List Int) (x2 : Int) : m_isochronlaw21_RouteChecks x0 x1 x2 = .ok true := by
  refine Has.eq ?_
  obtain ⟨t, hfew⟩ := few21 x0
  unfold m_isochronlaw21_RouteChecks
  refine has_beq wakes21 ?_
  refine has_ite (fun h => by simp at h) (fun _ => ?_)
  refine has_beq hfew ?_
  refine has_bind (cut21 x1) fun r hr => ?_
  by_cases hok : Fit t ∧ Okr t r
  · obtain ⟨hf, ho⟩ := hok
    have hl := ho.len
    have hw : m_isochronlaw21_want t [r] = .ok 0 := by
      obtain ⟨e, he, h⟩ := want_one t r
      rw [he, RC.uniq h (.inl ⟨hf, ho, rfl⟩)]
    refine has_beq (rNodes_ok hf ho) ?_
    refine has_beq (rEnds_ok hf ho) ?_
    refine has_beq (rDelay_ok hf ho) ?_
    have ht : ∃ v, m_route_Time t r x2 = .ok v ∧ ((x2 < 84 ∨ 1542 < x2) → v = (0, 2)) ∧ (¬ (x2 < 84 ∨ 1542 < x2) → v = (sm (tm t x2) r r.length, 0)) := by
      by_cases hz : x2 < 84 ∨ 1542 < x2
      · exact ⟨_, rTime_size hf ho hz, fun _ => rfl, fun h => absurd hz h⟩
      · exact ⟨_, rTime_ok hf ho (by omega) (by omega), fun h => absurd h hz, fun _ => rfl⟩
    obtain ⟨v, hv, hv1, hv2⟩ := ht
    refine has_beq hv ?_
    refine has_beq (rBack_r hf ho) ?_
    refine has_beq hw ?_
    refine has_beq (rCheck_ok hf ho) ?_
    simp only [sh, ne_eq, not_true_eq_false, decide_false, Bool.or_self, Bool.false_eq_true, if_false]
    refine has_beq (rnNodes_ok hf.small hl.1 hl.2 ho.port) ?_
    refine has_beq (equal_int (by rw [ns_len]; omega)) ?_
    simp only [decide_true, Bool.not_true, Bool.false_eq_true, if_false]
    refine has_beq (ns_idx (i := 0) (by omega) (by omega)) ?_
    have e0 : ¬ ¬ nd t r 0 = nd t r (0 : Int).toNat := fun h => h rfl
    simp only [e0, decide_false, Bool.false_eq_true, if_false]
    have e1 : w64 (((ns t r (r.length + 1)).length : Int) - 1) = r.length := by rw [ns_len, w64_id (by omega) (by omega)]; omega
    rw [e1]
    refine has_beq (ns_idx (by omega) (by omega)) ?_
    have e2 : ¬ ¬ nd t r r.length = nd t r (r.length : Int).toNat := fun h => h rfl
    simp only [e2, decide_false, Bool.false_eq_true, if_false]
    refine has_beq (rfDelay_ok hf ho) ?_
    simp only [not_true_eq_false, decide_false, Bool.false_eq_true, if_false]
    refine has_beq (rfBack_ok hf ho) ?_
    refine has_beq (equal_route (by rw [bkr_len]; omega)) ?_
    simp only [decide_true, Bool.not_true, Bool.false_eq_true, if_false]
    refine has_ite (fun h => ?_) (fun h => ?_)
    · simp only [Bool.or_eq_true, decide_eq_true_eq] at h
      rw [hv1 h]; exact has_ok rfl
    · simp only [Bool.or_eq_true, decide_eq_true_eq] at h
      refine has_beq (rfTime_ok hf ho (by omega) (by omega)) ?_
      rw [hv2 h]; exact has_ok (by simp)
  · obtain ⟨e, he, hrc, hne⟩ := rCheck_bad hok
    have hw : m_isochronlaw21_want t [r] = .ok e := by
      obtain ⟨e', he', h⟩ := want_one t r
      rw [he', RC.uniq h hrc]
    refine has_beq (rNodes_bad he hne) ?_
    refine has_beq (rEnds_bad he hne) ?_
    refine has_beq (rDelay_bad he hne) ?_
    refine has_beq (rTime_bad he hne x2) ?_
    refine has_beq (rBack_bad he hne) ?_
    refine has_beq hw ?_
    refine has_beq he ?_
    simp only [sh, ne_eq, not_true_eq_false, decide_false, Bool.or_self, Bool.false_eq_true, if_false, hne, not_false_eq_true, decide_true, if_true]
    exact has_ok (by simp)
/-! ### Routes that are apart -/
end Go.AM.P16
