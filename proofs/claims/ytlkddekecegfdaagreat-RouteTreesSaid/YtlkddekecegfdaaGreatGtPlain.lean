/- The plain law: lemmas over plain data, no program; no claim of its own; no condition. -/
import Derived.Test.YtlkddekecegfdaaGreatGtDefs
import Derived.Test.YtlkddekecegfdaaGreatLfK
set_option linter.unusedVariables false
set_option linter.unusedSimpArgs false
namespace Go.AM.P16
open Go
/-! ### Links -/
theorem from_ok {e : ApiLink} {p : Int} : m_topo_end_from ⟨e, p⟩ = .ok (if p.tmod 2 = 0 then e.A else e.B) := by
  unfold m_topo_end_from
  simp only [decide_eq_true_eq]
  split <;> rfl
theorem tmod_even {i : Int} (h : 0 ≤ i) : (2 * i).tmod 2 = 0 := by rw [Int.tmod_eq_emod_of_nonneg (by omega)]; omega
theorem tmod_odd {i : Int} (h : 0 ≤ i) : (2 * i + 1).tmod 2 = 1 := by rw [Int.tmod_eq_emod_of_nonneg (by omega)]; omega
theorem from_even {e : ApiLink} {i : Int} (h : 0 ≤ i) (h1 : i < 1000000) : m_topo_end_from ⟨e, w64 (2 * i)⟩ = .ok e.A := by
  rw [w64_id (by omega) (by omega), from_ok, if_pos (tmod_even h)]
theorem from_odd {e : ApiLink} {i : Int} (h : 0 ≤ i) (h1 : i < 1000000) : m_topo_end_from ⟨e, w64 ((w64 (2 * i)) + 1)⟩ = .ok e.B := by
  rw [w64_id (n := 2 * i) (by omega) (by omega), w64_id (by omega) (by omega), from_ok, if_neg (by rw [tmod_odd h]; decide)]
theorem to_ok {e : ApiLink} {p : Int} (ha : 0 ≤ e.A ∧ e.A < 1000000) (hb : 0 ≤ e.B ∧ e.B < 1000000) : m_topo_end_to ⟨e, p⟩ = .ok (if p.tmod 2 = 0 then e.B else e.A) := by
  unfold m_topo_end_to
  rw [from_ok]
  simp only [bindR]
  rw [w64_id (n := e.A + e.B) (by omega) (by omega)]
  split <;> (rw [w64_id (by omega) (by omega)]; congr 1; omega)
theorem to_even {e : ApiLink} {i : Int} (ha : 0 ≤ e.A ∧ e.A < 1000000) (hb : 0 ≤ e.B ∧ e.B < 1000000) (h : 0 ≤ i) (h1 : i < 1000000) : m_topo_end_to ⟨e, w64 (2 * i)⟩ = .ok e.B := by
  rw [w64_id (by omega) (by omega), to_ok ha hb, if_pos (tmod_even h)]
theorem to_odd {e : ApiLink} {i : Int} (ha : 0 ≤ e.A ∧ e.A < 1000000) (hb : 0 ≤ e.B ∧ e.B < 1000000) (h : 0 ≤ i) (h1 : i < 1000000) : m_topo_end_to ⟨e, w64 ((w64 (2 * i)) + 1)⟩ = .ok e.A := by
  rw [w64_id (n := 2 * i) (by omega) (by omega), w64_id (by omega) (by omega), to_ok ha hb, if_neg (by rw [tmod_odd h]; decide)]

/-! ### What a topology must be -/
def Joins (e : ApiLink) (a b : Int) : Prop := (e.A = a ∧ e.B = b) ∨ (e.A = b ∧ e.B = a)
def IsN (t : ApiTopo) (n : Int) : Prop := 0 ≤ n ∧ n < t.Nodes
instance (t : ApiTopo) (n : Int) : Decidable (IsN t n) := inferInstanceAs (Decidable (_ ∧ _))
structure LinkOk (t : ApiTopo) (e : ApiLink) : Prop where
  a : IsN t e.A
  b : IsN t e.B
  ne : e.A ≠ e.B
  st : ¬ (Seen t.Station e.A ∧ Seen t.Station e.B)
  per : 1 ≤ e.Per ∧ e.Per ≤ 1000
  delay : 0 ≤ e.Delay ∧ e.Delay ≤ 10000
def Alone (ls : List ApiLink) (i : Nat) (e : ApiLink) : Prop := ∀ (j : Nat) (f : ApiLink), j < i → ls[j]? = some f → ¬ Joins f e.A e.B
structure Small (t : ApiTopo) : Prop where
  n : 2 ≤ t.Nodes ∧ t.Nodes ≤ 12
  s : (t.Station.length : Int) = t.Nodes
  l : t.Links.length ≤ 24
def LinksOk (t : ApiTopo) : Prop := ∀ (i : Nat) (e : ApiLink), t.Links[i]? = some e → LinkOk t e ∧ Alone t.Links i e
def ends (e : ApiLink) (n : Int) : Int := (if e.A = n then 1 else 0) + (if e.B = n then 1 else 0)
def cnt (ls : List ApiLink) (n : Int) : Int := (ls.map (ends · n)).sum
inductive Rch (t : ApiTopo) (cut : List Int) (s : Int) : Int → Prop
  | base : Rch t cut s s
  | fwd {i : Nat} {e : ApiLink} : t.Links[i]? = some e → (i : Int) ∉ cut → Rch t cut s e.A → Rch t cut s e.B
  | bwd {i : Nat} {e : ApiLink} : t.Links[i]? = some e → (i : Int) ∉ cut → Rch t cut s e.B → Rch t cut s e.A
structure Fit (t : ApiTopo) : Prop where
  small : Small t
  links : LinksOk t
  stations : ∀ n, IsN t n → Seen t.Station n → 1 ≤ cnt t.Links n ∧ cnt t.Links n ≤ 2
  whole : ∀ n, IsN t n → Rch t [] 0 n

theorem ends_range (e : ApiLink) (n : Int) : 0 ≤ ends e n ∧ ends e n ≤ 2 := by
  unfold ends; split <;> split <;> omega
theorem cnt_range (ls : List ApiLink) (n : Int) : 0 ≤ cnt ls n ∧ cnt ls n ≤ 2 * ls.length := by
  induction ls with
  | nil => simp [cnt]
  | cons e ls ih =>
    have := ends_range e n
    simp only [cnt, List.map_cons, List.sum_cons, List.length_cons] at ih ⊢
    omega
theorem cnt_take {ls : List ApiLink} {i : Nat} {e : ApiLink} (h : ls[i]? = some e) (n : Int) : cnt (ls.take (i + 1)) n = cnt (ls.take i) n + ends e n := by
  rw [List.take_add_one, h]
  simp [cnt]

theorem isNode_ok (t : ApiTopo) (n : Int) : m_topo_isNode t n = .ok (decide (IsN t n)) := by
  unfold m_topo_isNode sh
  by_cases h1 : 0 ≤ n <;> by_cases h2 : n < t.Nodes <;> simp [IsN, h1, h2]
end Go.AM.P16
namespace Go.AM.P16
open Go
end Go.AM.P16
namespace Go.AM.P16
open Go
/-! ### Looking in rows -/
theorem index_int_has {l : List Int} (hl : l.length < 1000000) (x : Int) : Has (m_slices_Index_int_int l x) (fun r => (0 ≤ r ↔ x ∈ l)) := by
  unfold m_slices_Index_int_int
  refine has_loop (fun i : Int => 0 ≤ i ∧ i ≤ l.length ∧ ∀ j : Nat, (j : Int) < i → l[j]? ≠ some x) (fun i => ((l.length : Int) - i).toNat) (fun y hy => by omega) ⟨by omega, by omega, fun j hj => by omega⟩ ?_
  rintro i rec ⟨h0, h1, h2⟩ ih
  unfold m_slices_Index_int_int_l1
  simp only [decide_eq_true_eq]
  refine has_ite (fun hi => ?_) (fun hi => ?_)
  · refine has_idx h0 hi fun a ha => ?_
    refine has_ite (fun he => ?_) (fun he => ?_)
    · subst he
      exact has_ok ⟨fun _ => List.mem_of_getElem? ha, fun _ => h0⟩
    · rw [w64_id (by omega) (by omega)]
      refine ih _ ⟨by omega, by omega, fun j hj => ?_⟩ (by omega)
      by_cases hji : (j : Int) < i
      · exact h2 j hji
      · have : j = i.toNat := by omega
        rw [this, ha]; intro hx; cases hx; exact he rfl
  · refine has_ok ⟨fun h => by omega, fun h => ?_⟩
    obtain ⟨j, hj⟩ := List.mem_iff_getElem?.1 h
    have := (List.getElem?_eq_some_iff.1 hj).1
    exact absurd hj (h2 j (by omega))
theorem contains_int {l : List Int} (hl : l.length < 1000000) (x : Int) : m_slices_Contains_int_int l x = .ok (decide (x ∈ l)) := by
  unfold m_slices_Contains_int_int
  obtain ⟨r, h1, h2⟩ := index_int_has hl x
  rw [h1]
  simp only [bindR, h2]
theorem index_bool_has {l : List Bool} (hl : l.length < 1000000) (x : Bool) : Has (m_slices_Index_bool_bool l x) (fun r => (0 ≤ r ↔ x ∈ l)) := by
  unfold m_slices_Index_bool_bool
  refine has_loop (fun i : Int => 0 ≤ i ∧ i ≤ l.length ∧ ∀ j : Nat, (j : Int) < i → l[j]? ≠ some x) (fun i => ((l.length : Int) - i).toNat) (fun y hy => by omega) ⟨by omega, by omega, fun j hj => by omega⟩ ?_
  rintro i rec ⟨h0, h1, h2⟩ ih
  unfold m_slices_Index_bool_bool_l1
  simp only [decide_eq_true_eq, beq_iff_eq]
  refine has_ite (fun hi => ?_) (fun hi => ?_)
  · refine has_idx h0 hi fun a ha => ?_
    refine has_ite (fun he => ?_) (fun he => ?_)
    · subst he
      exact has_ok ⟨fun _ => List.mem_of_getElem? ha, fun _ => h0⟩
    · rw [w64_id (by omega) (by omega)]
      refine ih _ ⟨by omega, by omega, fun j hj => ?_⟩ (by omega)
      by_cases hji : (j : Int) < i
      · exact h2 j hji
      · have : j = i.toNat := by omega
        rw [this, ha]; intro hx; cases hx; exact he rfl
  · refine has_ok ⟨fun h => by omega, fun h => ?_⟩
    obtain ⟨j, hj⟩ := List.mem_iff_getElem?.1 h
    have := (List.getElem?_eq_some_iff.1 hj).1
    exact absurd hj (h2 j (by omega))
theorem contains_bool {l : List Bool} (hl : l.length < 1000000) (x : Bool) : m_slices_Contains_bool_bool l x = .ok (decide (x ∈ l)) := by
  unfold m_slices_Contains_bool_bool
  obtain ⟨r, h1, h2⟩ := index_bool_has hl x
  rw [h1]
  simp only [bindR, h2]
theorem in_ok {l : List Int} (hl : l.length < 1000000) (x : Int) : Has (m_isochronref16_In l x) (fun r => r = decide (x ∈ l)) := by
  unfold m_isochronref16_In
  refine has_loop (fun i : Int => 0 ≤ i ∧ i ≤ l.length ∧ ∀ j : Nat, (j : Int) < i → l[j]? ≠ some x) (fun i => ((l.length : Int) - i).toNat) (fun y hy => by omega) ⟨by omega, by omega, fun j hj => by omega⟩ ?_
  rintro i rec ⟨h0, h1, h2⟩ ih
  unfold m_isochronref16_In_l1
  simp only [decide_eq_true_eq]
  refine has_ite (fun hi => ?_) (fun hi => ?_)
  · refine has_idx h0 hi fun a ha => ?_
    refine has_ite (fun he => ?_) (fun he => ?_)
    · subst he
      exact has_ok (by simp [List.mem_of_getElem? ha])
    · rw [w64_id (by omega) (by omega)]
      refine ih _ ⟨by omega, by omega, fun j hj => ?_⟩ (by omega)
      by_cases hji : (j : Int) < i
      · exact h2 j hji
      · have : j = i.toNat := by omega
        rw [this, ha]; intro hx; cases hx; exact he rfl
  · refine has_ok ?_
    have : x ∉ l := fun h => by
      obtain ⟨j, hj⟩ := List.mem_iff_getElem?.1 h
      have := (List.getElem?_eq_some_iff.1 hj).1
      exact absurd hj (h2 j (by omega))
    simp [this]

/-! ### Counting -/
theorem degree_ok {t : ApiTopo} (ht : t.Links.length ≤ 24) (n : Int) : m_topo_degree t n = .ok (cnt t.Links n) := by
  refine Has.eq ?_
  unfold m_topo_degree
  refine has_loop (fun s : Int × Int => 0 ≤ s.1 ∧ s.1 ≤ t.Links.length ∧ s.2 = cnt (t.Links.take s.1.toNat) n) (fun s => ((t.Links.length : Int) - s.1).toNat) (fun y hy => by omega) ⟨by simp, by simp, by simp [cnt]⟩ ?_
  rintro ⟨i, c⟩ rec ⟨h0, h1, h2⟩ ih
  unfold m_topo_degree_l1
  simp only [decide_eq_true_eq] at *
  refine has_ite (fun hi => ?_) (fun hi => ?_)
  · refine has_idx h0 hi fun e he => ?_
    have hstep := cnt_take he n
    have hr := cnt_range (t.Links.take i.toNat) n
    have hlen : (t.Links.take i.toNat).length ≤ 24 := by rw [List.length_take]; omega
    have hend : cnt (t.Links.take (i + 1).toNat) n = c + ends e n := by
      have : (i + 1).toNat = i.toNat + 1 := by omega
      rw [this, hstep, h2]
    refine has_beq (from_even h0 (by omega)) (has_sh ?_)
    refine has_ite (fun ha => ?_) (fun ha => ?_) <;>
    · refine has_beq (from_odd h0 (by omega)) (has_sh ?_)
      refine has_ite (fun hb => ?_) (fun hb => ?_) <;>
      · show Has (rec _) _
        rw [w64_id (n := i + 1) (by omega) (by omega)]
        refine ih _ ⟨by simp only; omega, by simp only; omega, ?_⟩ (by simp only; omega)
        simp only
        rw [hend]
        unfold ends
        simp only [ha, hb, if_true, if_false]
        try rw [w64_id (n := c + 1) (by omega) (by omega)]
        try rw [w64_id (by omega) (by omega)]
        try omega
  · refine has_ok ?_
    rw [h2, List.take_of_length_le (by omega)]
end Go.AM.P16
namespace Go.AM.P16
open Go
theorem joins_dec {e : ApiLink} {a b : Int} : ((decide (e.A = a) && decide (e.B = b)) || (decide (e.A = b) && decide (e.B = a))) = true ↔ Joins e a b := by
  simp [Joins]
theorem validLink_has {t : ApiTopo} (ht : Small t) {p : Int} {e : ApiLink} (h0 : 0 ≤ p) (he : t.Links[p.toNat]? = some e) :
    Has (m_topo_validLink t p) (fun r => (r = true ↔ LinkOk t e ∧ Alone t.Links p.toNat e)) := by
  have hp := (List.getElem?_eq_some_iff.1 he).1
  have hl := ht.l
  have hs := ht.s
  unfold m_topo_validLink
  refine has_idx h0 (by omega) fun e' he' => ?_
  rw [he] at he'; cases he'
  refine has_beq (isNode_ok _ _) ?_
  refine has_join (fun s => (s = true ↔ IsN t e.A ∧ IsN t e.B)) (fun s hs1 => ?_) (fun j hj => ?_)
  · refine has_sh ?_
    simp only [Bool.not_eq_true', Bool.and_eq_false_iff, decide_eq_false_iff_not, Decidable.not_not]
    refine has_ite (fun h => has_ok ?_) (fun h => ?_)
    · simp only [Bool.false_eq_true, false_iff]
      rintro ⟨h1, _⟩
      rcases h with h | h
      · rw [hs1.2 ⟨h1.a, h1.b⟩] at h; cases h
      · exact h1.ne h
    · rw [not_or, Bool.not_eq_false, hs1] at h
      obtain ⟨⟨ha, hb⟩, hne⟩ := h
      refine has_idx ha.1 (by have := ha.2; omega) fun sa hsa => ?_
      refine has_join (fun s => (s = true ↔ ¬ (Seen t.Station e.A ∧ Seen t.Station e.B))) (fun s hs2 => ?_) (fun j hj => ?_)
      · refine has_ite (fun h => has_ok ?_) (fun h => ?_)
        · simp only [Bool.false_eq_true, false_iff]
          rintro ⟨h1, _⟩
          rw [hs2.2 h1.st] at h; cases h
        · have h : s = true := by simpa using h
          rw [hs2] at h
          refine has_sh (has_sh (has_sh ?_))
          simp only [Bool.not_eq_true', Bool.and_eq_false_iff, decide_eq_false_iff_not]
          refine has_ite (fun h2 => has_ok ?_) (fun h2 => ?_)
          · simp only [Bool.false_eq_true, false_iff]
            rintro ⟨h1, _⟩
            have h3 := h1.per; have h4 := h1.delay
            omega
          · have ok : LinkOk t e := ⟨ha, hb, hne, h, by omega, by omega⟩
            refine has_must (by simp only [decide_eq_true_eq]; omega) ?_
            have hlen : (t.Links.take p.toNat).length = p.toNat := by rw [List.length_take]; omega
            refine has_loop (fun i : Int => 0 ≤ i ∧ i ≤ p ∧ Alone t.Links i.toNat e) (fun i => (p - i).toNat) (fun y hy => by omega) ⟨by omega, by omega, fun j f hj => by simp at hj⟩ ?_
            rintro i rec ⟨g0, g1, g2⟩ ih
            unfold m_topo_validLink_l1
            simp only [decide_eq_true_eq, hlen]
            refine has_ite (fun hi => ?_) (fun hi => has_ok ?_)
            · refine has_idx g0 (by rw [hlen]; omega) fun f hf => ?_
              rw [List.getElem?_take_of_lt (by omega)] at hf
              refine has_sh (has_sh ?_)
              refine has_ite (fun hjn => ?_) (fun hjn => ?_)
              · have hjn := joins_dec.1 hjn
                have : ¬ Alone t.Links p.toNat e := fun h => h i.toNat f (by omega) hf hjn
                simp only [g0, this, and_false, iff_false, decide_true, Bool.not_true, Bool.not_false, Bool.false_eq_true, if_false, if_true]
                exact has_ok (by simp)
              · have hjn : ¬ Joins f e.A e.B := fun h => hjn (joins_dec.2 h)
                rw [w64_id (by omega) (by omega)]
                refine ih _ ⟨by omega, by omega, fun j f' hj hf' => ?_⟩ (by omega)
                by_cases hji : j < i.toNat
                · exact g2 j f' hji hf'
                · have : j = i.toNat := by omega
                  rw [this, hf] at hf'; cases hf'; exact hjn
            · have : i = p := by omega
              subst this
              simp [ok, g2]
      · refine has_ite (fun h => ?_) (fun h => ?_)
        · refine hj _ ?_
          have : sa = false := by simpa using h
          subst this
          have : ¬ Seen t.Station e.A := by rw [seen_get ha.1 hsa]; simp
          simp [this]
        · refine has_idx hb.1 (by have := hb.2; omega) fun sb hsb => hj _ ?_
          have h1 : Seen t.Station e.A := by rw [seen_get ha.1 hsa]; simpa using h
          have h2 := seen_get hb.1 hsb
          simp [h1, h2]
  · refine has_ite (fun h => ?_) (fun h => ?_)
    · refine has_beq (isNode_ok _ _) (hj _ ?_)
      have : IsN t e.A := by simpa using h
      simp [this]
    · refine hj _ ?_
      have : ¬ IsN t e.A := by simpa using h
      simp [this]
end Go.AM.P16
namespace Go.AM.P16
open Go
/-- All links end at nodes. -/
def InL (t : ApiTopo) : Prop := ∀ (i : Nat) (e : ApiLink), t.Links[i]? = some e → IsN t e.A ∧ IsN t e.B
def Closed (t : ApiTopo) (cut : List Int) (l : List Bool) : Prop := ∀ (i : Nat) (e : ApiLink), t.Links[i]? = some e → (i : Int) ∉ cut → (Seen l e.A ↔ Seen l e.B)
theorem Closed.all {t : ApiTopo} {cut : List Int} {l : List Bool} {s x : Int} (h : Closed t cut l) (hs : Seen l s) (hx : Rch t cut s x) : Seen l x := by
  induction hx with
  | base => exact hs
  | fwd h1 h2 _ ih => exact (h _ _ h1 h2).1 ih
  | bwd h1 h2 _ ih => exact (h _ _ h1 h2).2 ih
def IsReach (t : ApiTopo) (cut : List Int) (s : Int) (l : List Bool) : Prop := (l.length : Int) = t.Nodes ∧ ∀ x, Seen l x ↔ Rch t cut s x
theorem not_seen {l : List Bool} {i : Int} (h0 : 0 ≤ i) (h1 : i < l.length) (h : ¬ Seen l i) : l[i.toNat]? = some false := by
  have hlt : i.toNat < l.length := by omega
  rw [List.getElem?_eq_getElem hlt]
  cases hb : l[i.toNat] with
  | false => rfl
  | true => exact absurd ⟨h0, by rw [List.getElem?_eq_getElem hlt, hb]⟩ h
theorem reach_has {t : ApiTopo} (ht : Small t) (hi : InL t) {cut : List Int} (hc : cut.length < 1000000) {s : Int} (hs : IsN t s) : Has (m_topo_reach t s cut) (IsReach t cut s) := by
  have hn := ht.n
  have hlk := ht.l
  have hs0 := hs.1
  have hs1 := hs.2
  unfold m_topo_reach
  refine has_must (by simp only [decide_eq_true_eq]; omega) ?_
  have hrl : (List.replicate (t.Nodes).toNat false).length = t.Nodes.toNat := List.length_replicate ..
  refine has_idx hs0 (by rw [hrl]; omega) fun _ _ => ?_
  refine has_loop (fun l : List Bool => (l.length : Int) = t.Nodes ∧ Seen l s ∧ ∀ x, Seen l x → Rch t cut s x) low (fun l hl => by have := low_le l; omega) ⟨by rw [List.length_set, hrl]; omega, (seen_set (by rw [hrl]; omega)).2 (.inr rfl), fun x hx => ?_⟩ ?_
  · rcases (seen_set (by rw [hrl]; omega)).1 hx with h | rfl
    · exact absurd h seen_rep
    · exact .base
  rintro l rec ⟨hl, hls, hlr⟩ ih
  unfold m_topo_reach_l2
  refine has_loop (fun y : Int × List Bool => y.2 = l ∧ 0 ≤ y.1 ∧ y.1 ≤ t.Links.length ∧ ∀ (j : Nat) (e : ApiLink), (j : Int) < y.1 → t.Links[j]? = some e → (j : Int) ∉ cut → (Seen l e.A ↔ Seen l e.B)) (fun y => ((t.Links.length : Int) - y.1).toNat) (fun y hy => by omega) ⟨rfl, by simp, by simp, fun j e hj => by simp at hj; omega⟩ ?_
  rintro ⟨i, l'⟩ rec2 ⟨g0, g1, g2, g3⟩ ih2
  simp only at g0 g1 g2 g3
  subst g0
  unfold m_topo_reach_l1
  simp only [decide_eq_true_eq]
  refine has_ite (fun hil => ?_) (fun hil => ?_)
  rotate_left
  · refine has_ok ⟨hl, fun x => ⟨hlr x, fun hx => ?_⟩⟩
    exact Closed.all (fun j e hj hjc => g3 j e (by have := (List.getElem?_eq_some_iff.1 hj).1; omega) hj hjc) hls hx
  refine has_idx g1 hil fun e he => ?_
  obtain ⟨⟨hA0, hA1⟩, ⟨hB0, hB1⟩⟩ := hi _ _ he
  have hA : 0 ≤ e.A ∧ e.A < 1000000 := ⟨hA0, by omega⟩
  have hB : 0 ≤ e.B ∧ e.B < 1000000 := ⟨hB0, by omega⟩
  have hq1 : (w64 ((w64 (2 * i)).tdiv 2)) = i := by
    rw [w64_id (n := 2 * i) (by omega) (by omega), Int.tdiv_eq_ediv_of_nonneg (by omega), w64_id (by omega) (by omega)]; omega
  have hq2 : (w64 ((w64 ((w64 (2 * i)) + 1)).tdiv 2)) = i := by
    rw [w64_id (n := 2 * i) (by omega) (by omega), w64_id (n := 2 * i + 1) (by omega) (by omega), Int.tdiv_eq_ediv_of_nonneg (by omega), w64_id (by omega) (by omega)]; omega
  have hcast : ((i.toNat : Nat) : Int) = i := by omega
  refine has_beq (from_even g1 (by omega)) ?_
  refine has_idx hA0 (by omega) fun sa hsa => ?_
  have hsa := seen_get hA0 hsa
  refine has_join (fun b => (b = true ↔ Seen l' e.A ∧ ¬ Seen l' e.B)) (fun b hb => ?_) (fun j hj => ?_)
  · refine has_join (fun b => (b = true ↔ (Seen l' e.A ∧ ¬ Seen l' e.B) ∧ i ∉ cut)) (fun b hb => ?_) (fun j hj => ?_)
    · refine has_ite (fun h => ?_) (fun h => ?_)
      · obtain ⟨⟨h1, h2⟩, h3⟩ := hb.1 h
        refine has_beq (to_even hA hB g1 (by omega)) ?_
        refine has_idx hB0 (by omega) fun _ _ => ?_
        refine ih _ ⟨by rw [List.length_set]; exact hl, (seen_set (by omega)).2 (.inl hls), fun x hx => ?_⟩ (by have := low_set (not_seen hB0 (by omega) h2); omega)
        rcases (seen_set (by omega)).1 hx with h | rfl
        · exact hlr x h
        · exact .fwd he (by rw [hcast]; exact h3) (hlr _ h1)
      · have hb1 : ¬ ((Seen l' e.A ∧ ¬ Seen l' e.B) ∧ i ∉ cut) := fun hh => h (hb.2 hh)
        refine has_beq (from_odd g1 (by omega)) ?_
        refine has_idx hB0 (by omega) fun sb hsb => ?_
        have hsb := seen_get hB0 hsb
        refine has_join (fun b => (b = true ↔ Seen l' e.B ∧ ¬ Seen l' e.A)) (fun b hb => ?_) (fun j hj => ?_)
        · refine has_join (fun b => (b = true ↔ (Seen l' e.B ∧ ¬ Seen l' e.A) ∧ i ∉ cut)) (fun b hb => ?_) (fun j hj => ?_)
          · refine has_ite (fun h => ?_) (fun h => ?_)
            · obtain ⟨⟨h1, h2⟩, h3⟩ := hb.1 h
              refine has_beq (to_odd hA hB g1 (by omega)) ?_
              refine has_idx hA0 (by omega) fun _ _ => ?_
              refine ih _ ⟨by rw [List.length_set]; exact hl, (seen_set (by omega)).2 (.inl hls), fun x hx => ?_⟩ (by have := low_set (not_seen hA0 (by omega) h2); omega)
              rcases (seen_set (by omega)).1 hx with h | rfl
              · exact hlr x h
              · exact .bwd he (by rw [hcast]; exact h3) (hlr _ h1)
            · have hb2 : ¬ ((Seen l' e.B ∧ ¬ Seen l' e.A) ∧ i ∉ cut) := fun hh => h (hb.2 hh)
              rw [w64_id (n := i + 1) (by omega) (by omega)]
              refine ih2 _ ⟨rfl, by simp only; omega, by simp only; omega, fun j e' hj hj2 hj3 => ?_⟩ (by simp only; omega)
              simp only at hj
              by_cases hji : (j : Int) < i
              · exact g3 j e' hji hj2 hj3
              · have hjn : j = i.toNat := by omega
                rw [hjn] at hj2 hj3
                rw [he] at hj2; cases hj2
                rw [hcast] at hj3
                by_cases ha : Seen l' e.A <;> by_cases hb : Seen l' e.B <;> simp_all
          · refine has_ite (fun h => ?_) (fun h => ?_)
            · refine has_beq (contains_int hc _) (hj _ ?_)
              rw [hq2]; simp [hb.1 h]
            · refine hj _ ?_
              have : ¬ (Seen l' e.B ∧ ¬ Seen l' e.A) := fun hh => h (hb.2 hh)
              simp [this]
        · refine has_ite (fun h => ?_) (fun h => ?_)
          · refine has_beq (to_odd hA hB g1 (by omega)) ?_
            refine has_idx hA0 (by omega) fun sa2 hsa2 => hj _ ?_
            have hsa2 := seen_get hA0 hsa2
            rw [hsb, hsa2, h]; simp
          · refine hj _ ?_
            rw [hsb]; simp [h]
    · refine has_ite (fun h => ?_) (fun h => ?_)
      · refine has_beq (contains_int hc _) (hj _ ?_)
        rw [hq1]; simp [hb.1 h]
      · refine hj _ ?_
        have : ¬ (Seen l' e.A ∧ ¬ Seen l' e.B) := fun hh => h (hb.2 hh)
        simp [this]
  · refine has_ite (fun h => ?_) (fun h => ?_)
    · refine has_beq (to_even hA hB g1 (by omega)) ?_
      refine has_idx hB0 (by omega) fun sb2 hsb2 => hj _ ?_
      have hsb2 := seen_get hB0 hsb2
      rw [hsa, hsb2, h]; simp
    · refine hj _ ?_
      rw [hsa]; simp [h]
end Go.AM.P16
namespace Go.AM.P16
open Go
theorem Reach_has {t : ApiTopo} (ht : Small t) (hi : InL t) {cut : List Int} (hc : cut.length < 1000000) {s : Int} (hs : IsN t s) : Has (m_isochronref16_Reach t s cut) (IsReach t cut s) := by
  have hn := ht.n
  have hlk := ht.l
  have hs0 := hs.1
  have hs1 := hs.2
  unfold m_isochronref16_Reach
  refine has_must (by simp only [decide_eq_true_eq]; omega) ?_
  have hrl : (List.replicate (t.Nodes).toNat false).length = t.Nodes.toNat := List.length_replicate ..
  refine has_idx hs0 (by rw [hrl]; omega) fun b0 hb0 => ?_
  have hb0' : (List.replicate (t.Nodes).toNat false)[s.toNat]? = some false := by
    rw [List.getElem?_replicate, if_pos (by omega)]
  refine has_loop (fun y : List Bool × Int => 0 ≤ y.2 ∧ y.2 ≤ t.Nodes ∧ (y.1.length : Int) = t.Nodes ∧ Seen y.1 s ∧ (∀ x, Seen y.1 x → Rch t cut s x) ∧ (Closed t cut y.1 ∨ (low y.1 : Int) + y.2 + 1 ≤ t.Nodes)) (fun y => (t.Nodes - y.2).toNat) (fun l hl => by omega) ⟨by simp, by simp only; omega, by rw [List.length_set, hrl]; omega, (seen_set (by rw [hrl]; omega)).2 (.inr rfl), fun x hx => ?_, .inr ?_⟩ ?_
  · rcases (seen_set (by rw [hrl]; omega)).1 hx with h | rfl
    · exact absurd h seen_rep
    · exact .base
  · have h1 := low_set hb0'
    have h2 := low_le (List.replicate (t.Nodes).toNat false)
    rw [hrl] at h2
    simp only
    omega
  rintro ⟨l0, r⟩ rec ⟨hr0, hr1, hl0, hls0, hlr0, hcl⟩ ih
  simp only at hr0 hr1 hl0 hls0 hlr0 hcl
  unfold m_isochronref16_Reach_l2
  simp only [decide_eq_true_eq]
  refine has_ite (fun hrn => ?_) (fun hrn => ?_)
  rotate_left
  · refine has_ok ⟨hl0, fun x => ⟨hlr0 x, fun hx => ?_⟩⟩
    rcases hcl with h | h
    · exact h.all hls0 hx
    · omega
  refine has_loop (fun y : List Bool × Int => 0 ≤ y.2 ∧ y.2 ≤ t.Links.length ∧ (y.1.length : Int) = t.Nodes ∧ Seen y.1 s ∧ (∀ x, Seen y.1 x → Rch t cut s x) ∧ ((y.1 = l0 ∧ ∀ (j : Nat) (e : ApiLink), (j : Int) < y.2 → t.Links[j]? = some e → (j : Int) ∉ cut → (Seen l0 e.A ↔ Seen l0 e.B)) ∨ (low y.1 < low l0 ∧ ¬ Closed t cut l0))) (fun y => ((t.Links.length : Int) - y.2).toNat) (fun y hy => by omega) ⟨by simp, by simp, hl0, hls0, hlr0, .inl ⟨rfl, fun j e hj => by simp at hj; omega⟩⟩ ?_
  rintro ⟨l, i⟩ rec2 ⟨g1, g2, hl, hls, hlr, hd⟩ ih2
  simp only at g1 g2 hl hls hlr hd
  unfold m_isochronref16_Reach_l1
  simp only [decide_eq_true_eq]
  refine has_ite (fun hil => ?_) (fun hil => ?_)
  rotate_left
  · rw [w64_id (by omega) (by omega)]
    refine ih _ ⟨by simp only; omega, by simp only; omega, hl, hls, hlr, ?_⟩ (by simp only; omega)
    simp only
    rcases hd with ⟨rfl, h⟩ | ⟨h1, h2⟩
    · exact .inl fun j e hj hjc => h j e (by have := (List.getElem?_eq_some_iff.1 hj).1; omega) hj hjc
    · rcases hcl with h | h
      · exact absurd h h2
      · exact .inr (by omega)
  refine has_idx g1 hil fun e he => ?_
  obtain ⟨⟨hA0, hA1⟩, ⟨hB0, hB1⟩⟩ := hi _ _ he
  have hcast : ((i.toNat : Nat) : Int) = i := by omega
  refine has_bind (in_ok hc i) fun b hb => ?_
  subst hb
  refine has_join (fun y : List Bool × Bool => y.1 = l ∧ (y.2 = true ↔ i ∉ cut ∧ (Seen l e.A ∨ Seen l e.B))) (fun y hy => ?_) (fun j hj => ?_)
  · obtain ⟨l', fire⟩ := y
    obtain ⟨hy1, hy2⟩ := hy
    simp only at hy1 hy2
    subst hy1
    -- the row after this link
    refine has_join (fun z : List Bool => (z.length : Int) = t.Nodes ∧ Seen z s ∧ (∀ x, Seen z x → Rch t cut s x) ∧ ((z = l' ∧ (i ∉ cut → (Seen l' e.A ↔ Seen l' e.B))) ∨ (low z < low l' ∧ i ∉ cut ∧ ¬ (Seen l' e.A ↔ Seen l' e.B)))) (fun z hz => ?_) (fun j hj => ?_)
    · obtain ⟨k1, k2, k3, k4⟩ := hz
      rw [w64_id (by omega) (by omega)]
      refine ih2 _ ⟨by simp only; omega, by simp only; omega, k1, k2, k3, ?_⟩ (by simp only; omega)
      simp only
      rcases hd with ⟨rfl, h⟩ | ⟨h1, h2⟩
      · rcases k4 with ⟨k4, k5⟩ | ⟨k4, k5, k6⟩
        · refine .inl ⟨k4, fun j e' hj hj2 hj3 => ?_⟩
          by_cases hji : (j : Int) < i
          · exact h j e' hji hj2 hj3
          · have hjn : j = i.toNat := by omega
            rw [hjn] at hj2 hj3
            rw [he] at hj2; cases hj2
            rw [hcast] at hj3
            exact k5 hj3
        · exact .inr ⟨k4, fun hcd => k6 (hcd _ _ he (by rw [hcast]; exact k5))⟩
      · refine .inr ⟨?_, h2⟩
        rcases k4 with ⟨k4, k5⟩ | ⟨k4, k5, k6⟩
        · rw [k4]; exact h1
        · omega
    · refine has_ite (fun h => ?_) (fun h => ?_)
      · obtain ⟨hnc, hor⟩ := hy2.1 h
        simp only
        refine has_idx hA0 (by omega) fun _ _ => ?_
        refine has_idx hB0 (by rw [List.length_set]; omega) fun _ _ => hj _ ?_
        refine ⟨by rw [List.length_set, List.length_set]; exact hl, ?_, fun x hx => ?_, ?_⟩
        · rw [seen_set (by rw [List.length_set]; omega), seen_set (by omega)]; exact .inl (.inl hls)
        · rw [seen_set (by rw [List.length_set]; omega), seen_set (by omega)] at hx
          have hab : Rch t cut s e.A ∧ Rch t cut s e.B := by
            rcases hor with h | h
            · exact ⟨hlr _ h, .fwd he (by rw [hcast]; exact hnc) (hlr _ h)⟩
            · exact ⟨.bwd he (by rw [hcast]; exact hnc) (hlr _ h), hlr _ h⟩
          rcases hx with (h | rfl) | rfl
          · exact hlr _ h
          · exact hab.1
          · exact hab.2
        · by_cases ha : Seen l' e.A
          · rw [set_self ha.2]
            by_cases hb : Seen l' e.B
            · rw [set_self hb.2]; exact .inl ⟨rfl, fun _ => by simp [ha, hb]⟩
            · exact .inr ⟨by have := low_set (not_seen hB0 (by omega) hb); omega, hnc, by simp [ha, hb]⟩
          · have hb : Seen l' e.B := hor.resolve_left ha
            refine .inr ⟨?_, hnc, by simp [ha, hb]⟩
            have h1 := low_set (not_seen hA0 (by omega) ha)
            have h2 := low_set_le (l := l'.set e.A.toNat true) (i := e.B.toNat)
            omega
      · refine hj _ ⟨hl, hls, hlr, .inl ⟨rfl, fun hnc => ?_⟩⟩
        have : ¬ (Seen l' e.A ∨ Seen l' e.B) := fun hh => h (hy2.2 ⟨hnc, hh⟩)
        by_cases ha : Seen l' e.A <;> by_cases hb : Seen l' e.B <;> simp_all
  · refine has_ite (fun h => ?_) (fun h => ?_)
    · have hnc : i ∉ cut := by simpa using h
      refine has_idx hA0 (by first | omega | (simp only; omega)) fun sa hsa => ?_
      have hsa := seen_get hA0 hsa
      refine has_ite (fun h2 => hj _ ⟨rfl, ?_⟩) (fun h2 => ?_)
      · simp [hnc, hsa, h2]
      · refine has_idx hB0 (by first | omega | (simp only; omega)) fun sb hsb => hj _ ⟨rfl, ?_⟩
        have hsb := seen_get hB0 hsb
        simp [hnc, hsa, hsb, h2]
    · refine hj _ ⟨rfl, ?_⟩
      have : i ∈ cut := by simpa using h
      simp [this]
end Go.AM.P16
namespace Go.AM.P16
open Go
theorem IsReach.whole {t : ApiTopo} {l : List Bool} (h : IsReach t [] 0 l) : false ∈ l ↔ ¬ ∀ n, IsN t n → Rch t [] 0 n := by
  obtain ⟨h1, h2⟩ := h
  constructor
  · intro hm hall
    obtain ⟨i, hi⟩ := List.mem_iff_getElem?.1 hm
    have hlt := (List.getElem?_eq_some_iff.1 hi).1
    have := (h2 (i : Int)).2 (hall i ⟨by omega, by omega⟩)
    obtain ⟨_, h⟩ := this
    rw [show ((i : Int).toNat) = i from rfl, hi] at h
    cases h
  · intro hn
    by_cases hf : false ∈ l
    · exact hf
    · refine absurd (fun n hnn => (h2 n).1 ?_) hn
      by_cases hs : Seen l n
      · exact hs
      · exact absurd (List.mem_of_getElem? (not_seen hnn.1 (by have := hnn.2; omega) hs)) hf
theorem LinksOk.inl {t : ApiTopo} (h : LinksOk t) : InL t := fun i e he => ⟨(h i e he).1.a, (h i e he).1.b⟩
def CheckIs (t : ApiTopo) (r : Int) : Prop := (Fit t ∧ r = 0) ∨ (¬ Fit t ∧ r = 260)
theorem small_dec {t : ApiTopo} : ((((decide (t.Nodes < 2)) || (decide (12 < t.Nodes))) || (decide ((t.Station.length : Int) ≠ t.Nodes))) || (decide (24 < (t.Links.length : Int)))) = true ↔ ¬ Small t := by
  simp only [Bool.or_eq_true, decide_eq_true_eq]
  constructor
  · intro h hs
    have h1 := hs.n; have h2 := hs.s; have h3 := hs.l
    omega
  · intro h
    by_cases h1 : t.Nodes < 2
    · exact .inl (.inl (.inl h1))
    by_cases h2 : 12 < t.Nodes
    · exact .inl (.inl (.inr h2))
    by_cases h3 : (t.Station.length : Int) = t.Nodes
    · refine .inr ?_
      by_cases h4 : t.Links.length ≤ 24
      · exact absurd ⟨⟨by omega, by omega⟩, h3, h4⟩ h
      · omega
    · exact .inl (.inr h3)
theorem Check_has (t : ApiTopo) : Has (m_topo_Check t) (CheckIs t) := by
  unfold m_topo_Check
  refine has_sh (has_sh (has_sh ?_))
  refine has_ite (fun h => has_ok ?_) (fun h => ?_)
  · exact .inr ⟨fun hf => small_dec.1 h hf.small, rfl⟩
  have ht : Small t := Classical.not_not.1 fun hn => h (small_dec.2 hn)
  have hn := ht.n
  have hlk := ht.l
  have hst := ht.s
  refine has_loop (fun i : Int => 0 ≤ i ∧ i ≤ t.Links.length ∧ ∀ (j : Nat) (e : ApiLink), (j : Int) < i → t.Links[j]? = some e → LinkOk t e ∧ Alone t.Links j e) (fun i => ((t.Links.length : Int) - i).toNat) (fun y hy => by omega) ⟨by omega, by omega, fun j e hj => by omega⟩ ?_
  rintro i rec ⟨g0, g1, g2⟩ ih
  unfold m_topo_Check_l2
  simp only [decide_eq_true_eq]
  refine has_ite (fun hi => ?_) (fun hi => ?_)
  · obtain ⟨e, he⟩ : ∃ e, t.Links[i.toNat]? = some e := ⟨_, List.getElem?_eq_getElem (by omega)⟩
    refine has_bind (validLink_has ht g0 he) fun r hr => ?_
    refine has_ite (fun h => has_ok ?_) (fun h => ?_)
    · refine .inr ⟨fun hf => ?_, rfl⟩
      rw [hr.2 (hf.links _ _ he)] at h
      cases h
    · have h : r = true := by simpa using h
      rw [w64_id (by omega) (by omega)]
      refine ih _ ⟨by omega, by omega, fun j f hj hf => ?_⟩ (by omega)
      by_cases hji : (j : Int) < i
      · exact g2 j f hji hf
      · have : j = i.toNat := by omega
        subst this
        rw [he] at hf; cases hf
        exact hr.1 h
  have hL : LinksOk t := fun j e he => g2 j e (by have := (List.getElem?_eq_some_iff.1 he).1; omega) he
  refine has_loop (fun i : Int => 0 ≤ i ∧ i ≤ t.Station.length ∧ ∀ n : Int, n < i → Seen t.Station n → 1 ≤ cnt t.Links n ∧ cnt t.Links n ≤ 2) (fun i => ((t.Station.length : Int) - i).toNat) (fun y hy => by omega) ⟨by omega, by omega, fun n hn hs => by have := hs.1; omega⟩ ?_
  rintro k rec2 ⟨k0, k1, k2⟩ ih2
  unfold m_topo_Check_l1
  simp only [decide_eq_true_eq]
  refine has_ite (fun hk => ?_) (fun hk => ?_)
  · refine has_idx k0 hk fun b hb => ?_
    have hb := seen_get k0 hb
    refine has_join (fun s => (s = true ↔ Seen t.Station k ∧ ¬ (1 ≤ cnt t.Links k ∧ cnt t.Links k ≤ 2))) (fun s hs => ?_) (fun j hj => ?_)
    · refine has_ite (fun h => has_ok ?_) (fun h => ?_)
      · obtain ⟨h1, h2⟩ := hs.1 h
        exact .inr ⟨fun hf => h2 (hf.stations k ⟨k0, by omega⟩ h1), rfl⟩
      · rw [w64_id (by omega) (by omega)]
        refine ih2 _ ⟨by omega, by omega, fun n hn hsn => ?_⟩ (by omega)
        by_cases hnk : n < k
        · exact k2 n hnk hsn
        · have : n = k := by omega
          subst this
          exact Decidable.byContradiction fun hh => h (hs.2 ⟨hsn, hh⟩)
    · refine has_ite (fun h => ?_) (fun h => ?_)
      · refine has_beq (degree_ok hlk k) ?_
        have hsn := hb.2 h
        refine has_ite (fun h2 => hj _ ?_) (fun h2 => ?_)
        · simp only [true_iff]; exact ⟨hsn, by omega⟩
        · refine has_beq (degree_ok hlk k) (hj _ ?_)
          simp only [decide_eq_true_eq]
          exact ⟨fun h3 => ⟨hsn, by omega⟩, fun ⟨_, h3⟩ => by omega⟩
      · refine hj _ ?_
        have : ¬ Seen t.Station k := fun hh => h (hb.1 hh)
        simp [this]
  · refine has_bind (reach_has ht hL.inl (cut := []) (by simp) (s := 0) ⟨by omega, by omega⟩) fun l hl => ?_
    have hw := hl.whole
    refine has_beq (contains_bool (by have := hl.1; omega) false) ?_
    refine has_ite (fun h => has_ok ?_) (fun h => has_ok ?_)
    · exact .inr ⟨fun hf => hw.1 (by simpa using h) hf.whole, rfl⟩
    · have h : ¬ false ∈ l := by simpa using h
      refine .inl ⟨⟨ht, hL, fun n hn hs => k2 n (by have := hs.lt; omega) hs, ?_⟩, rfl⟩
      exact Classical.not_not.1 fun hh => h (hw.2 hh)
/-! ### The reference -/
theorem node_ok (t : ApiTopo) (n : Int) : m_isochronref16_node t n = .ok (decide (IsN t n)) := by
  unfold m_isochronref16_node sh
  by_cases h1 : 0 ≤ n <;> by_cases h2 : n < t.Nodes <;> simp [IsN, h1, h2]
theorem joins_ok (e : ApiLink) (a b : Int) : Has (m_isochronref16_Joins e a b) (fun r => (r = true ↔ Joins e a b)) := by
  unfold m_isochronref16_Joins
  exact has_sh (has_sh (has_ok joins_dec))
theorem link_has {t : ApiTopo} (ht : Small t) (e : ApiLink) : Has (m_isochronref16_link t e) (fun r => (r = true ↔ LinkOk t e)) := by
  have hs := ht.s
  unfold m_isochronref16_link
  refine has_beq (node_ok _ _) ?_
  refine has_join (fun s => (s = true ↔ ¬ (IsN t e.A ∧ IsN t e.B))) (fun s hs1 => ?_) (fun j hj => ?_)
  · refine has_sh ?_
    refine has_join (fun s => (s = true ↔ ¬ (IsN t e.A ∧ IsN t e.B ∧ e.A ≠ e.B ∧ ¬ (Seen t.Station e.A ∧ Seen t.Station e.B)))) (fun s hs2 => ?_) (fun j hj => ?_)
    · refine has_ite (fun h => has_ok ?_) (fun h => ?_)
      · simp only [Bool.false_eq_true, false_iff]
        exact fun hl => hs2.1 h ⟨hl.a, hl.b, hl.ne, hl.st⟩
      · have h : IsN t e.A ∧ IsN t e.B ∧ e.A ≠ e.B ∧ ¬ (Seen t.Station e.A ∧ Seen t.Station e.B) := Classical.not_not.1 fun hh => h (hs2.2 hh)
        refine has_sh (has_sh (has_sh (has_ok ?_)))
        simp only [Bool.and_eq_true, decide_eq_true_eq]
        exact ⟨fun hh => ⟨h.1, h.2.1, h.2.2.1, h.2.2.2, by omega, by omega⟩, fun hl => ⟨⟨hl.per, hl.delay.1⟩, hl.delay.2⟩⟩
    · refine has_ite (fun h => hj _ ?_) (fun h => ?_)
      · simp only [true_iff]
        rintro ⟨h1, h2, h3, _⟩
        simp only [Bool.or_eq_true, decide_eq_true_eq] at h
        rcases h with h | h
        · exact hs1.1 h ⟨h1, h2⟩
        · exact h3 h
      · have hab : IsN t e.A ∧ IsN t e.B := Classical.not_not.1 fun hh => h (by simp [hs1.2 hh])
        have hne : e.A ≠ e.B := fun hh => h (by simp [hh])
        obtain ⟨ha, hb⟩ := hab
        refine has_idx ha.1 (by have := ha.2; omega) fun sa hsa => ?_
        have hsa := seen_get ha.1 hsa
        refine has_ite (fun h1 => ?_) (fun h1 => ?_)
        · refine has_idx hb.1 (by have := hb.2; omega) fun sb hsb => hj _ ?_
          have hsb := seen_get hb.1 hsb
          have h1 := hsa.2 h1
          rw [← hsb]
          simp [ha, hb, hne, h1]
        · refine hj _ ?_
          have : ¬ Seen t.Station e.A := fun hh => h1 (hsa.1 hh)
          simp [ha, hb, hne, this]
  · refine has_ite (fun h => hj _ ?_) (fun h => ?_)
    · have : ¬ IsN t e.A := by simpa using h
      simp [this]
    · refine has_beq (node_ok _ _) (hj _ ?_)
      have : IsN t e.A := by simpa using h
      simp [this]
def RightIs (t : ApiTopo) (r : Bool) : Prop := (r = true ↔ Fit t)
theorem Right_has (t : ApiTopo) : Has (m_isochronref16_Right t) (RightIs t) := by
  unfold m_isochronref16_Right
  refine has_sh (has_sh (has_sh ?_))
  refine has_ite (fun h => has_ok ?_) (fun h => ?_)
  · exact ⟨fun h => by simp at h, fun hf => absurd hf.small (small_dec.1 h)⟩
  have ht : Small t := Classical.not_not.1 fun hn => h (small_dec.2 hn)
  have hn := ht.n
  have hlk := ht.l
  have hst := ht.s
  refine has_must (by simp only [decide_eq_true_eq]; omega) ?_
  have bad : ∀ {p : Prop}, (Fit t → p) → ¬ p → RightIs t false := fun h1 h2 => ⟨fun h => (by simp at h), fun hf => absurd (h1 hf) h2⟩
  refine has_loop (fun y : List Int × Int => 0 ≤ y.2 ∧ y.2 ≤ t.Links.length ∧ (y.1.length : Int) = t.Nodes ∧ (∀ n, IsN t n → y.1[n.toNat]? = some (cnt (t.Links.take y.2.toNat) n)) ∧ ∀ (j : Nat) (e : ApiLink), (j : Int) < y.2 → t.Links[j]? = some e → LinkOk t e ∧ Alone t.Links j e) (fun y => ((t.Links.length : Int) - y.2).toNat) (fun y hy => by omega) ⟨by simp, by simp, by simp only [List.length_replicate]; omega, fun n hn' => ?_, fun j e hj => by simp at hj; omega⟩ ?_
  · rw [List.getElem?_replicate, if_pos (by have := hn'.1; have := hn'.2; omega)]
    rfl
  rintro ⟨c, i⟩ rec ⟨g0, g1, gl, gc, g2⟩ ih
  simp only at g0 g1 gl gc g2
  unfold m_isochronref16_Right_l3
  simp only [decide_eq_true_eq]
  refine has_ite (fun hi => ?_) (fun hi => ?_)
  · refine has_idx g0 hi fun e he => ?_
    refine has_bind (link_has ht e) fun r hr => ?_
    refine has_ite (fun h => has_ok ?_) (fun h => ?_)
    · have h : r = false := by simpa using h
      exact bad (fun hf => (hf.links _ _ he).1) (fun hh => by rw [hr.2 hh] at h; cases h)
    have hlok := hr.1 (by simpa using h)
    have ha := hlok.a
    have hb := hlok.b
    have hne := hlok.ne
    refine has_loop (fun j : Int => 0 ≤ j ∧ j ≤ i ∧ Alone t.Links j.toNat e) (fun j => (i - j).toNat) (fun y hy => by omega) ⟨by omega, by omega, fun j f hj => by simp at hj⟩ ?_
    rintro j rec2 ⟨j0, j1, j2⟩ ih2
    unfold m_isochronref16_Right_l1
    simp only [decide_eq_true_eq]
    refine has_ite (fun hj => ?_) (fun hj => ?_)
    · refine has_idx j0 (by omega) fun f hf => ?_
      refine has_bind (joins_ok f e.A e.B) fun b hb => ?_
      refine has_ite (fun h => has_ok ?_) (fun h => ?_)
      · exact bad (fun hf => (hf.links _ _ he).2) (fun hh => hh j.toNat f (by omega) hf (hb.1 h))
      · rw [w64_id (by omega) (by omega)]
        refine ih2 _ ⟨by omega, by omega, fun k f' hk hf' => ?_⟩ (by omega)
        by_cases hkj : k < j.toNat
        · exact j2 k f' hkj hf'
        · have : k = j.toNat := by omega
          rw [this, hf] at hf'; cases hf'
          exact fun hh => h (hb.2 hh)
    · have hji : j = i := by omega
      subst hji
      have hrA := cnt_range (t.Links.take j.toNat) e.A
      have hrB := cnt_range (t.Links.take j.toNat) e.B
      have hlen : (t.Links.take j.toNat).length ≤ 24 := by rw [List.length_take]; omega
      have hA := gc _ ha
      have hB := gc _ hb
      have hneN : e.A.toNat ≠ e.B.toNat := by have := ha.1; have := hb.1; omega
      have hltA : e.A.toNat < c.length := by have := ha.1; have := ha.2; omega
      have hltB : e.B.toNat < c.length := by have := hb.1; have := hb.2; omega
      refine has_beq (idx_ok.2 ⟨ha.1, hA⟩) ?_
      refine has_beq (idx_ok.2 ⟨ha.1, hA⟩) ?_
      have hB' : (c.set e.A.toNat (w64 (cnt (t.Links.take j.toNat) e.A + 1)))[e.B.toNat]? = some (cnt (t.Links.take j.toNat) e.B) := by
        rw [List.getElem?_set_ne hneN]; exact hB
      refine has_beq (idx_ok.2 ⟨hb.1, hB'⟩) ?_
      refine has_beq (idx_ok.2 ⟨hb.1, hB'⟩) ?_
      rw [w64_id (n := j + 1) (by omega) (by omega), w64_id (n := cnt (t.Links.take j.toNat) e.A + 1) (by omega) (by omega), w64_id (n := cnt (t.Links.take j.toNat) e.B + 1) (by omega) (by omega)]
      refine ih _ ⟨by simp only; omega, by simp only; omega, by simp only [List.length_set]; exact gl, fun n hn' => ?_, fun k f hk hf => ?_⟩ (by simp only; omega)
      · have h1 : (j + 1).toNat = j.toNat + 1 := by omega
        simp only
        rw [h1, cnt_take he]
        have h0 := hn'.1
        have hA0 := ha.1
        have hB0 := hb.1
        by_cases hb1 : e.B = n
        · subst hb1
          rw [List.getElem?_set_self (by rw [List.length_set]; exact hltB)]
          simp [ends, hne]
        · rw [List.getElem?_set_ne (by omega)]
          by_cases ha1 : e.A = n
          · subst ha1
            rw [List.getElem?_set_self hltA]
            simp [ends, hb1]
          · rw [List.getElem?_set_ne (by omega), gc _ hn']
            simp [ends, ha1, hb1]
      · simp only at hk
        by_cases hkj : (k : Int) < j
        · exact g2 k f hkj hf
        · have : k = j.toNat := by omega
          subst this
          rw [he] at hf; cases hf
          exact ⟨hlok, j2⟩
  have hL : LinksOk t := fun j e he => g2 j e (by have := (List.getElem?_eq_some_iff.1 he).1; omega) he
  have hc : ∀ n, IsN t n → c[n.toNat]? = some (cnt t.Links n) := fun n hn' => by
    rw [gc n hn', List.take_of_length_le (by omega)]
  refine has_bind (Reach_has ht hL.inl (cut := []) (by simp) (s := 0) ⟨by omega, by omega⟩) fun l hl => ?_
  obtain ⟨hll, hlr⟩ := hl
  refine has_loop (fun y : List Int × List Bool × Int => y.1 = c ∧ y.2.1 = l ∧ 0 ≤ y.2.2 ∧ y.2.2 ≤ t.Nodes ∧ ∀ n : Int, 0 ≤ n → n < y.2.2 → Rch t [] 0 n ∧ (Seen t.Station n → 1 ≤ cnt t.Links n ∧ cnt t.Links n ≤ 2)) (fun y => (t.Nodes - y.2.2).toNat) (fun y hy => by omega) ⟨rfl, rfl, by simp, by simp only; omega, fun n hn hs => by simp only at hs; omega⟩ ?_
  rintro ⟨c', l', k⟩ rec2 ⟨k0, k1, k2, k3, k4⟩ ih2
  simp only at k0 k1 k2 k3 k4
  subst k0 k1
  unfold m_isochronref16_Right_l2
  simp only [decide_eq_true_eq]
  refine has_ite (fun hk => ?_) (fun hk => ?_)
  · have hkn : IsN t k := ⟨k2, hk⟩
    refine has_idx k2 (by first | omega | (simp only; omega)) fun b hb => ?_
    have hb := seen_get k2 hb
    refine has_join (fun s : List Int × Bool => s.1 = c' ∧ (s.2 = true ↔ ¬ (Rch t [] 0 k ∧ (Seen t.Station k → 1 ≤ cnt t.Links k ∧ cnt t.Links k ≤ 2)))) (fun s hs => ?_) (fun j hj => ?_)
    · obtain ⟨s1, s2⟩ := s
      obtain ⟨hs1, hs2⟩ := hs
      simp only at hs1 hs2
      subst hs1
      refine has_ite (fun h => has_ok ?_) (fun h => ?_)
      · exact bad (fun hf => ⟨hf.whole k hkn, hf.stations k hkn⟩) (hs2.1 h)
      · have h := Classical.not_not.1 fun hh => h (hs2.2 hh)
        rw [w64_id (by first | omega | (simp only; omega)) (by first | omega | (simp only; omega))]
        refine ih2 _ ⟨rfl, rfl, by simp only; omega, by simp only; omega, fun n hn0 hn1 => ?_⟩ (by simp only; omega)
        simp only at hn1
        by_cases hnk : n < k
        · exact k4 n hn0 hnk
        · have : n = k := by omega
          subst this
          exact h
    · refine has_ite (fun h => hj _ ⟨rfl, ?_⟩) (fun h => ?_)
      · have h : b = false := by simpa using h
        have : ¬ Rch t [] 0 k := fun hh => by rw [hb.1 ((hlr k).2 hh)] at h; cases h
        simp [this]
      · have h : b = true := by simpa using h
        have hr : Rch t [] 0 k := (hlr k).1 (hb.2 h)
        refine has_idx k2 (by first | omega | (simp only; omega)) fun sb hsb => ?_
        have hsb := seen_get k2 hsb
        refine has_ite (fun h1 => ?_) (fun h1 => hj _ ⟨rfl, ?_⟩)
        · have h1 := hsb.2 h1
          refine has_beq (idx_ok.2 ⟨k2, hc k hkn⟩) ?_
          refine has_ite (fun h2 => hj _ ⟨rfl, ?_⟩) (fun h2 => ?_)
          · simp only [true_iff]; exact fun hh => by have := hh.2 h1; omega
          · refine has_beq (idx_ok.2 ⟨k2, hc k hkn⟩) (hj _ ⟨rfl, ?_⟩)
            simp only [decide_eq_true_eq]
            exact ⟨fun h3 hh => by have := hh.2 h1; omega, fun hh => Decidable.byContradiction fun h3 => hh ⟨hr, fun _ => by omega⟩⟩
        · have : ¬ Seen t.Station k := fun hh => h1 (hsb.1 hh)
          simp [this, hr]
  · refine has_ok ⟨fun _ => ⟨ht, hL, fun n hn' hs => (k4 n hn'.1 (by have := hn'.2; omega)).2 hs, fun n hn' => (k4 n hn'.1 (by have := hn'.2; omega)).1⟩, fun _ => rfl⟩
end Go.AM.P16
namespace Go.AM.P16
open Go
theorem Check_fit {t : ApiTopo} (h : Fit t) : m_topo_Check t = .ok 0 := by
  obtain ⟨r, h1, h2⟩ := Check_has t
  rcases h2 with ⟨_, rfl⟩ | ⟨h2, _⟩
  · exact h1
  · exact absurd h h2
theorem Check_unfit {t : ApiTopo} (h : ¬ Fit t) : m_topo_Check t = .ok 260 := by
  obtain ⟨r, h1, h2⟩ := Check_has t
  rcases h2 with ⟨h2, rfl⟩ | ⟨h2, rfl⟩
  · exact absurd h2 h
  · exact h1
theorem Right_fit {t : ApiTopo} (h : Fit t) : m_isochronref16_Right t = .ok true := by
  obtain ⟨r, h1, h2⟩ := Right_has t
  rw [h1, h2.2 h]
theorem Right_unfit {t : ApiTopo} (h : ¬ Fit t) : m_isochronref16_Right t = .ok false := by
  obtain ⟨r, h1, h2⟩ := Right_has t
  rw [h1]
  cases hr : r with
  | true => exact absurd (h2.1 hr) h
  | false => rfl
end Go.AM.P16
namespace Go.AM.P16
open Go
def IsP (t : ApiTopo) (p : Int) : Prop := 0 ≤ p ∧ p < 2 * t.Links.length
instance (t : ApiTopo) (p : Int) : Decidable (IsP t p) := inferInstanceAs (Decidable (_ ∧ _))
theorem w2l {t : ApiTopo} (h : Small t) : w64 (2 * (t.Links.length : Int)) = 2 * t.Links.length := by
  have := h.l
  rw [w64_id (by omega) (by omega)]
theorem half {p : Int} (h0 : 0 ≤ p) (h1 : p < 1000000) : w64 (p.tdiv 2) = p / 2 := by
  rw [Int.tdiv_eq_ediv_of_nonneg h0, w64_id (by omega) (by omega)]
/-- What stands at a port. -/
def pq (t : ApiTopo) (p : Int) (g : TopoEnd → R Int) : R (Int × Int) :=
  bindR (m_topo_Check t) fun e =>
  if (decide (e ≠ 0)) then (.ok (0, e))
  else (sh ((decide (p < 0)) || (decide ((w64 (2 * (t.Links.length : Int))) ≤ p))) fun (s : Bool) =>
  (if s then (.ok (0, 2))
  else (bindR (idx t.Links (w64 (Int.tdiv p 2))) fun e1 =>
  bindR (g ((TopoEnd.mk e1 p))) fun e2 =>
  .ok (e2, 0))))
theorem isp_dec {t : ApiTopo} (h : Small t) {p : Int} : ((decide (p < 0)) || (decide ((w64 (2 * (t.Links.length : Int))) ≤ p))) = decide (¬ IsP t p) := by
  rw [w2l h]
  by_cases h1 : p < 0 <;> by_cases h2 : 2 * (t.Links.length : Int) ≤ p <;> simp [IsP, h1, h2] <;> omega
theorem pq_in {t : ApiTopo} (h : Fit t) {p : Int} (hp : IsP t p) {e : ApiLink} (he : t.Links[(p / 2).toNat]? = some e) {g : TopoEnd → R Int} {v : Int} (hg : g ⟨e, p⟩ = .ok v) : pq t p g = .ok (v, 0) := by
  have := h.small.l
  obtain ⟨h0, h1⟩ := hp
  unfold pq
  rw [Check_fit h, isp_dec h.small, half h0 (by omega)]
  have : idx t.Links (p / 2) = .ok e := idx_ok.2 ⟨by omega, he⟩
  simp [bindR, sh, IsP, h0, h1, this, hg]
theorem refFrom {t : ApiTopo} {p : Int} (h0 : 0 ≤ p) (h1 : p < 1000000) {e : ApiLink} (he : t.Links[(p / 2).toNat]? = some e) : m_isochronref16_From t p = .ok (if p.tmod 2 = 0 then e.A else e.B) := by
  unfold m_isochronref16_From
  have : idx t.Links (p / 2) = .ok e := idx_ok.2 ⟨by omega, he⟩
  rw [half h0 h1, this]
  simp only [bindR, decide_eq_true_eq, Int.tmod_eq_emod_of_nonneg h0]
  by_cases h : p % 2 = 0
  · rw [if_neg (by omega), if_pos h]
  · rw [if_pos (by omega), if_neg h]
theorem refTo {t : ApiTopo} {p : Int} (h0 : 0 ≤ p) (h1 : p < 1000000) {e : ApiLink} (he : t.Links[(p / 2).toNat]? = some e) : m_isochronref16_To t p = .ok (if p.tmod 2 = 0 then e.B else e.A) := by
  unfold m_isochronref16_To
  have : idx t.Links (p / 2) = .ok e := idx_ok.2 ⟨by omega, he⟩
  rw [half h0 h1, this]
  simp only [bindR, decide_eq_true_eq, Int.tmod_eq_emod_of_nonneg h0]
  by_cases h : p % 2 = 0
  · rw [if_neg (by omega), if_pos h]
  · rw [if_pos (by omega), if_neg h]
theorem portlink {t : ApiTopo} {p : Int} (hp : IsP t p) : ∃ e, t.Links[(p / 2).toNat]? = some e := by
  obtain ⟨h0, h1⟩ := hp
  exact ⟨_, List.getElem?_eq_getElem (by omega)⟩

end Go.AM.P16
namespace Go.AM.P16
open Go
/-! ### The law of the ports -/
end Go.AM.P16
namespace Go.AM.P16
open Go
/-! ### Rows that are alike -/
theorem equal_int {a b : List Int} (ha : a.length < 1000000) : m_slices_Equal_int_int a b = .ok (decide (a = b)) := by
  refine Has.eq ?_
  unfold m_slices_Equal_int_int
  simp only [decide_eq_true_eq, ne_eq]
  refine has_ite (fun h => has_ok ?_) (fun h => ?_)
  · have : a ≠ b := fun e => h (by rw [e])
    simp [this]
  refine has_loop (fun i : Int => 0 ≤ i ∧ i ≤ a.length ∧ ∀ j : Nat, (j : Int) < i → a[j]? = b[j]?) (fun i => ((a.length : Int) - i).toNat) (fun y hy => by omega) ⟨by omega, by omega, fun j hj => by omega⟩ ?_
  rintro i rec ⟨h0, h1, h2⟩ ih
  unfold m_slices_Equal_int_int_l1
  simp only [decide_eq_true_eq, ne_eq]
  refine has_ite (fun hi => ?_) (fun hi => ?_)
  · refine has_idx h0 hi fun x hx => ?_
    refine has_idx h0 (by omega) fun y hy => ?_
    refine has_ite (fun he => has_ok ?_) (fun he => ?_)
    · have : a ≠ b := fun e => by
        rw [e, hy] at hx; cases hx; simp at he
      simp [this]
    · have he : x = y := by simpa using he
      rw [w64_id (by omega) (by omega)]
      refine ih _ ⟨by omega, by omega, fun j hj => ?_⟩ (by omega)
      by_cases hji : (j : Int) < i
      · exact h2 j hji
      · have : j = i.toNat := by omega
        rw [this, hx, hy, he]
  · refine has_ok ?_
    have : a = b := List.ext_getElem? fun j => by
      by_cases hj : j < a.length
      · exact h2 j (by omega)
      · rw [List.getElem?_eq_none (by omega), List.getElem?_eq_none (by omega)]
    simp [this]

end Go.AM.P16
namespace Go.AM.P16
open Go
/-! ### Which ports -/
theorem okLen_ok {n : Nat} (h : n ≤ 1000000000) : okLen n = true := by unfold okLen; rw [Nat.ble_eq]; exact h
/-! ### The port that leads from one to another -/
/-! ### The law of finding -/
end Go.AM.P16
namespace Go.AM.P16
open Go
def Alike (t u : ApiTopo) : Prop := t.Nodes = u.Nodes ∧ t.Station = u.Station ∧ t.Links = u.Links
theorem Alike.symm {t u : ApiTopo} (h : Alike t u) : Alike u t := ⟨h.1.symm, h.2.1.symm, h.2.2.symm⟩
theorem bool_eq {a b : Bool} {p : Prop} (h1 : a = true ↔ p) (h2 : b = true ↔ p) : a = b := by
  cases a <;> cases b <;> simp_all
end Go.AM.P16
namespace Go.AM.P16
open Go
/-! ### Topologies that a draft describes -/
end Go.AM.P16
namespace Go.AM.P16
open Go
theorem Joins.ends {f : ApiLink} {a b : Int} (h : Joins f a b) : 1 ≤ ends f a ∧ 1 ≤ ends f b := by
  unfold P16.ends
  rcases h with ⟨h1, h2⟩ | ⟨h1, h2⟩
  · simp only [h1, h2, if_true]; constructor <;> (split <;> omega)
  · simp only [h1, h2, if_true]; constructor <;> (split <;> omega)
theorem Rch.links {t u : ApiTopo} {s x : Int} (hsub : ∀ (i : Nat) (e : ApiLink), t.Links[i]? = some e → ∃ j : Nat, u.Links[j]? = some e) (h : Rch t [] s x) : Rch u [] s x := by
  induction h with
  | base => exact .base
  | fwd h1 _ _ ih => obtain ⟨j, hj⟩ := hsub _ _ h1; exact .fwd hj (by simp) ih
  | bwd h1 _ _ ih => obtain ⟨j, hj⟩ := hsub _ _ h1; exact .bwd hj (by simp) ih
theorem Rch.step {t : ApiTopo} {cut : List Int} {s a b : Int} {i : Nat} {f : ApiLink} (h : t.Links[i]? = some f) (hc : (i : Int) ∉ cut) (hj : Joins f a b) : (Rch t cut s a ↔ Rch t cut s b) := by
  rcases hj with ⟨rfl, rfl⟩ | ⟨rfl, rfl⟩
  · exact ⟨fun hh => .fwd h hc hh, fun hh => .bwd h hc hh⟩
  · exact ⟨fun hh => .bwd h hc hh, fun hh => .fwd h hc hh⟩
theorem LinkOk.congr {t u : ApiTopo} (h1 : t.Nodes = u.Nodes) (h2 : t.Station = u.Station) {e : ApiLink} (h : LinkOk t e) : LinkOk u e :=
  ⟨by have := h.a; unfold IsN at *; rw [← h1]; exact this, by have := h.b; unfold IsN at *; rw [← h1]; exact this, h.ne, by rw [← h2]; exact h.st, h.per, h.delay⟩
end Go.AM.P16
namespace Go.AM.P16
open Go
section
end
end Go.AM.P16
namespace Go.AM.P16
open Go
section
end
end Go.AM.P16
namespace Go.AM.P16
open Go
/-! ### The ends of ports, as numbers -/
def frm (t : ApiTopo) (p : Int) : Int := match t.Links[(p / 2).toNat]? with | some e => if p % 2 = 0 then e.A else e.B | none => 0
def too (t : ApiTopo) (p : Int) : Int := match t.Links[(p / 2).toNat]? with | some e => if p % 2 = 0 then e.B else e.A | none => 0
def bk (p : Int) : Int := if p % 2 = 0 then p + 1 else p - 1
theorem frm_at {t : ApiTopo} {p : Int} {e : ApiLink} (he : t.Links[(p / 2).toNat]? = some e) : frm t p = if p % 2 = 0 then e.A else e.B := by unfold frm; rw [he]
theorem too_at {t : ApiTopo} {p : Int} {e : ApiLink} (he : t.Links[(p / 2).toNat]? = some e) : too t p = if p % 2 = 0 then e.B else e.A := by unfold too; rw [he]
theorem isp_lt {t : ApiTopo} (h : Small t) {p : Int} (hp : IsP t p) : 0 ≤ p ∧ p < 48 := by
  have := h.l; obtain ⟨h0, h1⟩ := hp; omega
theorem From_ok {t : ApiTopo} (h : Fit t) {p : Int} (hp : IsP t p) : m_topo_From t p = .ok (frm t p, 0) := by
  obtain ⟨e, he⟩ := portlink hp
  have e1 : m_topo_From t p = pq t p m_topo_end_from := rfl
  rw [e1, pq_in h hp he from_ok, frm_at he, Int.tmod_eq_emod_of_nonneg hp.1]
theorem lim {t : ApiTopo} (h : Fit t) {e : ApiLink} {i : Nat} (he : t.Links[i]? = some e) : (0 ≤ e.A ∧ e.A < 1000000) ∧ (0 ≤ e.B ∧ e.B < 1000000) := by
  have hlk := (h.links _ _ he).1
  have := h.small.n
  have := hlk.a.2
  have := hlk.b.2
  exact ⟨⟨hlk.a.1, by omega⟩, hlk.b.1, by omega⟩
theorem To_ok {t : ApiTopo} (h : Fit t) {p : Int} (hp : IsP t p) : m_topo_To t p = .ok (too t p, 0) := by
  obtain ⟨e, he⟩ := portlink hp
  have e1 : m_topo_To t p = pq t p m_topo_end_to := rfl
  rw [e1, pq_in h hp he (to_ok (lim h he).1 (lim h he).2), too_at he, Int.tmod_eq_emod_of_nonneg hp.1]
theorem rFrom_ok {t : ApiTopo} (h : Small t) {p : Int} (hp : IsP t p) : m_isochronref16_From t p = .ok (frm t p) := by
  obtain ⟨e, he⟩ := portlink hp
  have := isp_lt h hp
  rw [refFrom hp.1 (by omega) he, frm_at he, Int.tmod_eq_emod_of_nonneg hp.1]
theorem rTo_ok {t : ApiTopo} (h : Small t) {p : Int} (hp : IsP t p) : m_isochronref16_To t p = .ok (too t p) := by
  obtain ⟨e, he⟩ := portlink hp
  have := isp_lt h hp
  rw [refTo hp.1 (by omega) he, too_at he, Int.tmod_eq_emod_of_nonneg hp.1]
theorem isp_bk {t : ApiTopo} {p : Int} (hp : IsP t p) : IsP t (bk p) := by
  obtain ⟨h0, h1⟩ := hp
  unfold bk IsP; split <;> omega
theorem bk_half {p : Int} : bk p / 2 = p / 2 := by unfold bk; split <;> omega
theorem frm_bk {t : ApiTopo} (p : Int) : frm t (bk p) = too t p := by
  unfold frm too
  rw [bk_half]
  cases t.Links[(p / 2).toNat]? with
  | none => rfl
  | some e =>
    simp only
    by_cases h : p % 2 = 0
    · rw [if_neg (by unfold bk; rw [if_pos h]; omega), if_pos h]
    · rw [if_pos (by unfold bk; rw [if_neg h]; omega), if_neg h]
theorem frm_N {t : ApiTopo} (h : Fit t) {p : Int} (hp : IsP t p) : IsN t (frm t p) := by
  obtain ⟨e, he⟩ := portlink hp
  rw [frm_at he]
  have := (h.links _ _ he).1
  split
  · exact this.a
  · exact this.b
theorem too_N {t : ApiTopo} (h : Fit t) {p : Int} (hp : IsP t p) : IsN t (too t p) := by rw [← frm_bk]; exact frm_N h (isp_bk hp)
end Go.AM.P16
namespace Go.AM.P16
open Go
/-! ### Routes -/
/-- Element i of a route. -/
def el (r : List Int) (i : Nat) : Int := r.getD i 0
/-- Node i of a route. -/
def nd (t : ApiTopo) (r : List Int) : Nat → Int
  | 0 => frm t (el r 0)
  | i + 1 => too t (el r i)
def ns (t : ApiTopo) (r : List Int) (k : Nat) : List Int := (List.range k).map (nd t r)
structure Okr (t : ApiTopo) (r : List Int) : Prop where
  len : 1 ≤ r.length ∧ r.length ≤ 8
  port : ∀ p ∈ r, IsP t p
  conn : ∀ j, j < r.length → frm t (el r j) = nd t r j
  inner : ∀ j, 0 < j → j < r.length → ¬ Seen t.Station (nd t r j)
  inj : ∀ i j, i < j → j ≤ r.length → nd t r i ≠ nd t r j
theorem el_get {r : List Int} {i : Nat} {p : Int} (h : r[i]? = some p) : el r i = p := by unfold el; rw [List.getD_eq_getElem?_getD, h]; rfl
theorem el_mem {r : List Int} {i : Nat} (h : i < r.length) : el r i ∈ r := by
  have : r[i]? = some r[i] := List.getElem?_eq_getElem h
  rw [el_get this]; exact List.getElem_mem h
theorem ns_succ (t : ApiTopo) (r : List Int) (k : Nat) : ns t r (k + 1) = ns t r k ++ [nd t r k] := by unfold ns; rw [List.range_succ, List.map_append]; rfl
theorem ns_len (t : ApiTopo) (r : List Int) (k : Nat) : (ns t r k).length = k := by unfold ns; simp
theorem ns_get {t : ApiTopo} {r : List Int} {k i : Nat} (h : i < k) : (ns t r k)[i]? = some (nd t r i) := by unfold ns; rw [List.getElem?_map, List.getElem?_range h]; rfl
theorem ns_mem {t : ApiTopo} {r : List Int} {k : Nat} {x : Int} : x ∈ ns t r k ↔ ∃ i, i < k ∧ nd t r i = x := by unfold ns; simp
theorem ns_idx {t : ApiTopo} {r : List Int} {k : Nat} {i : Int} (h0 : 0 ≤ i) (h1 : i.toNat < k) : idx (ns t r k) i = .ok (nd t r i.toNat) := idx_ok.2 ⟨h0, ns_get h1⟩
theorem ns_take {t : ApiTopo} {r : List Int} {k i : Nat} (h : i ≤ k) : (ns t r k).take i = ns t r i := by unfold ns; rw [← List.map_take, List.take_range, Nat.min_eq_left h]
theorem nd_N {t : ApiTopo} (hf : Fit t) {r : List Int} (hp : ∀ p ∈ r, IsP t p) (h0 : 0 < r.length) : ∀ {i : Nat}, i ≤ r.length → IsN t (nd t r i)
  | 0, _ => frm_N hf (hp _ (el_mem h0))
  | i + 1, h => too_N hf (hp _ (el_mem h))
theorem walk_from_ok {t : ApiTopo} (hf : Fit t) {p : Int} (hp : IsP t p) : m_route_walk_from ⟨t⟩ p = .ok (frm t p) := by
  unfold m_route_walk_from
  rw [From_ok hf hp]; rfl
/-- What holds of a route up to node k. -/
structure Upto (t : ApiTopo) (r : List Int) (k : Nat) : Prop where
  conn : ∀ j, j + 1 < k → frm t (el r j) = nd t r j
  inner : ∀ j, 0 < j → j < k → j < r.length → ¬ Seen t.Station (nd t r j)
  inj : ∀ i j, i < j → j < k → nd t r i ≠ nd t r j
theorem Upto.one (t : ApiTopo) (r : List Int) : Upto t r 1 := ⟨fun j h => by omega, fun j h h' => by omega, fun i j h h' => by omega⟩
theorem Upto.step {t : ApiTopo} {r : List Int} {k : Nat} (h : Upto t r k) (h1 : ∀ j, j + 1 = k → frm t (el r j) = nd t r j) (h2 : 0 < k → k < r.length → ¬ Seen t.Station (nd t r k)) (h3 : nd t r k ∉ ns t r k) : Upto t r (k + 1) := by
  refine ⟨fun j hj => ?_, fun j g0 g1 g2 => ?_, fun i j g0 g1 => ?_⟩
  · by_cases e : j + 1 = k
    · exact h1 j e
    · exact h.conn j (by omega)
  · by_cases e : j = k
    · subst e; exact h2 g0 g2
    · exact h.inner j g0 (by omega) g2
  · by_cases e : j = k
    · subst e; exact fun e' => h3 (ns_mem.2 ⟨i, g0, e'⟩)
    · exact h.inj i j g0 (by omega)
def Pre (t : ApiTopo) (r : List Int) : Prop := (1 ≤ r.length ∧ r.length ≤ 8) ∧ ∀ p ∈ r, IsP t p
theorem Pre.okr {t : ApiTopo} {r : List Int} (h : Pre t r) (hu : Upto t r (r.length + 1)) : Okr t r := ⟨h.1, h.2, fun j hj => hu.conn j (by omega), fun j h0 h1 => hu.inner j h0 (by omega) h1, fun i j h0 h1 => hu.inj i j h0 (by omega)⟩
theorem valid_has {t : ApiTopo} (hf : Fit t) (r : List Int) : Has (m_route_walk_valid ⟨t⟩ r) (fun b => (b = true ↔ Okr t r)) := by
  have hS := hf.small.s
  have hL := hf.small.l
  unfold m_route_walk_valid
  refine has_sh ?_
  refine has_join (fun s => (s = true ↔ ¬ Pre t r)) (fun s hs => ?_) (fun j hj => ?_)
  · refine has_ite (fun h => ?_) (fun h => ?_)
    · have hn := hs.1 h
      exact has_ok (by simp only [Bool.false_eq_true, false_iff]; exact fun ho => hn ⟨ho.len, ho.port⟩)
    · have hpre : Pre t r := Classical.byContradiction fun hn => h (hs.2 hn)
      obtain ⟨⟨hl1, hl2⟩, hpp⟩ := hpre
      refine has_idx (by omega) (by omega) fun p0 hp0 => ?_
      have hp0' : r[0]? = some p0 := hp0
      refine has_beq (walk_from_ok hf (hpp _ (List.mem_of_getElem? hp0'))) ?_
      refine has_beq (contains_int (l := []) (by simp) _) ?_
      refine has_join (fun s => s = false) (fun s hs => ?_) (fun j hj => ?_)
      rotate_left
      · refine has_ite (fun h => by simp at h) (fun _ => hj _ rfl)
      · subst hs
        refine has_join (fun s => s = false) (fun s hs => ?_) (fun j hj => ?_)
        rotate_left
        · exact has_ite (fun h => by simp at h) (fun _ => hj _ rfl)
        · subst hs
          refine has_ite (fun h => by simp at h) (fun _ => ?_)
          refine has_must rfl ?_
          have e0 : ([] : List Int) ++ [frm t p0] = ns t r 1 := by
            rw [ns_succ]; show [] ++ [frm t p0] = [] ++ [frm t (el r 0)]; rw [el_get hp0']
          rw [e0]
          refine has_loop (fun y : Int × List Int => 0 ≤ y.1 ∧ y.1 ≤ r.length ∧ y.2 = ns t r (y.1.toNat + 1) ∧ Upto t r (y.1.toNat + 1)) (fun y => ((r.length : Int) - y.1).toNat) (fun y hy => by omega) ⟨by simp, by simp, rfl, Upto.one t r⟩ ?_
          rintro ⟨i, seen⟩ rec ⟨g0, g1, g2, g3⟩ ih
          simp only at g0 g1 g2 g3
          subst g2
          unfold m_route_walk_valid_l1
          simp only [decide_eq_true_eq]
          have hlen := ns_len t r (i.toNat + 1)
          refine has_ite (fun hi => ?_) (fun hi => ?_)
          · refine has_idx g0 hi fun p hp => ?_
            have hip := hpp _ (List.mem_of_getElem? hp)
            have hnd : nd t r (i.toNat + 1) = too t p := by show too t (el r i.toNat) = _; rw [el_get hp]
            have hN := too_N hf hip
            refine has_beq (To_ok hf hip) ?_
            refine has_beq (contains_int (by rw [hlen]; omega) _) ?_
            simp only [hlen]
            have hw : w64 (((i.toNat + 1 : Nat) : Int) - 1) = i := by rw [w64_id (by omega) (by omega)]; omega
            have hfail : (¬ Okr t r) → Has (.ok (decide (((i.toNat + 1 : Nat) : Int) = w64 ((r.length : Int) + 1)))) (fun b => (b = true ↔ Okr t r)) := fun hno => by
              refine has_ok ?_
              rw [w64_id (by omega) (by omega)]
              simp only [decide_eq_true_eq]
              exact ⟨fun h => by omega, fun h => absurd h hno⟩
            refine has_join (fun s => s.2 = ns t r (i.toNat + 1) ∧ (s.1 = false → too t p ∉ ns t r (i.toNat + 1) ∧ frm t (el r i.toNat) = nd t r i.toNat) ∧ (s.1 = true → ¬ Okr t r)) (fun s hs => ?_) (fun j hj => ?_)
            · obtain ⟨s1, s2⟩ := s
              obtain ⟨rfl, hs2, hs3⟩ := hs
              simp only at hs2 hs3
              simp only [hlen]
              refine has_join (fun b => (b = false → s1 = false ∧ (i.toNat + 1 < r.length → ¬ Seen t.Station (nd t r (i.toNat + 1)))) ∧ (b = true → ¬ Okr t r)) (fun b hb => ?_) (fun j hj => ?_)
              · refine has_ite (fun h => hfail (hb.2 h)) (fun h => ?_)
                obtain ⟨h1, h2⟩ := hb.1 (by simpa using h)
                obtain ⟨h3, h4⟩ := hs2 h1
                refine has_must (okLen_ok (by simp; omega)) ?_
                rw [w64_id (n := i + 1) (by omega) (by omega)]
                have e1 : (i + 1).toNat = i.toNat + 1 := by omega
                refine ih _ ⟨by simp only; omega, by simp only; omega, ?_, ?_⟩ (by simp only; omega)
                · simp only [e1]; rw [ns_succ t r (i.toNat + 1), hnd]
                · simp only [e1]
                  exact g3.step (fun j hj => by have : j = i.toNat := by omega
                                                rw [this]; exact h4) (fun _ => h2) (by rw [hnd]; exact h3)
              · refine has_ite (fun h => hj _ ⟨fun h' => by simp at h', fun _ => hs3 h⟩) (fun h => ?_)
                have h : s1 = false := by simpa using h
                refine has_ite (fun _ => ?_) (fun h' => by omega)
                refine has_ite (fun h' => ?_) (fun h' => hj _ ⟨fun _ => ⟨h, fun h2 => by omega⟩, fun h2 => by simp at h2⟩)
                refine has_idx hN.1 (by have := hN.2; show too t p < ((t.Station.length : Nat) : Int); omega) fun b hb => hj _ ?_
                have hsb := seen_get hN.1 hb
                refine ⟨fun hb0 => ⟨h, fun _ hse => ?_⟩, fun hb1 ho => ?_⟩
                · rw [hnd] at hse; rw [hsb.1 hse] at hb0; cases hb0
                · exact ho.inner (i.toNat + 1) (by omega) (by omega) (by rw [hnd]; exact hsb.2 hb1)
            · refine has_ite (fun h => ?_) (fun h => ?_)
              · refine hj _ ⟨rfl, fun h' => by simp at h', fun _ ho => ?_⟩
                have hm := of_decide_eq_true h
                obtain ⟨k, hk, hke⟩ := ns_mem.1 hm
                exact ho.inj k (i.toNat + 1) hk (by omega) (by rw [hke, hnd])
              · have hm : too t p ∉ ns t r (i.toNat + 1) := fun h' => h (by simpa using h')
                refine has_ite (fun _ => ?_) (fun h' => by omega)
                rw [hw]
                refine has_idx g0 hi fun p' hp' => ?_
                have : p' = p := by rw [hp] at hp'; cases hp'; rfl
                subst this
                refine has_beq (walk_from_ok hf hip) ?_
                refine has_beq (ns_idx g0 (by omega)) ?_
                refine hj _ ⟨rfl, fun h1 => ⟨hm, ?_⟩, fun h1 ho => ?_⟩
                · rw [el_get hp]; simpa using h1
                · have h1 := of_decide_eq_true h1
                  exact h1 (by rw [← el_get hp]; exact ho.conn _ (by omega))
          · refine has_ok ?_
            rw [hlen, w64_id (by omega) (by omega)]
            have e1 : i.toNat = r.length := by omega
            rw [e1] at g3
            simp only [decide_eq_true_eq]
            exact ⟨fun _ => Pre.okr ⟨⟨hl1, hl2⟩, hpp⟩ g3, fun _ => by omega⟩
  · refine has_ite (fun h => hj _ ⟨fun _ hp => ?_, fun _ => rfl⟩) (fun h => ?_)
    · simp only [Bool.or_eq_true, decide_eq_true_eq] at h
      have := hp.1; omega
    · simp only [Bool.or_eq_true, decide_eq_true_eq, not_or] at h
      refine has_loop (fun i : Int => 0 ≤ i ∧ i ≤ r.length ∧ ∀ k : Nat, (k : Int) < i → ∀ p, r[k]? = some p → IsP t p) (fun i => ((r.length : Int) - i).toNat) (fun y hy => by omega) ⟨by simp, by simp, fun k hk => by omega⟩ ?_
      rintro i rec ⟨g0, g1, g2⟩ ih
      unfold m_route_walk_valid_l2
      simp only [decide_eq_true_eq]
      refine has_ite (fun hi => ?_) (fun hi => ?_)
      · refine has_idx g0 hi fun p hp => has_sh ?_
        rw [isp_dec hf.small]
        refine has_ite (fun h1 => hj _ ⟨fun _ hp' => ?_, fun _ => by simpa using g0⟩) (fun h1 => ?_)
        · have h1 := of_decide_eq_true h1
          exact h1 (hp'.2 p (List.mem_of_getElem? hp))
        · have h1 : IsP t p := Classical.byContradiction fun hn => h1 (by simpa using hn)
          rw [w64_id (n := i + 1) (by omega) (by omega)]
          refine ih _ ⟨by omega, by omega, fun k hk q hq => ?_⟩ (by omega)
          by_cases hki : (k : Int) < i
          · exact g2 k hki q hq
          · have : k = i.toNat := by omega
            subst this; rw [hp] at hq; cases hq; exact h1
      · refine hj _ ⟨fun h1 => by simp at h1, fun h1 => absurd ⟨⟨by omega, by omega⟩, fun p hp => ?_⟩ h1⟩
        obtain ⟨k, hk⟩ := List.mem_iff_getElem?.1 hp
        have := (List.getElem?_eq_some_iff.1 hk).1
        exact g2 k (by omega) p hk
end Go.AM.P16
namespace Go.AM.P16
open Go
/-! ### What the program makes of a route -/
/-! Sums -/
/-! Back -/
end Go.AM.P16
namespace Go.AM.P16
open Go
/-! ### The reference's routes -/
theorem in_eq {l : List Int} (hl : l.length < 1000000) (x : Int) : m_isochronref16_In l x = .ok (decide (x ∈ l)) := (in_ok hl x).eq
theorem port_dec {t : ApiTopo} (h : Small t) (p : Int) : m_isochronref16_Port t p = .ok (decide (IsP t p)) := by
  unfold m_isochronref16_Port sh
  rw [w2l h]
  by_cases h1 : 0 ≤ p <;> by_cases h2 : p < 2 * (t.Links.length : Int) <;> simp [IsP, h1, h2]
theorem rnNodes_ok {t : ApiTopo} (hs : Small t) {r : List Int} (h0 : 1 ≤ r.length) (h8 : r.length ≤ 8) (hp : ∀ p ∈ r, IsP t p) : m_isochronref21_Nodes t r = .ok (ns t r (r.length + 1)) := by
  refine Has.eq ?_
  unfold m_isochronref21_Nodes
  refine has_idx (by omega) (by omega) fun p0 hp0 => ?_
  have hp0' : r[0]? = some p0 := hp0
  refine has_beq (rFrom_ok hs (hp _ (List.mem_of_getElem? hp0'))) ?_
  have e0 : [frm t p0] = ns t r 1 := by
    rw [ns_succ]; show [frm t p0] = [] ++ [frm t (el r 0)]; rw [el_get hp0']; rfl
  rw [e0]
  refine has_loop (fun y : List Int × Int => 0 ≤ y.2 ∧ y.2 ≤ r.length ∧ y.1 = ns t r (y.2.toNat + 1)) (fun y => ((r.length : Int) - y.2).toNat) (fun y hy => by omega) ⟨by simp, by simp, rfl⟩ ?_
  rintro ⟨seen, i⟩ rec ⟨g0, g1, g2⟩ ih
  simp only at g0 g1 g2
  subst g2
  unfold m_isochronref21_Nodes_l1
  simp only [decide_eq_true_eq]
  refine has_ite (fun hi => ?_) (fun hi => ?_)
  · refine has_idx g0 hi fun p hpp => ?_
    have hip := hp _ (List.mem_of_getElem? hpp)
    refine has_beq (rTo_ok hs hip) ?_
    have hlen := ns_len t r (i.toNat + 1)
    refine has_must (okLen_ok (by rw [hlen]; simp; omega)) ?_
    rw [w64_id (n := i + 1) (by omega) (by omega)]
    have e1 : (i + 1).toNat = i.toNat + 1 := by omega
    refine ih _ ⟨by simp only; omega, by simp only; omega, ?_⟩ (by simp only; omega)
    simp only [e1]
    rw [ns_succ t r (i.toNat + 1)]
    show _ ++ [too t p] = _ ++ [too t (el r i.toNat)]
    rw [el_get hpp]
  · refine has_ok ?_
    have e1 : i.toNat = r.length := by omega
    simp only [e1]
/-- What the reference asks up to node k. -/
structure Upto' (t : ApiTopo) (r : List Int) (k : Nat) : Prop where
  conn : ∀ j, 0 < j → j < k → j < r.length → frm t (el r j) = nd t r j
  inner : ∀ j, 0 < j → j < k → j < r.length → ¬ Seen t.Station (nd t r j)
  inj : ∀ i j, i < j → j < k → nd t r i ≠ nd t r j
theorem Pre.okr' {t : ApiTopo} {r : List Int} (h : Pre t r) (hu : Upto' t r (r.length + 1)) : Okr t r :=
  ⟨h.1, h.2, fun j hj => by
    cases j with
    | zero => rfl
    | succ j => exact hu.conn _ (by omega) (by omega) hj, fun j h0 h1 => hu.inner j h0 (by omega) h1, fun i j h0 h1 => hu.inj i j h0 (by omega)⟩
theorem refRight_has {t : ApiTopo} (hf : Fit t) (r : List Int) : Has (m_isochronref21_Right t r) (fun b => (b = true ↔ Okr t r)) := by
  have hS := hf.small.s
  have hL := hf.small.l
  unfold m_isochronref21_Right
  refine has_sh (has_ite (fun h => ?_) (fun h => ?_))
  · simp only [Bool.or_eq_true, decide_eq_true_eq] at h
    refine has_ok ⟨fun h => by simp at h, fun ho => by have := ho.len; omega⟩
  simp only [Bool.or_eq_true, decide_eq_true_eq, not_or] at h
  refine has_loop (fun i : Int => 0 ≤ i ∧ i ≤ r.length ∧ ∀ k : Nat, (k : Int) < i → ∀ p, r[k]? = some p → IsP t p) (fun i => ((r.length : Int) - i).toNat) (fun y hy => by omega) ⟨by simp, by simp, fun k hk => by omega⟩ ?_
  rintro i rec ⟨g0, g1, g2⟩ ih
  unfold m_isochronref21_Right_l2
  simp only [decide_eq_true_eq]
  refine has_ite (fun hi => ?_) (fun hi => ?_)
  · refine has_idx g0 hi fun p hp => ?_
    refine has_beq (port_dec hf.small p) ?_
    refine has_ite (fun h1 => ?_) (fun h1 => ?_)
    · have h1 : ¬ IsP t p := by simpa using h1
      exact has_ok ⟨fun h => by simp at h, fun ho => absurd (ho.port p (List.mem_of_getElem? hp)) h1⟩
    · have h1 : IsP t p := by simpa using h1
      rw [w64_id (n := i + 1) (by omega) (by omega)]
      refine ih _ ⟨by omega, by omega, fun k hk q hq => ?_⟩ (by omega)
      by_cases hki : (k : Int) < i
      · exact g2 k hki q hq
      · have : k = i.toNat := by omega
        subst this; rw [hp] at hq; cases hq; exact h1
  have hpp : ∀ p ∈ r, IsP t p := fun p hp => by
    obtain ⟨k, hk⟩ := List.mem_iff_getElem?.1 hp
    have := (List.getElem?_eq_some_iff.1 hk).1
    exact g2 k (by omega) p hk
  have hpre : Pre t r := ⟨⟨by omega, by omega⟩, hpp⟩
  refine has_beq (rnNodes_ok hf.small (by omega) (by omega) hpp) ?_
  have hlen := ns_len t r (r.length + 1)
  refine has_loop (fun i : Int => 0 ≤ i ∧ i ≤ ((r.length + 1 : Nat) : Int) ∧ Upto' t r i.toNat) (fun i => (((r.length + 1 : Nat) : Int) - i).toNat) (fun y hy => by omega) ⟨by omega, by omega, ⟨fun j h1 h2 => absurd h2 (by simp), fun j h1 h2 => absurd h2 (by simp), fun i j h1 h2 => absurd h2 (by simp)⟩⟩ ?_
  rintro k rec2 ⟨k0, k1, k2⟩ ih2
  unfold m_isochronref21_Right_l1
  simp only [decide_eq_true_eq, hlen]
  refine has_ite (fun hk => ?_) (fun hk => ?_)
  rotate_left
  · refine has_ok ⟨fun _ => Pre.okr' hpre ?_, fun _ => rfl⟩
    have : k.toNat = r.length + 1 := by omega
    rw [← this]; exact k2
  refine has_must (by simp only [decide_eq_true_eq]; omega) ?_
  refine has_beq (ns_idx k0 (by omega)) ?_
  rw [ns_take (by omega)]
  refine has_beq (in_eq (by rw [ns_len]; omega) _) ?_
  refine has_ite (fun h1 => ?_) (fun h1 => ?_)
  · have h1 := of_decide_eq_true h1
    obtain ⟨q, hq, hqe⟩ := ns_mem.1 h1
    exact has_ok ⟨fun h => by simp at h, fun ho => absurd hqe (ho.inj q k.toNat hq (by omega))⟩
  have h1 : nd t r k.toNat ∉ ns t r k.toNat := by simpa using h1
  have hinj : ∀ i j, i < j → j < k.toNat + 1 → nd t r i ≠ nd t r j := fun i j h2 h3 => by
    by_cases e : j = k.toNat
    · subst e; exact fun e' => h1 (ns_mem.2 ⟨i, h2, e'⟩)
    · exact k2.inj i j h2 (by omega)
  have hN := nd_N hf hpp (by omega) (i := k.toNat) (by omega)
  refine has_sh ?_
  have go : (0 < k.toNat → k.toNat < r.length → frm t (el r k.toNat) = nd t r k.toNat ∧ ¬ Seen t.Station (nd t r k.toNat)) → Has (rec2 (w64 (k + 1))) (fun b => (b = true ↔ Okr t r)) := fun hh => by
    rw [w64_id (n := k + 1) (by omega) (by omega)]
    have e1 : (k + 1).toNat = k.toNat + 1 := by omega
    refine ih2 _ ⟨by omega, by omega, ?_⟩ (by omega)
    rw [e1]
    refine ⟨fun j h2 h3 h4 => ?_, fun j h2 h3 h4 => ?_, hinj⟩
    · by_cases e : j = k.toNat
      · subst e; exact (hh h2 h4).1
      · exact k2.conn j h2 (by omega) h4
    · by_cases e : j = k.toNat
      · subst e; exact (hh h2 h4).2
      · exact k2.inner j h2 (by omega) h4
  refine has_join (fun b => (b = true → ¬ Okr t r) ∧ (b = false → 0 < k.toNat → k.toNat < r.length → frm t (el r k.toNat) = nd t r k.toNat ∧ ¬ Seen t.Station (nd t r k.toNat))) (fun b hb => ?_) (fun j hj => ?_)
  · refine has_ite (fun h => has_ok ⟨fun h' => by simp at h', fun ho => absurd ho (hb.1 h)⟩) (fun h => go (hb.2 (by simpa using h)))
  · refine has_ite (fun h => ?_) (fun h => ?_)
    · simp only [Bool.and_eq_true, decide_eq_true_eq] at h
      have hkl : k.toNat < r.length := by omega
      refine has_beq (ns_idx k0 (by omega)) ?_
      refine has_idx hN.1 (by have := hN.2; omega) fun s hs => ?_
      have hse := seen_get hN.1 hs
      refine has_ite (fun h2 => hj _ ⟨fun _ ho => ho.inner k.toNat (by omega) hkl (hse.2 h2), fun h3 => by simp at h3⟩) (fun h2 => ?_)
      refine has_idx k0 (by omega) fun p hp => ?_
      refine has_beq (rFrom_ok hf.small (hpp _ (List.mem_of_getElem? hp))) ?_
      refine has_beq (ns_idx k0 (by omega)) (hj _ ⟨fun h3 ho => ?_, fun h3 _ _ => ⟨?_, fun h4 => h2 (hse.1 h4)⟩⟩)
      · have h3 := of_decide_eq_true h3
        exact h3 (by rw [← el_get hp]; exact ho.conn _ hkl)
      · rw [el_get hp]; simpa using h3
    · refine hj _ ⟨fun h2 => by simp at h2, fun _ h2 h3 => ?_⟩
      simp only [Bool.and_eq_true, decide_eq_true_eq, not_and] at h
      omega
/-! The law's own helps -/
theorem few21 (t : ApiTopo) : ∃ t', m_isochronlaw21_few t = .ok t' := by
  unfold m_isochronlaw21_few
  have : Has (bindR (must (decide (0 ≤ (min (t.Station.length : Int) 20) ∧ (min (t.Station.length : Int) 20) ≤ (t.Station.length : Int)))) fun _ =>
    bindR (must (decide (0 ≤ (min (t.Links.length : Int) 30) ∧ (min (t.Links.length : Int) 30) ≤ (t.Links.length : Int)))) fun _ =>
    .ok ((ApiTopo.mk t.Nodes (t.Station.take ((min (t.Station.length : Int) 20)).toNat) (t.Links.take ((min (t.Links.length : Int) 30)).toNat)))) (fun _ => True) := by
    refine has_must ?_ (has_must ?_ (has_ok trivial))
    · simp only [decide_eq_true_eq]; omega
    · simp only [decide_eq_true_eq]; omega
  obtain ⟨r, h, _⟩ := this
  exact ⟨r, h⟩
theorem cut21 (r : List Int) : Has (m_isochronlaw21_cut r) (fun l => l.length ≤ 12) := by
  unfold m_isochronlaw21_cut
  refine has_must (by simp only [decide_eq_true_eq]; omega) ?_
  refine has_must (okLen_ok (by simp; omega)) (has_ok ?_)
  rw [List.nil_append, List.length_take]; omega
theorem wakes21 : m_isochronlaw21_wakes = .ok true := by kernel_rfl
/-- The error of a list of routes. -/
def WC (t : ApiTopo) (l : List (List Int)) (e : Int) : Prop := (¬ Fit t ∧ e = 260) ∨ (Fit t ∧ (∃ r ∈ l, ¬ Okr t r) ∧ e = 310) ∨ (Fit t ∧ (∀ r ∈ l, Okr t r) ∧ e = 0)
theorem want_wc (t : ApiTopo) (l : List (List Int)) (hl : l.length < 1000) : Has (m_isochronlaw21_want t l) (WC t l) := by
  unfold m_isochronlaw21_want
  by_cases hf : Fit t
  · refine has_beq (Right_fit hf) ?_
    refine has_ite (fun h => by simp at h) (fun _ => ?_)
    refine has_loop (fun i : Int => 0 ≤ i ∧ i ≤ l.length ∧ ∀ k : Nat, (k : Int) < i → ∀ r, l[k]? = some r → Okr t r) (fun i => ((l.length : Int) - i).toNat) (fun y hy => by omega) ⟨by simp, by simp, fun k hk => by omega⟩ ?_
    rintro i rec ⟨g0, g1, g2⟩ ih
    unfold m_isochronlaw21_want_l1
    simp only [decide_eq_true_eq]
    refine has_ite (fun hi => ?_) (fun hi => ?_)
    · refine has_idx g0 hi fun r hr => ?_
      refine has_bind (refRight_has hf r) fun b hb => ?_
      refine has_ite (fun h1 => has_ok (.inr (.inl ⟨hf, ⟨r, List.mem_of_getElem? hr, fun ho => by rw [hb.2 ho] at h1; simp at h1⟩, rfl⟩))) (fun h1 => ?_)
      have h1 : Okr t r := hb.1 (by simpa using h1)
      rw [w64_id (n := i + 1) (by omega) (by omega)]
      refine ih _ ⟨by omega, by omega, fun k hk q hq => ?_⟩ (by omega)
      by_cases hki : (k : Int) < i
      · exact g2 k hki q hq
      · have : k = i.toNat := by omega
        subst this; rw [hr] at hq; cases hq; exact h1
    · refine has_ok (.inr (.inr ⟨hf, fun r hr => ?_, rfl⟩))
      obtain ⟨k, hk⟩ := List.mem_iff_getElem?.1 hr
      have := (List.getElem?_eq_some_iff.1 hk).1
      exact g2 k (by omega) r hk
  · refine has_beq (Right_unfit hf) ?_
    exact has_ite (fun _ => has_ok (.inl ⟨hf, rfl⟩)) (fun h => by simp at h)
end Go.AM.P16
namespace Go.AM.P16
open Go
/-! ### Routes that are apart -/
def Shares (a b : List Int) : Prop := ∃ p ∈ a, ∃ q ∈ b, p / 2 = q / 2
end Go.AM.P16
namespace Go.AM.P16
open Go
/-! ### A chosen route -/
/-! Parts of a route -/
end Go.AM.P16
namespace Go.AM.P16
open Go
/-! ### A route and its reverse -/
theorem Shares.symm {a b : List Int} (h : Shares a b) : Shares b a := by
  obtain ⟨p, hp, q, hq, he⟩ := h
  exact ⟨q, hq, p, hp, he.symm⟩
/-! ### A tree -/
theorem cmpI_ups (l : List Int) (p : Int) (h : (p :: l).Pairwise (· ≤ ·)) : (p :: cmpI p l).Pairwise (· < ·) ∧ ∀ x, x ∈ (p :: cmpI p l) ↔ x ∈ p :: l := by
  induction l generalizing p with
  | nil => exact ⟨List.pairwise_singleton .., fun x => Iff.rfl⟩
  | cons y l ih =>
    have hc := List.pairwise_cons.1 h
    have hpy := hc.1 y (List.mem_cons_self ..)
    unfold cmpI
    split
    · rename_i he _
      subst he
      have := ih y hc.2
      refine ⟨this.1, fun x => ?_⟩
      rw [this.2 x]; simp
    · rename_i he _
      have hih := ih y hc.2
      have hlt : p < y := by omega
      refine ⟨List.pairwise_cons.2 ⟨fun z hz => ?_, hih.1⟩, fun x => ?_⟩
      · rcases (List.mem_cons.1 ((hih.2 z).1 hz)) with rfl | hz
        · exact hlt
        · exact Int.lt_of_lt_of_le hlt ((List.pairwise_cons.1 hc.2).1 z hz)
      · rw [List.mem_cons, hih.2 x, List.mem_cons]; simp
theorem compact_ups {l : List Int} (h : l.Pairwise (· ≤ ·)) : (compactI l).Pairwise (· < ·) ∧ ∀ x, x ∈ compactI l ↔ x ∈ l := by
  cases l with
  | nil => exact ⟨List.Pairwise.nil, fun x => Iff.rfl⟩
  | cons y l => exact cmpI_ups l y h
/-- The ports of a list, each once, in order. -/
def portsOf (l : List Int) : List Int := compactI (sortI l)
theorem portsOf_ups (l : List Int) : (portsOf l).Pairwise (· < ·) ∧ ∀ x, x ∈ portsOf l ↔ x ∈ l := by
  have := compact_ups (sortI_sorted l)
  exact ⟨this.1, fun x => by unfold portsOf; rw [this.2 x, (sortI_perm l).mem_iff]⟩
theorem portsOf_len (l : List Int) : (portsOf l).length ≤ l.length := by
  have := compactI_length (sortI l)
  rw [sortI_length] at this; exact this
theorem ups_uniq {a b : List Int} (ha : a.Pairwise (· < ·)) (hb : b.Pairwise (· < ·)) (h : ∀ x, x ∈ a ↔ x ∈ b) : a = b := by
  refine List.Perm.eq_of_pairwise (le := fun (x y : Int) => x < y) (fun x y _ _ h1 h2 => by omega) ha hb ?_
  have na : a.Nodup := ha.imp fun h => by omega
  have nb : b.Nodup := hb.imp fun h => by omega
  exact (List.perm_ext_iff_of_nodup na nb).2 h
/-- All ports lead to different nodes, and all routes begin at the first one's node. -/
structure TreeP (t : ApiTopo) (l : List (List Int)) : Prop where
  reach : ∀ p ∈ l.flatten, ∀ q ∈ l.flatten, too t p = too t q → p = q
  start : ∀ r ∈ l, frm t (el r 0) = frm t (el (l.headD []) 0)
theorem Tree_has {t : ApiTopo} (hf : Fit t) {l : List (List Int)} (hl : l.length ≤ 8) (ho : ∀ r ∈ l, Okr t r) : Has (m_route_Tree t l) (fun v => v.1 = portsOf l.flatten ∧ v.2.2 = 0 ∧ (v.2.1 = true ↔ TreeP t l)) := by
  unfold m_route_Tree
  refine has_beq (Check_fit hf) ?_
  refine has_ite (fun h => by simp at h) (fun _ => ?_)
  have hfl : ∀ k, k ≤ l.length → ((l.take k).flatten).length ≤ k * 8 := fun k => by
    induction k with
    | zero => intro _; simp
    | succ k ih =>
      intro hk
      have hk' : l[k]? = some l[k] := List.getElem?_eq_getElem hk
      have := (ho _ (List.getElem_mem hk)).len
      have := ih (by omega)
      rw [List.take_add_one, hk', List.flatten_append]
      simp only [List.length_append, Option.toList_some, List.flatten_cons, List.flatten_nil, List.append_nil]
      omega
  refine has_loop (fun y : List Int × Int => 0 ≤ y.2 ∧ y.2 ≤ l.length ∧ y.1 = (l.take y.2.toNat).flatten) (fun y => ((l.length : Int) - y.2).toNat) (fun y hy => by omega) ⟨by simp, by simp, rfl⟩ ?_
  rintro ⟨ps, i⟩ rec ⟨g0, g1, g2⟩ ih
  simp only at g0 g1 g2
  unfold m_route_Tree_l3
  simp only [decide_eq_true_eq]
  have hpl := hfl i.toNat (by omega)
  rw [← g2] at hpl
  refine has_ite (fun hi => ?_) (fun hi => ?_)
  · refine has_idx g0 hi fun r hr => ?_
    have hor := ho r (List.mem_of_getElem? hr)
    have := hor.len
    refine has_bind (valid_has hf r) fun b hb => ?_
    have hb : b = true := hb.2 hor
    subst hb
    refine has_ite (fun h => by simp at h) (fun _ => ?_)
    refine has_must (okLen_ok (by omega)) ?_
    rw [w64_id (n := i + 1) (by omega) (by omega)]
    have e1 : (i + 1).toNat = i.toNat + 1 := by omega
    refine ih _ ⟨by simp only; omega, by simp only; omega, ?_⟩ (by simp only; omega)
    simp only [e1]
    rw [List.take_add_one, hr, List.flatten_append, g2]; simp
  have hall : ps = l.flatten := by rw [g2, List.take_of_length_le (by omega)]
  have hport : ∀ p ∈ portsOf ps, IsP t p := fun p hp => by
    have := ((portsOf_ups ps).2 p).1 hp
    rw [hall] at this
    obtain ⟨r, hr, hpr⟩ := List.mem_flatten.1 this
    exact (ho r hr).port p hpr
  have hsl := sortI_length ps
  refine has_beq (show m_sort ps = .ok (sortI ps) by unfold m_sort; rw [okLen_ok (by omega)]; rfl) ?_
  refine has_beq (show m_compact (sortI ps) = .ok (portsOf ps) by unfold m_compact; rw [okLen_ok (by omega)]; rfl) ?_
  have hcl := portsOf_len ps
  have hups := portsOf_ups ps
  generalize hP : portsOf ps = P at hport hcl hups ⊢
  refine has_loop (fun y : List Int × Bool × List Int × Int => y.1 = P ∧ 0 ≤ y.2.2.2 ∧ y.2.2.2 ≤ P.length ∧ y.2.2.1 = (P.take y.2.2.2.toNat).map (too t) ∧ (y.2.1 = true ↔ ((P.take y.2.2.2.toNat).map (too t)).Nodup)) (fun y => ((P.length : Int) - y.2.2.2).toNat) (fun y hy => by omega) ⟨rfl, by simp, by simp, rfl, by simp⟩ ?_
  rintro ⟨P', tr, rd, k⟩ rec2 ⟨k0, k1, k2, k3, k4⟩ ih2
  simp only at k0 k1 k2 k3 k4
  subst k0
  unfold m_route_Tree_l2
  simp only [decide_eq_true_eq]
  refine has_ite (fun hk => ?_) (fun hk => ?_)
  · refine has_idx k1 hk fun p hp => ?_
    have hip := hport p (List.mem_of_getElem? hp)
    have hrl : rd.length = k.toNat := by rw [k3, List.length_map, List.length_take]; omega
    have e1 : (k + 1).toNat = k.toNat + 1 := by omega
    have etk : (P'.take (k.toNat + 1)).map (too t) = rd ++ [too t p] := by rw [List.take_add_one, hp, List.map_append, k3]; rfl
    have hnd : ((P'.take (k.toNat + 1)).map (too t)).Nodup ↔ tr = true ∧ too t p ∉ rd := by
      rw [etk, List.nodup_append, k4, ← k3]
      constructor
      · rintro ⟨h1, _, h3⟩
        exact ⟨h1, fun h => h3 _ h _ (List.mem_singleton.2 rfl) rfl⟩
      · rintro ⟨h1, h2⟩
        exact ⟨h1, List.pairwise_singleton .., fun a ha b hb => by rw [List.mem_singleton] at hb; subst hb; exact fun e => h2 (e ▸ ha)⟩
    refine has_join (fun b => (b = true ↔ ((P'.take (k.toNat + 1)).map (too t)).Nodup)) (fun b hb => ?_) (fun j hj => ?_)
    · refine has_beq (To_ok hf hip) ?_
      refine has_must (okLen_ok (by simp; omega)) ?_
      rw [w64_id (n := k + 1) (by omega) (by omega)]
      exact ih2 _ ⟨rfl, by simp only; omega, by simp only; omega, by simp only [e1]; exact etk.symm, by simp only [e1]; exact hb⟩ (by simp only; omega)
    · refine has_ite (fun h => ?_) (fun h => hj _ ⟨fun h' => by simp at h', fun h' => absurd (hnd.1 h').1 h⟩)
      refine has_beq (To_ok hf hip) ?_
      refine has_beq (contains_int (by omega) _) (hj _ ?_)
      rw [hnd]
      simp [h]
  · have htk : P'.take k.toNat = P' := List.take_of_length_le (by omega)
    rw [htk] at k4
    have hreach : tr = true ↔ ∀ p ∈ l.flatten, ∀ q ∈ l.flatten, too t p = too t q → p = q := by
      rw [k4]
      constructor
      · intro h p hp q hq he
        rw [← hall] at hp hq
        obtain ⟨a, ha⟩ := List.mem_iff_getElem?.1 ((hups.2 p).2 hp)
        obtain ⟨b, hb⟩ := List.mem_iff_getElem?.1 ((hups.2 q).2 hq)
        have hal := (List.getElem?_eq_some_iff.1 ha).1
        have hbl := (List.getElem?_eq_some_iff.1 hb).1
        have h1 : (P'.map (too t))[a]? = some (too t p) := by rw [List.getElem?_map, ha]; rfl
        have h2 : (P'.map (too t))[b]? = some (too t q) := by rw [List.getElem?_map, hb]; rfl
        have : a = b := by
          rcases Nat.lt_trichotomy a b with hlt | heq | hlt
          · exact absurd he ((List.pairwise_iff_getElem.1 h) a b (by simpa using hal) (by simpa using hbl) hlt |> fun h => by
              rw [List.getElem?_eq_getElem (by simpa using hal)] at h1
              rw [List.getElem?_eq_getElem (by simpa using hbl)] at h2
              rw [Option.some.inj h1, Option.some.inj h2] at h; exact h)
          · exact heq
          · exact absurd he.symm ((List.pairwise_iff_getElem.1 h) b a (by simpa using hbl) (by simpa using hal) hlt |> fun h => by
              rw [List.getElem?_eq_getElem (by simpa using hal)] at h1
              rw [List.getElem?_eq_getElem (by simpa using hbl)] at h2
              rw [Option.some.inj h1, Option.some.inj h2] at h; exact h)
        subst this
        rw [ha] at hb; exact Option.some.inj hb
      · intro h
        show (P'.map (too t)).Pairwise (· ≠ ·)
        rw [List.pairwise_map]
        refine (List.Pairwise.and_mem.1 hups.1).imp fun {p q} h1 he => ?_
        have := h p (by rw [← hall]; exact (hups.2 p).1 h1.1) q (by rw [← hall]; exact (hups.2 q).1 h1.2.1) he
        omega
    have hh0 : l.headD [] = (l[0]?).getD [] := by cases l <;> rfl
    refine has_loop (fun y : Bool × Int => 0 ≤ y.2 ∧ y.2 ≤ l.length ∧ (y.1 = true ↔ tr = true ∧ ∀ r ∈ l.take y.2.toNat, frm t (el r 0) = frm t (el (l.headD []) 0))) (fun y => ((l.length : Int) - y.2).toNat) (fun y hy => by omega) ⟨by simp, by simp, by simp⟩ ?_
    rintro ⟨b, i2⟩ rec3 ⟨j0, j1, j2⟩ ih3
    simp only at j0 j1 j2
    unfold m_route_Tree_l1
    simp only [decide_eq_true_eq]
    refine has_ite (fun hi2 => ?_) (fun hi2 => ?_)
    · refine has_idx j0 hi2 fun r hr => ?_
      have hor := ho r (List.mem_of_getElem? hr)
      have hrl := hor.len
      have e1 : (i2 + 1).toNat = i2.toNat + 1 := by omega
      have etk : ∀ (A : List Int → Prop), (∀ q ∈ l.take (i2.toNat + 1), A q) ↔ (∀ q ∈ l.take i2.toNat, A q) ∧ A r := fun A => by
        rw [List.take_add_one, hr]
        simp only [Option.toList_some, List.mem_append, List.mem_singleton]
        exact ⟨fun h => ⟨fun q hq => h q (.inl hq), h r (.inr rfl)⟩, fun h q hq => by rcases hq with hq | rfl; exact h.1 q hq; exact h.2⟩
      refine has_join (fun c => (c = true ↔ b = true ∧ frm t (el r 0) = frm t (el (l.headD []) 0))) (fun c hc => ?_) (fun j hj => ?_)
      · rw [w64_id (n := i2 + 1) (by omega) (by omega)]
        refine ih3 _ ⟨by simp only; omega, by simp only; omega, ?_⟩ (by simp only; omega)
        simp only [e1]
        rw [hc, etk, j2, and_assoc]
      · refine has_ite (fun h => ?_) (fun h => hj _ ⟨fun h' => by simp at h', fun h' => absurd h'.1 h⟩)
        refine has_idx (by omega) (by omega) fun p hp => ?_
        have hp0 : r[0]? = some p := hp
        refine has_beq (walk_from_ok hf (hor.port p (List.mem_of_getElem? hp0))) ?_
        refine has_idx (by omega) (by omega) fun r0 hr0 => ?_
        have hr0' : l[0]? = some r0 := hr0
        have hor0 := ho r0 (List.mem_of_getElem? hr0')
        have := hor0.len
        refine has_idx (by omega) (by omega) fun q hq => ?_
        have hq0 : r0[0]? = some q := hq
        refine has_beq (walk_from_ok hf (hor0.port q (List.mem_of_getElem? hq0))) (hj _ ?_)
        rw [decide_eq_true_eq, hh0, hr0', el_get hp0]
        show _ ↔ _ ∧ _ = frm t (el r0 0)
        rw [el_get hq0]
        simp [h]
    · refine has_ok ⟨by rw [hall] at hP; exact hP.symm, rfl, ?_⟩
      rw [List.take_of_length_le (by omega), hreach] at j2
      exact j2.trans ⟨fun h => ⟨h.1, h.2⟩, fun h => ⟨h.reach, h.start⟩⟩
end Go.AM.P16
namespace Go.AM.P16
open Go
end Go.AM.P16
namespace Go.AM.P16
open Go
/-! ### Trees, by the reference -/
def pu (l : List (List Int)) : Nat → List Int
  | 0 => []
  | k + 1 => pu l k ++ (if (k : Int) ∈ l.flatten then [(k : Int)] else [])
theorem pu_mem {l : List (List Int)} {x : Int} : ∀ {k : Nat}, x ∈ pu l k ↔ 0 ≤ x ∧ x < k ∧ x ∈ l.flatten
  | 0 => by simp only [pu, List.not_mem_nil, false_iff]; rintro ⟨h0, h1, _⟩; omega
  | k + 1 => by
    unfold pu
    rw [List.mem_append, pu_mem]
    constructor
    · rintro (⟨h0, h1, h2⟩ | h)
      · exact ⟨h0, by omega, h2⟩
      · split at h
        · rename_i hk; rw [List.mem_singleton] at h; subst h; exact ⟨by omega, by omega, hk⟩
        · cases h
    · rintro ⟨h0, h1, h2⟩
      by_cases hx : x = k
      · subst hx; right; rw [if_pos h2]; exact List.mem_singleton.2 rfl
      · exact .inl ⟨h0, by omega, h2⟩
theorem pu_ups (l : List (List Int)) : ∀ k, (pu l k).Pairwise (· < ·)
  | 0 => List.Pairwise.nil
  | k + 1 => by
    unfold pu
    rw [List.pairwise_append]
    refine ⟨pu_ups l k, ?_, fun x hx y hy => ?_⟩
    · split
      · exact List.pairwise_singleton ..
      · exact List.Pairwise.nil
    · split at hy
      · rw [List.mem_singleton] at hy; subst hy; exact (pu_mem.1 hx).2.1
      · cases hy
theorem pu_len (l : List (List Int)) : ∀ k, (pu l k).length ≤ k
  | 0 => by simp [pu]
  | k + 1 => by
    have := pu_len l k
    unfold pu
    rw [List.length_append]
    split <;> simp <;> omega
theorem uses_ok {l : List (List Int)} (hl : l.length ≤ 8) (h8 : ∀ r ∈ l, r.length ≤ 12) (p : Int) : m_isochronref21_uses l p = .ok (decide (p ∈ l.flatten)) := by
  refine Has.eq ?_
  unfold m_isochronref21_uses
  refine has_loop (fun i : Int => 0 ≤ i ∧ i ≤ l.length ∧ ∀ k : Nat, (k : Int) < i → ∀ r, l[k]? = some r → p ∉ r) (fun i => ((l.length : Int) - i).toNat) (fun y hy => by omega) ⟨by simp, by simp, fun k hk => by omega⟩ ?_
  rintro i rec ⟨g0, g1, g2⟩ ih
  unfold m_isochronref21_uses_l1
  simp only [decide_eq_true_eq]
  refine has_ite (fun hi => ?_) (fun hi => ?_)
  · refine has_idx g0 hi fun r hr => ?_
    have hrm := List.mem_of_getElem? hr
    refine has_beq (in_eq (by have := h8 r hrm; omega) p) ?_
    refine has_ite (fun h1 => has_ok ?_) (fun h1 => ?_)
    · exact (decide_eq_true (List.mem_flatten.2 ⟨r, hrm, of_decide_eq_true h1⟩)).symm
    · rw [w64_id (n := i + 1) (by omega) (by omega)]
      refine ih _ ⟨by omega, by omega, fun k hk q hq => ?_⟩ (by omega)
      by_cases hki : (k : Int) < i
      · exact g2 k hki q hq
      · have : k = i.toNat := by omega
        subst this; rw [hr] at hq; cases hq; simpa using h1
  · refine has_ok (decide_eq_false ?_).symm
    intro h
    obtain ⟨r, hr, hp⟩ := List.mem_flatten.1 h
    obtain ⟨k, hk⟩ := List.mem_iff_getElem?.1 hr
    have := (List.getElem?_eq_some_iff.1 hk).1
    exact g2 k (by omega) r hk hp
theorem rfPorts_ok {t : ApiTopo} (hf : Fit t) {l : List (List Int)} (hl : l.length ≤ 8) (ho : ∀ r ∈ l, Okr t r) : m_isochronref21_Ports t l = .ok (portsOf l.flatten) := by
  have hL := hf.small.l
  have h8 : ∀ r ∈ l, r.length ≤ 12 := fun r hr => by have := (ho r hr).len; omega
  refine Has.eq ?_
  unfold m_isochronref21_Ports
  have hw := w2l hf.small
  refine has_loop (fun y : List Int × Int => 0 ≤ y.2 ∧ y.2 ≤ 2 * t.Links.length ∧ y.1 = pu l y.2.toNat) (fun y => (2 * (t.Links.length : Int) - y.2).toNat) (fun y hy => by omega) ⟨by simp, by simp only; omega, rfl⟩ ?_
  rintro ⟨out, p⟩ rec ⟨g0, g1, g2⟩ ih
  simp only at g0 g1 g2
  unfold m_isochronref21_Ports_l1
  simp only [decide_eq_true_eq, hw]
  have hpl := pu_len l p.toNat
  have e1 : (p + 1).toNat = p.toNat + 1 := by omega
  have e2 : ((p.toNat : Nat) : Int) = p := by omega
  refine has_ite (fun hp => ?_) (fun hp => has_ok ?_)
  · refine has_beq (uses_ok hl h8 p) ?_
    refine has_join (fun z => z = pu l (p.toNat + 1)) (fun z hz => ?_) (fun j hj => ?_)
    · rw [w64_id (n := p + 1) (by omega) (by omega)]
      exact ih _ ⟨by simp only; omega, by simp only; omega, by simp only [e1]; exact hz⟩ (by simp only; omega)
    · refine has_ite (fun h => ?_) (fun h => hj _ ?_)
      · refine has_must (okLen_ok (by rw [g2]; simp; omega)) (hj _ ?_)
        unfold pu
        rw [e2, if_pos (of_decide_eq_true h), g2]
      · unfold pu
        rw [e2, if_neg (by simpa using h), g2, List.append_nil]
  · have hpe : p.toNat = 2 * t.Links.length := by omega
    rw [g2, hpe]
    have hu := portsOf_ups l.flatten
    refine ups_uniq (pu_ups l _) hu.1 fun x => ?_
    rw [pu_mem, hu.2]
    refine ⟨fun h => h.2.2, fun h => ?_⟩
    obtain ⟨r, hr, hx⟩ := List.mem_flatten.1 h
    have := (ho r hr).port x hx
    exact ⟨this.1, by have := this.2; omega, h⟩
theorem rfTree_has {t : ApiTopo} (hf : Fit t) {l : List (List Int)} (hl : l.length ≤ 8) (ho : ∀ r ∈ l, Okr t r) : Has (m_isochronref21_Tree t l) (fun b => (b = true ↔ TreeP t l)) := by
  have hL := hf.small.l
  have hh0 : l.headD [] = (l[0]?).getD [] := by cases l <;> rfl
  unfold m_isochronref21_Tree
  refine has_loop (fun i : Int => 0 ≤ i ∧ i ≤ l.length ∧ ∀ k : Nat, (k : Int) < i → ∀ r, l[k]? = some r → frm t (el r 0) = frm t (el (l.headD []) 0)) (fun i => ((l.length : Int) - i).toNat) (fun y hy => by omega) ⟨by simp, by simp, fun k hk => by omega⟩ ?_
  rintro i rec ⟨g0, g1, g2⟩ ih
  unfold m_isochronref21_Tree_l3
  simp only [decide_eq_true_eq]
  refine has_ite (fun hi => ?_) (fun hi => ?_)
  · refine has_idx g0 hi fun r hr => ?_
    have hor := ho r (List.mem_of_getElem? hr)
    have := hor.len
    refine has_idx (by omega) (by omega) fun p hp => ?_
    have hp0 : r[0]? = some p := hp
    refine has_beq (rFrom_ok hf.small (hor.port p (List.mem_of_getElem? hp0))) ?_
    refine has_idx (by omega) (by omega) fun r0 hr0 => ?_
    have hr0' : l[0]? = some r0 := hr0
    have hor0 := ho r0 (List.mem_of_getElem? hr0')
    have := hor0.len
    refine has_idx (by omega) (by omega) fun q hq => ?_
    have hq0 : r0[0]? = some q := hq
    refine has_beq (rFrom_ok hf.small (hor0.port q (List.mem_of_getElem? hq0))) ?_
    have e1 : frm t (el r 0) = frm t p := by rw [el_get hp0]
    have e2 : frm t (el (l.headD []) 0) = frm t q := by rw [hh0, hr0']; show frm t (el r0 0) = _; rw [el_get hq0]
    refine has_ite (fun h => has_ok ⟨fun h' => by simp at h', fun ht => absurd (by rw [← e1, ← e2]; exact ht.start r (List.mem_of_getElem? hr)) h⟩) (fun h => ?_)
    have h : frm t p = frm t q := by simpa using h
    rw [w64_id (n := i + 1) (by omega) (by omega)]
    refine ih _ ⟨by omega, by omega, fun k hk q' hq' => ?_⟩ (by omega)
    by_cases hki : (k : Int) < i
    · exact g2 k hki q' hq'
    · have : k = i.toNat := by omega
      subst this; rw [hr] at hq'; cases hq'; rw [e1, e2, h]
  · have hstart : ∀ r ∈ l, frm t (el r 0) = frm t (el (l.headD []) 0) := fun r hr => by
      obtain ⟨k, hk⟩ := List.mem_iff_getElem?.1 hr
      have := (List.getElem?_eq_some_iff.1 hk).1
      exact g2 k (by omega) r hk
    refine has_beq (rfPorts_ok hf hl ho) ?_
    have hu := portsOf_ups l.flatten
    have hport : ∀ p ∈ portsOf l.flatten, IsP t p := fun p hp => by
      obtain ⟨r, hr, hx⟩ := List.mem_flatten.1 ((hu.2 p).1 hp)
      exact (ho r hr).port p hx
    have hPl : (portsOf l.flatten).length ≤ 48 := by
      have hk : (portsOf l.flatten) = pu l (2 * t.Links.length) := by
        refine ups_uniq hu.1 (pu_ups l _) fun x => ?_
        rw [pu_mem, hu.2]
        refine ⟨fun h => ?_, fun h => h.2.2⟩
        obtain ⟨r, hr, hx⟩ := List.mem_flatten.1 h
        have := (ho r hr).port x hx
        exact ⟨this.1, by have := this.2; omega, h⟩
      rw [hk]; have := pu_len l (2 * t.Links.length); omega
    have hreach : (∀ a b : Nat, b < a → ∀ p q, (portsOf l.flatten)[a]? = some p → (portsOf l.flatten)[b]? = some q → too t p ≠ too t q) → TreeP t l := fun hd => by
      refine ⟨fun p hp q hq he => ?_, hstart⟩
      obtain ⟨a, ha⟩ := List.mem_iff_getElem?.1 ((hu.2 p).2 hp)
      obtain ⟨b, hb⟩ := List.mem_iff_getElem?.1 ((hu.2 q).2 hq)
      rcases Nat.lt_trichotomy a b with h | h | h
      · exact absurd he.symm (hd b a h q p hb ha)
      · subst h; rw [ha] at hb; exact Option.some.inj hb
      · exact absurd he (hd a b h p q ha hb)
    have hinj : TreeP t l → ∀ a b : Nat, b < a → ∀ p q, (portsOf l.flatten)[a]? = some p → (portsOf l.flatten)[b]? = some q → too t p ≠ too t q := fun ht a b hab p q ha hb he => by
      have := ht.reach p ((hu.2 p).1 (List.mem_of_getElem? ha)) q ((hu.2 q).1 (List.mem_of_getElem? hb)) he
      subst this
      obtain ⟨hal, hae⟩ := List.getElem?_eq_some_iff.1 ha
      obtain ⟨hbl, hbe⟩ := List.getElem?_eq_some_iff.1 hb
      have := (List.pairwise_iff_getElem.1 hu.1) b a hbl hal hab
      omega
    generalize portsOf l.flatten = P at *
    refine has_loop (fun y : List Int × Int => y.1 = P ∧ 0 ≤ y.2 ∧ y.2 ≤ P.length ∧ ∀ a b : Nat, (a : Int) < y.2 → b < a → ∀ p q, P[a]? = some p → P[b]? = some q → too t p ≠ too t q) (fun y => ((P.length : Int) - y.2).toNat) (fun y hy => by omega) ⟨rfl, by simp, by simp, fun a b h => by simp at h; omega⟩ ?_
    rintro ⟨P', a⟩ rec2 ⟨k0, k1, k2, k3⟩ ih2
    simp only at k0 k1 k2 k3
    subst k0
    unfold m_isochronref21_Tree_l2
    simp only [decide_eq_true_eq]
    refine has_ite (fun ha => ?_) (fun ha => has_ok ⟨fun _ => hreach fun x y hxy p q hp hq => k3 x y (by have := (List.getElem?_eq_some_iff.1 hp).1; omega) hxy p q hp hq, fun _ => rfl⟩)
    refine has_loop (fun y : List Int × Int => y.1 = P' ∧ 0 ≤ y.2 ∧ y.2 ≤ a ∧ ∀ b : Nat, (b : Int) < y.2 → ∀ p q, P'[a.toNat]? = some p → P'[b]? = some q → too t p ≠ too t q) (fun y => (a - y.2).toNat) (fun y hy => by omega) ⟨rfl, by simp, by simp only; omega, fun b h => by simp at h; omega⟩ ?_
    rintro ⟨P'', b⟩ rec3 ⟨j0, j1, j2, j3⟩ ih3
    simp only at j0 j1 j2 j3
    subst j0
    unfold m_isochronref21_Tree_l1
    simp only [decide_eq_true_eq]
    refine has_ite (fun hb => ?_) (fun hb => ?_)
    · refine has_idx k1 ha fun p hp => ?_
      refine has_beq (rTo_ok hf.small (hport p (List.mem_of_getElem? hp))) ?_
      refine has_idx j1 (by omega) fun q hq => ?_
      refine has_beq (rTo_ok hf.small (hport q (List.mem_of_getElem? hq))) ?_
      refine has_ite (fun h => has_ok ⟨fun h' => by simp at h', fun ht => absurd h (hinj ht a.toNat b.toNat (by omega) p q hp hq)⟩) (fun h => ?_)
      rw [w64_id (n := b + 1) (by omega) (by omega)]
      refine ih3 _ ⟨rfl, by simp only; omega, by simp only; omega, fun c hc p' q' hp' hq' => ?_⟩ (by simp only; omega)
      simp only at hc
      by_cases hcb : (c : Int) < b
      · exact j3 c hcb p' q' hp' hq'
      · have : c = b.toNat := by omega
        subst this; rw [hp] at hp'; rw [hq] at hq'; cases hp'; cases hq'; exact h
    · rw [w64_id (n := a + 1) (by omega) (by omega)]
      refine ih2 _ ⟨rfl, by simp only; omega, by simp only; omega, fun c d hc hcd p q hp hq => ?_⟩ (by simp only; omega)
      simp only at hc
      by_cases hca : (c : Int) < a
      · exact k3 c d hca hcd p q hp hq
      · have : c = a.toNat := by omega
        subst this; exact j3 d (by omega) p q hp hq
theorem Tree_bad {t : ApiTopo} (hf : Fit t) {l : List (List Int)} (hl : l.length ≤ 8) (hb : ∃ r ∈ l, ¬ Okr t r) : m_route_Tree t l = .ok ([], false, 310) := by
  refine Has.eq ?_
  unfold m_route_Tree
  refine has_beq (Check_fit hf) ?_
  refine has_ite (fun h => by simp at h) (fun _ => ?_)
  refine has_loop (fun y : List Int × Int => 0 ≤ y.2 ∧ y.2 ≤ l.length ∧ (y.1.length : Int) ≤ y.2 * 8 ∧ ∀ k : Nat, (k : Int) < y.2 → ∀ r, l[k]? = some r → Okr t r) (fun y => ((l.length : Int) - y.2).toNat) (fun y hy => by omega) ⟨by simp, by simp, by simp, fun k hk => by simp at hk; omega⟩ ?_
  rintro ⟨ps, i⟩ rec ⟨g0, g1, g2, g3⟩ ih
  simp only at g0 g1 g2 g3
  unfold m_route_Tree_l3
  simp only [decide_eq_true_eq]
  refine has_ite (fun hi => ?_) (fun hi => ?_)
  · refine has_idx g0 hi fun r hr => ?_
    refine has_bind (valid_has hf r) fun b hb => ?_
    refine has_ite (fun _ => has_ok rfl) (fun h => ?_)
    have hor : Okr t r := hb.1 (by simpa using h)
    have := hor.len
    refine has_must (okLen_ok (by omega)) ?_
    rw [w64_id (n := i + 1) (by omega) (by omega)]
    refine ih _ ⟨by simp only; omega, by simp only; omega, by simp only [List.length_append]; omega, fun k hk q hq => ?_⟩ (by simp only; omega)
    simp only at hk
    by_cases hki : (k : Int) < i
    · exact g3 k hki q hq
    · have : k = i.toNat := by omega
      subst this; rw [hr] at hq; cases hq; exact hor
  · exfalso
    obtain ⟨r, hr, hn⟩ := hb
    obtain ⟨k, hk⟩ := List.mem_iff_getElem?.1 hr
    have := (List.getElem?_eq_some_iff.1 hk).1
    exact hn (g3 k (by omega) r hk)
theorem RouteTrees_pure (x0 : ApiTopo) (x1 : List (List Int)) : m_isochronlaw21_RouteTrees x0 x1 = .ok true := by
  refine Has.eq ?_
  obtain ⟨t, hfew⟩ := few21 x0
  unfold m_isochronlaw21_RouteTrees
  refine has_beq wakes21 ?_
  refine has_ite (fun h => by simp at h) (fun _ => ?_)
  refine has_beq hfew ?_
  refine has_must (by simp only [decide_eq_true_eq]; omega) ?_
  have hx : (x1.take ((min (x1.length : Int) 8)).toNat).length ≤ 8 := by rw [List.length_take]; omega
  unfold m_isochronlaw21_RouteTrees_l1
  generalize x1.take ((min (x1.length : Int) 8)).toNat = xs at hx ⊢
  refine has_loop (fun y : List (List Int) × Int => 0 ≤ y.2 ∧ y.2 ≤ xs.length ∧ (y.1.length : Int) = y.2) (fun y => ((xs.length : Int) - y.2).toNat) (fun y hy => by omega) ⟨by simp, by simp, by simp⟩ ?_
  rintro ⟨l, i⟩ rec ⟨g0, g1, g2⟩ ih
  simp only at g0 g1 g2
  refine has_ite (fun hi => ?_) (fun hi => ?_)
  · have hi := of_decide_eq_true hi
    refine has_idx g0 hi fun r hr => ?_
    refine has_bind (cut21 r) fun c _ => ?_
    refine has_must (okLen_ok (by simp; omega)) ?_
    rw [w64_id (n := i + 1) (by omega) (by omega)]
    exact ih _ ⟨by simp only; omega, by simp only; omega, by simp; omega⟩ (by simp only; omega)
  · have hll : l.length ≤ 8 := by omega
    by_cases hf : Fit t
    · by_cases ho : ∀ r ∈ l, Okr t r
      · refine has_bind (Tree_has hf hll ho) fun v hv => ?_
        refine has_bind (want_wc t l (by omega)) fun e he => ?_
        have he : e = 0 := by
          rcases he with ⟨h, _⟩ | ⟨_, ⟨q, hq, hn⟩, _⟩ | ⟨_, _, h⟩
          · exact absurd hf h
          · exact absurd (ho q hq) hn
          · exact h
        subst he
        refine has_ite (fun h => by simp at h) (fun _ => ?_)
        refine has_join (fun s => s = true) (fun s hs => ?_) (fun j hj => ?_)
        · subst hs
          refine has_join (fun s => s = true) (fun s hs => has_ok hs) (fun j hj => ?_)
          refine has_ite (fun _ => ?_) (fun h => absurd rfl h)
          refine has_bind (rfTree_has hf hll ho) fun w hw => hj _ ?_
          have : v.2.1 = w := bool_eq hv.2.2 hw
          rw [this]; simp
        · refine has_ite (fun _ => ?_) (fun h => by simp [hv.2.1] at h)
          refine has_beq (rfPorts_ok hf hll ho) ?_
          have hpl : (portsOf l.flatten).length < 1000000 := by
            have h1 := portsOf_len l.flatten
            have : ∀ l : List (List Int), (∀ r ∈ l, Okr t r) → l.flatten.length ≤ l.length * 8 := fun l => by
              induction l with
              | nil => intro _; simp
              | cons r l ih =>
                intro h
                have := (h r (by simp)).len
                have := ih fun q hq => h q (by simp [hq])
                simp only [List.flatten_cons, List.length_append, List.length_cons]; omega
            have := this l ho
            omega
          rw [hv.1]
          refine has_beq (equal_int hpl) (hj _ (by simp))
      · have hb : ∃ r ∈ l, ¬ Okr t r := Classical.byContradiction fun hn => ho fun r hr => Classical.byContradiction fun h => hn ⟨r, hr, h⟩
        refine has_beq (Tree_bad hf hll hb) ?_
        refine has_bind (want_wc t l (by omega)) fun e he => ?_
        have he : e = 310 := by
          rcases he with ⟨h, _⟩ | ⟨_, _, h⟩ | ⟨_, h, _⟩
          · exact absurd hf h
          · exact h
          · exact absurd h ho
        subst he
        exact has_ite (fun _ => has_sh (has_sh (has_ok (by simp)))) (fun h => by simp at h)
    · have hT : m_route_Tree t l = .ok ([], false, 260) := by unfold m_route_Tree; rw [Check_unfit hf]; rfl
      refine has_beq hT ?_
      refine has_bind (want_wc t l (by omega)) fun e he => ?_
      have he : e = 260 := by
        rcases he with ⟨_, h⟩ | ⟨h, _, _⟩ | ⟨h, _, _⟩
        · exact h
        · exact absurd h hf
        · exact absurd h hf
      subst he
      exact has_ite (fun _ => has_sh (has_sh (has_ok (by simp)))) (fun h => by simp at h)
end Go.AM.P16
