/- The plain law: lemmas over plain data, no program; no claim of its own; no condition. -/
import Derived.Test.YtlkddekecegfdaaGtDefs
import Derived.Test.YtlkddekecegfdaaLfK
set_option linter.unusedVariables false
set_option linter.unusedSimpArgs false
namespace Go.AM.P16
open Go
theorem wakes_ok : m_isochronlaw16_wakes = .ok true := by kernel_rfl

/-! ### Links -/
theorem from_ok {e : ApiLink} {p : Int} : m_topo_end_from ⟨e, p⟩ = .ok (if p.tmod 2 = 0 then e.A else e.B) := by
  unfold m_topo_end_from
  simp only [decide_eq_true_eq]
  split <;> rfl
theorem tmod_even {i : Int} (h : 0 ≤ i) : (2 * i).tmod 2 = 0 := by rw [Int.tmod_eq_emod_of_nonneg (by omega)]; omega
theorem tmod_odd {i : Int} (h : 0 ≤ i) : (2 * i + 1).tmod 2 = 1 := by rw [Int.tmod_eq_emod_of_nonneg (by omega)]; omega
theorem from_even {e : ApiLink} {i : Int} (h : 0 ≤ i) (h1 : i < 1000000) : m_topo_end_from ⟨e, w64 (2 * i)⟩ = .ok e.A := by
  rw [w64_id (by omega) (by omega), from_ok, if_pos (tmod_even h)]
theorem from_odd {e : ApiLink} {i : Int} (h : 0 ≤ i) (h1 : i < 1000000) : m_topo_end_from ⟨e, w64 ((w64 (2 * i)) + 1)⟩ = .ok e.B := by
  rw [w64_id (n := 2 * i) (by omega) (by omega), w64_id (by omega) (by omega), from_ok, if_neg (by rw [tmod_odd h]; decide)]
theorem to_ok {e : ApiLink} {p : Int} (ha : 0 ≤ e.A ∧ e.A < 1000000) (hb : 0 ≤ e.B ∧ e.B < 1000000) : m_topo_end_to ⟨e, p⟩ = .ok (if p.tmod 2 = 0 then e.B else e.A) := by
  unfold m_topo_end_to
  rw [from_ok]
  simp only [bindR]
  rw [w64_id (n := e.A + e.B) (by omega) (by omega)]
  split <;> (rw [w64_id (by omega) (by omega)]; congr 1; omega)
theorem to_even {e : ApiLink} {i : Int} (ha : 0 ≤ e.A ∧ e.A < 1000000) (hb : 0 ≤ e.B ∧ e.B < 1000000) (h : 0 ≤ i) (h1 : i < 1000000) : m_topo_end_to ⟨e, w64 (2 * i)⟩ = .ok e.B := by
  rw [w64_id (by omega) (by omega), to_ok ha hb, if_pos (tmod_even h)]
theorem to_odd {e : ApiLink} {i : Int} (ha : 0 ≤ e.A ∧ e.A < 1000000) (hb : 0 ≤ e.B ∧ e.B < 1000000) (h : 0 ≤ i) (h1 : i < 1000000) : m_topo_end_to ⟨e, w64 ((w64 (2 * i)) + 1)⟩ = .ok e.A := by
  rw [w64_id (n := 2 * i) (by omega) (by omega), w64_id (by omega) (by omega), to_ok ha hb, if_neg (by rw [tmod_odd h]; decide)]

/-! ### What a topology must be -/
def Joins (e : ApiLink) (a b : Int) : Prop := (e.A = a ∧ e.B = b) ∨ (e.A = b ∧ e.B = a)
def IsN (t : ApiTopo) (n : Int) : Prop := 0 ≤ n ∧ n < t.Nodes
instance (t : ApiTopo) (n : Int) : Decidable (IsN t n) := inferInstanceAs (Decidable (_ ∧ _))
structure LinkOk (t : ApiTopo) (e : ApiLink) : Prop where
  a : IsN t e.A
  b : IsN t e.B
  ne : e.A ≠ e.B
  st : ¬ (Seen t.Station e.A ∧ Seen t.Station e.B)
  per : 1 ≤ e.Per ∧ e.Per ≤ 1000
  delay : 0 ≤ e.Delay ∧ e.Delay ≤ 10000
def Alone (ls : List ApiLink) (i : Nat) (e : ApiLink) : Prop := ∀ (j : Nat) (f : ApiLink), j < i → ls[j]? = some f → ¬ Joins f e.A e.B
structure Small (t : ApiTopo) : Prop where
  n : 2 ≤ t.Nodes ∧ t.Nodes ≤ 12
  s : (t.Station.length : Int) = t.Nodes
  l : t.Links.length ≤ 24
def LinksOk (t : ApiTopo) : Prop := ∀ (i : Nat) (e : ApiLink), t.Links[i]? = some e → LinkOk t e ∧ Alone t.Links i e
def ends (e : ApiLink) (n : Int) : Int := (if e.A = n then 1 else 0) + (if e.B = n then 1 else 0)
def cnt (ls : List ApiLink) (n : Int) : Int := (ls.map (ends · n)).sum
inductive Rch (t : ApiTopo) (cut : List Int) (s : Int) : Int → Prop
  | base : Rch t cut s s
  | fwd {i : Nat} {e : ApiLink} : t.Links[i]? = some e → (i : Int) ∉ cut → Rch t cut s e.A → Rch t cut s e.B
  | bwd {i : Nat} {e : ApiLink} : t.Links[i]? = some e → (i : Int) ∉ cut → Rch t cut s e.B → Rch t cut s e.A
structure Fit (t : ApiTopo) : Prop where
  small : Small t
  links : LinksOk t
  stations : ∀ n, IsN t n → Seen t.Station n → 1 ≤ cnt t.Links n ∧ cnt t.Links n ≤ 2
  whole : ∀ n, IsN t n → Rch t [] 0 n

theorem ends_range (e : ApiLink) (n : Int) : 0 ≤ ends e n ∧ ends e n ≤ 2 := by
  unfold ends; split <;> split <;> omega
theorem cnt_range (ls : List ApiLink) (n : Int) : 0 ≤ cnt ls n ∧ cnt ls n ≤ 2 * ls.length := by
  induction ls with
  | nil => simp [cnt]
  | cons e ls ih =>
    have := ends_range e n
    simp only [cnt, List.map_cons, List.sum_cons, List.length_cons] at ih ⊢
    omega
theorem cnt_take {ls : List ApiLink} {i : Nat} {e : ApiLink} (h : ls[i]? = some e) (n : Int) : cnt (ls.take (i + 1)) n = cnt (ls.take i) n + ends e n := by
  rw [List.take_add_one, h]
  simp [cnt]

theorem isNode_ok (t : ApiTopo) (n : Int) : m_topo_isNode t n = .ok (decide (IsN t n)) := by
  unfold m_topo_isNode sh
  by_cases h1 : 0 ≤ n <;> by_cases h2 : n < t.Nodes <;> simp [IsN, h1, h2]
end Go.AM.P16
namespace Go.AM.P16
open Go
end Go.AM.P16
namespace Go.AM.P16
open Go
/-! ### Looking in rows -/
theorem index_int_has {l : List Int} (hl : l.length < 1000000) (x : Int) : Has (m_slices_Index_int_int l x) (fun r => (0 ≤ r ↔ x ∈ l)) := by
  unfold m_slices_Index_int_int
  refine has_loop (fun i : Int => 0 ≤ i ∧ i ≤ l.length ∧ ∀ j : Nat, (j : Int) < i → l[j]? ≠ some x) (fun i => ((l.length : Int) - i).toNat) (fun y hy => by omega) ⟨by omega, by omega, fun j hj => by omega⟩ ?_
  rintro i rec ⟨h0, h1, h2⟩ ih
  unfold m_slices_Index_int_int_l1
  simp only [decide_eq_true_eq]
  refine has_ite (fun hi => ?_) (fun hi => ?_)
  · refine has_idx h0 hi fun a ha => ?_
    refine has_ite (fun he => ?_) (fun he => ?_)
    · subst he
      exact has_ok ⟨fun _ => List.mem_of_getElem? ha, fun _ => h0⟩
    · rw [w64_id (by omega) (by omega)]
      refine ih _ ⟨by omega, by omega, fun j hj => ?_⟩ (by omega)
      by_cases hji : (j : Int) < i
      · exact h2 j hji
      · have : j = i.toNat := by omega
        rw [this, ha]; intro hx; cases hx; exact he rfl
  · refine has_ok ⟨fun h => by omega, fun h => ?_⟩
    obtain ⟨j, hj⟩ := List.mem_iff_getElem?.1 h
    have := (List.getElem?_eq_some_iff.1 hj).1
    exact absurd hj (h2 j (by omega))
theorem contains_int {l : List Int} (hl : l.length < 1000000) (x : Int) : m_slices_Contains_int_int l x = .ok (decide (x ∈ l)) := by
  unfold m_slices_Contains_int_int
  obtain ⟨r, h1, h2⟩ := index_int_has hl x
  rw [h1]
  simp only [bindR, h2]
theorem index_bool_has {l : List Bool} (hl : l.length < 1000000) (x : Bool) : Has (m_slices_Index_bool_bool l x) (fun r => (0 ≤ r ↔ x ∈ l)) := by
  unfold m_slices_Index_bool_bool
  refine has_loop (fun i : Int => 0 ≤ i ∧ i ≤ l.length ∧ ∀ j : Nat, (j : Int) < i → l[j]? ≠ some x) (fun i => ((l.length : Int) - i).toNat) (fun y hy => by omega) ⟨by omega, by omega, fun j hj => by omega⟩ ?_
  rintro i rec ⟨h0, h1, h2⟩ ih
  unfold m_slices_Index_bool_bool_l1
  simp only [decide_eq_true_eq, beq_iff_eq]
  refine has_ite (fun hi => ?_) (fun hi => ?_)
  · refine has_idx h0 hi fun a ha => ?_
    refine has_ite (fun he => ?_) (fun he => ?_)
    · subst he
      exact has_ok ⟨fun _ => List.mem_of_getElem? ha, fun _ => h0⟩
    · rw [w64_id (by omega) (by omega)]
      refine ih _ ⟨by omega, by omega, fun j hj => ?_⟩ (by omega)
      by_cases hji : (j : Int) < i
      · exact h2 j hji
      · have : j = i.toNat := by omega
        rw [this, ha]; intro hx; cases hx; exact he rfl
  · refine has_ok ⟨fun h => by omega, fun h => ?_⟩
    obtain ⟨j, hj⟩ := List.mem_iff_getElem?.1 h
    have := (List.getElem?_eq_some_iff.1 hj).1
    exact absurd hj (h2 j (by omega))
theorem contains_bool {l : List Bool} (hl : l.length < 1000000) (x : Bool) : m_slices_Contains_bool_bool l x = .ok (decide (x ∈ l)) := by
  unfold m_slices_Contains_bool_bool
  obtain ⟨r, h1, h2⟩ := index_bool_has hl x
  rw [h1]
  simp only [bindR, h2]
/-! ### Counting -/
theorem degree_ok {t : ApiTopo} (ht : t.Links.length ≤ 24) (n : Int) : m_topo_degree t n = .ok (cnt t.Links n) := by
  refine Has.eq ?_
  unfold m_topo_degree
  refine has_loop (fun s : Int × Int => 0 ≤ s.1 ∧ s.1 ≤ t.Links.length ∧ s.2 = cnt (t.Links.take s.1.toNat) n) (fun s => ((t.Links.length : Int) - s.1).toNat) (fun y hy => by omega) ⟨by simp, by simp, by simp [cnt]⟩ ?_
  rintro ⟨i, c⟩ rec ⟨h0, h1, h2⟩ ih
  unfold m_topo_degree_l1
  simp only [decide_eq_true_eq] at *
  refine has_ite (fun hi => ?_) (fun hi => ?_)
  · refine has_idx h0 hi fun e he => ?_
    have hstep := cnt_take he n
    have hr := cnt_range (t.Links.take i.toNat) n
    have hlen : (t.Links.take i.toNat).length ≤ 24 := by rw [List.length_take]; omega
    have hend : cnt (t.Links.take (i + 1).toNat) n = c + ends e n := by
      have : (i + 1).toNat = i.toNat + 1 := by omega
      rw [this, hstep, h2]
    refine has_beq (from_even h0 (by omega)) (has_sh ?_)
    refine has_ite (fun ha => ?_) (fun ha => ?_) <;>
    · refine has_beq (from_odd h0 (by omega)) (has_sh ?_)
      refine has_ite (fun hb => ?_) (fun hb => ?_) <;>
      · show Has (rec _) _
        rw [w64_id (n := i + 1) (by omega) (by omega)]
        refine ih _ ⟨by simp only; omega, by simp only; omega, ?_⟩ (by simp only; omega)
        simp only
        rw [hend]
        unfold ends
        simp only [ha, hb, if_true, if_false]
        try rw [w64_id (n := c + 1) (by omega) (by omega)]
        try rw [w64_id (by omega) (by omega)]
        try omega
  · refine has_ok ?_
    rw [h2, List.take_of_length_le (by omega)]
end Go.AM.P16
namespace Go.AM.P16
open Go
theorem joins_dec {e : ApiLink} {a b : Int} : ((decide (e.A = a) && decide (e.B = b)) || (decide (e.A = b) && decide (e.B = a))) = true ↔ Joins e a b := by
  simp [Joins]
theorem validLink_has {t : ApiTopo} (ht : Small t) {p : Int} {e : ApiLink} (h0 : 0 ≤ p) (he : t.Links[p.toNat]? = some e) :
    Has (m_topo_validLink t p) (fun r => (r = true ↔ LinkOk t e ∧ Alone t.Links p.toNat e)) := by
  have hp := (List.getElem?_eq_some_iff.1 he).1
  have hl := ht.l
  have hs := ht.s
  unfold m_topo_validLink
  refine has_idx h0 (by omega) fun e' he' => ?_
  rw [he] at he'; cases he'
  refine has_beq (isNode_ok _ _) ?_
  refine has_join (fun s => (s = true ↔ IsN t e.A ∧ IsN t e.B)) (fun s hs1 => ?_) (fun j hj => ?_)
  · refine has_sh ?_
    simp only [Bool.not_eq_true', Bool.and_eq_false_iff, decide_eq_false_iff_not, Decidable.not_not]
    refine has_ite (fun h => has_ok ?_) (fun h => ?_)
    · simp only [Bool.false_eq_true, false_iff]
      rintro ⟨h1, _⟩
      rcases h with h | h
      · rw [hs1.2 ⟨h1.a, h1.b⟩] at h; cases h
      · exact h1.ne h
    · rw [not_or, Bool.not_eq_false, hs1] at h
      obtain ⟨⟨ha, hb⟩, hne⟩ := h
      refine has_idx ha.1 (by have := ha.2; omega) fun sa hsa => ?_
      refine has_join (fun s => (s = true ↔ ¬ (Seen t.Station e.A ∧ Seen t.Station e.B))) (fun s hs2 => ?_) (fun j hj => ?_)
      · refine has_ite (fun h => has_ok ?_) (fun h => ?_)
        · simp only [Bool.false_eq_true, false_iff]
          rintro ⟨h1, _⟩
          rw [hs2.2 h1.st] at h; cases h
        · have h : s = true := by simpa using h
          rw [hs2] at h
          refine has_sh (has_sh (has_sh ?_))
          simp only [Bool.not_eq_true', Bool.and_eq_false_iff, decide_eq_false_iff_not]
          refine has_ite (fun h2 => has_ok ?_) (fun h2 => ?_)
          · simp only [Bool.false_eq_true, false_iff]
            rintro ⟨h1, _⟩
            have h3 := h1.per; have h4 := h1.delay
            omega
          · have ok : LinkOk t e := ⟨ha, hb, hne, h, by omega, by omega⟩
            refine has_must (by simp only [decide_eq_true_eq]; omega) ?_
            have hlen : (t.Links.take p.toNat).length = p.toNat := by rw [List.length_take]; omega
            refine has_loop (fun i : Int => 0 ≤ i ∧ i ≤ p ∧ Alone t.Links i.toNat e) (fun i => (p - i).toNat) (fun y hy => by omega) ⟨by omega, by omega, fun j f hj => by simp at hj⟩ ?_
            rintro i rec ⟨g0, g1, g2⟩ ih
            unfold m_topo_validLink_l1
            simp only [decide_eq_true_eq, hlen]
            refine has_ite (fun hi => ?_) (fun hi => has_ok ?_)
            · refine has_idx g0 (by rw [hlen]; omega) fun f hf => ?_
              rw [List.getElem?_take_of_lt (by omega)] at hf
              refine has_sh (has_sh ?_)
              refine has_ite (fun hjn => ?_) (fun hjn => ?_)
              · have hjn := joins_dec.1 hjn
                have : ¬ Alone t.Links p.toNat e := fun h => h i.toNat f (by omega) hf hjn
                simp only [g0, this, and_false, iff_false, decide_true, Bool.not_true, Bool.not_false, Bool.false_eq_true, if_false, if_true]
                exact has_ok (by simp)
              · have hjn : ¬ Joins f e.A e.B := fun h => hjn (joins_dec.2 h)
                rw [w64_id (by omega) (by omega)]
                refine ih _ ⟨by omega, by omega, fun j f' hj hf' => ?_⟩ (by omega)
                by_cases hji : j < i.toNat
                · exact g2 j f' hji hf'
                · have : j = i.toNat := by omega
                  rw [this, hf] at hf'; cases hf'; exact hjn
            · have : i = p := by omega
              subst this
              simp [ok, g2]
      · refine has_ite (fun h => ?_) (fun h => ?_)
        · refine hj _ ?_
          have : sa = false := by simpa using h
          subst this
          have : ¬ Seen t.Station e.A := by rw [seen_get ha.1 hsa]; simp
          simp [this]
        · refine has_idx hb.1 (by have := hb.2; omega) fun sb hsb => hj _ ?_
          have h1 : Seen t.Station e.A := by rw [seen_get ha.1 hsa]; simpa using h
          have h2 := seen_get hb.1 hsb
          simp [h1, h2]
  · refine has_ite (fun h => ?_) (fun h => ?_)
    · refine has_beq (isNode_ok _ _) (hj _ ?_)
      have : IsN t e.A := by simpa using h
      simp [this]
    · refine hj _ ?_
      have : ¬ IsN t e.A := by simpa using h
      simp [this]
end Go.AM.P16
namespace Go.AM.P16
open Go
/-- All links end at nodes. -/
def InL (t : ApiTopo) : Prop := ∀ (i : Nat) (e : ApiLink), t.Links[i]? = some e → IsN t e.A ∧ IsN t e.B
def Closed (t : ApiTopo) (cut : List Int) (l : List Bool) : Prop := ∀ (i : Nat) (e : ApiLink), t.Links[i]? = some e → (i : Int) ∉ cut → (Seen l e.A ↔ Seen l e.B)
theorem Closed.all {t : ApiTopo} {cut : List Int} {l : List Bool} {s x : Int} (h : Closed t cut l) (hs : Seen l s) (hx : Rch t cut s x) : Seen l x := by
  induction hx with
  | base => exact hs
  | fwd h1 h2 _ ih => exact (h _ _ h1 h2).1 ih
  | bwd h1 h2 _ ih => exact (h _ _ h1 h2).2 ih
def IsReach (t : ApiTopo) (cut : List Int) (s : Int) (l : List Bool) : Prop := (l.length : Int) = t.Nodes ∧ ∀ x, Seen l x ↔ Rch t cut s x
theorem not_seen {l : List Bool} {i : Int} (h0 : 0 ≤ i) (h1 : i < l.length) (h : ¬ Seen l i) : l[i.toNat]? = some false := by
  have hlt : i.toNat < l.length := by omega
  rw [List.getElem?_eq_getElem hlt]
  cases hb : l[i.toNat] with
  | false => rfl
  | true => exact absurd ⟨h0, by rw [List.getElem?_eq_getElem hlt, hb]⟩ h
theorem reach_has {t : ApiTopo} (ht : Small t) (hi : InL t) {cut : List Int} (hc : cut.length < 1000000) {s : Int} (hs : IsN t s) : Has (m_topo_reach t s cut) (IsReach t cut s) := by
  have hn := ht.n
  have hlk := ht.l
  have hs0 := hs.1
  have hs1 := hs.2
  unfold m_topo_reach
  refine has_must (by simp only [decide_eq_true_eq]; omega) ?_
  have hrl : (List.replicate (t.Nodes).toNat false).length = t.Nodes.toNat := List.length_replicate ..
  refine has_idx hs0 (by rw [hrl]; omega) fun _ _ => ?_
  refine has_loop (fun l : List Bool => (l.length : Int) = t.Nodes ∧ Seen l s ∧ ∀ x, Seen l x → Rch t cut s x) low (fun l hl => by have := low_le l; omega) ⟨by rw [List.length_set, hrl]; omega, (seen_set (by rw [hrl]; omega)).2 (.inr rfl), fun x hx => ?_⟩ ?_
  · rcases (seen_set (by rw [hrl]; omega)).1 hx with h | rfl
    · exact absurd h seen_rep
    · exact .base
  rintro l rec ⟨hl, hls, hlr⟩ ih
  unfold m_topo_reach_l2
  refine has_loop (fun y : Int × List Bool => y.2 = l ∧ 0 ≤ y.1 ∧ y.1 ≤ t.Links.length ∧ ∀ (j : Nat) (e : ApiLink), (j : Int) < y.1 → t.Links[j]? = some e → (j : Int) ∉ cut → (Seen l e.A ↔ Seen l e.B)) (fun y => ((t.Links.length : Int) - y.1).toNat) (fun y hy => by omega) ⟨rfl, by simp, by simp, fun j e hj => by simp at hj; omega⟩ ?_
  rintro ⟨i, l'⟩ rec2 ⟨g0, g1, g2, g3⟩ ih2
  simp only at g0 g1 g2 g3
  subst g0
  unfold m_topo_reach_l1
  simp only [decide_eq_true_eq]
  refine has_ite (fun hil => ?_) (fun hil => ?_)
  rotate_left
  · refine has_ok ⟨hl, fun x => ⟨hlr x, fun hx => ?_⟩⟩
    exact Closed.all (fun j e hj hjc => g3 j e (by have := (List.getElem?_eq_some_iff.1 hj).1; omega) hj hjc) hls hx
  refine has_idx g1 hil fun e he => ?_
  obtain ⟨⟨hA0, hA1⟩, ⟨hB0, hB1⟩⟩ := hi _ _ he
  have hA : 0 ≤ e.A ∧ e.A < 1000000 := ⟨hA0, by omega⟩
  have hB : 0 ≤ e.B ∧ e.B < 1000000 := ⟨hB0, by omega⟩
  have hq1 : (w64 ((w64 (2 * i)).tdiv 2)) = i := by
    rw [w64_id (n := 2 * i) (by omega) (by omega), Int.tdiv_eq_ediv_of_nonneg (by omega), w64_id (by omega) (by omega)]; omega
  have hq2 : (w64 ((w64 ((w64 (2 * i)) + 1)).tdiv 2)) = i := by
    rw [w64_id (n := 2 * i) (by omega) (by omega), w64_id (n := 2 * i + 1) (by omega) (by omega), Int.tdiv_eq_ediv_of_nonneg (by omega), w64_id (by omega) (by omega)]; omega
  have hcast : ((i.toNat : Nat) : Int) = i := by omega
  refine has_beq (from_even g1 (by omega)) ?_
  refine has_idx hA0 (by omega) fun sa hsa => ?_
  have hsa := seen_get hA0 hsa
  refine has_join (fun b => (b = true ↔ Seen l' e.A ∧ ¬ Seen l' e.B)) (fun b hb => ?_) (fun j hj => ?_)
  · refine has_join (fun b => (b = true ↔ (Seen l' e.A ∧ ¬ Seen l' e.B) ∧ i ∉ cut)) (fun b hb => ?_) (fun j hj => ?_)
    · refine has_ite (fun h => ?_) (fun h => ?_)
      · obtain ⟨⟨h1, h2⟩, h3⟩ := hb.1 h
        refine has_beq (to_even hA hB g1 (by omega)) ?_
        refine has_idx hB0 (by omega) fun _ _ => ?_
        refine ih _ ⟨by rw [List.length_set]; exact hl, (seen_set (by omega)).2 (.inl hls), fun x hx => ?_⟩ (by have := low_set (not_seen hB0 (by omega) h2); omega)
        rcases (seen_set (by omega)).1 hx with h | rfl
        · exact hlr x h
        · exact .fwd he (by rw [hcast]; exact h3) (hlr _ h1)
      · have hb1 : ¬ ((Seen l' e.A ∧ ¬ Seen l' e.B) ∧ i ∉ cut) := fun hh => h (hb.2 hh)
        refine has_beq (from_odd g1 (by omega)) ?_
        refine has_idx hB0 (by omega) fun sb hsb => ?_
        have hsb := seen_get hB0 hsb
        refine has_join (fun b => (b = true ↔ Seen l' e.B ∧ ¬ Seen l' e.A)) (fun b hb => ?_) (fun j hj => ?_)
        · refine has_join (fun b => (b = true ↔ (Seen l' e.B ∧ ¬ Seen l' e.A) ∧ i ∉ cut)) (fun b hb => ?_) (fun j hj => ?_)
          · refine has_ite (fun h => ?_) (fun h => ?_)
            · obtain ⟨⟨h1, h2⟩, h3⟩ := hb.1 h
              refine has_beq (to_odd hA hB g1 (by omega)) ?_
              refine has_idx hA0 (by omega) fun _ _ => ?_
              refine ih _ ⟨by rw [List.length_set]; exact hl, (seen_set (by omega)).2 (.inl hls), fun x hx => ?_⟩ (by have := low_set (not_seen hA0 (by omega) h2); omega)
              rcases (seen_set (by omega)).1 hx with h | rfl
              · exact hlr x h
              · exact .bwd he (by rw [hcast]; exact h3) (hlr _ h1)
            · have hb2 : ¬ ((Seen l' e.B ∧ ¬ Seen l' e.A) ∧ i ∉ cut) := fun hh => h (hb.2 hh)
              rw [w64_id (n := i + 1) (by omega) (by omega)]
              refine ih2 _ ⟨rfl, by simp only; omega, by simp only; omega, fun j e' hj hj2 hj3 => ?_⟩ (by simp only; omega)
              simp only at hj
              by_cases hji : (j : Int) < i
              · exact g3 j e' hji hj2 hj3
              · have hjn : j = i.toNat := by omega
                rw [hjn] at hj2 hj3
                rw [he] at hj2; cases hj2
                rw [hcast] at hj3
                by_cases ha : Seen l' e.A <;> by_cases hb : Seen l' e.B <;> simp_all
          · refine has_ite (fun h => ?_) (fun h => ?_)
            · refine has_beq (contains_int hc _) (hj _ ?_)
              rw [hq2]; simp [hb.1 h]
            · refine hj _ ?_
              have : ¬ (Seen l' e.B ∧ ¬ Seen l' e.A) := fun hh => h (hb.2 hh)
              simp [this]
        · refine has_ite (fun h => ?_) (fun h => ?_)
          · refine has_beq (to_odd hA hB g1 (by omega)) ?_
            refine has_idx hA0 (by omega) fun sa2 hsa2 => hj _ ?_
            have hsa2 := seen_get hA0 hsa2
            rw [hsb, hsa2, h]; simp
          · refine hj _ ?_
            rw [hsb]; simp [h]
    · refine has_ite (fun h => ?_) (fun h => ?_)
      · refine has_beq (contains_int hc _) (hj _ ?_)
        rw [hq1]; simp [hb.1 h]
      · refine hj _ ?_
        have : ¬ (Seen l' e.A ∧ ¬ Seen l' e.B) := fun hh => h (hb.2 hh)
        simp [this]
  · refine has_ite (fun h => ?_) (fun h => ?_)
    · refine has_beq (to_even hA hB g1 (by omega)) ?_
      refine has_idx hB0 (by omega) fun sb2 hsb2 => hj _ ?_
      have hsb2 := seen_get hB0 hsb2
      rw [hsa, hsb2, h]; simp
    · refine hj _ ?_
      rw [hsa]; simp [h]
end Go.AM.P16
namespace Go.AM.P16
open Go
end Go.AM.P16
namespace Go.AM.P16
open Go
theorem IsReach.whole {t : ApiTopo} {l : List Bool} (h : IsReach t [] 0 l) : false ∈ l ↔ ¬ ∀ n, IsN t n → Rch t [] 0 n := by
  obtain ⟨h1, h2⟩ := h
  constructor
  · intro hm hall
    obtain ⟨i, hi⟩ := List.mem_iff_getElem?.1 hm
    have hlt := (List.getElem?_eq_some_iff.1 hi).1
    have := (h2 (i : Int)).2 (hall i ⟨by omega, by omega⟩)
    obtain ⟨_, h⟩ := this
    rw [show ((i : Int).toNat) = i from rfl, hi] at h
    cases h
  · intro hn
    by_cases hf : false ∈ l
    · exact hf
    · refine absurd (fun n hnn => (h2 n).1 ?_) hn
      by_cases hs : Seen l n
      · exact hs
      · exact absurd (List.mem_of_getElem? (not_seen hnn.1 (by have := hnn.2; omega) hs)) hf
theorem LinksOk.inl {t : ApiTopo} (h : LinksOk t) : InL t := fun i e he => ⟨(h i e he).1.a, (h i e he).1.b⟩
def CheckIs (t : ApiTopo) (r : Int) : Prop := (Fit t ∧ r = 0) ∨ (¬ Fit t ∧ r = 260)
theorem small_dec {t : ApiTopo} : ((((decide (t.Nodes < 2)) || (decide (12 < t.Nodes))) || (decide ((t.Station.length : Int) ≠ t.Nodes))) || (decide (24 < (t.Links.length : Int)))) = true ↔ ¬ Small t := by
  simp only [Bool.or_eq_true, decide_eq_true_eq]
  constructor
  · intro h hs
    have h1 := hs.n; have h2 := hs.s; have h3 := hs.l
    omega
  · intro h
    by_cases h1 : t.Nodes < 2
    · exact .inl (.inl (.inl h1))
    by_cases h2 : 12 < t.Nodes
    · exact .inl (.inl (.inr h2))
    by_cases h3 : (t.Station.length : Int) = t.Nodes
    · refine .inr ?_
      by_cases h4 : t.Links.length ≤ 24
      · exact absurd ⟨⟨by omega, by omega⟩, h3, h4⟩ h
      · omega
    · exact .inl (.inr h3)
theorem Check_has (t : ApiTopo) : Has (m_topo_Check t) (CheckIs t) := by
  unfold m_topo_Check
  refine has_sh (has_sh (has_sh ?_))
  refine has_ite (fun h => has_ok ?_) (fun h => ?_)
  · exact .inr ⟨fun hf => small_dec.1 h hf.small, rfl⟩
  have ht : Small t := Classical.not_not.1 fun hn => h (small_dec.2 hn)
  have hn := ht.n
  have hlk := ht.l
  have hst := ht.s
  refine has_loop (fun i : Int => 0 ≤ i ∧ i ≤ t.Links.length ∧ ∀ (j : Nat) (e : ApiLink), (j : Int) < i → t.Links[j]? = some e → LinkOk t e ∧ Alone t.Links j e) (fun i => ((t.Links.length : Int) - i).toNat) (fun y hy => by omega) ⟨by omega, by omega, fun j e hj => by omega⟩ ?_
  rintro i rec ⟨g0, g1, g2⟩ ih
  unfold m_topo_Check_l2
  simp only [decide_eq_true_eq]
  refine has_ite (fun hi => ?_) (fun hi => ?_)
  · obtain ⟨e, he⟩ : ∃ e, t.Links[i.toNat]? = some e := ⟨_, List.getElem?_eq_getElem (by omega)⟩
    refine has_bind (validLink_has ht g0 he) fun r hr => ?_
    refine has_ite (fun h => has_ok ?_) (fun h => ?_)
    · refine .inr ⟨fun hf => ?_, rfl⟩
      rw [hr.2 (hf.links _ _ he)] at h
      cases h
    · have h : r = true := by simpa using h
      rw [w64_id (by omega) (by omega)]
      refine ih _ ⟨by omega, by omega, fun j f hj hf => ?_⟩ (by omega)
      by_cases hji : (j : Int) < i
      · exact g2 j f hji hf
      · have : j = i.toNat := by omega
        subst this
        rw [he] at hf; cases hf
        exact hr.1 h
  have hL : LinksOk t := fun j e he => g2 j e (by have := (List.getElem?_eq_some_iff.1 he).1; omega) he
  refine has_loop (fun i : Int => 0 ≤ i ∧ i ≤ t.Station.length ∧ ∀ n : Int, n < i → Seen t.Station n → 1 ≤ cnt t.Links n ∧ cnt t.Links n ≤ 2) (fun i => ((t.Station.length : Int) - i).toNat) (fun y hy => by omega) ⟨by omega, by omega, fun n hn hs => by have := hs.1; omega⟩ ?_
  rintro k rec2 ⟨k0, k1, k2⟩ ih2
  unfold m_topo_Check_l1
  simp only [decide_eq_true_eq]
  refine has_ite (fun hk => ?_) (fun hk => ?_)
  · refine has_idx k0 hk fun b hb => ?_
    have hb := seen_get k0 hb
    refine has_join (fun s => (s = true ↔ Seen t.Station k ∧ ¬ (1 ≤ cnt t.Links k ∧ cnt t.Links k ≤ 2))) (fun s hs => ?_) (fun j hj => ?_)
    · refine has_ite (fun h => has_ok ?_) (fun h => ?_)
      · obtain ⟨h1, h2⟩ := hs.1 h
        exact .inr ⟨fun hf => h2 (hf.stations k ⟨k0, by omega⟩ h1), rfl⟩
      · rw [w64_id (by omega) (by omega)]
        refine ih2 _ ⟨by omega, by omega, fun n hn hsn => ?_⟩ (by omega)
        by_cases hnk : n < k
        · exact k2 n hnk hsn
        · have : n = k := by omega
          subst this
          exact Decidable.byContradiction fun hh => h (hs.2 ⟨hsn, hh⟩)
    · refine has_ite (fun h => ?_) (fun h => ?_)
      · refine has_beq (degree_ok hlk k) ?_
        have hsn := hb.2 h
        refine has_ite (fun h2 => hj _ ?_) (fun h2 => ?_)
        · simp only [true_iff]; exact ⟨hsn, by omega⟩
        · refine has_beq (degree_ok hlk k) (hj _ ?_)
          simp only [decide_eq_true_eq]
          exact ⟨fun h3 => ⟨hsn, by omega⟩, fun ⟨_, h3⟩ => by omega⟩
      · refine hj _ ?_
        have : ¬ Seen t.Station k := fun hh => h (hb.1 hh)
        simp [this]
  · refine has_bind (reach_has ht hL.inl (cut := []) (by simp) (s := 0) ⟨by omega, by omega⟩) fun l hl => ?_
    have hw := hl.whole
    refine has_beq (contains_bool (by have := hl.1; omega) false) ?_
    refine has_ite (fun h => has_ok ?_) (fun h => has_ok ?_)
    · exact .inr ⟨fun hf => hw.1 (by simpa using h) hf.whole, rfl⟩
    · have h : ¬ false ∈ l := by simpa using h
      refine .inl ⟨⟨ht, hL, fun n hn hs => k2 n (by have := hs.lt; omega) hs, ?_⟩, rfl⟩
      exact Classical.not_not.1 fun hh => h (hw.2 hh)
theorem Check_eq (t : ApiTopo) : ∃ r, m_topo_Check t = .ok r ∧ CheckIs t r := Check_has t

/-! ### The reference -/
theorem node_ok (t : ApiTopo) (n : Int) : m_isochronref16_node t n = .ok (decide (IsN t n)) := by
  unfold m_isochronref16_node sh
  by_cases h1 : 0 ≤ n <;> by_cases h2 : n < t.Nodes <;> simp [IsN, h1, h2]
theorem joins_ok (e : ApiLink) (a b : Int) : Has (m_isochronref16_Joins e a b) (fun r => (r = true ↔ Joins e a b)) := by
  unfold m_isochronref16_Joins
  exact has_sh (has_sh (has_ok joins_dec))
theorem link_has {t : ApiTopo} (ht : Small t) (e : ApiLink) : Has (m_isochronref16_link t e) (fun r => (r = true ↔ LinkOk t e)) := by
  have hs := ht.s
  unfold m_isochronref16_link
  refine has_beq (node_ok _ _) ?_
  refine has_join (fun s => (s = true ↔ ¬ (IsN t e.A ∧ IsN t e.B))) (fun s hs1 => ?_) (fun j hj => ?_)
  · refine has_sh ?_
    refine has_join (fun s => (s = true ↔ ¬ (IsN t e.A ∧ IsN t e.B ∧ e.A ≠ e.B ∧ ¬ (Seen t.Station e.A ∧ Seen t.Station e.B)))) (fun s hs2 => ?_) (fun j hj => ?_)
    · refine has_ite (fun h => has_ok ?_) (fun h => ?_)
      · simp only [Bool.false_eq_true, false_iff]
        exact fun hl => hs2.1 h ⟨hl.a, hl.b, hl.ne, hl.st⟩
      · have h : IsN t e.A ∧ IsN t e.B ∧ e.A ≠ e.B ∧ ¬ (Seen t.Station e.A ∧ Seen t.Station e.B) := Classical.not_not.1 fun hh => h (hs2.2 hh)
        refine has_sh (has_sh (has_sh (has_ok ?_)))
        simp only [Bool.and_eq_true, decide_eq_true_eq]
        exact ⟨fun hh => ⟨h.1, h.2.1, h.2.2.1, h.2.2.2, by omega, by omega⟩, fun hl => ⟨⟨hl.per, hl.delay.1⟩, hl.delay.2⟩⟩
    · refine has_ite (fun h => hj _ ?_) (fun h => ?_)
      · simp only [true_iff]
        rintro ⟨h1, h2, h3, _⟩
        simp only [Bool.or_eq_true, decide_eq_true_eq] at h
        rcases h with h | h
        · exact hs1.1 h ⟨h1, h2⟩
        · exact h3 h
      · have hab : IsN t e.A ∧ IsN t e.B := Classical.not_not.1 fun hh => h (by simp [hs1.2 hh])
        have hne : e.A ≠ e.B := fun hh => h (by simp [hh])
        obtain ⟨ha, hb⟩ := hab
        refine has_idx ha.1 (by have := ha.2; omega) fun sa hsa => ?_
        have hsa := seen_get ha.1 hsa
        refine has_ite (fun h1 => ?_) (fun h1 => ?_)
        · refine has_idx hb.1 (by have := hb.2; omega) fun sb hsb => hj _ ?_
          have hsb := seen_get hb.1 hsb
          have h1 := hsa.2 h1
          rw [← hsb]
          simp [ha, hb, hne, h1]
        · refine hj _ ?_
          have : ¬ Seen t.Station e.A := fun hh => h1 (hsa.1 hh)
          simp [ha, hb, hne, this]
  · refine has_ite (fun h => hj _ ?_) (fun h => ?_)
    · have : ¬ IsN t e.A := by simpa using h
      simp [this]
    · refine has_beq (node_ok _ _) (hj _ ?_)
      have : IsN t e.A := by simpa using h
      simp [this]
def RightIs (t : ApiTopo) (r : Bool) : Prop := (r = true ↔ Fit t)
end Go.AM.P16
namespace Go.AM.P16
open Go
theorem Check_fit {t : ApiTopo} (h : Fit t) : m_topo_Check t = .ok 0 := by
  obtain ⟨r, h1, h2⟩ := Check_has t
  rcases h2 with ⟨_, rfl⟩ | ⟨h2, _⟩
  · exact h1
  · exact absurd h h2
theorem Check_unfit {t : ApiTopo} (h : ¬ Fit t) : m_topo_Check t = .ok 260 := by
  obtain ⟨r, h1, h2⟩ := Check_has t
  rcases h2 with ⟨h2, rfl⟩ | ⟨h2, rfl⟩
  · exact absurd h2 h
  · exact h1
end Go.AM.P16
namespace Go.AM.P16
open Go
def IsP (t : ApiTopo) (p : Int) : Prop := 0 ≤ p ∧ p < 2 * t.Links.length
instance (t : ApiTopo) (p : Int) : Decidable (IsP t p) := inferInstanceAs (Decidable (_ ∧ _))
theorem w2l {t : ApiTopo} (h : Small t) : w64 (2 * (t.Links.length : Int)) = 2 * t.Links.length := by
  have := h.l
  rw [w64_id (by omega) (by omega)]
theorem half {p : Int} (h0 : 0 ≤ p) (h1 : p < 1000000) : w64 (p.tdiv 2) = p / 2 := by
  rw [Int.tdiv_eq_ediv_of_nonneg h0, w64_id (by omega) (by omega)]
/-- What stands at a port. -/
def pq (t : ApiTopo) (p : Int) (g : TopoEnd → R Int) : R (Int × Int) :=
  bindR (m_topo_Check t) fun e =>
  if (decide (e ≠ 0)) then (.ok (0, e))
  else (sh ((decide (p < 0)) || (decide ((w64 (2 * (t.Links.length : Int))) ≤ p))) fun (s : Bool) =>
  (if s then (.ok (0, 2))
  else (bindR (idx t.Links (w64 (Int.tdiv p 2))) fun e1 =>
  bindR (g ((TopoEnd.mk e1 p))) fun e2 =>
  .ok (e2, 0))))
theorem isp_dec {t : ApiTopo} (h : Small t) {p : Int} : ((decide (p < 0)) || (decide ((w64 (2 * (t.Links.length : Int))) ≤ p))) = decide (¬ IsP t p) := by
  rw [w2l h]
  by_cases h1 : p < 0 <;> by_cases h2 : 2 * (t.Links.length : Int) ≤ p <;> simp [IsP, h1, h2] <;> omega
theorem pq_unfit {t : ApiTopo} (h : ¬ Fit t) (p : Int) (g : TopoEnd → R Int) : pq t p g = .ok (0, 260) := by
  unfold pq; rw [Check_unfit h]; rfl
theorem pq_out {t : ApiTopo} (h : Fit t) {p : Int} (hp : ¬ IsP t p) (g : TopoEnd → R Int) : pq t p g = .ok (0, 2) := by
  unfold pq
  rw [Check_fit h, isp_dec h.small]
  simp [bindR, sh, hp]
theorem pq_in {t : ApiTopo} (h : Fit t) {p : Int} (hp : IsP t p) {e : ApiLink} (he : t.Links[(p / 2).toNat]? = some e) {g : TopoEnd → R Int} {v : Int} (hg : g ⟨e, p⟩ = .ok v) : pq t p g = .ok (v, 0) := by
  have := h.small.l
  obtain ⟨h0, h1⟩ := hp
  unfold pq
  rw [Check_fit h, isp_dec h.small, half h0 (by omega)]
  have : idx t.Links (p / 2) = .ok e := idx_ok.2 ⟨by omega, he⟩
  simp [bindR, sh, IsP, h0, h1, this, hg]
theorem portlink {t : ApiTopo} {p : Int} (hp : IsP t p) : ∃ e, t.Links[(p / 2).toNat]? = some e := by
  obtain ⟨h0, h1⟩ := hp
  exact ⟨_, List.getElem?_eq_getElem (by omega)⟩

end Go.AM.P16
namespace Go.AM.P16
open Go
theorem back_fin : ∀ p : Fin 48, bitXor .i64 (p.1 : Int) 1 = (if ((p.1 : Int)).tmod 2 = 1 then w64 ((p.1 : Int) - 1) else w64 ((p.1 : Int) + 1)) := by decide +kernel
/-! ### The law of the ports -/
end Go.AM.P16
namespace Go.AM.P16
open Go
/-! ### Rows that are alike -/
theorem equal_bool {a b : List Bool} (ha : a.length < 1000000) : m_slices_Equal_bool_bool a b = .ok (decide (a = b)) := by
  refine Has.eq ?_
  unfold m_slices_Equal_bool_bool
  simp only [decide_eq_true_eq, ne_eq]
  refine has_ite (fun h => has_ok ?_) (fun h => ?_)
  · have : a ≠ b := fun e => h (by rw [e])
    simp [this]
  refine has_loop (fun i : Int => 0 ≤ i ∧ i ≤ a.length ∧ ∀ j : Nat, (j : Int) < i → a[j]? = b[j]?) (fun i => ((a.length : Int) - i).toNat) (fun y hy => by omega) ⟨by omega, by omega, fun j hj => by omega⟩ ?_
  rintro i rec ⟨h0, h1, h2⟩ ih
  unfold m_slices_Equal_bool_bool_l1
  simp only [decide_eq_true_eq]
  refine has_ite (fun hi => ?_) (fun hi => ?_)
  · refine has_idx h0 hi fun x hx => ?_
    refine has_idx h0 (by omega) fun y hy => ?_
    refine has_ite (fun he => has_ok ?_) (fun he => ?_)
    · have : a ≠ b := fun e => by
        rw [e, hy] at hx; cases hx; simp at he
      simp [this]
    · have he : x = y := by simpa using he
      rw [w64_id (by omega) (by omega)]
      refine ih _ ⟨by omega, by omega, fun j hj => ?_⟩ (by omega)
      by_cases hji : (j : Int) < i
      · exact h2 j hji
      · have : j = i.toNat := by omega
        rw [this, hx, hy, he]
  · refine has_ok ?_
    have : a = b := List.ext_getElem? fun j => by
      by_cases hj : j < a.length
      · exact h2 j (by omega)
      · rw [List.getElem?_eq_none (by omega), List.getElem?_eq_none (by omega)]
    simp [this]
theorem equal_int {a b : List Int} (ha : a.length < 1000000) : m_slices_Equal_int_int a b = .ok (decide (a = b)) := by
  refine Has.eq ?_
  unfold m_slices_Equal_int_int
  simp only [decide_eq_true_eq, ne_eq]
  refine has_ite (fun h => has_ok ?_) (fun h => ?_)
  · have : a ≠ b := fun e => h (by rw [e])
    simp [this]
  refine has_loop (fun i : Int => 0 ≤ i ∧ i ≤ a.length ∧ ∀ j : Nat, (j : Int) < i → a[j]? = b[j]?) (fun i => ((a.length : Int) - i).toNat) (fun y hy => by omega) ⟨by omega, by omega, fun j hj => by omega⟩ ?_
  rintro i rec ⟨h0, h1, h2⟩ ih
  unfold m_slices_Equal_int_int_l1
  simp only [decide_eq_true_eq, ne_eq]
  refine has_ite (fun hi => ?_) (fun hi => ?_)
  · refine has_idx h0 hi fun x hx => ?_
    refine has_idx h0 (by omega) fun y hy => ?_
    refine has_ite (fun he => has_ok ?_) (fun he => ?_)
    · have : a ≠ b := fun e => by
        rw [e, hy] at hx; cases hx; simp at he
      simp [this]
    · have he : x = y := by simpa using he
      rw [w64_id (by omega) (by omega)]
      refine ih _ ⟨by omega, by omega, fun j hj => ?_⟩ (by omega)
      by_cases hji : (j : Int) < i
      · exact h2 j hji
      · have : j = i.toNat := by omega
        rw [this, hx, hy, he]
  · refine has_ok ?_
    have : a = b := List.ext_getElem? fun j => by
      by_cases hj : j < a.length
      · exact h2 j (by omega)
      · rw [List.getElem?_eq_none (by omega), List.getElem?_eq_none (by omega)]
    simp [this]

end Go.AM.P16
namespace Go.AM.P16
open Go
/-! ### Which ports -/
def fromO (t : ApiTopo) (p : Nat) : Option Int := (t.Links[p / 2]?).map fun e => if p % 2 = 0 then e.A else e.B
def toO (t : ApiTopo) (p : Nat) : Option Int := (t.Links[p / 2]?).map fun e => if p % 2 = 0 then e.B else e.A
theorem fromO_even {t : ApiTopo} {i : Nat} {e : ApiLink} (h : t.Links[i]? = some e) : fromO t (2 * i) = some e.A ∧ toO t (2 * i) = some e.B := by
  have h1 : 2 * i / 2 = i := by omega
  have h2 : 2 * i % 2 = 0 := by omega
  simp [fromO, toO, h1, h2, h]
theorem fromO_odd {t : ApiTopo} {i : Nat} {e : ApiLink} (h : t.Links[i]? = some e) : fromO t (2 * i + 1) = some e.B ∧ toO t (2 * i + 1) = some e.A := by
  have h1 : (2 * i + 1) / 2 = i := by omega
  have h2 : (2 * i + 1) % 2 = 1 := by omega
  simp [fromO, toO, h1, h2, h]
def pl (t : ApiTopo) (n : Int) : Nat → List Int
  | 0 => []
  | k + 1 => pl t n k ++ (if fromO t k = some n then [(k : Int)] else [])
theorem pl_succ (t : ApiTopo) (n : Int) (k : Nat) : pl t n (k + 1) = pl t n k ++ (if fromO t k = some n then [(k : Int)] else []) := rfl
theorem pl_len (t : ApiTopo) (n : Int) (k : Nat) : (pl t n k).length ≤ k := by
  induction k with
  | zero => simp [pl]
  | succ k ih => simp only [pl, List.length_append]; split <;> simp <;> omega
theorem okLen_ok {n : Nat} (h : n ≤ 1000000000) : okLen n = true := by unfold okLen; rw [Nat.ble_eq]; exact h
theorem Ports_ok {t : ApiTopo} (hf : Fit t) {n : Int} (hn : IsN t n) : m_topo_Ports t n = .ok (pl t n (2 * t.Links.length), 0) := by
  refine Has.eq ?_
  have ht := hf.small.l
  unfold m_topo_Ports
  refine has_beq (Check_fit hf) ?_
  refine has_ite (fun h => by simp at h) (fun _ => ?_)
  refine has_beq (isNode_ok t n) ?_
  refine has_ite (fun h => by simp [hn] at h) (fun _ => ?_)
  refine has_loop (fun y : Int × List Int => 0 ≤ y.1 ∧ y.1 ≤ t.Links.length ∧ y.2 = pl t n (2 * y.1).toNat) (fun y => ((t.Links.length : Int) - y.1).toNat) (fun y hy => by omega) ⟨by simp, by simp, rfl⟩ ?_
  rintro ⟨i, acc⟩ rec ⟨h0, h1, h2⟩ ih
  simp only at h0 h1 h2
  subst h2
  unfold m_topo_Ports_l1
  simp only [decide_eq_true_eq]
  refine has_ite (fun hi => ?_) (fun hi => has_ok ?_)
  · refine has_idx h0 hi fun e he => ?_
    refine has_beq (from_even h0 (by omega)) ?_
    have hcast : ((2 * i.toNat : Nat) : Int) = 2 * i := by omega
    have hn1 : (2 * i).toNat = 2 * i.toNat := by omega
    have hlen := pl_len t n (2 * i.toNat)
    have hlen1 := pl_len t n (2 * i.toNat + 1)
    have hev := (fromO_even he).1
    have hod := (fromO_odd he).1
    refine has_join (fun z => z = pl t n (2 * i.toNat + 1)) (fun z hz => ?_) (fun j hj => ?_)
    · subst hz
      refine has_beq (from_odd h0 (by omega)) ?_
      refine has_join (fun z => z = pl t n (2 * i.toNat + 1 + 1)) (fun z hz => ?_) (fun j hj => ?_)
      · subst hz
        rw [w64_id (n := i + 1) (by omega) (by omega)]
        refine ih _ ⟨by simp only; omega, by simp only; omega, ?_⟩ (by simp only; omega)
        simp only
        congr 1; omega
      · rw [w64_id (n := 2 * i) (by omega) (by omega), w64_id (n := 2 * i + 1) (by omega) (by omega)]
        refine has_ite (fun h => ?_) (fun h => hj _ ?_)
        · refine has_must (okLen_ok (by simp only [List.length_cons, List.length_nil]; omega)) (hj _ ?_)
          have h : e.B = n := by simpa using h
          rw [pl_succ t n (2 * i.toNat + 1), hod, h, if_pos rfl]
          congr 2; omega
        · have h : e.B ≠ n := by simpa using h
          rw [pl_succ t n (2 * i.toNat + 1), hod, if_neg (by intro e; cases e; exact h rfl), List.append_nil]
    · rw [w64_id (n := 2 * i) (by omega) (by omega), hn1]
      refine has_ite (fun h => ?_) (fun h => hj _ ?_)
      · refine has_must (okLen_ok (by simp only [List.length_cons, List.length_nil]; omega)) (hj _ ?_)
        have h : e.A = n := by simpa using h
        rw [pl_succ, hev, h, if_pos rfl, hcast]
      · have h : e.A ≠ n := by simpa using h
        rw [pl_succ, hev, if_neg (by intro e; cases e; exact h rfl), List.append_nil]
  · congr 2; omega

/-! ### The port that leads from one to another -/
def Hit (t : ApiTopo) (x y : Int) (p : Nat) : Prop := fromO t p = some x ∧ toO t p = some y
def Finds (t : ApiTopo) (x y : Int) (p : Nat) : Prop := p < 2 * t.Links.length ∧ Hit t x y p ∧ ∀ q, q < p → ¬ Hit t x y q
def NoHit (t : ApiTopo) (x y : Int) : Prop := ∀ q, q < 2 * t.Links.length → ¬ Hit t x y q
theorem Find_has {t : ApiTopo} (hf : Fit t) {x y : Int} (hx : IsN t x) (hy : IsN t y) : Has (m_topo_Find t x y) (fun r => (NoHit t x y ∧ r = (0, 4)) ∨ ∃ p, Finds t x y p ∧ r = ((p : Int), 0)) := by
  have ht := hf.small.l
  have hN := hf.small.n
  unfold m_topo_Find
  refine has_beq (Check_fit hf) ?_
  refine has_ite (fun h => by simp at h) (fun _ => ?_)
  refine has_beq (isNode_ok t x) ?_
  refine has_join (fun z => z = false) (fun z hz => ?_) (fun j hj => ?_)
  rotate_left
  · refine has_ite (fun h => by simp [hx] at h) (fun _ => ?_)
    refine has_beq (isNode_ok t y) (hj _ ?_)
    simp [hy]
  subst hz
  refine has_ite (fun h => by simp at h) (fun _ => ?_)
  refine has_loop (fun i : Int => 0 ≤ i ∧ i ≤ t.Links.length ∧ ∀ q : Nat, (q : Int) < 2 * i → ¬ Hit t x y q) (fun i => ((t.Links.length : Int) - i).toNat) (fun y hy => by omega) ⟨by omega, by omega, fun q hq => by omega⟩ ?_
  rintro i rec ⟨h0, h1, h2⟩ ih
  unfold m_topo_Find_l1
  simp only [decide_eq_true_eq]
  refine has_ite (fun hi => ?_) (fun hi => has_ok ?_)
  · refine has_idx h0 hi fun e he => ?_
    have hlk := (hf.links _ _ he).1
    have hA : 0 ≤ e.A ∧ e.A < 1000000 := ⟨hlk.a.1, by have := hlk.a.2; omega⟩
    have hB : 0 ≤ e.B ∧ e.B < 1000000 := ⟨hlk.b.1, by have := hlk.b.2; omega⟩
    have hev := fromO_even he
    have hod := fromO_odd he
    refine has_beq (from_even h0 (by omega)) ?_
    refine has_join (fun z => (z = true ↔ Hit t x y (2 * i.toNat))) (fun z hz => ?_) (fun j hj => ?_)
    · refine has_ite (fun h => has_ok ?_) (fun h => ?_)
      · rw [w64_id (n := 2 * i) (by omega) (by omega)]
        exact .inr ⟨2 * i.toNat, ⟨by omega, hz.1 h, fun q hq => h2 q (by omega)⟩, by congr 1; omega⟩
      · have hz1 : ¬ Hit t x y (2 * i.toNat) := fun hh => h (hz.2 hh)
        refine has_beq (from_odd h0 (by omega)) ?_
        refine has_join (fun z => (z = true ↔ Hit t x y (2 * i.toNat + 1))) (fun z hz => ?_) (fun j hj => ?_)
        · refine has_ite (fun h => has_ok ?_) (fun h => ?_)
          · rw [w64_id (n := 2 * i) (by omega) (by omega), w64_id (n := 2 * i + 1) (by omega) (by omega)]
            refine .inr ⟨2 * i.toNat + 1, ⟨by omega, hz.1 h, fun q hq => ?_⟩, by congr 1; omega⟩
            by_cases hq2 : (q : Int) < 2 * i
            · exact h2 q hq2
            · have : q = 2 * i.toNat := by omega
              rw [this]; exact hz1
          · have hz2 : ¬ Hit t x y (2 * i.toNat + 1) := fun hh => h (hz.2 hh)
            rw [w64_id (n := i + 1) (by omega) (by omega)]
            refine ih _ ⟨by omega, by omega, fun q hq => ?_⟩ (by omega)
            by_cases hq2 : (q : Int) < 2 * i
            · exact h2 q hq2
            · by_cases hq3 : q = 2 * i.toNat
              · rw [hq3]; exact hz1
              · have : q = 2 * i.toNat + 1 := by omega
                rw [this]; exact hz2
        · refine has_ite (fun h => ?_) (fun h => hj _ ?_)
          · refine has_beq (to_odd hA hB h0 (by omega)) (hj _ ?_)
            have h : e.B = x := by simpa using h
            simp [Hit, hod.1, hod.2, h]
          · have h : ¬ e.B = x := by simpa using h
            simp [Hit, hod.1, h]
    · refine has_ite (fun h => ?_) (fun h => hj _ ?_)
      · refine has_beq (to_even hA hB h0 (by omega)) (hj _ ?_)
        have h : e.A = x := by simpa using h
        simp [Hit, hev.1, hev.2, h]
      · have h : ¬ e.A = x := by simpa using h
        simp [Hit, hev.1, h]
  · exact .inl ⟨fun q hq => h2 q (by omega), rfl⟩
theorem Find_out {t : ApiTopo} (hf : Fit t) {x y : Int} (h : ¬ (IsN t x ∧ IsN t y)) : m_topo_Find t x y = .ok (0, 2) := by
  unfold m_topo_Find
  rw [Check_fit hf, isNode_ok, isNode_ok]
  by_cases hx : IsN t x
  · have hy : ¬ IsN t y := fun hy => h ⟨hx, hy⟩
    simp [bindR, sh, hx, hy]
  · simp [bindR, sh, hx]
theorem Find_unfit {t : ApiTopo} (hf : ¬ Fit t) (x y : Int) : m_topo_Find t x y = .ok (0, 260) := by
  unfold m_topo_Find; rw [Check_unfit hf]; rfl
theorem Ports_unfit {t : ApiTopo} (hf : ¬ Fit t) (x : Int) : m_topo_Ports t x = .ok ([], 260) := by
  unfold m_topo_Ports; rw [Check_unfit hf]; rfl
theorem Ports_out {t : ApiTopo} (hf : Fit t) {x : Int} (h : ¬ IsN t x) : m_topo_Ports t x = .ok ([], 2) := by
  unfold m_topo_Ports
  rw [Check_fit hf, isNode_ok]
  simp [bindR, h]
theorem isn_dec {t : ApiTopo} {x : Int} : (decide (x < 0) || decide (t.Nodes ≤ x)) = decide (¬ IsN t x) := by
  by_cases h1 : x < 0 <;> by_cases h2 : t.Nodes ≤ x <;> simp [IsN, h1, h2] <;> omega

/-! ### The law of finding -/
end Go.AM.P16
namespace Go.AM.P16
open Go
/-! ### Topologies that a draft describes -/
theorem inR_u8 {n : Int} : inR .u8 n ↔ 0 ≤ n ∧ n ≤ 255 := by
  unfold inR
  have h1 : IntKind.u8.min = 0 := by decide
  have h2 : IntKind.u8.max = 255 := by decide
  rw [h1, h2]
theorem pick_has {l : List Int} (hl : ∀ v ∈ l, inR .u8 v) {i : Int} (h0 : 0 ≤ i) : Has (m_isochronref16_pick l i) (fun r => 0 ≤ r ∧ r ≤ 255) := by
  unfold m_isochronref16_pick
  refine has_ite (fun h => ?_) (fun h => has_ok ⟨by omega, by omega⟩)
  refine has_idx h0 (of_decide_eq_true h) fun v hv => has_ok ?_
  have := inR_u8.1 (hl v (List.mem_of_getElem? hv))
  rw [w64_id (by omega) (by omega)]
  exact this
structure Sized (t : ApiTopo) : Prop where
  n : 2 ≤ t.Nodes ∧ t.Nodes ≤ 12
  s : (t.Station.length : Int) = t.Nodes
def WithIs (t : ApiTopo) (a b : Int) (u : ApiTopo) : Prop :=
  ∃ l : ApiLink, l.A = a ∧ l.B = b ∧ (1 ≤ l.Per ∧ l.Per ≤ 20) ∧ (0 ≤ l.Delay ∧ l.Delay < 50) ∧
    ((u = t ∧ (t.Links.length < 24 → LinkOk t l → ∃ (i : Nat) (f : ApiLink), t.Links[i]? = some f ∧ Joins f a b)) ∨
     (u = { t with Links := t.Links ++ [l] } ∧ t.Links.length < 24 ∧ LinkOk t l ∧ ∀ (i : Nat) (f : ApiLink), t.Links[i]? = some f → ¬ Joins f a b))
theorem with_has {d : Isochronref16Draft} (hP : ∀ v ∈ d.Pers, inR .u8 v) (hD : ∀ v ∈ d.Delays, inR .u8 v) {t : ApiTopo} (hs : Sized t) (hl : t.Links.length ≤ 24) (a b : Int) :
    Has (m_isochronref16_Draft_with d t a b) (WithIs t a b) := by
  unfold m_isochronref16_Draft_with
  refine has_bind (pick_has hP (by omega)) fun p hp => ?_
  refine has_bind (pick_has hD (by omega)) fun q hq => ?_
  have hp1 : Int.tmod p 20 = p % 20 := Int.tmod_eq_emod_of_nonneg hp.1
  have hq1 : Int.tmod q 50 = q % 50 := Int.tmod_eq_emod_of_nonneg hq.1
  have hw : w64 (1 + Int.tmod p 20) = 1 + p % 20 := by rw [hp1, w64_id (by omega) (by omega)]
  unfold m_isochronref16_Draft_with_l1
  rw [hw, hq1]
  have hsm : Small t := ⟨hs.n, hs.s, hl⟩
  refine has_join (fun s => (s = true ↔ t.Links.length = 24 ∨ ¬ LinkOk t ⟨a, b, 1 + p % 20, q % 50⟩)) (fun s hs1 => ?_) (fun j hj => ?_)
  · refine has_ite (fun h => has_ok ?_) (fun h => ?_)
    · refine ⟨⟨a, b, 1 + p % 20, q % 50⟩, rfl, rfl, by simp only; omega, by simp only; omega, .inl ⟨rfl, fun h24 hok => ?_⟩⟩
      rcases hs1.1 h with h1 | h1
      · omega
      · exact absurd hok h1
    · have hno : ¬ (t.Links.length = 24 ∨ ¬ LinkOk t ⟨a, b, 1 + p % 20, q % 50⟩) := fun hh => h (hs1.2 hh)
      have h24 : t.Links.length < 24 := by
        have : t.Links.length ≠ 24 := fun hh => hno (.inl hh)
        omega
      have hok : LinkOk t ⟨a, b, 1 + p % 20, q % 50⟩ := Classical.not_not.1 fun hh => hno (.inr hh)
      refine has_loop (fun y : Int × List ApiLink => y.2 = t.Links ∧ 0 ≤ y.1 ∧ y.1 ≤ t.Links.length ∧ ∀ (i : Nat) (f : ApiLink), (i : Int) < y.1 → t.Links[i]? = some f → ¬ Joins f a b) (fun y => ((t.Links.length : Int) - y.1).toNat) (fun y hy => by omega) ⟨rfl, by simp, by simp, fun i f hi => by simp at hi; omega⟩ ?_
      rintro ⟨i, ls⟩ rec ⟨h0, h1, h2, h3⟩ ih
      simp only at h0 h1 h2 h3
      subst h0
      refine has_ite (fun hi => ?_) (fun hi => ?_)
      · have hi : i < t.Links.length := of_decide_eq_true hi
        refine has_idx h1 hi fun f hf => ?_
        refine has_bind (joins_ok f a b) fun r hr => ?_
        refine has_ite (fun hrt => has_ok ?_) (fun hrf => ?_)
        · exact ⟨⟨a, b, 1 + p % 20, q % 50⟩, rfl, rfl, by simp only; omega, by simp only; omega, .inl ⟨rfl, fun _ _ => ⟨i.toNat, f, hf, hr.1 hrt⟩⟩⟩
        · rw [w64_id (n := i + 1) (by omega) (by omega)]
          refine ih _ ⟨rfl, by simp only; omega, by simp only; omega, fun k g hk hg => ?_⟩ (by simp only; omega)
          simp only at hk
          by_cases hki : (k : Int) < i
          · exact h3 k g hki hg
          · have : k = i.toNat := by omega
            rw [this, hf] at hg; cases hg
            exact fun hh => hrf (hr.2 hh)
      · have hi : ¬ i < t.Links.length := fun hh => hi (decide_eq_true hh)
        refine has_must (by unfold okLen; rw [Nat.ble_eq]; simp only [List.length_cons, List.length_nil]; omega) (has_ok ?_)
        exact ⟨⟨a, b, 1 + p % 20, q % 50⟩, rfl, rfl, by simp only; omega, by simp only; omega, .inr ⟨rfl, h24, hok, fun k g hg => h3 k g (by have := (List.getElem?_eq_some_iff.1 hg).1; omega) hg⟩⟩
  · refine has_ite (fun h => hj _ ?_) (fun h => ?_)
    · have : (t.Links.length : Int) = 24 := of_decide_eq_true h
      simp only [true_iff]; exact .inl (by omega)
    · have hne : t.Links.length ≠ 24 := fun hh => h (decide_eq_true (by omega))
      refine has_bind (link_has hsm _) fun r hr => hj _ ?_
      cases r with
      | true => simp only [Bool.not_true, Bool.false_eq_true, false_iff, not_or, Classical.not_not]; exact ⟨hne, hr.1 rfl⟩
      | false => simp only [Bool.not_false, true_iff]; exact .inr fun hh => by have := hr.2 hh; cases this
end Go.AM.P16
namespace Go.AM.P16
open Go
theorem Joins.ends {f : ApiLink} {a b : Int} (h : Joins f a b) : 1 ≤ ends f a ∧ 1 ≤ ends f b := by
  unfold P16.ends
  rcases h with ⟨h1, h2⟩ | ⟨h1, h2⟩
  · simp only [h1, h2, if_true]; constructor <;> (split <;> omega)
  · simp only [h1, h2, if_true]; constructor <;> (split <;> omega)
theorem cnt_append (ls ms : List ApiLink) (n : Int) : cnt (ls ++ ms) n = cnt ls n + cnt ms n := by
  simp [cnt, List.map_append, List.sum_append]
theorem cnt_pos {ls : List ApiLink} {i : Nat} {f : ApiLink} {n : Int} (h : ls[i]? = some f) (he : 1 ≤ ends f n) : 1 ≤ cnt ls n := by
  obtain ⟨hlt, hg⟩ := List.getElem?_eq_some_iff.1 h
  have h1 : ls = ls.take i ++ (f :: ls.drop (i + 1)) := by
    rw [← hg, List.getElem_cons_drop, List.take_append_drop]
  rw [h1, cnt_append]
  have h2 := cnt_range (ls.take i) n
  have h3 := cnt_range (ls.drop (i + 1)) n
  have h4 : cnt (f :: ls.drop (i + 1)) n = ends f n + cnt (ls.drop (i + 1)) n := by simp [cnt]
  omega
theorem Rch.links {t u : ApiTopo} {s x : Int} (hsub : ∀ (i : Nat) (e : ApiLink), t.Links[i]? = some e → ∃ j : Nat, u.Links[j]? = some e) (h : Rch t [] s x) : Rch u [] s x := by
  induction h with
  | base => exact .base
  | fwd h1 _ _ ih => obtain ⟨j, hj⟩ := hsub _ _ h1; exact .fwd hj (by simp) ih
  | bwd h1 _ _ ih => obtain ⟨j, hj⟩ := hsub _ _ h1; exact .bwd hj (by simp) ih
theorem Rch.step {t : ApiTopo} {cut : List Int} {s a b : Int} {i : Nat} {f : ApiLink} (h : t.Links[i]? = some f) (hc : (i : Int) ∉ cut) (hj : Joins f a b) : (Rch t cut s a ↔ Rch t cut s b) := by
  rcases hj with ⟨rfl, rfl⟩ | ⟨rfl, rfl⟩
  · exact ⟨fun hh => .fwd h hc hh, fun hh => .bwd h hc hh⟩
  · exact ⟨fun hh => .bwd h hc hh, fun hh => .fwd h hc hh⟩
/-- What stands while a draft is laid out: b bridges, s stations. -/
structure Lay (b s : Int) (t : ApiTopo) : Prop where
  n : t.Nodes = b + s
  sized : Sized t
  st : ∀ n, Seen t.Station n ↔ b ≤ n ∧ n < b + s
  links : LinksOk t
theorem LinkOk.congr {t u : ApiTopo} (h1 : t.Nodes = u.Nodes) (h2 : t.Station = u.Station) {e : ApiLink} (h : LinkOk t e) : LinkOk u e :=
  ⟨by have := h.a; unfold IsN at *; rw [← h1]; exact this, by have := h.b; unfold IsN at *; rw [← h1]; exact this, h.ne, by rw [← h2]; exact h.st, h.per, h.delay⟩
/-- One link more: what changes. -/
structure More (t u : ApiTopo) (a b : Int) : Prop where
  nodes : u.Nodes = t.Nodes
  station : u.Station = t.Station
  sub : ∀ (i : Nat) (e : ApiLink), t.Links[i]? = some e → u.Links[i]? = some e
  len : t.Links.length ≤ u.Links.length ∧ u.Links.length ≤ t.Links.length + 1 ∧ u.Links.length ≤ 24
  cnt : ∀ n, P16.cnt t.Links n ≤ P16.cnt u.Links n ∧ (n ≠ a → n ≠ b → P16.cnt u.Links n = P16.cnt t.Links n) ∧ (a ≠ b → P16.cnt u.Links n ≤ P16.cnt t.Links n + 1)
  new : ∀ (i : Nat) (e : ApiLink), u.Links[i]? = some e → t.Links[i]? = some e ∨ (e.A = a ∧ e.B = b)
theorem WithIs.more {t u : ApiTopo} {a b : Int} (h : WithIs t a b u) (hl : t.Links.length ≤ 24) : More t u a b := by
  obtain ⟨l, rfl, rfl, hp, hd, h⟩ := h
  rcases h with ⟨rfl, _⟩ | ⟨rfl, h24, hok, hno⟩
  · exact ⟨rfl, rfl, fun _ _ h => h, ⟨Nat.le_refl _, by omega, hl⟩, fun n => ⟨Int.le_refl _, fun _ _ => rfl, fun _ => by omega⟩, fun _ _ h => .inl h⟩
  · refine ⟨rfl, rfl, fun i e h => ?_, ⟨by simp, by simp, by simp; omega⟩, fun n => ?_, fun i e h => ?_⟩
    · simp only
      rw [List.getElem?_append_left (List.getElem?_eq_some_iff.1 h).1]; exact h
    · have hc : P16.cnt (t.Links ++ [l]) n = P16.cnt t.Links n + ends l n := by rw [cnt_append]; simp [P16.cnt]
      have := ends_range l n
      simp only
      rw [hc]
      refine ⟨by omega, fun h1 h2 => ?_, fun hne => ?_⟩
      · unfold P16.ends; rw [if_neg (fun e => h1 e.symm), if_neg (fun e => h2 e.symm)]; omega
      · unfold P16.ends; split <;> split <;> omega
    · simp only at h
      by_cases hi : i < t.Links.length
      · rw [List.getElem?_append_left hi] at h; exact .inl h
      · rw [List.getElem?_append_right (by omega)] at h
        rcases hx : i - t.Links.length with _ | k
        · rw [hx] at h; cases h; exact .inr ⟨rfl, rfl⟩
        · rw [hx] at h; simp at h
theorem WithIs.lay {b' s' : Int} {t u : ApiTopo} {a b : Int} (h : WithIs t a b u) (hL : Lay b' s' t) : Lay b' s' u := by
  obtain ⟨l, rfl, rfl, hp, hd, h⟩ := h
  rcases h with ⟨rfl, _⟩ | ⟨rfl, h24, hok, hno⟩
  · exact hL
  · refine ⟨hL.n, ⟨hL.sized.n, hL.sized.s⟩, hL.st, fun i e he => ?_⟩
    simp only at he
    by_cases hi : i < t.Links.length
    · rw [List.getElem?_append_left hi] at he
      obtain ⟨h1, h2⟩ := hL.links _ _ he
      refine ⟨LinkOk.congr (t := t) (u := { t with Links := t.Links ++ [l] }) rfl rfl h1, fun j f hj hf => h2 j f hj ?_⟩
      simp only at hf
      rwa [List.getElem?_append_left (by omega)] at hf
    · rw [List.getElem?_append_right (by omega)] at he
      rcases hx : i - t.Links.length with _ | k
      · rw [hx] at he; cases he
        refine ⟨LinkOk.congr (t := t) (u := { t with Links := t.Links ++ [l] }) rfl rfl hok, fun j f hj hf => ?_⟩
        simp only at hf
        rw [List.getElem?_append_left (by omega)] at hf
        exact hno j f hf
      · rw [hx] at he; simp at he
/-- A link that may be is there afterwards. -/
theorem WithIs.there {t u : ApiTopo} {a b : Int} (h : WithIs t a b u) (hl : t.Links.length < 24) (ha : IsN t a) (hb : IsN t b) (hne : a ≠ b) (hst : ¬ (Seen t.Station a ∧ Seen t.Station b)) : ∃ (i : Nat) (f : ApiLink), u.Links[i]? = some f ∧ Joins f a b := by
  obtain ⟨l, rfl, rfl, hp, hd, h⟩ := h
  have hok : LinkOk t l := ⟨ha, hb, hne, hst, by omega, by omega⟩
  rcases h with ⟨rfl, h⟩ | ⟨rfl, h24, _, hno⟩
  · exact h hl hok
  · exact ⟨t.Links.length, l, by simp, .inl ⟨rfl, rfl⟩⟩
end Go.AM.P16
namespace Go.AM.P16
open Go
structure Draws (d : Isochronref16Draft) : Prop where
  br : inR .u8 d.Bridges
  sts : inR .u8 d.Stations
  ch : ∀ v ∈ d.Chords, inR .u8 v
  ho : ∀ v ∈ d.Homes, inR .u8 v
  pe : ∀ v ∈ d.Pers, inR .u8 v
  de : ∀ v ∈ d.Delays, inR .u8 v
def Drawn (t : ApiTopo) : Prop := Fit t ∧ 0 < t.Links.length
/-- All bridges and stations are joined; c: how many links a station may have. -/
structure Done (b s : Int) (t : ApiTopo) (c : Int → Int) : Prop where
  lay : Lay b s t
  len : 0 < t.Links.length ∧ t.Links.length ≤ 24
  whole : ∀ n, IsN t n → Rch t [] 0 n
  cnt : ∀ n, b ≤ n → n < b + s → 1 ≤ P16.cnt t.Links n ∧ P16.cnt t.Links n ≤ c n
theorem Done.drawn {b s : Int} {t : ApiTopo} {c : Int → Int} (h : Done b s t c) (hc : ∀ n, b ≤ n → n < b + s → c n ≤ 2) : Drawn t :=
  ⟨⟨⟨h.lay.sized.n, h.lay.sized.s, h.len.2⟩, h.lay.links, fun n hn hs => by
    obtain ⟨h1, h2⟩ := (h.lay.st n).1 hs
    have := h.cnt n h1 h2
    have := hc n h1 h2
    omega, h.whole⟩, h.len.1⟩
theorem Done.more {b s : Int} {t u : ApiTopo} {c : Int → Int} {x y : Int} (h : Done b s t c) (hw : WithIs t x y u) (c' : Int → Int)
    (hc : ∀ n, b ≤ n → n < b + s → c n ≤ c' n ∧ ((n = x ∨ n = y) → x ≠ y ∧ c n + 1 ≤ c' n)) : Done b s u c' := by
  have m := hw.more h.len.2
  refine ⟨hw.lay h.lay, ⟨by have := h.len.1; have := m.len.1; omega, m.len.2.2⟩, fun n hn => ?_, fun n h1 h2 => ?_⟩
  · have : IsN t n := by unfold IsN at *; rw [← m.nodes]; exact hn
    exact (h.whole n this).links fun i e he => ⟨i, m.sub i e he⟩
  · have h3 := h.cnt n h1 h2
    have h4 := m.cnt n
    have h5 := hc n h1 h2
    refine ⟨by omega, ?_⟩
    by_cases hx : n = x ∨ n = y
    · have := h4.2.2 (h5.2 hx).1
      have := (h5.2 hx).2
      omega
    · have := h4.2.1 (fun e => hx (.inl e)) (fun e => hx (.inr e))
      omega
section
variable {d : Isochronref16Draft} {b s : Int}
theorem chords_has (D : Draws d) (hb : w64 (1 + w64 (Int.tmod d.Bridges 6)) = b) (hb0 : 1 ≤ b ∧ b ≤ 6) {t : ApiTopo} (h : Done b s t fun _ => 2) :
    Has (loopM (m_isochronref16_Draft_Topo_l1 d) LL (0, t.Nodes, t.Station, t.Links)) Drawn := by
  refine has_loop (fun y : Int × Int × List Bool × List ApiLink => 0 ≤ y.1 ∧ y.1 ≤ 20 ∧ Done b s ⟨y.2.1, y.2.2.1, y.2.2.2⟩ fun _ => 2) (fun y => (20 - y.1).toNat) (fun y hy => by omega) ⟨by simp, by simp, h⟩ ?_
  rintro ⟨i, N, st, ls⟩ rec ⟨h0, h1, h2⟩ ih
  simp only at h0 h1 h2
  unfold m_isochronref16_Draft_Topo_l1
  simp only [hb]
  refine has_sh ?_
  refine has_ite (fun hc => ?_) (fun hc => has_ok (h2.drawn fun _ _ _ => by omega))
  · obtain ⟨hc1, hc2⟩ := Bool.and_eq_true_iff.1 hc
    have hc1 := of_decide_eq_true hc1
    have hc2 := of_decide_eq_true hc2
    rw [w64_id (n := i + 1) (by omega) (by omega)] at hc1
    refine has_idx h0 (by omega) fun v hv => ?_
    refine has_must (by simp only [decide_eq_true_eq]; omega) ?_
    rw [w64_id (n := i + 1) (by omega) (by omega)]
    refine has_idx (by omega) hc1 fun w hw => ?_
    refine has_must (by simp only [decide_eq_true_eq]; omega) ?_
    have hv1 := inR_u8.1 (D.ch v (List.mem_of_getElem? hv))
    have hw1 := inR_u8.1 (D.ch w (List.mem_of_getElem? hw))
    rw [w64_id (n := v) (by omega) (by omega), w64_id (n := w) (by omega) (by omega), Int.tmod_eq_emod_of_nonneg hv1.1, Int.tmod_eq_emod_of_nonneg hw1.1]
    have e1 := Int.emod_nonneg v (show b ≠ 0 by omega)
    have e2 := Int.emod_lt_of_pos v (show 0 < b by omega)
    have e3 := Int.emod_nonneg w (show b ≠ 0 by omega)
    have e4 := Int.emod_lt_of_pos w (show 0 < b by omega)
    refine has_bind (with_has D.pe D.de h2.lay.sized h2.len.2 _ _) fun u hu => ?_
    rw [w64_id (n := i + 2) (by omega) (by omega)]
    refine ih _ ⟨by simp only; omega, by simp only; omega, ?_⟩ (by simp only; omega)
    exact h2.more hu _ fun n hn1 hn2 => ⟨Int.le_refl _, fun hx => by omega⟩
theorem seconds_has (D : Draws d) (hb : w64 (1 + w64 (Int.tmod d.Bridges 6)) = b) (hs : w64 (2 + w64 (Int.tmod d.Stations 5)) = s) (hb0 : 1 ≤ b ∧ b ≤ 6) (hs0 : 2 ≤ s ∧ s ≤ 6) {t : ApiTopo} (h : Done b s t fun _ => 1) :
    Has (loopM (m_isochronref16_Draft_Topo_l2 d) LL (0, t.Nodes, t.Station, t.Links)) Drawn := by
  refine has_loop (fun y : Int × Int × List Bool × List ApiLink => 0 ≤ y.1 ∧ y.1 ≤ s ∧ Done b s ⟨y.2.1, y.2.2.1, y.2.2.2⟩ fun n => if n < b + y.1 then 2 else 1) (fun y => (s - y.1).toNat) (fun y hy => by omega) ⟨by simp, by simp only; omega, ?_⟩ ?_
  · refine ⟨h.lay, h.len, h.whole, fun n h1 h2 => ?_⟩
    have := h.cnt n h1 h2
    simp only
    rw [if_neg (by omega)]; exact this
  rintro ⟨k, N, st, ls⟩ rec ⟨h0, h1, h2⟩ ih
  simp only at h0 h1 h2
  unfold m_isochronref16_Draft_Topo_l2
  simp only [hb, hs]
  refine has_ite (fun hk => ?_) (fun hk => ?_)
  · have hk := of_decide_eq_true hk
    rw [w64_id (n := 2 * k) (by omega) (by omega), w64_id (n := 2 * k + 1) (by omega) (by omega)]
    refine has_bind (pick_has D.ho (by omega)) fun p hp => ?_
    refine has_join (fun z : Int × List Bool × List ApiLink => Done b s ⟨z.1, z.2.1, z.2.2⟩ fun n => if n < b + (k + 1) then 2 else 1) (fun z hz => ?_) (fun j hj => ?_)
    · rw [w64_id (n := k + 1) (by omega) (by omega)]
      exact ih _ ⟨by simp only; omega, by simp only; omega, hz⟩ (by simp only; omega)
    · refine has_ite (fun _ => ?_) (fun _ => hj _ ?_)
      · refine has_bind (pick_has D.ho (by omega)) fun q hq => ?_
        refine has_must (by simp only [decide_eq_true_eq]; omega) ?_
        have e1 := Int.emod_nonneg q (show b ≠ 0 by omega)
        have e2 := Int.emod_lt_of_pos q (show 0 < b by omega)
        rw [Int.tmod_eq_emod_of_nonneg hq.1, w64_id (n := b + k) (by omega) (by omega)]
        refine has_bind (with_has D.pe D.de h2.lay.sized h2.len.2 _ _) fun u hu => hj _ ?_
        refine h2.more hu _ fun n hn1 hn2 => ⟨by split <;> split <;> omega, fun hx => ⟨by omega, ?_⟩⟩
        have hn : n = b + k := by omega
        rw [if_neg (by omega), if_pos (by omega)]; omega
      · refine ⟨h2.lay, h2.len, h2.whole, fun n hn1 hn2 => ?_⟩
        have := h2.cnt n hn1 hn2
        simp only at this ⊢
        refine ⟨this.1, ?_⟩
        have h3 := this.2
        split at h3 <;> split <;> omega
  · have hk : ¬ k < s := fun hh => hk (decide_eq_true hh)
    refine chords_has D hb hb0 (t := ⟨N, st, ls⟩) ⟨h2.lay, h2.len, h2.whole, fun n hn1 hn2 => ?_⟩
    have := h2.cnt n hn1 hn2
    rw [if_pos (by omega)] at this
    exact this
end
end Go.AM.P16
namespace Go.AM.P16
open Go
structure Part (b s k : Int) (t : ApiTopo) : Prop where
  lay : Lay b s t
  len : (t.Links.length : Int) ≤ b - 1 + k
  some_ : 0 < k → 0 < t.Links.length
  br : ∀ m, 0 ≤ m → m < b → Rch t [] 0 m
  done : ∀ n, b ≤ n → n < b + k → cnt t.Links n = 1 ∧ Rch t [] 0 n
  rest : ∀ n, b + k ≤ n → n < b + s → cnt t.Links n = 0
theorem More.rch {t u : ApiTopo} {a b : Int} (m : More t u a b) {x : Int} (h : Rch t [] 0 x) : Rch u [] 0 x := h.links fun i e he => ⟨i, m.sub i e he⟩
section
variable {d : Isochronref16Draft} {b s : Int}
theorem homes_has (D : Draws d) (hb : w64 (1 + w64 (Int.tmod d.Bridges 6)) = b) (hs : w64 (2 + w64 (Int.tmod d.Stations 5)) = s) (hb0 : 1 ≤ b ∧ b ≤ 6) (hs0 : 2 ≤ s ∧ s ≤ 6) {t : ApiTopo} (h : Part b s 0 t) :
    Has (loopM (m_isochronref16_Draft_Topo_l3 d) LL (0, t.Nodes, t.Station, t.Links)) Drawn := by
  refine has_loop (fun y : Int × Int × List Bool × List ApiLink => 0 ≤ y.1 ∧ y.1 ≤ s ∧ Part b s y.1 ⟨y.2.1, y.2.2.1, y.2.2.2⟩) (fun y => (s - y.1).toNat) (fun y hy => by omega) ⟨by simp, by simp only; omega, h⟩ ?_
  rintro ⟨k, N, st, ls⟩ rec ⟨h0, h1, h2⟩ ih
  simp only at h0 h1 h2
  unfold m_isochronref16_Draft_Topo_l3
  simp only [hb, hs]
  have hlen := h2.len
  simp only at hlen
  refine has_ite (fun hk => ?_) (fun hk => ?_)
  · have hk := of_decide_eq_true hk
    rw [w64_id (n := 2 * k) (by omega) (by omega)]
    refine has_bind (pick_has D.ho (by omega)) fun p hp => ?_
    refine has_must (by simp only [decide_eq_true_eq]; omega) ?_
    have e1 := Int.emod_nonneg p (show b ≠ 0 by omega)
    have e2 := Int.emod_lt_of_pos p (show 0 < b by omega)
    rw [Int.tmod_eq_emod_of_nonneg hp.1, w64_id (n := b + k) (by omega) (by omega)]
    refine has_bind (with_has D.pe D.de h2.lay.sized (by simp only; omega) _ _) fun u hu => ?_
    rw [w64_id (n := k + 1) (by omega) (by omega)]
    have hN : N = b + s := h2.lay.n
    have m := hu.more (by simp only; omega)
    have hnot : ¬ Seen st (p % b) := fun hh => by
      have := (h2.lay.st _).1 hh
      omega
    obtain ⟨i, f, hf, hj⟩ := hu.there (by simp only; omega) ⟨by omega, by simp only; omega⟩ ⟨e1, by simp only; omega⟩ (by omega) (fun hh => hnot hh.2)
    have hstep := Rch.step (t := u) (cut := []) (s := 0) hf (by simp) hj
    have hnew : Rch u [] 0 (b + k) := hstep.2 (m.rch (h2.br _ e1 e2))
    have hc1 := cnt_pos hf hj.ends.1
    have hc2 := (m.cnt (b + k)).2.2 (by omega)
    have hc3 := h2.rest (b + k) (by omega) (by omega)
    simp only at hc2 hc3
    have ml := m.len
    simp only at ml
    refine ih _ ⟨by simp only; omega, by simp only; omega, ⟨hu.lay h2.lay, by simp only; omega, fun _ => ?_, fun x hx0 hx1 => m.rch (h2.br x hx0 hx1), fun n hn0 hn1 => ?_, fun n hn0 hn1 => ?_⟩⟩ (by simp only; omega)
    · have := (List.getElem?_eq_some_iff.1 hf).1
      simp only; omega
    · by_cases hnk : n = b + k
      · subst hnk
        exact ⟨by simp only; omega, hnew⟩
      · have h3 := h2.done n hn0 (by simp only at hn1; omega)
        have h4 := (m.cnt n).2.1 hnk (by omega)
        exact ⟨by simp only at h3 h4 ⊢; omega, m.rch h3.2⟩
    · have h3 := h2.rest n (by simp only at hn0; omega) hn1
      have h4 := (m.cnt n).2.1 (by simp only at hn0; omega) (by simp only at hn0; omega)
      simp only at h3 h4 hn0 ⊢
      omega
  · have hk : ¬ k < s := fun hh => hk (decide_eq_true hh)
    have hks : k = s := by omega
    subst hks
    have hN : N = b + k := h2.lay.n
    have hdone : Done b k ⟨N, st, ls⟩ fun _ => 1 := ⟨h2.lay, ⟨h2.some_ (by omega), by simp only; omega⟩, fun n hn => by
      by_cases hnb : n < b
      · exact h2.br n hn.1 hnb
      · have := hn.2
        simp only at this
        exact (h2.done n (by omega) (by omega)).2, fun n h3 h4 => by have := (h2.done n h3 h4).1; omega⟩
    refine has_sh ?_
    refine has_join (fun z : Int × List Bool × List ApiLink => Done b k ⟨z.1, z.2.1, z.2.2⟩ fun _ => 1) (fun z hz => seconds_has D hb hs hb0 hs0 (t := ⟨z.1, z.2.1, z.2.2⟩) hz) (fun j hj => ?_)
    refine has_ite (fun hc => ?_) (fun _ => hj _ hdone)
    obtain ⟨hc1, _⟩ := Bool.and_eq_true_iff.1 hc
    have hc1 := of_decide_eq_true hc1
    refine has_bind (with_has D.pe D.de h2.lay.sized (by simp only; omega) _ _) fun u hu => hj _ ?_
    rw [w64_id (n := b - 1) (by omega) (by omega)] at hu
    exact hdone.more hu _ fun n hn1 hn2 => ⟨Int.le_refl _, fun hx => by omega⟩
structure Chain (b s n : Int) (t : ApiTopo) : Prop where
  lay : Lay b s t
  len : (t.Links.length : Int) ≤ n - 1
  br : ∀ m, 0 ≤ m → m < n → Rch t [] 0 m
  rest : ∀ x, b ≤ x → x < b + s → cnt t.Links x = 0
theorem chain_has (D : Draws d) (hb : w64 (1 + w64 (Int.tmod d.Bridges 6)) = b) (hs : w64 (2 + w64 (Int.tmod d.Stations 5)) = s) (hb0 : 1 ≤ b ∧ b ≤ 6) (hs0 : 2 ≤ s ∧ s ≤ 6) {t : ApiTopo} (h : Chain b s 1 t) :
    Has (loopM (m_isochronref16_Draft_Topo_l4 d) LL (1, t.Nodes, t.Station, t.Links)) Drawn := by
  refine has_loop (fun y : Int × Int × List Bool × List ApiLink => 1 ≤ y.1 ∧ y.1 ≤ b ∧ Chain b s y.1 ⟨y.2.1, y.2.2.1, y.2.2.2⟩) (fun y => (b - y.1).toNat) (fun y hy => by omega) ⟨by simp, by simp only; omega, h⟩ ?_
  rintro ⟨k, N, st, ls⟩ rec ⟨h0, h1, h2⟩ ih
  simp only at h0 h1 h2
  unfold m_isochronref16_Draft_Topo_l4
  simp only [hb, hs]
  have hlen := h2.len
  simp only at hlen
  have hN : N = b + s := h2.lay.n
  refine has_ite (fun hk => ?_) (fun hk => ?_)
  · have hk := of_decide_eq_true hk
    rw [w64_id (n := k - 1) (by omega) (by omega)]
    refine has_bind (with_has D.pe D.de h2.lay.sized (by simp only; omega) _ _) fun u hu => ?_
    rw [w64_id (n := k + 1) (by omega) (by omega)]
    have m := hu.more (by simp only; omega)
    have hnot : ¬ Seen st k := fun hh => by
      have := (h2.lay.st _).1 hh
      omega
    obtain ⟨i, f, hf, hj⟩ := hu.there (by simp only; omega) ⟨by omega, by simp only; omega⟩ ⟨by omega, by simp only; omega⟩ (by omega) (fun hh => hnot hh.2)
    have hstep := Rch.step (t := u) (cut := []) (s := 0) hf (by simp) hj
    have ml := m.len
    simp only at ml
    refine ih _ ⟨by simp only; omega, by simp only; omega, ⟨hu.lay h2.lay, by simp only; omega, fun x hx0 hx1 => ?_, fun x hx0 hx1 => ?_⟩⟩ (by simp only; omega)
    · simp only at hx1
      by_cases hxk : x = k
      · rw [hxk]; exact hstep.1 (m.rch (h2.br _ (by omega) (by omega)))
      · exact m.rch (h2.br x hx0 (by omega))
    · have h3 := h2.rest x hx0 hx1
      have h4 := (m.cnt x).2.1 (by omega) (by omega)
      simp only at h3 h4 ⊢
      omega
  · have hk : ¬ k < b := fun hh => hk (decide_eq_true hh)
    have hkb : k = b := by omega
    subst hkb
    refine homes_has D hb hs hb0 hs0 (t := ⟨N, st, ls⟩) ⟨h2.lay, by simp only; omega, fun h => by omega, fun x hx0 hx1 => h2.br x hx0 hx1, fun n hn0 hn1 => by omega, fun n hn0 hn1 => h2.rest n (by omega) hn1⟩
end
theorem Topo_has {d : Isochronref16Draft} (D : Draws d) : Has (m_isochronref16_Draft_Topo d) Drawn := by
  have hB := inR_u8.1 D.br
  have hS := inR_u8.1 D.sts
  obtain ⟨b, hb, hb0⟩ : ∃ b, w64 (1 + w64 (Int.tmod d.Bridges 6)) = b ∧ 1 ≤ b ∧ b ≤ 6 := by
    refine ⟨_, rfl, ?_⟩
    rw [Int.tmod_eq_emod_of_nonneg hB.1, w64_id (n := d.Bridges % 6) (by omega) (by omega), w64_id (by omega) (by omega)]
    omega
  obtain ⟨s, hs, hs0⟩ : ∃ s, w64 (2 + w64 (Int.tmod d.Stations 5)) = s ∧ 2 ≤ s ∧ s ≤ 6 := by
    refine ⟨_, rfl, ?_⟩
    rw [Int.tmod_eq_emod_of_nonneg hS.1, w64_id (n := d.Stations % 5) (by omega) (by omega), w64_id (by omega) (by omega)]
    omega
  unfold m_isochronref16_Draft_Topo
  refine has_loop (fun y : Int × List Bool => 0 ≤ y.1 ∧ y.1 ≤ b + s ∧ (y.2.length : Int) = y.1 ∧ ∀ n, Seen y.2 n ↔ b ≤ n ∧ n < y.1) (fun y => (b + s - y.1).toNat) (fun y hy => by omega) ⟨by simp, by simp only; omega, by simp, fun n => ⟨fun h => by have := h.lt; simp only [List.length_nil] at this; omega, fun h => by simp only at h; omega⟩⟩ ?_
  rintro ⟨i, st⟩ rec ⟨h0, h1, h2, h3⟩ ih
  simp only at h0 h1 h2 h3
  unfold m_isochronref16_Draft_Topo_l5
  simp only [hb, hs]
  have hbs : w64 (b + s) = b + s := w64_id (by omega) (by omega)
  rw [hbs]
  refine has_ite (fun hi => ?_) (fun hi => ?_)
  · have hi := of_decide_eq_true hi
    refine has_must (by unfold okLen; rw [Nat.ble_eq]; simp only [List.length_cons, List.length_nil]; omega) ?_
    rw [w64_id (n := i + 1) (by omega) (by omega)]
    refine ih _ ⟨by simp only; omega, by simp only; omega, by simp only [List.length_append, List.length_cons, List.length_nil]; omega, fun n => ?_⟩ (by simp only; omega)
    simp only
    constructor
    · intro hh
      have hlt := hh.lt
      simp only [List.length_append, List.length_cons, List.length_nil] at hlt
      by_cases hn : n < i
      · have : Seen st n := ⟨hh.1, by have := hh.2; rwa [List.getElem?_append_left (by omega)] at this⟩
        have := (h3 n).1 this
        omega
      · have hg := hh.2
        rw [List.getElem?_append_right (by omega)] at hg
        have : n.toNat - st.length = 0 := by omega
        rw [this] at hg
        simp at hg
        omega
    · rintro ⟨hn1, hn2⟩
      by_cases hn : n < i
      · have := (h3 n).2 ⟨hn1, hn⟩
        exact ⟨this.1, by rw [List.getElem?_append_left (by have := this.lt; omega)]; exact this.2⟩
      · refine ⟨by omega, ?_⟩
        rw [List.getElem?_append_right (by omega)]
        have : n.toNat - st.length = 0 := by omega
        rw [this]
        simp
        omega
  · have hi : ¬ i < b + s := fun hh => hi (decide_eq_true hh)
    refine chain_has D hb hs hb0 hs0 (t := ⟨b + s, st, []⟩) ⟨⟨rfl, ⟨by simp only; omega, by simp only; omega⟩, fun n => ?_, fun j e he => by simp at he⟩, by simp, fun x hx0 hx1 => ?_, fun x _ _ => rfl⟩
    · rw [h3 n]
      constructor
      · rintro ⟨a1, a2⟩; exact ⟨a1, by omega⟩
      · rintro ⟨a1, a2⟩; exact ⟨a1, by omega⟩
    · have : x = 0 := by omega
      subst this; exact .base
end Go.AM.P16
namespace Go.AM.P16
open Go
/-! ### The ends of ports, as numbers -/
def frm (t : ApiTopo) (p : Int) : Int := match t.Links[(p / 2).toNat]? with | some e => if p % 2 = 0 then e.A else e.B | none => 0
def too (t : ApiTopo) (p : Int) : Int := match t.Links[(p / 2).toNat]? with | some e => if p % 2 = 0 then e.B else e.A | none => 0
def bk (p : Int) : Int := if p % 2 = 0 then p + 1 else p - 1
theorem frm_at {t : ApiTopo} {p : Int} {e : ApiLink} (he : t.Links[(p / 2).toNat]? = some e) : frm t p = if p % 2 = 0 then e.A else e.B := by unfold frm; rw [he]
theorem too_at {t : ApiTopo} {p : Int} {e : ApiLink} (he : t.Links[(p / 2).toNat]? = some e) : too t p = if p % 2 = 0 then e.B else e.A := by unfold too; rw [he]
theorem isp_lt {t : ApiTopo} (h : Small t) {p : Int} (hp : IsP t p) : 0 ≤ p ∧ p < 48 := by
  have := h.l; obtain ⟨h0, h1⟩ := hp; omega
theorem From_ok {t : ApiTopo} (h : Fit t) {p : Int} (hp : IsP t p) : m_topo_From t p = .ok (frm t p, 0) := by
  obtain ⟨e, he⟩ := portlink hp
  have e1 : m_topo_From t p = pq t p m_topo_end_from := rfl
  rw [e1, pq_in h hp he from_ok, frm_at he, Int.tmod_eq_emod_of_nonneg hp.1]
theorem lim {t : ApiTopo} (h : Fit t) {e : ApiLink} {i : Nat} (he : t.Links[i]? = some e) : (0 ≤ e.A ∧ e.A < 1000000) ∧ (0 ≤ e.B ∧ e.B < 1000000) := by
  have hlk := (h.links _ _ he).1
  have := h.small.n
  have := hlk.a.2
  have := hlk.b.2
  exact ⟨⟨hlk.a.1, by omega⟩, hlk.b.1, by omega⟩
theorem To_ok {t : ApiTopo} (h : Fit t) {p : Int} (hp : IsP t p) : m_topo_To t p = .ok (too t p, 0) := by
  obtain ⟨e, he⟩ := portlink hp
  have e1 : m_topo_To t p = pq t p m_topo_end_to := rfl
  rw [e1, pq_in h hp he (to_ok (lim h he).1 (lim h he).2), too_at he, Int.tmod_eq_emod_of_nonneg hp.1]
theorem xor_ok {p : Int} (h0 : 0 ≤ p) (h1 : p < 48) : bitXor .i64 p 1 = bk p := by
  have := back_fin ⟨p.toNat, by omega⟩
  have hc : ((p.toNat : Nat) : Int) = p := by omega
  simp only [hc] at this
  rw [this, Int.tmod_eq_emod_of_nonneg h0]
  unfold bk
  by_cases h : p % 2 = 0
  · rw [if_neg (by omega), if_pos h, w64_id (by omega) (by omega)]
  · rw [if_pos (by omega), if_neg h, w64_id (by omega) (by omega)]
theorem Back_ok {t : ApiTopo} (h : Fit t) {p : Int} (hp : IsP t p) : m_topo_Back t p = .ok (bk p, 0) := by
  obtain ⟨e, he⟩ := portlink hp
  have := isp_lt h.small hp
  have e1 : m_topo_Back t p = pq t p m_topo_end_back := rfl
  rw [e1, pq_in h hp he (v := bitXor .i64 p 1) rfl, xor_ok this.1 this.2]
theorem isp_bk {t : ApiTopo} {p : Int} (hp : IsP t p) : IsP t (bk p) := by
  obtain ⟨h0, h1⟩ := hp
  unfold bk IsP; split <;> omega
theorem bk_bk (p : Int) : bk (bk p) = p := by unfold bk; split <;> split <;> omega
theorem bk_half {p : Int} : bk p / 2 = p / 2 := by unfold bk; split <;> omega
theorem frm_bk {t : ApiTopo} (p : Int) : frm t (bk p) = too t p := by
  unfold frm too
  rw [bk_half]
  cases t.Links[(p / 2).toNat]? with
  | none => rfl
  | some e =>
    simp only
    by_cases h : p % 2 = 0
    · rw [if_neg (by unfold bk; rw [if_pos h]; omega), if_pos h]
    · rw [if_pos (by unfold bk; rw [if_neg h]; omega), if_neg h]
theorem too_bk {t : ApiTopo} (p : Int) : too t (bk p) = frm t p := by rw [← frm_bk, bk_bk]
theorem frm_N {t : ApiTopo} (h : Fit t) {p : Int} (hp : IsP t p) : IsN t (frm t p) := by
  obtain ⟨e, he⟩ := portlink hp
  rw [frm_at he]
  have := (h.links _ _ he).1
  split
  · exact this.a
  · exact this.b
theorem too_N {t : ApiTopo} (h : Fit t) {p : Int} (hp : IsP t p) : IsN t (too t p) := by rw [← frm_bk]; exact frm_N h (isp_bk hp)
theorem frm_ne {t : ApiTopo} (h : Fit t) {p : Int} (hp : IsP t p) : frm t p ≠ too t p := by
  obtain ⟨e, he⟩ := portlink hp
  rw [frm_at he, too_at he]
  have := (h.links _ _ he).1.ne
  split
  · exact this
  · exact fun e' => this e'.symm
theorem fromO_frm {t : ApiTopo} {q : Nat} (hq : q < 2 * t.Links.length) : fromO t q = some (frm t q) ∧ toO t q = some (too t q) := by
  have hlt : q / 2 < t.Links.length := by omega
  have he : t.Links[q / 2]? = some t.Links[q / 2] := List.getElem?_eq_getElem hlt
  have hc : (((q : Int) / 2).toNat) = q / 2 := by omega
  unfold fromO toO frm too
  rw [hc, he]
  simp only [Option.map_some]
  by_cases h : q % 2 = 0
  · rw [if_pos h, if_pos h, if_pos (by omega), if_pos (by omega)]; exact ⟨rfl, rfl⟩
  · rw [if_neg h, if_neg h, if_neg (by omega), if_neg (by omega)]; exact ⟨rfl, rfl⟩
/-- One port for two nodes. -/
theorem port_one {t : ApiTopo} (h : Fit t) {p q : Int} (hp : IsP t p) (hq : IsP t q) (h1 : frm t p = frm t q) (h2 : too t p = too t q) : p = q := by
  obtain ⟨e, he⟩ := portlink hp
  obtain ⟨f, hf⟩ := portlink hq
  have hje : Joins e (frm t p) (too t p) := by rw [frm_at he, too_at he]; unfold Joins; split <;> simp
  have hjf : Joins f (frm t p) (too t p) := by rw [h1, h2, frm_at hf, too_at hf]; unfold Joins; split <;> simp
  have hne := frm_ne h hp
  have heq : (p / 2).toNat = (q / 2).toNat := by
    have key : ∀ (i j : Nat) (e f : ApiLink), t.Links[i]? = some e → t.Links[j]? = some f → Joins e (frm t p) (too t p) → Joins f (frm t p) (too t p) → ¬ i < j := by
      intro i j e f hi hj h1 h2 hlt
      have := (h.links _ _ hj).2 i e hlt hi
      unfold Joins at *
      omega
    rcases Nat.lt_trichotomy (p / 2).toNat (q / 2).toNat with hlt | heq | hlt
    · exact absurd hlt (key _ _ _ _ he hf hje hjf)
    · exact heq
    · exact absurd hlt (key _ _ _ _ hf he hjf hje)
  have h0 := hp.1
  have h0' := hq.1
  have hd : p / 2 = q / 2 := by omega
  have hfe : e = f := by rw [heq, hf] at he; exact (Option.some.inj he).symm
  have hee := (h.links _ _ hf).1.ne
  rw [frm_at he, frm_at hf, hfe] at h1
  by_cases hp2 : p % 2 = 0 <;> by_cases hq2 : q % 2 = 0
  · omega
  · rw [if_pos hp2, if_neg hq2] at h1; exact absurd h1 hee
  · rw [if_neg hp2, if_pos hq2] at h1; exact absurd h1.symm hee
  · omega
end Go.AM.P16
namespace Go.AM.P16
open Go
/-! ### The law of the turns -/
theorem pl_mem {t : ApiTopo} {n p : Int} : ∀ {k : Nat}, p ∈ pl t n k ↔ ∃ q : Nat, q < k ∧ p = q ∧ fromO t q = some n
  | 0 => by simp [pl]
  | k + 1 => by
    rw [pl_succ, List.mem_append, pl_mem]
    constructor
    · rintro (⟨q, h1, h2, h3⟩ | h)
      · exact ⟨q, by omega, h2, h3⟩
      · split at h
        · rename_i hf; simp at h; exact ⟨k, by omega, h, hf⟩
        · simp at h
    · rintro ⟨q, h1, h2, h3⟩
      by_cases hq : q < k
      · exact .inl ⟨q, hq, h2, h3⟩
      · have : q = k := by omega
        subst this
        right; rw [if_pos h3]; simp [h2]
theorem pl_port {t : ApiTopo} {n p : Int} (h : p ∈ pl t n (2 * t.Links.length)) : IsP t p ∧ frm t p = n := by
  obtain ⟨q, h1, rfl, h3⟩ := pl_mem.1 h
  rw [(fromO_frm h1).1] at h3
  exact ⟨⟨by omega, by omega⟩, Option.some.inj h3⟩
theorem pl_cnt {t : ApiTopo} (n : Int) : ∀ {i : Nat}, i ≤ t.Links.length → ((pl t n (2 * i)).length : Int) = cnt (t.Links.take i) n
  | 0, _ => by simp [pl, cnt]
  | i + 1, h => by
    have hlt : i < t.Links.length := h
    have he : t.Links[i]? = some t.Links[i] := List.getElem?_eq_getElem hlt
    have e1 : 2 * (i + 1) = 2 * i + 1 + 1 := by omega
    rw [e1, pl_succ, pl_succ, cnt_take he, ← pl_cnt n (by omega), (fromO_even he).1, (fromO_odd he).1]
    unfold ends
    simp only [List.length_append, Option.some.injEq]
    split <;> split <;> simp <;> omega
def flat (t : ApiTopo) (k : Nat) : Nat → List Int
  | 0 => []
  | n + 1 => flat t k n ++ pl t n k
theorem count_pl {t : ApiTopo} (n x : Int) : ∀ {k : Nat}, (pl t n k).count x = if 0 ≤ x ∧ x < k ∧ fromO t x.toNat = some n then 1 else 0
  | 0 => by
    rw [if_neg (by omega)]; rfl
  | k + 1 => by
    rw [pl_succ, List.count_append, count_pl]
    by_cases hx : x = k
    · subst hx
      have e1 : ((k : Int)).toNat = k := by omega
      rw [if_neg (by omega), e1]
      by_cases hf : fromO t k = some n
      · rw [if_pos hf, if_pos ⟨by omega, by omega, hf⟩]; simp
      · rw [if_neg hf, if_neg (fun h => hf h.2.2)]; simp
    · have e2 : (if fromO t k = some n then [(k : Int)] else []).count x = 0 := by
        split
        · simp [List.count_cons, show ¬ (k : Int) = x from fun h => hx h.symm]
        · rfl
      rw [e2, Nat.add_zero]
      by_cases h : 0 ≤ x ∧ x < k ∧ fromO t x.toNat = some n
      · rw [if_pos h, if_pos ⟨h.1, by omega, h.2.2⟩]
      · rw [if_neg h, if_neg (fun h' => h ⟨h'.1, by omega, h'.2.2⟩)]
theorem count_flat {t : ApiTopo} (x : Int) (k : Nat) : ∀ {N : Nat}, (flat t k N).count x = if 0 ≤ x ∧ x < k ∧ (∃ v : Int, fromO t x.toNat = some v ∧ 0 ≤ v ∧ v < N) then 1 else 0
  | 0 => by rw [if_neg (by rintro ⟨_, _, v, _, _, _⟩; omega)]; rfl
  | N + 1 => by
    unfold flat
    rw [List.count_append, count_flat, count_pl]
    by_cases h : 0 ≤ x ∧ x < k ∧ fromO t x.toNat = some (N : Int)
    · rw [if_pos h, if_neg, if_pos ⟨h.1, h.2.1, N, h.2.2, by omega, by omega⟩]
      rintro ⟨_, _, v, hv, _, hlt⟩
      rw [h.2.2] at hv; cases hv; omega
    · rw [if_neg h, Nat.add_zero]
      by_cases h2 : 0 ≤ x ∧ x < k ∧ (∃ v : Int, fromO t x.toNat = some v ∧ 0 ≤ v ∧ v < N)
      · obtain ⟨g1, g2, v, g3, g4, g5⟩ := h2
        rw [if_pos ⟨g1, g2, v, g3, g4, g5⟩, if_pos ⟨g1, g2, v, g3, g4, by omega⟩]
      · rw [if_neg h2, if_neg]
        rintro ⟨g1, g2, v, g3, g4, g5⟩
        by_cases hv : v = N
        · subst hv; exact h ⟨g1, g2, g3⟩
        · exact h2 ⟨g1, g2, v, g3, g4, by omega⟩
def upTo (k : Nat) : List Int := (List.range k).map fun (i : Nat) => (i : Int)
theorem count_upTo (x : Int) : ∀ {k : Nat}, (upTo k).count x = if 0 ≤ x ∧ x < k then 1 else 0
  | 0 => by rw [if_neg (by omega)]; rfl
  | k + 1 => by
    have e : upTo (k + 1) = upTo k ++ [(k : Int)] := by unfold upTo; rw [List.range_succ, List.map_append]; rfl
    rw [e, List.count_append, count_upTo]
    by_cases h : x = k
    · subst h; rw [if_neg (by omega), if_pos (by omega)]; simp
    · have hz : List.count x [(k : Int)] = 0 := by simp [List.count_cons, show ¬ (k : Int) = x from fun h' => h h'.symm]
      rw [hz, Nat.add_zero]
      by_cases h2 : 0 ≤ x ∧ x < k
      · rw [if_pos h2, if_pos (by omega)]
      · rw [if_neg h2, if_neg (by omega)]
theorem upTo_sorted (k : Nat) : (upTo k).Pairwise (· ≤ ·) := by
  unfold upTo
  rw [List.pairwise_map]
  exact List.pairwise_lt_range.imp fun h => by omega
theorem sorted_eq {l : List Int} {k : Nat} (h : ∀ x, l.count x = if 0 ≤ x ∧ x < (k : Int) then 1 else 0) : sortI l = upTo k := by
  refine List.Perm.eq_of_pairwise (le := fun (x y : Int) => x ≤ y) (fun a b _ _ h1 h2 => by omega) (sortI_sorted l) (upTo_sorted k) ?_
  refine (sortI_perm l).trans (List.perm_iff_count.2 fun x => ?_)
  rw [h, count_upTo]
theorem flat_len {t : ApiTopo} (k : Nat) : ∀ N, (flat t k N).length ≤ N * k
  | 0 => by simp [flat]
  | N + 1 => by
    have := pl_len t N k
    have := flat_len (t := t) k N
    simp only [flat, List.length_append, Nat.add_mul]; omega
theorem TopoTurns_pure (x0 : Isochronref16Draft) (D : Draws x0) : m_isochronlaw16_TopoTurns x0 = .ok true := by
  refine Has.eq ?_
  unfold m_isochronlaw16_TopoTurns
  refine has_beq wakes_ok ?_
  refine has_ite (fun h => by simp at h) (fun _ => ?_)
  refine has_bind (Topo_has D) fun t ht => ?_
  obtain ⟨hf, hlk⟩ := ht
  have hN := hf.small.n
  have hS := hf.small.s
  have hL := hf.small.l
  refine has_beq (Check_fit hf) ?_
  refine has_ite (fun h => by simp at h) (fun _ => ?_)
  refine has_loop (fun y : List Int × Int => 0 ≤ y.2 ∧ y.2 ≤ t.Nodes ∧ y.1 = flat t (2 * t.Links.length) y.2.toNat) (fun y => (t.Nodes - y.2).toNat) (fun y hy => by omega) ⟨by simp, by simp only; omega, rfl⟩ ?_
  rintro ⟨met, n⟩ rec ⟨h0, h1, h2⟩ ih
  simp only at h0 h1 h2
  unfold m_isochronlaw16_TopoTurns_l3
  simp only [decide_eq_true_eq]
  refine has_ite (fun hn => ?_) (fun hn => ?_)
  · have hnn : IsN t n := ⟨h0, hn⟩
    refine has_beq (Ports_ok hf hnn) ?_
    have hpl := pl_len t n (2 * t.Links.length)
    refine has_join (fun b => b = false) (fun b hb => ?_) (fun j hj => ?_)
    · subst hb
      simp only [Bool.false_eq_true, if_false]
      refine has_loop (fun y : List Int × Int => y.1 = pl t n (2 * t.Links.length) ∧ 0 ≤ y.2 ∧ y.2 ≤ (pl t n (2 * t.Links.length)).length) (fun y => ((pl t n (2 * t.Links.length)).length - y.2).toNat) (fun y hy => by omega) ⟨rfl, by simp, by simp⟩ ?_
      rintro ⟨l, i⟩ rec2 ⟨g0, g1, g2⟩ ih2
      simp only at g0 g1 g2
      subst g0
      unfold m_isochronlaw16_TopoTurns_l1
      simp only [decide_eq_true_eq]
      refine has_ite (fun hi => ?_) (fun hi => ?_)
      · refine has_idx g1 hi fun p hp => ?_
        obtain ⟨hip, hfp⟩ := pl_port (List.mem_of_getElem? hp)
        have hl48 := isp_lt hf.small hip
        refine has_beq (From_ok hf hip) ?_
        refine has_beq (To_ok hf hip) ?_
        refine has_beq (Back_ok hf hip) ?_
        refine has_beq (From_ok hf (isp_bk hip)) ?_
        refine has_beq (Back_ok hf (isp_bk hip)) ?_
        have hfind : m_topo_Find t (frm t p) (too t p) = .ok (p, 0) := by
          obtain ⟨r, hr, hr2⟩ := Find_has hf (frm_N hf hip) (too_N hf hip)
          rw [hr]
          have hpn : (p.toNat : Int) = p := by omega
          have hps : p.toNat < 2 * t.Links.length := by have := hip.2; omega
          rcases hr2 with ⟨h3, _⟩ | ⟨q, ⟨h3, ⟨h4, h5⟩, _⟩, rfl⟩
          · refine absurd ?_ (h3 p.toNat hps)
            have := fromO_frm hps
            rw [hpn] at this
            exact this
          · have hq := fromO_frm h3
            rw [hq.1] at h4
            rw [hq.2] at h5
            have := port_one hf (p := (q : Int)) (q := p) ⟨by omega, by omega⟩ hip (Option.some.inj h4) (Option.some.inj h5)
            rw [this]
        refine has_beq hfind ?_
        simp only [sh, frm_bk, bk_bk, hfp, ne_eq, not_true_eq_false, decide_false, Bool.or_self, Bool.false_eq_true, if_false]
        rw [w64_id (n := i + 1) (by omega) (by omega)]
        exact ih2 _ ⟨rfl, by simp only; omega, by simp only; omega⟩ (by simp only; omega)
      · have hfl := flat_len (t := t) (2 * t.Links.length) n.toNat
        have hmul : n.toNat * (2 * t.Links.length) ≤ 12 * 48 := Nat.mul_le_mul (by omega) (by omega)
        refine has_must (okLen_ok (by rw [h2]; omega)) ?_
        rw [w64_id (n := n + 1) (by omega) (by omega)]
        refine ih _ ⟨by simp only; omega, by simp only; omega, ?_⟩ (by simp only; omega)
        have e1 : (n + 1).toNat = n.toNat + 1 := by omega
        have e2 : ((n.toNat : Nat) : Int) = n := by omega
        simp only [e1, flat, h2, e2]
    · refine has_ite (fun h => by simp at h) (fun _ => ?_)
      refine has_idx h0 (by omega) fun b hb => ?_
      have hcnt := pl_cnt (t := t) n (i := t.Links.length) (Nat.le_refl _)
      rw [List.take_length] at hcnt
      refine has_ite (fun hbt => ?_) (fun _ => hj _ rfl)
      have := hf.stations n hnn ((seen_get h0 hb).2 hbt)
      refine has_ite (fun h => by simp only at h; omega) (fun _ => hj _ ?_)
      simp only [decide_eq_false_iff_not]; omega
  · have hnN : n = t.Nodes := by omega
    have hfl := flat_len (t := t) (2 * t.Links.length) n.toNat
    have hmul : n.toNat * (2 * t.Links.length) ≤ 12 * 48 := Nat.mul_le_mul (by omega) (by omega)
    have hsort : m_sort met = .ok (upTo (2 * t.Links.length)) := by
      unfold m_sort
      rw [okLen_ok (by rw [h2]; omega)]
      simp only [must, bindR]
      congr 1
      refine sorted_eq fun x => ?_
      rw [h2, count_flat]
      by_cases h : 0 ≤ x ∧ x < ((2 * t.Links.length : Nat) : Int)
      · rw [if_pos h, if_pos]
        have hx : x.toNat < 2 * t.Links.length := by omega
        have hN := frm_N hf (p := (x.toNat : Int)) ⟨by omega, by omega⟩
        exact ⟨h.1, h.2, _, (fromO_frm hx).1, hN.1, by have := hN.2; omega⟩
      · rw [if_neg h, if_neg (fun h' => h ⟨h'.1, h'.2.1⟩)]
    refine has_beq hsort ?_
    have hul : (upTo (2 * t.Links.length)).length = 2 * t.Links.length := by simp [upTo]
    refine has_loop (fun y : List Int × Int => y.1 = upTo (2 * t.Links.length) ∧ 0 ≤ y.2 ∧ y.2 ≤ (2 * t.Links.length : Nat)) (fun y => ((2 * t.Links.length : Nat) - y.2).toNat) (fun y hy => by omega) ⟨rfl, by simp, by simp only; omega⟩ ?_
    rintro ⟨l, i⟩ rec2 ⟨g0, g1, g2⟩ ih2
    simp only at g0 g1 g2
    subst g0
    unfold m_isochronlaw16_TopoTurns_l2
    simp only [decide_eq_true_eq]
    refine has_ite (fun hi => ?_) (fun hi => ?_)
    · refine has_idx g1 hi fun p hp => ?_
      have : p = i := by
        unfold upTo at hp
        rw [List.getElem?_map, List.getElem?_range (by omega)] at hp
        simp at hp; omega
      subst this
      refine has_ite (fun h => absurd rfl h) (fun _ => ?_)
      rw [w64_id (n := p + 1) (by omega) (by omega)]
      exact ih2 _ ⟨rfl, by simp only; omega, by simp only; omega⟩ (by simp only; omega)
    · refine has_ok ?_
      rw [hul, w64_id (by omega) (by omega)]
      simp
end Go.AM.P16
