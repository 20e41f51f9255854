/- Of the abstract machine, for all programs: definitions and lemmas, no claim of its own; no condition. -/
import Derived.Test.YtlkddekecegfdaaGreatLfH
import Derived.WideKeyArgs
import Derived.Below
set_option linter.unusedVariables false
set_option linter.unusedSimpArgs false
namespace Go.AM
open Go
/-! ### Structs of numbers and bools, compared -/
def flatL (P : Program) : List Field → R (List (Nat × Option IntKind))
  | [] => .ok []
  | f :: fs => bindR (must (!(f.name == "_"))) fun _ => bindR (under P f.type) fun d => bindR (flatL P fs) fun l =>
    match d with
    | .int k => .ok ((f.offset, some k) :: l)
    | .bool => .ok ((f.offset, none) :: l)
    | _ => .error "flat"
def flatOf (P : Program) (t : TypeId) : R (List (Nat × Option IntKind)) :=
  bindR (must (!P.stoodInHeld t && !P.eqGuardType P.depth t)) fun _ => bindR (under P t) fun d => match d with | .struct fs => flatL P fs.toList | _ => .error "flat"
def eqCs : List (Nat × Option IntKind) → List Value → List Value → R Bool
  | [], _, _ => .ok true
  | (o, some k) :: l, xs, ys =>
    match xs[o]?, ys[o]? with
    | some (.int k1 a), some (.int k2 b) => if k1 = k then (if k2 = k then bindR (eqCs l xs ys) fun r => .ok ((a == b) && r) else .error "eq") else .error "eq"
    | _, _ => .error "eq"
  | (o, none) :: l, xs, ys =>
    match xs[o]?, ys[o]? with
    | some (.bool a), some (.bool b) => bindR (eqCs l xs ys) fun r => .ok ((a == b) && r)
    | _, _ => .error "eq"
section
variable {P : Program} {w : World} {t : TypeId}
def resEq (op : BinOp) (r : Bool) : Bool := match op with | .eql => r | _ => !r
/-- A block is brought to the front. -/
theorem St.front {φ : Fz} {lo : Nat} {h : Heap} {own : OwnL} (X : St φ lo h own) {j : Nat} {p : Option Nat × Blk} (hj : own[j]? = some p) : St φ lo h (p :: own.eraseIdx j) := by
  have hjl := (List.getElem?_eq_some_iff.1 hj).1
  refine X.sel (j :: (List.range own.length).eraseIdx j) ?_ fun k q hk => ?_
  · refine List.nodup_cons.2 ⟨?_, List.nodup_range.sublist (List.eraseIdx_sublist ..)⟩
    intro hm
    rw [List.mem_eraseIdx_iff_getElem] at hm
    obtain ⟨i, hi, h1, h2⟩ := hm
    simp at h2
    exact h1 h2
  · cases k with
    | zero =>
      simp only [List.getElem?_cons_zero, Option.some.injEq] at hk
      subst hk
      exact ⟨j, rfl, .inl hj⟩
    | succ k =>
      simp only [List.getElem?_cons_succ] at hk
      show ∃ i, ((List.range own.length).eraseIdx j)[k]? = some i ∧ _
      rw [List.getElem?_eraseIdx] at hk ⊢
      have hl : ∀ i, own[i]? = some q → (List.range own.length)[i]? = some i := fun i hi => by
        have := (List.getElem?_eq_some_iff.1 hi).1
        exact List.getElem?_range this
      split at hk
      · rename_i hlt
        rw [if_pos hlt]
        exact ⟨k, hl k hk, .inl hk⟩
      · rename_i hlt
        rw [if_neg hlt]
        exact ⟨k + 1, hl _ hk, .inl hk⟩
/-- A part of a row whose capacity is known. -/
theorem RSl.sliceC {φ : Fz} {α : Type} {E : Enc α} {l : List α} {a : Option Addr} {n c m lo' hi' : Nat} {lo hi : Option Value} (hR : RSl E φ (.slice a n c) l) (hc : c < unk) (hes : m = E.es)
    (hl : BndOk lo 0 lo') (hh : BndOk hi l.length hi') (h1 : lo' ≤ hi') (h2 : hi' ≤ l.length) : ∃ a' n' c', slC m (.slice a n c) lo hi none = .ok (.slice a' n' c') ∧ RSl E φ (.slice a' n' c') ((l.take hi').drop lo') ∧ c' < unk := by
  subst hes
  have hcf : Nat.ble unk c = false := by rw [ble_false]; exact hc
  rcases hR with ⟨g1, g2⟩ | ⟨b, off, c', vs, e, mm, g1, g2, g3, g4, g5, g6⟩ | ⟨b, off, c', g1, g2, g3, g4⟩
  · injection g1 with e1 e2 e3
    subst e1; subst e2; subst e3
    subst g2
    have e1 : hi' = 0 := by simpa using h2
    subst e1
    have e2 : lo' = 0 := by omega
    subst e2
    refine ⟨none, 0, 0, ?_, .inl ⟨rfl, rfl⟩, by unfold unk; omega⟩
    have hs := sbounds_ok (cap := 0) hl hh h1 h2 (Nat.le_refl _)
    simp only [List.length_nil] at hs
    unfold slC
    simp only [hcf, hs, bindR_ok', show must (Nat.ble 0 0) = .ok () from rfl]
    rfl
  · injection g1 with e1 e2 e3
    subst e1; subst e2; subst e3
    have hlc := g3 hc
    have hlen : ((l.take hi').drop lo').length = hi' - lo' := by rw [List.length_drop, List.length_take]; omega
    have hmul : lo' * E.es + (hi' - lo') * E.es ≤ l.length * E.es := by rw [← Nat.add_mul]; exact Nat.mul_le_mul_right _ (by omega)
    have hrow : RowD E φ ((vs.drop (off + lo' * E.es)).take ((hi' - lo') * E.es)) ((l.take hi').drop lo') := by
      have := (g6.take hi').drop lo'
      have e1 : (((vs.drop off).take (l.length * E.es)).take (hi' * E.es)).drop (lo' * E.es) = (vs.drop (off + lo' * E.es)).take ((hi' - lo') * E.es) := by
        have : hi' * E.es ≤ l.length * E.es := Nat.mul_le_mul_right _ h2
        rw [List.take_take, Nat.min_eq_left this, List.drop_take, List.drop_drop, Nat.sub_mul]
      rw [← e1]; exact this
    have hm : must (Nat.ble l.length c) = .ok () := by rw [ble_iff.2 hlc]; rfl
    have hs := sbounds_ok (cap := c) hl hh h1 h2 hlc
    unfold slC
    simp only [hcf, hm, hs, bindR_ok', Option.map_some, addr_add]
    by_cases he : c = lo'
    · rw [if_pos he]
      refine ⟨_, _, _, rfl, .inr (.inl ⟨b, off, c - lo', vs, e, mm, by rw [hlen], g2, fun _ => by rw [hlen]; omega, ?_, fun h => absurd h (by unfold unk at *; omega), ?_⟩), by omega⟩
      · intro hp; rw [hlen] at hp; omega
      · have e0 : (l.take hi').drop lo' = [] := List.length_eq_zero_iff.1 (by rw [hlen]; omega)
        rw [e0]; simp [RowD]
    · rw [if_neg he]
      refine ⟨_, _, _, rfl, .inr (.inl ⟨b, off + lo' * E.es, c - lo', vs, e, mm, by rw [hlen]; rfl, g2, fun _ => by rw [hlen]; omega, fun hp => by rw [hlen] at hp ⊢; have := g4 (by omega); omega, fun h => absurd h (by unfold unk at *; omega), ?_⟩), by omega⟩
      rw [hlen]; exact hrow
  · injection g1 with e1 e2 e3
    subst e1; subst e2; subst e3
    subst g2
    have e1 : hi' = 0 := by simpa using h2
    subst e1
    have e2 : lo' = 0 := by omega
    subst e2
    have hs := sbounds_ok (cap := c) hl hh h1 h2 (Nat.zero_le _)
    simp only [List.length_nil] at hs
    refine ⟨some ⟨b, off, none⟩, 0, c, ?_, .inr (.inr ⟨b, off, c, rfl, rfl, g3, g4⟩), g4⟩
    have hm : must (Nat.ble 0 c) = .ok () := by rw [ble_iff.2 (Nat.zero_le c)]; rfl
    unfold slC
    simp only [hcf, hm, bindR_ok', hs, Option.map_some, addr_add, Nat.zero_mul]
    by_cases h0 : c = 0
    · rw [if_pos h0]; rfl
    · rw [if_neg h0]; rfl
end
end Go.AM

namespace Go.AM
open Go
section
variable {δ ε β : Type} {P : Program} {r : Rec} {L N n : Nat} {env : Env} {t0 : Tmps} {h h' : Heap} {Q : δ → β → Prop} {M : R δ}
variable {ops : Array Oper} {os : List Oper} {i : Nat} {d : Tmp} {ty : TypeId} {pos : String} {af : Array Edge} {g : Option (Nat × Bool)} {chg chs prd : Nat} {KK : Tmps → Heap → R β}
end
end Go.AM
namespace Go.AM
open Go

/-! ### The arguments of a law, laid out for the abstract machine -/
structure ImpS (w : World) (ρ : Ren) (h : Heap) (φ : Fz) : Prop where
  hr : HR ρ h w
  fz : ∀ i b, φ i = some b → i < h.n ∧ h.get i = b
  ro : ∀ i, owned (h.get i) = false
structure ImpLe (ρ ρ' : Ren) (φ φ' : Fz) : Prop where
  sub : Sub ρ ρ'
  le : φ.le φ'
theorem ImpLe.refl (ρ : Ren) (φ : Fz) : ImpLe ρ ρ φ φ := ⟨fun _ _ h => h, φ.le_refl⟩
theorem ImpLe.trans {ρ ρ' ρ'' : Ren} {φ φ' φ'' : Fz} (h : ImpLe ρ ρ' φ φ') (h' : ImpLe ρ' ρ'' φ' φ'') : ImpLe ρ ρ'' φ φ'' := ⟨fun b l e => h'.sub b l (h.sub b l e), h.le.trans h'.le⟩
def Imp {α : Type} (E : Enc α) (w : World) (cs : List Value) (x : α) : Prop :=
  ∀ ρ h φ, ImpS w ρ h φ → ∃ ρ' h' φ' acs, ImpS w ρ' h' φ' ∧ ImpLe ρ ρ' φ φ' ∧ VL ρ' acs cs ∧ E.R φ' acs x ∧ ∀ a n c, Value.slice a n c ∈ acs → c < unk
section
variable {w : World} {α β : Type}
theorem imp_int {k : IntKind} {n : Int} : Imp (eInt k) w [.int k n] n := fun ρ h φ hS => ⟨ρ, h, φ, _, hS, .refl _ _, .cons (.int k n) .nil, rfl, fun a n c h => by simp at h⟩
theorem imp_bool {b : Bool} : Imp eBool w [.bool b] b := fun ρ h φ hS => ⟨ρ, h, φ, _, hS, .refl _ _, .cons (.bool b) .nil, rfl, fun a n c h => by simp at h⟩
theorem imp_unit : Imp eUnit w [] () := fun ρ h φ hS => ⟨ρ, h, φ, _, hS, .refl _ _, .nil, rfl, fun a n c h => by cases h⟩
theorem imp_pair {A : Enc α} {B : Enc β} {c1 c2 : List Value} {x : α} {y : β} (h1 : Imp A w c1 x) (h2 : Imp B w c2 y) : Imp (ePair A B) w (c1 ++ c2) (x, y) := fun ρ h φ hS => by
  obtain ⟨ρ1, g1, φ1, a1, s1, l1, v1, r1, c1⟩ := h1 ρ h φ hS
  obtain ⟨ρ2, g2, φ2, a2, s2, l2, v2, r2, c2⟩ := h2 ρ1 g1 φ1 s1
  exact ⟨ρ2, g2, φ2, a1 ++ a2, s2, l1.trans l2, (v1.mono l2.sub).append v2, ⟨a1, a2, rfl, A.mono l2.le r1, r2⟩, fun a n c h => (List.mem_append.1 h).elim (c1 a n c) (c2 a n c)⟩
theorem imp_map {A : Enc α} {f : β → α} {cs : List Value} {x : β} (h1 : Imp A w cs (f x)) : Imp (eMap f A) w cs x := h1
/-- The elements of a row, one behind the other. -/
theorem imp_row {E : Enc α} : ∀ {css : List (List Value)} {xs : List α}, css.length = xs.length → (∀ (i : Nat) (c : List Value) (x : α), css[i]? = some c → xs[i]? = some x → Imp E w c x) →
    ∀ ρ h φ, ImpS w ρ h φ → ∃ ρ' h' φ' acs, ImpS w ρ' h' φ' ∧ ImpLe ρ ρ' φ φ' ∧ VL ρ' acs css.flatten ∧ RowD E φ' acs xs
  | [], [], _, _, ρ, h, φ, hS => ⟨ρ, h, φ, [], hS, .refl _ _, .nil, rfl⟩
  | c :: css, x :: xs, hl, hi, ρ, h, φ, hS => by
    obtain ⟨ρ1, g1, φ1, a1, s1, l1, v1, r1, _⟩ := hi 0 c x rfl rfl ρ h φ hS
    obtain ⟨ρ2, g2, φ2, a2, s2, l2, v2, r2⟩ := imp_row (css := css) (xs := xs) (by simpa using hl) (fun i c x h1 h2 => hi (i + 1) c x (by simpa using h1) (by simpa using h2)) ρ1 g1 φ1 s1
    exact ⟨ρ2, g2, φ2, a1 ++ a2, s2, l1.trans l2, (v1.mono l2.sub).append v2, a1, a2, rfl, E.mono l2.le r1, r2⟩
  | [], x :: xs, hl, _, _, _, _, _ => by simp at hl
  | c :: css, [], hl, _, _, _, _, _ => by simp at hl
theorem imp_nil {E : Enc α} : Imp (eSl E) w [.slice none 0 0] ([] : List α) := fun ρ h φ hS => ⟨ρ, h, φ, [.slice none 0 0], hS, .refl _ _, .cons .nilSlice .nil, ⟨none, 0, 0, rfl, .inl ⟨rfl, rfl⟩⟩, fun a n c h => (by simp at h; rw [h.2.2]; unfold unk; omega)⟩
theorem imp_slice {E : Enc α} {blk off len cap : Nat} {cells : Array Value} {e : TypeId} {fr : Nat × Nat} {css : List (List Value)} {xs : List α} (hb : w.heap[blk]? = some (.cells cells e fr)) (hcap : cap < unk) (hlc : len ≤ cap) (hx : xs.length = len)
    (hl : css.length = xs.length) (hi : ∀ (i : Nat) (c : List Value) (x : α), css[i]? = some c → xs[i]? = some x → Imp E w c x) (hc : (cells.toList.drop off).take (len * E.es) = css.flatten) (hlen : css.flatten.length = len * E.es) (hoff : off + len * E.es ≤ cells.size) :
    Imp (eSl E) w [.slice (some ⟨blk, off, none⟩) len cap] xs := fun ρ h φ hS => by
  obtain ⟨ρ1, g1, φ1, a1, s1, l1, v1, r1⟩ := imp_row hl hi ρ h φ hS
  have ha1 : a1.length = len * E.es := by rw [v1.1, hlen]
  have hn : φ1 g1.n = none := by
    cases hq : φ1 g1.n with
    | none => rfl
    | some b => exact absurd (s1.fz _ _ hq).1 (Nat.lt_irrefl _)
  have hget : ∀ i, i < g1.n → (g1.put (.cells a1 e (.ro E.es))).get i = g1.get i := fun i hi => by rw [get_put trivial, if_neg (by omega)]
  have hadd : φ1.le (φ1.add g1.n (.cells a1 e (.ro E.es))) := fun i b hb => by
    unfold Fz.add
    rw [if_neg]
    · exact hb
    · intro e'; subst e'; rw [hn] at hb; cases hb
  have hsub : Sub ρ1 (ρ1.add g1.n ⟨blk, off, 0, E.es⟩) := s1.hr.sub_add _
  have hblk : blk < w.heap.size := (Array.getElem?_eq_some_iff.1 hb).1
  refine ⟨ρ1.add g1.n ⟨blk, off, 0, E.es⟩, g1.put (.cells a1 e (.ro E.es)), φ1.add g1.n (.cells a1 e (.ro E.es)), [.slice (some ⟨g1.n, 0, none⟩) len cap], ⟨⟨trivial, fun i l hl => ?_, fun i j li lj hij h1 h2 ho => ?_⟩, fun i b hb => ?_, fun i => ?_⟩, ⟨fun b l hb => hsub b l (l1.sub b l hb), l1.le.trans hadd⟩, ?_, ?_, fun a n c h => (by simp at h; rw [h.2.2]; exact hcap)⟩
  · by_cases e1 : i = g1.n
    · subst e1
      rw [Ren.add_same] at hl
      cases hl
      refine ⟨by show g1.n < g1.n + 1; omega, fun _ => hblk, ?_⟩
      rw [get_put trivial, if_pos rfl]
      refine ⟨cells, fr, hb, fun h => absurd rfl (h E.es), ⟨fun es h => (by cases h), fun es h => ?_⟩, ?_, ?_⟩
      · cases h; rfl
      · rw [ha1]
        show VL _ a1 ((cells.toList.drop off).take (len * E.es))
        rw [hc]; exact v1.mono hsub
      · rw [ha1]; exact hoff
    · rw [Ren.add_other e1] at hl
      obtain ⟨k1, k2, k3⟩ := s1.hr.dom i l hl
      refine ⟨by show i < g1.n + 1; omega, fun hv => k2 (by rw [hget i k1] at hv; exact hv), ?_⟩
      rw [hget i k1]
      exact k3.mono hsub
  · have : owned ((g1.put (.cells a1 e (.ro E.es))).get i) = false := by
      by_cases e1 : i = g1.n
      · subst e1; rw [get_put trivial, if_pos rfl]; rfl
      · rw [get_put trivial, if_neg e1]; exact s1.ro i
    rw [this] at ho; cases ho
  · unfold Fz.add at hb
    split at hb
    · rename_i e1; subst e1; cases hb
      exact ⟨by show g1.n < g1.n + 1; omega, by rw [get_put trivial, if_pos rfl]⟩
    · obtain ⟨k1, k2⟩ := s1.fz i b hb
      exact ⟨by show i < g1.n + 1; omega, by rw [hget i k1]; exact k2⟩
  · by_cases e1 : i = g1.n
    · subst e1; rw [get_put trivial, if_pos rfl]; rfl
    · rw [get_put trivial, if_neg e1]; exact s1.ro i
  · refine .cons ?_ .nil
    have := VR.slice (ρ := ρ1.add g1.n ⟨blk, off, 0, E.es⟩) (b := g1.n) (o := 0) (n := len) (c := cap) (Ren.add_same) hcap
    exact this
  · refine ⟨_, _, _, rfl, .inr (.inl ⟨g1.n, 0, cap, a1, e, .ro E.es, by rw [hx], by unfold Fz.add; rw [if_pos rfl], fun _ => by rw [hx]; exact hlc, fun _ => by rw [hx, ha1]; omega, fun _ => rfl, ?_⟩)⟩
    rw [List.drop_zero, List.take_of_length_le (by rw [ha1, hx]; exact Nat.le_refl _)]
    exact r1.mono hadd
theorem imp_empty {E : Enc α} {blk off cap : Nat} {cells : Array Value} {e : TypeId} {fr : Nat × Nat} (hb : w.heap[blk]? = some (.cells cells e fr)) (hcap : cap < unk) : Imp (eSl E) w [.slice (some ⟨blk, off, none⟩) 0 cap] ([] : List α) := fun ρ h φ hS => by
  have hn : φ h.n = none := by
    cases hq : φ h.n with
    | none => rfl
    | some b => exact absurd (hS.fz _ _ hq).1 (Nat.lt_irrefl _)
  have hget : ∀ i, i < h.n → (h.put (.cells [] e (.ro E.es))).get i = h.get i := fun i hi => by rw [get_put trivial, if_neg (by omega)]
  have hadd : φ.le (φ.add h.n (.cells [] e (.ro E.es))) := fun i b hb => by
    unfold Fz.add
    rw [if_neg]
    · exact hb
    · intro e'; subst e'; rw [hn] at hb; cases hb
  have hsub : Sub ρ (ρ.add h.n ⟨blk, 0, 0, E.es⟩) := hS.hr.sub_add _
  have hblk : blk < w.heap.size := (Array.getElem?_eq_some_iff.1 hb).1
  refine ⟨ρ.add h.n ⟨blk, 0, 0, E.es⟩, h.put (.cells [] e (.ro E.es)), φ.add h.n (.cells [] e (.ro E.es)), [.slice (some ⟨h.n, off, none⟩) 0 cap], ⟨⟨trivial, fun i l hl => ?_, fun i j li lj hij h1 h2 ho => ?_⟩, fun i b hb => ?_, fun i => ?_⟩, ⟨hsub, hadd⟩, ?_, ?_, fun a n c h => (by simp at h; rw [h.2.2]; exact hcap)⟩
  · by_cases e1 : i = h.n
    · subst e1
      rw [Ren.add_same] at hl
      cases hl
      refine ⟨by show h.n < h.n + 1; omega, fun _ => hblk, ?_⟩
      rw [get_put trivial, if_pos rfl]
      refine ⟨cells, fr, hb, fun h => absurd rfl (h E.es), ⟨fun es h => (by cases h), fun es h => ?_⟩, .nil, by simp⟩
      cases h; rfl
    · rw [Ren.add_other e1] at hl
      obtain ⟨k1, k2, k3⟩ := hS.hr.dom i l hl
      refine ⟨by show i < h.n + 1; omega, fun hv => k2 (by rw [hget i k1] at hv; exact hv), ?_⟩
      rw [hget i k1]
      exact k3.mono hsub
  · have : owned ((h.put (.cells [] e (.ro E.es))).get i) = false := by
      by_cases e1 : i = h.n
      · subst e1; rw [get_put trivial, if_pos rfl]; rfl
      · rw [get_put trivial, if_neg e1]; exact hS.ro i
    rw [this] at ho; cases ho
  · unfold Fz.add at hb
    split at hb
    · rename_i e1; subst e1; cases hb
      exact ⟨by show h.n < h.n + 1; omega, by rw [get_put trivial, if_pos rfl]⟩
    · obtain ⟨k1, k2⟩ := hS.fz i b hb
      exact ⟨by show i < h.n + 1; omega, by rw [hget i k1]; exact k2⟩
  · by_cases e1 : i = h.n
    · subst e1; rw [get_put trivial, if_pos rfl]; rfl
    · rw [get_put trivial, if_neg e1]; exact hS.ro i
  · refine .cons ?_ .nil
    have := VR.slice (ρ := ρ.add h.n ⟨blk, 0, 0, E.es⟩) (b := h.n) (o := off) (n := 0) (c := cap) (Ren.add_same) hcap
    simpa using this
  · refine ⟨_, _, _, rfl, .inr (.inl ⟨h.n, off, cap, [], e, .ro E.es, rfl, by unfold Fz.add; rw [if_pos rfl], fun _ => Nat.zero_le _, fun h => absurd h (Nat.lt_irrefl _), fun _ => rfl, ?_⟩)⟩
    simp [RowD]
end

/-! ### From what a law's row says of its arguments -/
section
variable {H : Type} {enc : TypeId × Value → H} {P : Program} {w : World} {base : Nat} {sp : Nat → Bool} {held : Bool}
theorem mapM_mem {α β : Type} {f : α → Option β} : ∀ {l : List α} {ys : List β}, l.mapM f = some ys → ∀ (i : Nat) (x : α), l[i]? = some x → ∃ y, ys[i]? = some y ∧ f x = some y
  | [], ys, _, i, x, hi => by simp at hi
  | a :: l, ys, h, i, x, hi => by
    rw [List.mapM_cons] at h
    cases hf : f a with
    | none => rw [hf] at h; cases h
    | some b =>
      rw [hf] at h
      cases hm : l.mapM f with
      | none => rw [hm] at h; cases h
      | some bs =>
        rw [hm] at h
        cases h
        cases i with
        | zero => simp only [List.getElem?_cons_zero, Option.some.injEq] at hi; subst hi; exact ⟨b, rfl, hf⟩
        | succ i => exact mapM_mem hm i x (by simpa using hi)
theorem mapM_len {α β : Type} {f : α → Option β} : ∀ {l : List α} {ys : List β}, l.mapM f = some ys → ys.length = l.length
  | [], ys, h => by cases h; rfl
  | a :: l, ys, h => by
    rw [List.mapM_cons] at h
    cases hf : f a with
    | none => rw [hf] at h; cases h
    | some b =>
      rw [hf] at h
      cases hm : l.mapM f with
      | none => rw [hm] at h; cases h
      | some bs => rw [hm] at h; cases h; simp [mapM_len hm]
theorem trod_int {t : TypeId} {k : IntKind} {fuel : Nat} {cs : List Value} {x : DataW H × List MemPlace} (ht : P.underlying t = some (.int k)) (h : DataW.trod enc P w base sp held fuel t cs = some x) : ∃ n, cs = [.int k n] ∧ k.min ≤ n ∧ n ≤ k.max := by
  cases fuel with
  | zero => cases h
  | succ fuel =>
    unfold DataW.trod at h
    rw [ht] at h
    split at h <;> simp_all
    obtain ⟨⟨rfl, hw⟩, _⟩ := h
    simpa [Lit.wf] using hw
theorem trod_bool {t : TypeId} {fuel : Nat} {cs : List Value} {x : DataW H × List MemPlace} (ht : P.underlying t = some .bool) (h : DataW.trod enc P w base sp held fuel t cs = some x) : ∃ b, cs = [.bool b] := by
  cases fuel with
  | zero => cases h
  | succ fuel =>
    unfold DataW.trod at h
    rw [ht] at h
    split at h <;> simp_all
theorem trod_struct {t : TypeId} {fs : Array Field} {fuel : Nat} {cs : List Value} {x : DataW H × List MemPlace} (ht : P.underlying t = some (.struct fs)) (h : DataW.trod enc P w base sp held fuel t cs = some x) :
    cs.length = P.cellsOf t ∧ ∃ fuel', ∀ (i : Nat) (f : Field), fs.toList[i]? = some f → ∃ y, DataW.trod enc P w base sp held fuel' f.type ((cs.drop f.offset).take (P.cellsOf f.type)) = some y := by
  cases fuel with
  | zero => cases h
  | succ fuel =>
    unfold DataW.trod at h
    rw [ht] at h
    split at h <;> simp_all
    obtain ⟨hlen, xs, hm, _⟩ := h
    refine ⟨fuel, fun i f hf => ?_⟩
    obtain ⟨y, _, hy⟩ := mapM_mem hm i f (by simpa using hf)
    exact ⟨_, _, hy⟩
theorem trod_slice {t e : TypeId} {fuel : Nat} {cs : List Value} {x : DataW H × List MemPlace} (ht : P.underlying t = some (.slice e)) (h : DataW.trod enc P w base sp held fuel t cs = some x) :
    cs = [.slice none 0 0] ∨ ∃ a len cap fuel', cs = [.slice (some a) len cap] ∧ len ≤ cap ∧ cap ≤ maxLen ∧ ∀ i, i < len → ∃ c y, w.cells? base (a.add (i * P.cellsOf e)) (P.cellsOf e) = some c ∧ DataW.trod enc P w base sp held fuel' e c = some y := by
  cases fuel with
  | zero => cases h
  | succ fuel =>
    unfold DataW.trod at h
    rw [ht] at h
    split at h
    all_goals first | (exfalso; simp_all; done) | skip
    · exact .inl rfl
    · rename_i e' a len cap heq
      cases heq
      refine .inr ⟨a, len, cap, fuel, rfl, ?_⟩
      simp only at h
      split at h
      · rename_i hc
        refine ⟨hc.2.1, hc.2.2, fun i hi => ?_⟩
        rw [Option.bind_eq_some_iff] at h
        obtain ⟨elems, hm, _⟩ := h
        obtain ⟨y, _, hy⟩ := mapM_mem hm i i (by simp [hi])
        rw [Option.bind_eq_some_iff] at hy
        obtain ⟨c, h1, h2⟩ := hy
        exact ⟨c, y, h1, h2⟩
      · cases h
theorem cells_take {blk off n : Nat} {c : List Value} {cells : Array Value} {te : TypeId} {fr : Nat × Nat} (hb : w.heap[blk]? = some (.cells cells te fr)) (h0 : 0 < n) (h : w.cells? base ⟨blk, off, none⟩ n = some c) : (cells.toList.drop off).take n = c ∧ c.length = n ∧ off + n ≤ cells.size := by
  unfold World.cells? at h
  split at h
  · have hlen := mapM_len h
    rw [List.length_range] at hlen
    have hget : ∀ i, i < n → cells.toList[off + i]? = c[i]? ∧ c[i]?.isSome = true := fun i hi => by
      obtain ⟨y, h1, h2⟩ := mapM_mem h i i (by simp [hi])
      rw [addr_add] at h2
      simp only [World.cell?, hb] at h2
      have h2 : cells[off + i]? = some y := by simpa using h2
      rw [h1, Array.getElem?_toList]
      exact ⟨h2, rfl⟩
    have hsz : off + n ≤ cells.size := by
      have := (hget (n - 1) (by omega)).1
      have h3 := (hget (n - 1) (by omega)).2
      rw [← this, Option.isSome_iff_exists] at h3
      obtain ⟨z, hz⟩ := h3
      have := (List.getElem?_eq_some_iff.1 hz).1
      simp only [Array.length_toList] at this
      omega
    refine ⟨?_, hlen, hsz⟩
    apply List.ext_getElem?
    intro i
    rw [List.getElem?_take]
    split
    · rename_i hi
      rw [List.getElem?_drop]
      exact (hget i hi).1
    · rename_i hi
      rw [List.getElem?_eq_none (by omega)]
  · cases h
theorem imp_of_slice {α : Type} {E : Enc α} {t e : TypeId} {fuel : Nat} {cs : List Value} {x : DataW H × List MemPlace} (ht : P.underlying t = some (.slice e)) (hes : P.cellsOf e = E.es) (h0 : 0 < E.es) (W : α → Prop)
    (hE : ∀ fuel c y, DataW.trod enc P w base sp held fuel e c = some y → ∃ v, Imp E w c v ∧ W v) (h : DataW.trod enc P w base sp held fuel t cs = some x)
    (hhas : ∀ a len cap, cs = [.slice (some a) len cap] → a.spot = none ∧ ∃ cells te fr, w.heap[a.block]? = some (.cells cells te fr)) : ∃ l : List α, Imp (eSl E) w cs l ∧ ∀ v ∈ l, W v := by
  rcases trod_slice ht h with rfl | ⟨a, len, cap, fuel', rfl, h1, h2, h3⟩
  · exact ⟨[], imp_nil, fun v hv => by cases hv⟩
  · obtain ⟨hspot, cells, te, fr, hb⟩ := hhas a len cap rfl
    obtain ⟨blk, off, spot⟩ := a
    simp only at hspot hb
    subst hspot
    have key : ∀ n, n ≤ len → ∃ (css : List (List Value)) (xs : List α), css.length = n ∧ xs.length = n ∧ (∀ (i : Nat) (c : List Value) (x : α), css[i]? = some c → xs[i]? = some x → Imp E w c x) ∧ (∀ v ∈ xs, W v) ∧
        (cells.toList.drop off).take (n * E.es) = css.flatten ∧ css.flatten.length = n * E.es ∧ (0 < n → off + n * E.es ≤ cells.size) := by
      intro n
      induction n with
      | zero => intro _; exact ⟨[], [], rfl, rfl, fun i c x hi => (by simp at hi), fun v hv => (by cases hv), by simp, by simp, fun h => (by omega)⟩
      | succ n ih =>
        intro hn
        obtain ⟨css, xs, k1, k2, k3, k4, k5, k6, k7⟩ := ih (by omega)
        obtain ⟨c, y, q1, q2⟩ := h3 n (by omega)
        obtain ⟨v, q3, q4⟩ := hE fuel' c y q2
        rw [addr_add, hes] at q1
        obtain ⟨q5, q6, q7⟩ := cells_take hb h0 q1
        have q5 : (cells.toList.drop (off + n * E.es)).take E.es = c := q5
        have q7 : off + n * E.es + E.es ≤ cells.size := q7
        refine ⟨css ++ [c], xs ++ [v], by simp [k1], by simp [k2], fun i c' x' h5 h6 => ?_, fun u hu => ?_, ?_, ?_, fun _ => by rw [Nat.add_mul]; omega⟩
        · rcases Nat.lt_or_ge i n with hlt | hge
          · rw [List.getElem?_append_left (by omega)] at h5 h6
            exact k3 i c' x' h5 h6
          · rw [List.getElem?_append_right (by omega)] at h5 h6
            rw [k1] at h5
            rw [k2] at h6
            cases hj : i - n with
            | zero => rw [hj] at h5 h6; simp at h5 h6; rw [← h5, ← h6]; exact q3
            | succ j => rw [hj] at h5; simp at h5
        · rcases List.mem_append.1 hu with hu | hu
          · exact k4 u hu
          · rw [List.mem_singleton] at hu; rw [hu]; exact q4
        · rw [Nat.add_mul, Nat.one_mul, List.take_add, k5, List.drop_drop, q5]
          simp
        · rw [List.flatten_append, List.length_append, k6]
          simp [q6, Nat.add_mul]
    obtain ⟨css, xs, k1, k2, k3, k4, k5, k6, k7⟩ := key len (Nat.le_refl _)
    refine ⟨xs, ?_, k4⟩
    have hcap : cap < unk := by unfold unk; unfold maxLen at h2; omega
    rcases Nat.eq_zero_or_pos len with hz | hpos
    · subst hz
      have e1 : css = [] := List.length_eq_zero_iff.1 k1
      have e2 : xs = [] := List.length_eq_zero_iff.1 k2
      subst e1; subst e2
      exact imp_empty hb hcap
    · exact imp_slice hb hcap h1 k2 (by rw [k1, k2]) k3 k5 k6 (k7 hpos)
end
end Go.AM
namespace Go.AM
open Go
section
variable {w : World} {α : Type} {E : Enc α}
/-- An empty slice without room, wherever it may lie. -/
theorem imp_empty0 {a : Addr} : Imp (eSl E) w [.slice (some a) 0 0] ([] : List α) := fun ρ h φ hS => by
  have hn : φ h.n = none := by
    cases hq : φ h.n with
    | none => rfl
    | some b => exact absurd (hS.fz _ _ hq).1 (Nat.lt_irrefl _)
  have hget : ∀ i, i < h.n → (h.put .dead).get i = h.get i := fun i hi => by rw [get_put trivial, if_neg (by omega)]
  have hadd : φ.le (φ.add h.n .dead) := fun i b hb => by
    unfold Fz.add
    rw [if_neg]
    · exact hb
    · intro e'; subst e'; rw [hn] at hb; cases hb
  have hsub : Sub ρ (ρ.add h.n ⟨0, 0, 0, 0⟩) := hS.hr.sub_add _
  refine ⟨ρ.add h.n ⟨0, 0, 0, 0⟩, h.put .dead, φ.add h.n .dead, [.slice (some ⟨h.n, 0, none⟩) 0 0], ⟨⟨trivial, fun i l hl => ?_, fun i j li lj hij h1 h2 ho => ?_⟩, fun i b hb => ?_, fun i => ?_⟩, ⟨hsub, hadd⟩, ?_, ?_, fun a n c h => (by simp at h; rw [h.2.2]; unfold unk; omega)⟩
  · by_cases e1 : i = h.n
    · subst e1
      refine ⟨by show h.n < h.n + 1; omega, fun hv => ?_, ?_⟩
      · rw [get_put trivial, if_pos rfl] at hv; cases hv
      · rw [get_put trivial, if_pos rfl]; trivial
    · rw [Ren.add_other e1] at hl
      obtain ⟨k1, k2, k3⟩ := hS.hr.dom i l hl
      refine ⟨by show i < h.n + 1; omega, fun hv => k2 (by rw [hget i k1] at hv; exact hv), ?_⟩
      rw [hget i k1]
      exact k3.mono hsub
  · have : owned ((h.put .dead).get i) = false := by
      by_cases e1 : i = h.n
      · subst e1; rw [get_put trivial, if_pos rfl]; rfl
      · rw [get_put trivial, if_neg e1]; exact hS.ro i
    rw [this] at ho; cases ho
  · unfold Fz.add at hb
    split at hb
    · rename_i e1; subst e1; cases hb
      exact ⟨by show h.n < h.n + 1; omega, by rw [get_put trivial, if_pos rfl]⟩
    · obtain ⟨k1, k2⟩ := hS.fz i b hb
      exact ⟨by show i < h.n + 1; omega, by rw [hget i k1]; exact k2⟩
  · by_cases e1 : i = h.n
    · subst e1; rw [get_put trivial, if_pos rfl]; rfl
    · rw [get_put trivial, if_neg e1]; exact hS.ro i
  · exact .cons (VR.empty0 (Ren.add_same)) .nil
  · exact ⟨_, _, _, rfl, .inr (.inr ⟨h.n, 0, 0, rfl, rfl, by unfold Fz.add; rw [if_pos rfl], by unfold unk; omega⟩)⟩
end
section
variable {H : Type} {enc : TypeId × Value → H} {P : Program} {w : World} {base : Nat} {sp : Nat → Bool} {held : Bool}
theorem trod_sliceS {t e : TypeId} {fuel : Nat} {cs : List Value} {x : DataW H × List MemPlace} (hsp : ∀ b, sp b = true) (ht : P.underlying t = some (.slice e)) (h : DataW.trod enc P w base sp held fuel t cs = some x) :
    cs = [.slice none 0 0] ∨ ∃ a len cap fuel', cs = [.slice (some a) len cap] ∧ len ≤ cap ∧ cap ≤ maxLen ∧ ∀ i, i < cap → ∃ c y, w.cells? base (a.add (i * P.cellsOf e)) (P.cellsOf e) = some c ∧ DataW.trod enc P w base sp held fuel' e c = some y := by
  cases fuel with
  | zero => cases h
  | succ fuel =>
    unfold DataW.trod at h
    rw [ht] at h
    split at h
    all_goals first | (exfalso; simp_all; done) | skip
    · exact .inl rfl
    · rename_i e' a len cap heq
      cases heq
      refine .inr ⟨a, len, cap, fuel, rfl, ?_⟩
      simp only at h
      split at h
      · rename_i hc
        rw [if_pos (hsp _)] at h
        refine ⟨hc.2.1, hc.2.2, fun i hi => ?_⟩
        rw [Option.bind_eq_some_iff] at h
        obtain ⟨elems, hm, h⟩ := h
        have key : ∃ y, ((w.cells? base (a.add (i * P.cellsOf e)) (P.cellsOf e)).bind (DataW.trod enc P w base sp held fuel e)) = some y := by
          by_cases hl : i < len
          · obtain ⟨y, _, hy⟩ := mapM_mem hm i i (by simp [hl])
            exact ⟨y, hy⟩
          · rw [Option.map_eq_some_iff] at h
            obtain ⟨rest, hr, _⟩ := h
            obtain ⟨y, _, hy⟩ := mapM_mem hr (i - len) (i - len) (List.getElem?_range (by omega))
            rw [show len + (i - len) = i by omega] at hy
            exact ⟨y, hy⟩
        obtain ⟨y, hy⟩ := key
        rw [Option.bind_eq_some_iff] at hy
        obtain ⟨c, h1, h2⟩ := hy
        exact ⟨c, y, h1, h2⟩
      · cases h
theorem cells_row {a : Addr} {n : Nat} {c : List Value} (h0 : 0 < n) (h : w.cells? base a n = some c) : a.spot = none ∧ ∃ cells te fr, w.heap[a.block]? = some (.cells cells te fr) := by
  unfold World.cells? at h
  split at h
  · obtain ⟨y, _, h2⟩ := mapM_mem h 0 0 (by simp [h0])
    have e : a.add 0 = a := by unfold Addr.add; rw [if_pos rfl]
    rw [e] at h2
    unfold World.cell? at h2
    split at h2
    · rename_i cells te fr hb
      cases hsp : a.spot with
      | none => exact ⟨rfl, cells, te, fr, hb⟩
      | some l => rw [hsp] at h2; simp at h2
    · cases h2
  · cases h
theorem imp_of_sliceS {α : Type} {E : Enc α} {t e : TypeId} {fuel : Nat} {cs : List Value} {x : DataW H × List MemPlace} (hsp : ∀ b, sp b = true) (ht : P.underlying t = some (.slice e)) (hes : P.cellsOf e = E.es) (h0 : 0 < E.es) (W : α → Prop)
    (hE : ∀ fuel c y, DataW.trod enc P w base sp held fuel e c = some y → ∃ v, Imp E w c v ∧ W v) (h : DataW.trod enc P w base sp held fuel t cs = some x) : ∃ l : List α, Imp (eSl E) w cs l ∧ ∀ v ∈ l, W v := by
  rcases trod_sliceS hsp ht h with rfl | ⟨a, len, cap, fuel', rfl, h1, h2, h3⟩
  · exact ⟨[], imp_nil, fun v hv => by cases hv⟩
  · by_cases hc : cap = 0
    · subst hc
      have : len = 0 := by omega
      subst this
      exact ⟨[], imp_empty0, fun v hv => by cases hv⟩
    · refine imp_of_slice ht hes h0 W hE h fun a' len' cap' he => ?_
      cases he
      obtain ⟨c, y, q1, _⟩ := h3 0 (by omega)
      rw [Nat.zero_mul] at q1
      have e : a.add 0 = a := by unfold Addr.add; rw [if_pos rfl]
      rw [e] at q1
      exact cells_row (by omega) q1
end
end Go.AM
namespace Go.AM
open Go
section
variable {H : Type} {enc : TypeId × Value → H} {P : Program} {w : World} {base : Nat} {sp : Nat → Bool} {held : Bool}
end
end Go.AM
namespace Go.AM
open Go
theorem imp_start (w : World) : ImpS w (fun _ => Option.none) none0 (fun _ => Option.none) :=
  ⟨hr_none0 w, fun i b e => (by cases e), fun i => (by
    have : none0.get i = .dead := by
      unfold Heap.get
      split
      · exact HT_none_get i
      · rfl
    rw [this]; rfl)⟩
theorem ImpS.st {w : World} {ρ : Ren} {h : Heap} {φ : Fz} (s : ImpS w ρ h φ) : St φ 0 h [] := ⟨s.fz, Nat.zero_le _, Nat.zero_le _, fun p hp => (by cases hp), List.Pairwise.nil⟩
/-- A law that the machine finds true is true, and leaves all that was there. -/
theorem law_calls {P : Program} {cut : FuncId → Cut} (hs : StepsAt P cut) {n : Nat} {f : FuncId} {av cv : Array Value} {w : World} {ρ : Ren} {h : Heap} {φ : Fz} (s : ImpS w ρ h φ) (hp : (recN P LL cut n).call f av h = .ok (.bool true, h)) (hv : VL ρ av.toList cv.toList) :
    Calls P f cv w fun e w' => e = .returned (.bool true) ∧ Kept w w' := by
  have := (recN_sound (P := P) (L := LL) (cut := cut) hs n).call hp s.hr hv 0
  refine (callsIn_wide.1 this).mono fun e w' ⟨c, ρ', he, hc, hpo⟩ => ?_
  subst he
  cases hc
  refine ⟨rfl, hpo.fr.size, fun c hc => hpo.fr.same c hc fun i l _ ho => ?_, hpo.fr.os, hpo.fr.output, hpo.fr.tape⟩
  rw [s.ro i] at ho; cases ho
theorem VL.agg {ρ : Ren} {as bs : List Value} (h : VL ρ as bs) : VR ρ (.agg as.toArray) (.agg bs.toArray) := .agg (by simpa using h.1) fun i hi => by simpa using h.2 i (by simpa using hi)
/-- The slices among some cells lie in rows of the world. -/
def HasL (w : World) (cs : List Value) : Prop := ∀ a len cap, Value.slice (some a) len cap ∈ cs → a.spot = none ∧ ∃ cells te fr, w.heap[a.block]? = some (.cells cells te fr)
def inR (k : IntKind) (n : Int) : Prop := k.min ≤ n ∧ n ≤ k.max
section
variable {P : Program} {w : World} {base : Nat}
theorem has_of_ok {t : TypeId} {v : Value} (h : Cell.okWide P w .any base t v) {a : Addr} {len cap : Nat} (hv : v = .slice (some a) len cap) : a.spot = none ∧ ∃ cells te fr, w.heap[a.block]? = some (.cells cells te fr) := by
  subst hv
  have key : ∀ {e : TypeId}, w.has P .any base a e cap → a.spot = none ∧ ∃ cells te fr, w.heap[a.block]? = some (.cells cells te fr) := fun h => by
    obtain ⟨_, h1, row, n, h2, _⟩ := h
    refine ⟨h1, ?_⟩
    unfold World.shape? at h2
    split at h2
    · rename_i c e fr hb; exact ⟨c, e, fr, hb⟩
    · cases h2
  unfold Cell.okWide at h
  split at h
  all_goals first | (rename_i e1; cases e1; done) | skip
  all_goals try (rename_i e1 e2; cases e2; done)
  all_goals first
    | (unfold Cell.ok at h
       split at h <;> first | (rename_i e1 e2; cases e2; done) | (rename_i e1 e2; cases e2; exact key h.2.2) | cases h | (simp_all; done))
    | (simp_all; done)
theorem hasL_of_row {t : TypeId} {cs : Array Value} (h : Row.okWide P w .any base t cs) : HasL w cs.toList := fun a len cap hm => by
  obtain ⟨ts, h1, h2, h3⟩ := h
  obtain ⟨i, hi⟩ := List.mem_iff_getElem?.1 hm
  obtain ⟨u, h4, h5⟩ := h3 i _ (by simpa using hi)
  exact has_of_ok h5 rfl
theorem val_slice {t e : TypeId} {v : Value} (ht : P.underlying t = some (.slice e)) (h : Value.okWide P w .any base t v) : v.cells.toList = [v] ∧ HasL w [v] := by
  unfold Value.okWide at h
  rw [ht] at h
  simp only at h
  refine ⟨?_, fun a len cap hm => ?_⟩
  · unfold Cell.okWide Cell.ok at h
    rw [ht] at h
    cases v <;> first | rfl | (simp at h)
  · rw [List.mem_singleton] at hm
    exact has_of_ok h hm.symm
theorem val_struct {t : TypeId} {fs : Array Field} {v : Value} (ht : P.underlying t = some (.struct fs)) (h : Value.okWide P w .any base t v) : ∃ cs, v = .agg cs ∧ HasL w cs.toList := by
  unfold Value.okWide at h
  rw [ht] at h
  obtain ⟨cs, h1, _, h2⟩ := h
  exact ⟨cs, h1, hasL_of_row h2⟩
end
end Go.AM
namespace Go.AM
open Go
end Go.AM
namespace Go.AM
open Go

/-! ### A run over plain data that ends, and what it gives -/
def Has {α : Type} (m : R α) (Q : α → Prop) : Prop := ∃ r, m = .ok r ∧ Q r
section
variable {α β τ δ : Type} {P Q : α → Prop} {S : β → Prop}
theorem has_ok {r : α} (h : Q r) : Has (.ok r) Q := ⟨r, rfl, h⟩
theorem Has.eq {m : R α} {r : α} (h : Has m (fun x => x = r)) : m = .ok r := by obtain ⟨x, h1, rfl⟩ := h; exact h1
theorem Has.imp {m : R α} (h : Has m P) (hp : ∀ r, P r → Q r) : Has m Q := by obtain ⟨r, h1, h2⟩ := h; exact ⟨r, h1, hp r h2⟩
theorem has_bind {m : R α} {k : α → R β} (h : Has m P) (hk : ∀ r, P r → Has (k r) S) : Has (bindR m k) S := by
  obtain ⟨r, rfl, h2⟩ := h; exact hk r h2
theorem has_beq {m : R α} {k : α → R β} {r : α} (h : m = .ok r) (hk : Has (k r) S) : Has (bindR m k) S := by
  rw [h]; exact hk
theorem has_idx {l : List α} {i : Int} {k : α → R β} (h0 : 0 ≤ i) (h1 : i < (l.length : Int)) (hk : ∀ a, l[i.toNat]? = some a → Has (k a) S) : Has (bindR (idx l i) k) S := by
  have hlt : i.toNat < l.length := by omega
  have hg : l[i.toNat]? = some (l[i.toNat]) := List.getElem?_eq_getElem hlt
  exact has_beq (idx_ok.2 ⟨h0, hg⟩) (hk _ hg)
theorem has_must {b : Bool} {k : Unit → R β} (h : b = true) (hk : Has (k ()) S) : Has (bindR (must b) k) S := by
  rw [h]; exact hk
theorem has_ite {c : Prop} [Decidable c] {a b : R α} (h1 : c → Has a Q) (h2 : ¬ c → Has b Q) : Has (if c then a else b) Q := by
  split
  · exact h1 (by assumption)
  · exact h2 (by assumption)
theorem has_sh {v : τ} {f : τ → R α} (h : Has (f v) Q) : Has (sh v f) Q := h
theorem has_join {σ : Type} {J : σ → R α} {f : (σ → R α) → R α} (P : σ → Prop) (hJ : ∀ s, P s → Has (J s) Q) (hf : ∀ j : σ → R α, (∀ s, P s → Has (j s) Q) → Has (f j) Q) : Has (sh J f) Q := hf J hJ
theorem has_loop {F : (τ → R δ) → τ → R δ} {Q : δ → Prop} (I : τ → Prop) (μ : τ → Nat) {x : τ} (hμ : ∀ y, I y → μ y < 1000000) (h0 : I x)
    (step : ∀ x rec, I x → (∀ y, I y → μ y < μ x → Has (rec y) Q) → Has (F rec x) Q) : Has (loopM F LL x) Q := by
  have key : ∀ n x, I x → μ x < n → Has (loopM F n x) Q := by
    intro n
    induction n with
    | zero => intro x _ h; omega
    | succ n ih => exact fun x hx hlt => step x _ hx fun y hy hl => ih y hy (by omega)
  exact key _ _ h0 (hμ _ h0)
end
theorem w64_id {n : Int} (h1 : -9223372036854775808 ≤ n) (h2 : n < 9223372036854775808) : w64 n = n := wrap64 h1 h2
/-! ### Rows of flags -/
/-- Flag i stands. -/
def Seen (l : List Bool) (i : Int) : Prop := 0 ≤ i ∧ l[i.toNat]? = some true
theorem Seen.lt {l : List Bool} {i : Int} (h : Seen l i) : 0 ≤ i ∧ i < l.length := by
  obtain ⟨h1, h2⟩ := h
  have := (List.getElem?_eq_some_iff.1 h2).1
  omega
theorem seen_get {l : List Bool} {i : Int} {b : Bool} (h0 : 0 ≤ i) (h : l[i.toNat]? = some b) : Seen l i ↔ b = true := by
  unfold Seen; rw [h]; simp [h0]
theorem seen_set {l : List Bool} {i j : Int} (hi : 0 ≤ i ∧ i < l.length) : Seen (l.set i.toNat true) j ↔ Seen l j ∨ j = i := by
  unfold Seen
  rw [List.getElem?_set]
  constructor
  · rintro ⟨h0, h⟩
    split at h
    · exact .inr (by omega)
    · exact .inl ⟨h0, h⟩
  · rintro (⟨h0, h⟩ | rfl)
    · refine ⟨h0, ?_⟩
      split
      · rw [if_pos (by omega)]
      · exact h
    · refine ⟨hi.1, ?_⟩
      rw [if_pos rfl, if_pos (by omega)]
theorem seen_rep {n : Nat} {j : Int} : ¬ Seen (List.replicate n false) j := by
  rintro ⟨_, h⟩
  rw [List.getElem?_replicate] at h
  split at h <;> simp at h
/-- How many flags do not stand. -/
def low (l : List Bool) : Nat := l.count false
theorem low_le (l : List Bool) : low l ≤ l.length := List.count_le_length
theorem low_set {l : List Bool} {i : Nat} (h : l[i]? = some false) : low (l.set i true) + 1 = low l := by
  obtain ⟨hlt, hg⟩ := List.getElem?_eq_some_iff.1 h
  unfold low
  rw [List.count_set hlt, hg]
  have : 0 < l.count false := List.count_pos_iff.2 (hg ▸ List.getElem_mem hlt)
  simp
  omega
theorem low_set_le {l : List Bool} {i : Nat} : low (l.set i true) ≤ low l := by
  by_cases h : i < l.length
  · cases hb : l[i] with
    | false => have := low_set (l := l) (i := i) (by rw [List.getElem?_eq_getElem h, hb]); omega
    | true =>
      have : l.set i true = l := by
        rw [← hb]; exact List.set_getElem_self h
      rw [this]; exact Nat.le_refl _
  · rw [List.set_eq_of_length_le (by omega)]; exact Nat.le_refl _
theorem set_self {l : List Bool} {i : Nat} (h : l[i]? = some true) : l.set i true = l := by
  obtain ⟨hlt, hg⟩ := List.getElem?_eq_some_iff.1 h
  rw [← hg]; exact List.set_getElem_self hlt
end Go.AM
