/- A part of the abstract machine: definitions and lemmas for all programs, no claim of its own; no condition. -/
import Derived.Test.YtpmlgmhmejhfeaaGreatAmQuiet2
set_option linter.unusedVariables false
set_option linter.unusedSimpArgs false
namespace Go.AM
open Go

section
variable {P : Program} {ρ : Ren} {h h' : Heap} {w : World}

theorem Pl.max2 {x y v : Value} (hx : Pl x) (hv : ∀ w, (Builtin.max2 x y).run P w = .ok v w) : Pl v := by
  have := hv default
  unfold Builtin.max2 at this
  split at this
  · simp only [Sem.run_pure, Result.ok.injEq] at this; rw [← this.1]; exact ⟨1, rfl⟩
  · exact (Pl.not_float hx).elim
  · rename_i a b
    simp only [Sem.run_bind] at this
    cases h1 : (Op.stringOp .geq a b).run P default with
    | halt _ _ => rw [h1] at this; simp at this
    | ok c w1 =>
      rw [h1] at this
      simp only [Result.andThen_ok] at this
      cases h2 : (asBool c).run P w1 with
      | halt _ _ => rw [h2] at this; simp at this
      | ok d w2 =>
        rw [h2] at this
        simp only [Result.andThen_ok, Sem.run_pure, Result.ok.injEq] at this
        rw [← this.1]; exact ⟨1, rfl⟩
  · simp at this
  · simp at this
  · simp at this
theorem Pl.min2 {x y v : Value} (hx : Pl x) (hv : ∀ w, (Builtin.min2 x y).run P w = .ok v w) : Pl v := by
  have := hv default
  unfold Builtin.min2 at this
  split at this
  · simp only [Sem.run_pure, Result.ok.injEq] at this; rw [← this.1]; exact ⟨1, rfl⟩
  · exact (Pl.not_float hx).elim
  · rename_i a b
    simp only [Sem.run_bind] at this
    cases h1 : (Op.stringOp .leq a b).run P default with
    | halt _ _ => rw [h1] at this; simp at this
    | ok c w1 =>
      rw [h1] at this
      simp only [Result.andThen_ok] at this
      cases h2 : (asBool c).run P w1 with
      | halt _ _ => rw [h2] at this; simp at this
      | ok d w2 =>
        rw [h2] at this
        simp only [Result.andThen_ok, Sem.run_pure, Result.ok.injEq] at this
        rw [← this.1]; exact ⟨1, rfl⟩
  · simp at this
  · simp at this
  · simp at this

theorem foldlM_quiet (f : Value → Value → Sem Value) (hq : ∀ x y, Pl x → Quiet P (f x y)) (hp : ∀ x y v, Pl x → (∀ w, (f x y).run P w = .ok v w) → Pl v) :
    ∀ (l : List Value) (x : Value), Pl x → Quiet P (l.foldlM f x) ∧ ∀ v, (∀ w, (l.foldlM f x).run P w = .ok v w) → Pl v
  | [], x, hx => ⟨.pure _, fun v hv => by have := hv default; simp at this; rw [← this]; exact hx⟩
  | y :: l, x, hx => by
    simp only [List.foldlM_cons]
    refine ⟨.bind (hq x y hx) fun a ha => (foldlM_quiet f hq hp l a (hp x y a hx ha)).1, fun v hv => ?_⟩
    rcases hq x y hx with ⟨a, ha⟩ | hd
    · exact (foldlM_quiet f hq hp l a (hp x y a hx ha)).2 v fun w => by have := hv w; simpa [ha] using this
    · obtain ⟨e, w', he⟩ := hd default
      have := hv default; simp [he] at this

theorem max_quiet (tys : Array TypeId) (t : TypeId) (args : List Value) (ha : ∀ v ∈ args, Pl v) : Quiet P (Builtin.max_ tys t args.toArray) ∧ ∀ v, (∀ w, (Builtin.max_ tys t args.toArray).run P w = .ok v w) → Pl v := by
  cases args with
  | nil => exact ⟨.stuck _, fun v hv => by have := hv default; simp [Builtin.max_] at this⟩
  | cons x l => exact foldlM_quiet _ (fun x y hx => .max2 x y hx) (fun x y v hx => Pl.max2 hx) l x (ha x (List.mem_cons_self ..))
theorem min_quiet (tys : Array TypeId) (t : TypeId) (args : List Value) (ha : ∀ v ∈ args, Pl v) : Quiet P (Builtin.min_ tys t args.toArray) ∧ ∀ v, (∀ w, (Builtin.min_ tys t args.toArray).run P w = .ok v w) → Pl v := by
  cases args with
  | nil => exact ⟨.stuck _, fun v hv => by have := hv default; simp [Builtin.min_] at this⟩
  | cons x l => exact foldlM_quiet _ (fun x y hx => .min2 x y hx) (fun x y v hx => Pl.min2 hx) l x (ha x (List.mem_cons_self ..))

theorem plainOut_ok {r : R Value} {v : Value} (hh : plainOut r = .ok v) : r = .ok v ∧ Pl v := by
  simp only [plainOut, bindR_ok, must_ok] at hh
  obtain ⟨a, ha, _, hp, e⟩ := hh
  cases e
  exact ⟨ha, 20, hp⟩

theorem nilVs_rel {x y cx cy : Value} (hx : VR ρ x cx) (hy : VR ρ y cy) : nilVs cx cy = nilVs x y := by
  cases hx <;> cases hy <;> first | rfl | (simp [nilVs]; done) | (simp only [nilVs]; split <;> simp_all)

theorem run_equal_nil {t : TypeId} {x y : Value} {d : TypeDesc} (hd : under P t = .ok d)
    (hk : (0 < nilVs x y ∧ nilVs x y = descKind d) ∨ (0 < nilVs y x ∧ nilVs y x = descKind d)) : (Op.equal t x y).run P w = .ok false w := by
  unfold Op.equal Op.maxDepth
  unfold Op.equalIn
  simp only [Sem.run_bind, run_under hd, Result.andThen_ok]
  rcases hk with ⟨h0, h1⟩ | ⟨h0, h1⟩
  all_goals
    unfold nilVs at h0 h1
    split at h0 <;> simp only at h1 <;> try omega
  all_goals
    cases d <;> simp only [descKind] at h1 <;> try omega
  all_goals simp

theorem eqGuard_nil {op : BinOp} {t : TypeId} {xo yo : Operand} {x y : Value} (hk : 0 < nilVs x y ∨ 0 < nilVs y x) : (eqGuard op t xo yo x y).run P w = .ok () w := by
  unfold eqGuard
  rcases hk with h0 | h0
  all_goals
    unfold nilVs at h0
    split at h0 <;> try omega
  all_goals simp

theorem binV_sound {op : BinOp} {t : TypeId} {xo yo : Operand} {x y cx cy v : Value} (hx : VR ρ x cx) (hy : VR ρ y cy) (hh : binV P op t xo yo x y = .ok v) :
    Same P ρ w (do eqGuard op t xo yo cx cy; binOp op t cx cy) v := by
  unfold binV at hh
  split at hh
  · rename_i hp
    simp only [Bool.and_eq_true] at hp
    obtain ⟨⟨hpx, hpy⟩, hop⟩ := hp
    have hPx : Pl x := ⟨20, hpx⟩
    have hPy : Pl y := ⟨20, hpy⟩
    obtain ⟨h1, h2⟩ := plainOut_ok hh
    rw [hPx.eq hx, hPy.eq hy]
    exact ⟨v, Quiet.run (.bind (.eqGuard _ _ _ _ _ _) fun _ _ => .binOp _ _ _ _ hPx hPy hop) h1 w, h2.refl⟩
  · split at hh
    · split at hh
      case h_2 => cases hh
      simp only [bindR_ok, nilEq, must_ok, Bool.or_eq_true, Bool.and_eq_true, blt_true] at hh
      obtain ⟨_, ⟨d, hd, hk⟩, he⟩ := hh
      cases he
      have hk' : (0 < nilVs cx cy ∧ nilVs cx cy = descKind d) ∨ (0 < nilVs cy cx ∧ nilVs cy cx = descKind d) := by
        rw [nilVs_rel hx hy, nilVs_rel hy hx]
        rcases hk with ⟨a, b⟩ | ⟨a, b⟩
        · exact .inl ⟨a, Nat.eq_of_beq_eq_true b⟩
        · exact .inr ⟨a, Nat.eq_of_beq_eq_true b⟩
      refine ⟨.bool false, ?_, .bool _⟩
      have h0 : 0 < nilVs cx cy ∨ 0 < nilVs cy cx := hk'.imp (·.1) (·.1)
      have heq := run_equal_nil (w := w) hd hk'
      simp only [Sem.run_bind, eqGuard_nil h0, Result.andThen_ok]
      clear hk hk' hx hy
      rcases h0 with h0 | h0
      all_goals
        unfold nilVs at h0
        split at h0 <;> try omega
      all_goals simp [binOp, heq]
    · split at hh
      case h_2 => cases hh
      simp only [bindR_ok, nilEq, must_ok, Bool.or_eq_true, Bool.and_eq_true, blt_true] at hh
      obtain ⟨_, ⟨d, hd, hk⟩, he⟩ := hh
      cases he
      have hk' : (0 < nilVs cx cy ∧ nilVs cx cy = descKind d) ∨ (0 < nilVs cy cx ∧ nilVs cy cx = descKind d) := by
        rw [nilVs_rel hx hy, nilVs_rel hy hx]
        rcases hk with ⟨a, b⟩ | ⟨a, b⟩
        · exact .inl ⟨a, Nat.eq_of_beq_eq_true b⟩
        · exact .inr ⟨a, Nat.eq_of_beq_eq_true b⟩
      refine ⟨.bool true, ?_, .bool _⟩
      have h0 : 0 < nilVs cx cy ∨ 0 < nilVs cy cx := hk'.imp (·.1) (·.1)
      have heq := run_equal_nil (w := w) hd hk'
      simp only [Sem.run_bind, eqGuard_nil h0, Result.andThen_ok]
      clear hk hk' hx hy
      rcases h0 with h0 | h0
      all_goals
        unfold nilVs at h0
        split at h0 <;> try omega
      all_goals simp [binOp, heq]
    · cases hh

theorem unV_sound {op : UnOp} {x cx v : Value} (hx : VR ρ x cx) (hh : unV P op x = .ok v) : Same P ρ w (Op.unary op cx) v := by
  unfold unV at hh
  split at hh
  · rename_i hp
    have hPx : Pl x := ⟨1, hp⟩
    obtain ⟨h1, h2⟩ := plainOut_ok hh
    rw [hPx.eq hx]
    exact ⟨v, Quiet.run (.unary _ _ hPx) h1 w, h2.refl⟩
  · cases hh

theorem VL.plain_eq {as bs : List Value} (hl : VL ρ as bs) (hp : ∀ v ∈ as, Pl v) : bs = as := by
  apply List.ext_getElem hl.1.symm
  intro i hi hi'
  have h1 := hl.2 i hi'
  have h2 := (hp _ (gl_mem hi')).eq h1
  simpa [gl, List.getD, List.getElem?_eq_getElem hi, List.getElem?_eq_getElem hi'] using h2
theorem VL.plain_refl {as : List Value} (hp : ∀ v ∈ as, Pl v) : VL ρ as as := ⟨rfl, fun i hi => (hp _ (gl_mem hi)).refl⟩
end
end Go.AM
