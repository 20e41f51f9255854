/- Of the abstract machine, for all programs: definitions and lemmas, no claim of its own; no condition. -/
import Derived.Test.YtlkddekecegfdaaGreatAmSil
set_option linter.unusedVariables false
set_option linter.unusedSimpArgs false
namespace Go.AM
open Go

/-! ### Temporaries as a list, on top of some others -/
abbrev Env := List (Nat × Value)
def TT (env : Env) (t0 : Tmps) : Tmps := fun i => match env with
  | [] => t0 i
  | (j, v) :: env => match Nat.beq i j with | true => v | false => TT env t0 i
theorem put_TT {N i : Nat} {env : Env} {t0 : Tmps} {v : Value} (hi : Nat.blt i N = true) : put N (TT env t0) (some i) v = TT ((i, v) :: env) t0 := by
  funext j
  simp only [put, hi]
  rfl
theorem put_TTn {N : Nat} {env : Env} {t0 : Tmps} {v : Value} : put N (TT env t0) none v = TT env t0 := rfl
/-- Some temporaries are what they are in the other list. -/
def SubE (e' env : Env) : Prop := ∀ t0, ∀ p ∈ e', TT env t0 p.1 = p.2
theorem TT_sub {e' env : Env} {t0 : Tmps} (h : ∀ p ∈ e', TT env t0 p.1 = p.2) : TT env t0 = TT e' (TT env t0) := by
  funext i
  induction e' with
  | nil => rfl
  | cons p e' ih =>
    obtain ⟨j, v⟩ := p
    show TT env t0 i = match Nat.beq i j with | true => v | false => TT e' (TT env t0) i
    cases hb : Nat.beq i j with
    | true =>
      have := h (j, v) (List.mem_cons_self ..)
      rw [Nat.eq_of_beq_eq_true hb]; exact this
    | false => exact ih fun p hp => h p (List.mem_cons_of_mem _ hp)
theorem sub_nil {env : Env} {t0 : Tmps} : ∀ p ∈ ([] : Env), TT env t0 p.1 = p.2 := fun _ h => by cases h
theorem sub_cons {env e' : Env} {t0 : Tmps} {i : Nat} {v : Value} (h : TT env t0 i = v) (h' : ∀ p ∈ e', TT env t0 p.1 = p.2) : ∀ p ∈ (i, v) :: e', TT env t0 p.1 = p.2 := fun p hp => by
  rcases List.mem_cons.1 hp with rfl | hp
  · exact h
  · exact h' p hp

/-! ### What the machine does is what the text says -/
def Sim {δ β : Type} (X : R β) (M : R δ) (Q : δ → β → Prop) : Prop := ∀ d, M = .ok d → ∃ x, X = .ok x ∧ Q d x
section
variable {δ ε β : Type} {X : R β} {Q : δ → β → Prop}
theorem Sim.of_eq {M M' : R δ} (h : M = M') (hS : Sim X M' Q) : Sim X M Q := by rw [h]; exact hS
theorem Sim.of_eqX {X' : R β} {M : R δ} (h : X = X') (hS : Sim X' M Q) : Sim X M Q := by rw [h]; exact hS
theorem Sim.ret {x : β} {d : δ} (h : Q d x) : Sim (.ok x) (.ok d) Q := fun d' h' => by cases h'; exact ⟨x, rfl, h⟩
theorem Sim.bindM {M : R ε} {f : ε → R δ} (h : ∀ e, M = .ok e → Sim X (f e) Q) : Sim X (bindR M f) Q := fun d hd => by
  obtain ⟨e, h1, h2⟩ := bindR_ok.1 hd
  exact h e h1 d h2
theorem Sim.mustM {c : Bool} {f : Unit → R δ} (h : c = true → Sim X (f ()) Q) : Sim X (bindR (must c) f) Q := fun d hd => by
  obtain ⟨e, h1, h2⟩ := bindR_ok.1 hd
  exact h (must_ok.1 h1) d h2
theorem Sim.mono {M : R δ} {Q' : δ → β → Prop} (h : Sim X M Q) (hq : ∀ d x, Q d x → Q' d x) : Sim X M Q' := fun d hd => by
  obtain ⟨x, h1, h2⟩ := h d hd
  exact ⟨x, h1, hq d x h2⟩
/-- A name for a value. -/
def sh {α β : Type} (a : α) (f : α → β) : β := f a
theorem Sim.sh {a : ε} {f : ε → R δ} (h : Sim X (f a) Q) : Sim X (AM.sh a f) Q := h
theorem Sim.bind {α : Type} {X : R α} {M : R ε} {Q1 : ε → α → Prop} {K : α → R β} {f : ε → R δ} (h : Sim X M Q1) (hk : ∀ e x, Q1 e x → Sim (K x) (f e) Q) : Sim (bindR X K) (bindR M f) Q := fun d hd => by
  obtain ⟨e, h1, h2⟩ := bindR_ok.1 hd
  obtain ⟨x, h3, h4⟩ := h e h1
  obtain ⟨y, h5, h6⟩ := hk e x h4 d h2
  exact ⟨y, by rw [h3]; exact h5, h6⟩
theorem Sim.ite {c : Bool} {M1 M2 : R δ} (h1 : c = true → Sim X M1 Q) (h2 : c = false → Sim X M2 Q) : Sim X (if c = true then M1 else M2) Q := by
  cases c with
  | true => exact h1 rfl
  | false => exact h2 rfl
end

/-! ### Memory that is read alone -/
/-- The rows that are written no more. -/
abbrev Fz := Nat → Option Blk
def Fz.le (φ φ' : Fz) : Prop := ∀ i b, φ i = some b → φ' i = some b
theorem Fz.le_refl (φ : Fz) : φ.le φ := fun _ _ h => h
theorem Fz.le.trans {φ φ' φ'' : Fz} (h : φ.le φ') (h' : φ'.le φ'') : φ.le φ'' := fun i b e => h' i b (h i b e)

/-- What may be known of every value that data lead to. -/
structure Good (φ : Fz) (f : Nat) (v : Value) : Prop where
  low : ∀ m, (∀ i b, φ i = some b → i < m) → lowV f m v = true
  same : sameV f v v = true
  cell : isCell v = true
  fit : v.cells = #[v]

/-- How data of a type lie in the cells of a row. -/
structure Enc (α : Type) where
  es : Nat
  R : Fz → List Value → α → Prop
  len : ∀ {φ cs a}, R φ cs a → cs.length = es
  mono : ∀ {φ φ' cs a}, φ.le φ' → R φ cs a → R φ' cs a
  good : ∀ {φ cs a}, R φ cs a → ∀ v ∈ cs, Good φ 19 v

def eInt (k : IntKind) : Enc Int where
  es := 1
  R := fun _ cs a => cs = [.int k a]
  len := fun h => by rw [h]; rfl
  mono := fun _ h => h
  good := fun h v hv => by
    rw [h, List.mem_singleton] at hv; subst hv
    exact ⟨fun _ _ => rfl, by simp [sameV], rfl, rfl⟩
def eBool : Enc Bool where
  es := 1
  R := fun _ cs a => cs = [.bool a]
  len := fun h => by rw [h]; rfl
  mono := fun _ h => h
  good := fun h v hv => by
    rw [h, List.mem_singleton] at hv; subst hv
    exact ⟨fun _ _ => rfl, by simp [sameV], rfl, rfl⟩
def eStr : Enc ByteArray where
  es := 1
  R := fun _ cs a => cs = [.string a]
  len := fun h => by rw [h]; rfl
  mono := fun _ h => h
  good := fun h v hv => by
    rw [h, List.mem_singleton] at hv; subst hv
    exact ⟨fun _ _ => rfl, by simp [sameV], rfl, rfl⟩
/-- One behind the other. -/
def ePair {α β : Type} (A : Enc α) (B : Enc β) : Enc (α × β) where
  es := A.es + B.es
  R := fun φ cs p => ∃ c1 c2, cs = c1 ++ c2 ∧ A.R φ c1 p.1 ∧ B.R φ c2 p.2
  len := fun ⟨c1, c2, h, h1, h2⟩ => by rw [h, List.length_append, A.len h1, B.len h2]
  mono := fun hf ⟨c1, c2, h, h1, h2⟩ => ⟨c1, c2, h, A.mono hf h1, B.mono hf h2⟩
  good := fun ⟨c1, c2, h, h1, h2⟩ v hv => by
    rw [h, List.mem_append] at hv
    rcases hv with hv | hv
    · exact A.good h1 v hv
    · exact B.good h2 v hv
def eMap {α β : Type} (f : β → α) (A : Enc α) : Enc β where
  es := A.es
  R := fun φ cs b => A.R φ cs (f b)
  len := A.len
  mono := A.mono
  good := A.good
/-- No cell. -/
def eUnit : Enc Unit where
  es := 0
  R := fun _ cs _ => cs = []
  len := fun h => by rw [h]; rfl
  mono := fun _ h => h
  good := fun h v hv => by rw [h] at hv; cases hv

/-- A row of such data. -/
def RowD {α : Type} (E : Enc α) (φ : Fz) : List Value → List α → Prop
  | vs, [] => vs = []
  | vs, a :: l => ∃ c vs', vs = c ++ vs' ∧ E.R φ c a ∧ RowD E φ vs' l
section
variable {α : Type} {E : Enc α} {φ φ' : Fz}
theorem RowD.len : ∀ {l : List α} {vs : List Value}, RowD E φ vs l → vs.length = l.length * E.es
  | [], vs, h => by rw [RowD] at h; subst h; simp
  | a :: l, vs, ⟨c, vs', h, h1, h2⟩ => by
    rw [h, List.length_append, E.len h1, RowD.len h2, List.length_cons, Nat.add_mul, Nat.one_mul, Nat.add_comm]
theorem RowD.mono (hf : φ.le φ') : ∀ {l : List α} {vs : List Value}, RowD E φ vs l → RowD E φ' vs l
  | [], vs, h => h
  | a :: l, vs, ⟨c, vs', h, h1, h2⟩ => ⟨c, vs', h, E.mono hf h1, h2.mono hf⟩
theorem RowD.good : ∀ {l : List α} {vs : List Value}, RowD E φ vs l → ∀ v ∈ vs, Good φ 19 v
  | [], vs, h, v, hv => by rw [RowD] at h; subst h; cases hv
  | a :: l, vs, ⟨c, vs', h, h1, h2⟩, v, hv => by
    rw [h, List.mem_append] at hv
    rcases hv with hv | hv
    · exact E.good h1 v hv
    · exact h2.good v hv
theorem RowD.nil : RowD E φ [] [] := rfl
theorem RowD.one {c : List Value} {a : α} (h : E.R φ c a) : RowD E φ c [a] := ⟨c, [], by simp, h, rfl⟩
theorem RowD.append : ∀ {l l' : List α} {vs vs' : List Value}, RowD E φ vs l → RowD E φ vs' l' → RowD E φ (vs ++ vs') (l ++ l')
  | [], l', vs, vs', h, h' => by rw [RowD] at h; subst h; simpa using h'
  | a :: l, l', vs, vs', ⟨c, ws, h, h1, h2⟩, h' => ⟨c, ws ++ vs', by rw [h, List.append_assoc], h1, h2.append h'⟩
/-- An element. -/
theorem RowD.get : ∀ {l : List α} {vs : List Value}, RowD E φ vs l → ∀ (i : Nat) (a : α), l[i]? = some a → E.R φ ((vs.drop (i * E.es)).take E.es) a
  | [], vs, h, i, a, hi => by simp at hi
  | b :: l, vs, ⟨c, vs', h, h1, h2⟩, 0, a, hi => by
    simp only [List.getElem?_cons_zero, Option.some.injEq] at hi
    subst hi
    have := E.len h1
    rw [h, Nat.zero_mul, List.drop_zero, List.take_append_of_le_length (by omega), ← this, List.take_length]
    exact h1
  | b :: l, vs, ⟨c, vs', h, h1, h2⟩, i + 1, a, hi => by
    have h3 := h2.get i a (by simpa using hi)
    have := E.len h1
    have e : (i + 1) * E.es = c.length + i * E.es := by rw [Nat.add_mul, this]; omega
    rw [h, e, ← List.drop_drop, List.drop_left]
    exact h3
theorem setAt_app : ∀ {c vs : List Value} {i : Nat} {xs : List Value}, setAt (c ++ vs) (c.length + i) xs = c ++ setAt vs i xs
  | [], vs, i, xs => by simp
  | a :: c, vs, i, [] => by cases vs <;> simp [setAt]
  | a :: c, vs, i, x :: xs => by
    have e : (a :: c).length + i = (c.length + i) + 1 := by simp only [List.length_cons]; omega
    rw [e]
    simp only [List.cons_append, setAt]
    rw [setAt_app]
theorem setAt_hd : ∀ {c xs vs : List Value}, xs.length = c.length → setAt (c ++ vs) 0 xs = xs ++ vs
  | [], [], vs, _ => by cases vs <;> rfl
  | a :: c, x :: xs, vs, h => by
    simp only [List.cons_append, setAt, List.cons.injEq, true_and]
    exact setAt_hd (by simpa using h)
/-- An element is written. -/
theorem RowD.set : ∀ {l : List α} {vs : List Value}, RowD E φ vs l → ∀ (i : Nat) {xs : List Value} {a : α}, i < l.length → E.R φ xs a → RowD E φ (setAt vs (i * E.es) xs) (l.set i a)
  | [], vs, h, i, xs, a, hi, hx => by simp at hi
  | b :: l, vs, ⟨c, vs', h, h1, h2⟩, 0, xs, a, hi, hx => by
    refine ⟨xs, vs', ?_, hx, h2⟩
    rw [h, Nat.zero_mul]
    exact setAt_hd (by rw [E.len hx, E.len h1])
  | b :: l, vs, ⟨c, vs', h, h1, h2⟩, i + 1, xs, a, hi, hx => by
    have := E.len h1
    have e : (i + 1) * E.es = c.length + i * E.es := by rw [Nat.add_mul, this]; omega
    refine ⟨c, setAt vs' (i * E.es) xs, ?_, h1, h2.set i (by simpa using hi) hx⟩
    rw [h, e, setAt_app]
theorem RowD.replicate {c : List Value} {a : α} (h : E.R φ c a) : ∀ (n : Nat), RowD E φ (List.replicate n c).flatten (List.replicate n a)
  | 0 => rfl
  | n + 1 => ⟨c, _, by rw [List.replicate_succ, List.flatten_cons], h, RowD.replicate h n⟩
theorem RowD.take : ∀ {l : List α} {vs : List Value} (n : Nat), RowD E φ vs l → RowD E φ (vs.take (n * E.es)) (l.take n)
  | [], vs, n, h => by rw [RowD] at h; subst h; simp [RowD]
  | a :: l, vs, 0, h => by simp [RowD]
  | a :: l, vs, n + 1, ⟨c, vs', h, h1, h2⟩ => by
    have := E.len h1
    refine ⟨c, vs'.take (n * E.es), ?_, h1, h2.take n⟩
    have e : (n + 1) * E.es = c.length + n * E.es := by rw [Nat.add_mul, this]; omega
    rw [h, e, List.take_length_add_append]
theorem RowD.drop : ∀ {l : List α} {vs : List Value} (n : Nat), RowD E φ vs l → RowD E φ (vs.drop (n * E.es)) (l.drop n)
  | [], vs, n, h => by rw [RowD] at h; subst h; simp [RowD]
  | a :: l, vs, 0, h => by simpa using h
  | a :: l, vs, n + 1, ⟨c, vs', h, h1, h2⟩ => by
    have := E.len h1
    have e : (n + 1) * E.es = c.length + n * E.es := by rw [Nat.add_mul, this]; omega
    rw [h, e, ← List.drop_drop, List.drop_left]
    exact h2.drop n
end

/-- A slice of data that are read alone: where it begins in its row, and the row behind it. -/
def RSl {α : Type} (E : Enc α) (φ : Fz) (v : Value) (l : List α) : Prop :=
  (v = .slice none 0 0 ∧ l = []) ∨ (∃ b off c vs e m, v = .slice (some ⟨b, off, none⟩) l.length c ∧ φ b = some (.cells vs e m) ∧ (c < unk → l.length ≤ c) ∧ (0 < l.length → off + l.length * E.es ≤ vs.length) ∧
    (unk ≤ c → m.es = some E.es) ∧ RowD E φ ((vs.drop off).take (l.length * E.es)) l) ∨
    ∃ b off c, v = .slice (some ⟨b, off, none⟩) 0 c ∧ l = [] ∧ φ b = some .dead ∧ c < unk
theorem RSl.mono {α : Type} {E : Enc α} {φ φ' : Fz} {v : Value} {l : List α} (hf : φ.le φ') (h : RSl E φ v l) : RSl E φ' v l := by
  rcases h with h | ⟨b, off, c, vs, e, m, h1, h2, h3, h4, h5, h6⟩ | ⟨b, off, c, h1, h2, h3, h4⟩
  · exact .inl h
  · exact .inr (.inl ⟨b, off, c, vs, e, m, h1, hf _ _ h2, h3, h4, h5, h6.mono hf⟩)
  · exact .inr (.inr ⟨b, off, c, h1, h2, hf _ _ h3, h4⟩)
theorem RSl.good {α : Type} {E : Enc α} {φ : Fz} {v : Value} {l : List α} (h : RSl E φ v l) {f : Nat} (hf : 0 < f) : Good φ f v := by
  cases f with
  | zero => omega
  | succ f =>
  rcases h with ⟨h, _⟩ | ⟨b, off, c, vs, e, m, h, h2, _⟩ | ⟨b, off, c, h, _, h2, _⟩
  · subst h; exact ⟨fun _ _ => rfl, by simp [sameV], rfl, rfl⟩
  · subst h; exact ⟨fun m hm => blt_true.2 (hm _ _ h2), by simp [sameV], rfl, rfl⟩
  · subst h; exact ⟨fun m hm => blt_true.2 (hm _ _ h2), by simp [sameV], rfl, rfl⟩
theorem RSl.shape {α : Type} {E : Enc α} {φ : Fz} {v : Value} {l : List α} (h : RSl E φ v l) : ∃ a n c, v = .slice a n c := by
  rcases h with ⟨h, _⟩ | ⟨b, off, c, vs, e, m, h, _⟩ | ⟨b, off, c, h, _⟩ <;> exact ⟨_, _, _, h⟩
def eSl {α : Type} (E : Enc α) : Enc (List α) where
  es := 1
  R := fun φ cs l => ∃ a n c, cs = [.slice a n c] ∧ RSl E φ (.slice a n c) l
  len := fun ⟨a, n, c, h, _⟩ => by rw [h]; rfl
  mono := fun hf ⟨a, n, c, h, h1⟩ => ⟨a, n, c, h, h1.mono hf⟩
  good := fun ⟨a, n, c, h, h1⟩ u hu => by
    rw [h, List.mem_singleton] at hu; subst hu
    exact h1.good (by decide)
/-- An element, if there is one. -/
def idx {α : Type} (l : List α) (i : Int) : R α :=
  if 0 ≤ i then (match l[i.toNat]? with | some a => .ok a | none => .error "index") else .error "index"
theorem idx_ok {α : Type} {l : List α} {i : Int} {a : α} : idx l i = .ok a ↔ 0 ≤ i ∧ l[i.toNat]? = some a := by
  unfold idx
  split
  · cases h : l[i.toNat]? with
    | none => simp
    | some b => simp [*]
  · simp [*]
theorem RSl.at {α : Type} {E : Enc α} {φ : Fz} {v : Value} {l : List α} (h : RSl E φ v l) {i : Int} {a : α} (hi : AM.idx l i = .ok a) :
    ∃ b off c vs e m, v = .slice (some ⟨b, off, none⟩) l.length c ∧ φ b = some (.cells vs e m) ∧ E.R φ ((vs.drop (off + i.toNat * E.es)).take E.es) a ∧ inRange i l.length = .ok i.toNat := by
  obtain ⟨h0, h1⟩ := idx_ok.1 hi
  obtain ⟨hlt, hget⟩ := List.getElem?_eq_some_iff.1 h1
  rcases h with ⟨_, h⟩ | ⟨b, off, c, vs, e, m, g1, g2, g3, g4, g5, g6⟩ | ⟨b, off, c, _, h, _⟩
  · subst h; simp at hlt
  rotate_left
  · subst h; simp at hlt
  · refine ⟨b, off, c, vs, e, m, g1, g2, ?_, ?_⟩
    · have := g6.get i.toNat a h1
      have hmul : (i.toNat + 1) * E.es ≤ l.length * E.es := Nat.mul_le_mul_right _ hlt
      rw [Nat.add_mul, Nat.one_mul] at hmul
      rw [List.drop_take, List.take_take, List.drop_drop, Nat.min_eq_left (by omega)] at this
      exact this
    · unfold inRange
      have : (decide (0 ≤ i) && decide (i < (l.length : Int))) = true := by simp; omega
      rw [this]; rfl
end Go.AM
namespace Go.AM
open Go

/-! ### The heap of a call under way -/
abbrev OwnL := List (Option Nat × Blk)
structure St (φ : Fz) (lo : Nat) (h : Heap) (own : OwnL) : Prop where
  fz : ∀ i b, φ i = some b → i < h.n ∧ h.get i = b
  n : lo ≤ h.n
  wr : lo ≤ h.wr
  mem : ∀ p ∈ own, ∀ i, p.1 = some i → lo ≤ i ∧ i < h.n ∧ h.get i = p.2 ∧ φ i = none
  nd : own.Pairwise (fun p q => ∀ i, p.1 = some i → q.1 ≠ some i)

section
variable {φ φ' : Fz} {lo : Nat} {h h' : Heap} {own own' : OwnL}
theorem St.fzlt (X : St φ lo h own) : ∀ i b, φ i = some b → i < h.n := fun i b e => (X.fz i b e).1
theorem St.at (X : St φ lo h own) {j b : Nat} {blk : Blk} (hj : own[j]? = some (some b, blk)) : lo ≤ b ∧ b < h.n ∧ h.get b = blk ∧ φ b = none :=
  X.mem _ (List.mem_of_getElem? hj) b rfl
theorem St.put (X : St φ lo h own) (b : Blk) : St φ lo (h.put b) ((some h.n, b) :: own) := by
  have hg : ∀ i, i < h.n → (h.put b).get i = h.get i := fun i hi => by rw [get_put trivial, if_neg (by omega)]
  refine ⟨fun i c e => ?_, by show lo ≤ h.n + 1; have := X.n; omega, X.wr, fun p hp i hi => ?_, .cons (fun p hp i hi => ?_) X.nd⟩
  · obtain ⟨h1, h2⟩ := X.fz i c e
    exact ⟨by show i < h.n + 1; omega, by rw [hg i h1]; exact h2⟩
  · rcases List.mem_cons.1 hp with rfl | hp
    · simp only [Option.some.injEq] at hi
      subst hi
      refine ⟨X.n, by show h.n < h.n + 1; omega, by rw [get_put trivial, if_pos rfl], ?_⟩
      cases hc : φ h.n with
      | none => rfl
      | some c => exact absurd (X.fz _ _ hc).1 (Nat.lt_irrefl _)
    · obtain ⟨h1, h2, h3, h4⟩ := X.mem p hp i hi
      exact ⟨h1, by show i < h.n + 1; omega, by rw [hg i h2]; exact h3, h4⟩
  · simp only [Option.some.injEq] at hi
    subst hi
    intro e
    exact absurd (X.mem p hp _ e).2.1 (Nat.lt_irrefl _)
theorem St.sub (X : St φ lo h own) (hs : own'.Sublist own) : St φ lo h own' :=
  ⟨X.fz, X.n, X.wr, fun p hp => X.mem p (hs.mem hp), X.nd.sublist hs⟩
theorem pairwise_set {own : OwnL} (hn : own.Pairwise (fun p q => ∀ i, p.1 = some i → q.1 ≠ some i)) {p' : Option Nat × Blk} : ∀ (j : Nat), (∀ k q, own[k]? = some q → k ≠ j → ∀ i, p'.1 = some i → q.1 ≠ some i) → (own.set j p').Pairwise (fun p q => ∀ i, p.1 = some i → q.1 ≠ some i) := by
  induction own with
  | nil => intro j _; simp
  | cons p own ih =>
    intro j hp
    obtain ⟨h1, h2⟩ := List.pairwise_cons.1 hn
    cases j with
    | zero =>
      rw [List.set_cons_zero]
      refine .cons (fun q hq i hi => ?_) h2
      obtain ⟨k, hk, rfl⟩ := List.mem_iff_getElem.1 hq
      exact hp (k + 1) _ (by simp [hk]) (by omega) i hi
    | succ j =>
      rw [List.set_cons_succ]
      refine .cons (fun q hq i hi => ?_) (ih h2 j fun k q hk hkj i hi => hp (k + 1) q (by simpa using hk) (by omega) i hi)
      rcases List.mem_or_eq_of_mem_set hq with hq | rfl
      · exact h1 q hq i hi
      · intro e
        exact hp 0 p (by simp) (by omega) i e hi
/-- Two blocks at two places are two. -/
theorem St.ne (X : St φ lo h own) {j k b : Nat} {q : Option Nat × Blk} {blk : Blk} (hj : own[j]? = some (some b, blk)) (hk : own[k]? = some q) (hne : k ≠ j) : q.1 ≠ some b := by
  have hp := X.nd
  rw [List.pairwise_iff_getElem] at hp
  obtain ⟨hj1, hj2⟩ := List.getElem?_eq_some_iff.1 hj
  obtain ⟨hk1, hk2⟩ := List.getElem?_eq_some_iff.1 hk
  rcases Nat.lt_or_ge j k with hlt | hge
  · have := hp j k hj1 hk1 hlt b (by rw [hj2])
    rw [hk2] at this; exact this
  · have hlt : k < j := by omega
    intro e
    have := hp k j hk1 hj1 hlt b (by rw [hk2]; exact e)
    rw [hj2] at this; exact this rfl
theorem St.write (X : St φ lo h own) {j b : Nat} {blk : Blk} (hj : own[j]? = some (some b, blk)) (blk' : Blk) (m : Nat) : St φ lo (h.write b blk' m) (own.set j (some b, blk')) := by
  obtain ⟨h1, h2, h3, h4⟩ := X.at hj
  have hg : ∀ i, (h.write b blk' m).get i = if i = b then blk' else h.get i := fun i => get_write trivial h2
  refine ⟨fun i c e => ?_, X.n, ?_, fun p hp i hi => ?_, pairwise_set X.nd j fun k q hk hkj i hi => ?_⟩
  · obtain ⟨g1, g2⟩ := X.fz i c e
    refine ⟨g1, ?_⟩
    rw [hg, if_neg]
    · exact g2
    · intro e'; subst e'; rw [h4] at e; cases e
  · show lo ≤ Nat.min h.wr b
    exact Nat.le_min.2 ⟨X.wr, h1⟩
  · obtain ⟨k, hk⟩ := List.mem_iff_getElem?.1 hp
    by_cases hkj : k = j
    · subst hkj
      have hlen := (List.getElem?_eq_some_iff.1 hj).1
      rw [List.getElem?_set_self hlen] at hk
      cases hk
      simp only [Option.some.injEq] at hi
      subst hi
      exact ⟨h1, h2, by rw [hg, if_pos rfl], h4⟩
    · rw [List.getElem?_set_ne (fun e => hkj e.symm)] at hk
      obtain ⟨g1, g2, g3, g4⟩ := X.mem p (List.mem_of_getElem? hk) i hi
      refine ⟨g1, g2, ?_, g4⟩
      rw [hg, if_neg]
      · exact g3
      · intro e; subst e
        exact X.ne hj hk hkj hi
  · simp only [Option.some.injEq] at hi
    subst hi
    exact X.ne hj hk hkj
/-- A block is written no more. -/
def Fz.add (φ : Fz) (b : Nat) (blk : Blk) : Fz := fun i => if i = b then some blk else φ i
theorem St.fz_le (X : St φ lo h own) {j b : Nat} {blk : Blk} (hj : own[j]? = some (some b, blk)) : φ.le (φ.add b blk) := fun i c e => by
  unfold Fz.add
  rw [if_neg]
  · exact e
  · intro e'; subst e'; rw [(X.at hj).2.2.2] at e; cases e
theorem St.freeze (X : St φ lo h own) {j b : Nat} {blk : Blk} (hj : own[j]? = some (some b, blk)) : St (φ.add b blk) lo h (own.set j (none, blk)) := by
  obtain ⟨h1, h2, h3, h4⟩ := X.at hj
  refine ⟨fun i c e => ?_, X.n, X.wr, fun p hp i hi => ?_, pairwise_set X.nd j fun k q hk hkj i hi => by cases hi⟩
  · unfold Fz.add at e
    split at e
    · rename_i he; subst he; cases e; exact ⟨h2, h3⟩
    · exact X.fz i c e
  · obtain ⟨k, hk⟩ := List.mem_iff_getElem?.1 hp
    by_cases hkj : k = j
    · subst hkj
      have hlen := (List.getElem?_eq_some_iff.1 hj).1
      rw [List.getElem?_set_self hlen] at hk
      cases hk; cases hi
    · rw [List.getElem?_set_ne (fun e => hkj e.symm)] at hk
      obtain ⟨g1, g2, g3, g4⟩ := X.mem p (List.mem_of_getElem? hk) i hi
      refine ⟨g1, g2, g3, ?_⟩
      unfold Fz.add
      rw [if_neg]
      · exact g4
      · intro e; subst e; exact X.ne hj hk hkj hi
/-- In another order, some left out. -/
theorem St.sel (X : St φ lo h own) (is : List Nat) (hnd : is.Nodup) (hs : ∀ (k : Nat) (p : Option Nat × Blk), own'[k]? = some p → ∃ i, is[k]? = some i ∧ (own[i]? = some p ∨ p.1 = none)) : St φ lo h own' := by
  have hm : ∀ p ∈ own', p ∈ own ∨ p.1 = none := fun p hp => by
    obtain ⟨k, hk⟩ := List.mem_iff_getElem?.1 hp
    obtain ⟨i, _, h2⟩ := hs k p hk
    exact h2.imp List.mem_of_getElem? id
  refine ⟨X.fz, X.n, X.wr, fun p hp i hi => ?_, ?_⟩
  · rcases hm p hp with h | h
    · exact X.mem p h i hi
    · rw [h] at hi; cases hi
  · rw [List.pairwise_iff_getElem]
    intro j k hj hk hjk i hi
    obtain ⟨a, ha1, ha2⟩ := hs j _ (List.getElem?_eq_getElem hj)
    obtain ⟨b, hb1, hb2⟩ := hs k _ (List.getElem?_eq_getElem hk)
    have hab : a ≠ b := by
      obtain ⟨g1, g2⟩ := List.getElem?_eq_some_iff.1 ha1
      obtain ⟨g3, g4⟩ := List.getElem?_eq_some_iff.1 hb1
      rw [List.nodup_iff_pairwise_ne, List.pairwise_iff_getElem] at hnd
      have := hnd j k g1 g3 hjk
      rw [g2, g4] at this; exact this
    rcases hb2 with hb2 | hb2
    · rcases ha2 with ha2 | ha2
      · refine X.ne (j := a) (k := b) (b := i) (blk := own'[j].2) ?_ hb2 (fun e => hab e.symm)
        rw [ha2, ← hi]
      · rw [ha2] at hi; cases hi
    · rw [hb2]; intro e; cases e
theorem St.low (X : St φ lo h own) {j b : Nat} {blk : Blk} (hj : own[j]? = some (some b, blk)) {o : Nat} {s : Option (List Nat)} {f : Nat} : Nat.blt b h.n = true := blt_true.2 (X.at hj).2.1

/-! Slices of the call's own -/
/-- A row under way: a block (none for nil), and the data that its cells are as far as they are known. -/
def OSl {α : Type} (E : Enc α) (φ : Fz) (te : TypeId) (ob : Option Nat) (blk : Blk) (v : Value) (l : List α) : Prop :=
  (ob = none ∧ v = .slice none 0 0 ∧ l = []) ∨ ∃ b vs m c, ob = some b ∧ blk = .cells vs te m ∧ v = .slice (some ⟨b, 0, none⟩) l.length c ∧ RowD E φ (vs.take (l.length * E.es)) l ∧
    ((m = .exact ∧ c < unk ∧ l.length ≤ c ∧ vs.length = c * E.es) ∨ (m = .grown E.es ∧ c = unk ∧ vs.length = l.length * E.es))
theorem OSl.mono {α : Type} {E : Enc α} {te : TypeId} {ob : Option Nat} {blk : Blk} {v : Value} {l : List α} (hf : φ.le φ') (hO : OSl E φ te ob blk v l) : OSl E φ' te ob blk v l := by
  rcases hO with h | ⟨b, vs, m, c, h1, h2, h3, h4, h5⟩
  · exact .inl h
  · exact .inr ⟨b, vs, m, c, h1, h2, h3, h4.mono hf, h5⟩
theorem OSl.nil {α : Type} {E : Enc α} {te : TypeId} {blk : Blk} : OSl E φ te none blk (.slice none 0 0) ([] : List α) := .inl ⟨rfl, rfl, rfl⟩
theorem OSl.len {α : Type} {E : Enc α} {te : TypeId} {ob : Option Nat} {blk : Blk} {v : Value} {l : List α} (hO : OSl E φ te ob blk v l) : lenC v = .ok (.int .i64 (l.length : Nat)) := by
  rcases hO with ⟨_, h, h'⟩ | ⟨b, vs, m, c, h1, h2, h3, _⟩
  · subst h; subst h'; rfl
  · subst h3; rfl
theorem RSl.lenC {α : Type} {E : Enc α} {v : Value} {l : List α} (hO : RSl E φ v l) : AM.lenC v = .ok (.int .i64 (l.length : Nat)) := by
  rcases hO with ⟨h, h'⟩ | ⟨b, off, c, vs, e, m, h1, _⟩ | ⟨b, off, c, h1, h2, _⟩
  · subst h; subst h'; rfl
  · subst h1; rfl
  · subst h1; subst h2; rfl
/-- Own rows are read alone from now on. -/
theorem OSl.freeze {α : Type} {E : Enc α} {te : TypeId} {ob : Option Nat} {blk : Blk} {v : Value} {l : List α} (X : St φ lo h own) {j : Nat} (hj : own[j]? = some (ob, blk)) (hO : OSl E φ te ob blk v l) :
    ∃ φ', φ.le φ' ∧ St φ' lo h (own.set j (none, blk)) ∧ RSl E φ' v l := by
  rcases hO with ⟨h, h1, h2⟩ | ⟨b, vs, m, c, h1, h2, h3, h4, h5⟩
  · subst h
    refine ⟨φ, φ.le_refl, ?_, .inl ⟨h1, h2⟩⟩
    have : own.set j (none, blk) = own := by
      obtain ⟨g1, g2⟩ := List.getElem?_eq_some_iff.1 hj
      rw [← g2, List.set_getElem_self]
    rw [this]; exact X
  · subst h1
    refine ⟨φ.add b blk, X.fz_le hj, X.freeze hj, .inr (.inl ⟨b, 0, c, vs, te, m, h3, ?_, ?_, ?_, ?_, ?_⟩)⟩
    · unfold Fz.add; rw [if_pos rfl, h2]
    · intro hc
      rcases h5 with ⟨_, _, h, _⟩ | ⟨_, h, h'⟩
      · exact h
      · omega
    · intro _
      have := h4.len
      rw [List.length_take] at this
      omega
    · intro hc
      rcases h5 with ⟨_, h, _⟩ | ⟨h, _, _⟩
      · omega
      · rw [h]; rfl
    · rw [List.drop_zero]; exact h4.mono (X.fz_le hj)
end
end Go.AM
namespace Go.AM
open Go

section
variable {δ ε β : Type} {P : Program} {r : Rec} {L N : Nat} {rd : Option Nat} {env : Env} {t0 : Tmps} {h h' : Heap} {k : Kont β} {ops : Array Oper} {os : List Oper} {Q : δ → β → Prop} {M : R δ}
variable {φ φ' : Fz} {lo : Nat} {own : OwnL}
variable {d : Option Tmp} {i : Tmp} {op : Op} {ty : TypeId} {pos : String} {af : Array Edge} {g : Option (Nat × Bool)} {v : Value} {X : R Value} {XH : R (Value × Heap)}

theorem opersL_want {o : Oper} {t : Tmps} (hw : wanted ops o t = true) : opersL P r N ops (o :: os) k t h = bindR (stepW P r o.op t h) fun p => opersL P r N ops os k (put N t o.dst p.1) p.2 := by
  show opers P r N ops (o :: os) t h k = _
  rw [opers]
  simp only [hw]
  rw [oper_stepW]; rfl
theorem opersL_skip {o : Oper} {t : Tmps} (hw : wanted ops o t = false) : opersL P r N ops (o :: os) k t h = opersL P r N ops os k (put N t o.dst undef) h := by
  show opers P r N ops (o :: os) t h k = _
  rw [opers]
  simp only [hw]; rfl

/-! Regions in order -/
theorem lpure (hw : wanted ops ⟨some i, op, ty, pos, af, g⟩ (TT env t0) = true) (hX : PureOk P op (TT env t0) X) (hv : X = .ok v) (hd : Nat.blt i N = true)
    (hk : Sim (opersL P r N ops os k (TT ((i, v) :: env) t0) h) M Q) : Sim (opersL P r N ops (⟨some i, op, ty, pos, af, g⟩ :: os) k (TT env t0) h) M Q := by
  rw [opersL_want hw, hX.stepW hv]
  simp only [bindR, put_TT hd]; exact hk
theorem lread (hw : wanted ops ⟨some i, op, ty, pos, af, g⟩ (TT env t0) = true) (hX : ReadOk P op (TT env t0) h X) (hv : X = .ok v) (hd : Nat.blt i N = true)
    (hk : Sim (opersL P r N ops os k (TT ((i, v) :: env) t0) h) M Q) : Sim (opersL P r N ops (⟨some i, op, ty, pos, af, g⟩ :: os) k (TT env t0) h) M Q := by
  rw [opersL_want hw, hX.stepW hv]
  simp only [bindR, put_TT hd]; exact hk
theorem lheap (hw : wanted ops ⟨some i, op, ty, pos, af, g⟩ (TT env t0) = true) (hX : HeapOk P r op (TT env t0) h XH) (hv : XH = .ok (v, h')) (hd : Nat.blt i N = true)
    (hk : Sim (opersL P r N ops os k (TT ((i, v) :: env) t0) h') M Q) : Sim (opersL P r N ops (⟨some i, op, ty, pos, af, g⟩ :: os) k (TT env t0) h) M Q := by
  rw [opersL_want hw, hX _ hv]
  simp only [bindR, put_TT hd]; exact hk
theorem lheap0 (hw : wanted ops ⟨none, op, ty, pos, af, g⟩ (TT env t0) = true) (hX : HeapOk P r op (TT env t0) h XH) (hv : XH = .ok (v, h'))
    (hk : Sim (opersL P r N ops os k (TT env t0) h') M Q) : Sim (opersL P r N ops (⟨none, op, ty, pos, af, g⟩ :: os) k (TT env t0) h) M Q := by
  rw [opersL_want hw, hX _ hv]
  simp only [bindR]; exact hk
theorem lskip (hw : wanted ops ⟨some i, op, ty, pos, af, g⟩ (TT env t0) = false) (hd : Nat.blt i N = true)
    (hk : Sim (opersL P r N ops os k (TT ((i, undef) :: env) t0) h) M Q) : Sim (opersL P r N ops (⟨some i, op, ty, pos, af, g⟩ :: os) k (TT env t0) h) M Q := by
  rw [opersL_skip hw]
  simp only [put_TT hd]; exact hk
theorem lend (hk : Sim (k .normal (TT env t0) h) M Q) : Sim (opersL P r N ops [] k (TT env t0) h) M Q := hk
theorem dreg {id : Nat} {t : Tmps} (hk : Sim (opersL P r N ops ops.toList k t h) M Q) : Sim (den P r L N rd (.region id ops false) t h k) M Q := hk

/-! New blocks -/
theorem lbox {e : TypeId} {a : Operand} {cs : List Value} (hw : wanted ops ⟨some i, .box e a, ty, pos, af, g⟩ (TT env t0) = true) (ha : okO a = true) (hv : (oev (TT env t0) a).cells.toList = cs) (hc : cs.all isCell = true)
    (hd : Nat.blt i N = true) (hS : St φ lo h own) (hk : ∀ b h', St φ lo h' ((some b, .cells cs e .exact) :: own) → Sim (opersL P r N ops os k (TT ((i, .pointer (some ⟨b, 0, none⟩)) :: env) t0) h') M Q) :
    Sim (opersL P r N ops (⟨some i, .box e a, ty, pos, af, g⟩ :: os) k (TT env t0) h) M Q :=
  lheap hw (h_box ha) (by rw [hv]; exact rowV_ok trivial hc) hd (hk _ _ (hS.put _))
theorem lalloc {e : TypeId} {z : Value} {cs : List Value} (hw : wanted ops ⟨some i, .alloc e, ty, pos, af, g⟩ (TT env t0) = true) (hz : tzero P e = .ok z) (hv : z.cells.toList = cs) (hc : cs.all isCell = true)
    (hd : Nat.blt i N = true) (hS : St φ lo h own) (hk : ∀ b h', St φ lo h' ((some b, .cells cs e .exact) :: own) → Sim (opersL P r N ops os k (TT ((i, .pointer (some ⟨b, 0, none⟩)) :: env) t0) h') M Q) :
    Sim (opersL P r N ops (⟨some i, .alloc e, ty, pos, af, g⟩ :: os) k (TT env t0) h) M Q :=
  lheap hw (h_alloc hz) (by rw [hv]; exact rowV_ok trivial hc) hd (hk _ _ (hS.put _))

/-! Own blocks: what is read, what is written -/
theorem St.ld (hS : St φ lo h own) {j b o : Nat} {w : Option Nat} {vs : List Value} {e : TypeId} {m : Mode} (hj : own[j]? = some (some b, .cells vs e m)) (hr : readW vs o w = .ok v) : ldC w h (.pointer (some ⟨b, o, none⟩)) = .ok v := by
  simp only [ldC, (hS.at hj).2.2.1, hr]
def wrM : Mode → Bool
  | .ro _ => false
  | _ => true
theorem St.st (hS : St φ lo h own) {j b o n : Nat} {x : Value} {vs xs : List Value} {e : TypeId} {m : Mode} (hj : own[j]? = some (some b, .cells vs e m)) (hm : wrM m = true) (hx : x.cells.toList = xs) (hn : Nat.beq xs.length n = true)
    (ho : Nat.ble (o + xs.length) vs.length = true) (hc : xs.all isCell = true) :
    ∃ h', stC n h (.pointer (some ⟨b, o, none⟩)) x = .ok (undef, h') ∧ St φ lo h' (own.set j (some b, .cells (setAt vs o xs) e m)) := by
  refine ⟨h.write b (.cells (setAt vs o xs) e m) (idsL xs), ?_, hS.write hj _ _⟩
  have h1 : storeCells h b o xs = .ok (h.write b (.cells (setAt vs o xs) e m) (idsL xs)) := by
    unfold storeCells
    rw [(hS.at hj).2.2.1]
    have hb : (Nat.ble (o + xs.length) vs.length && xs.all isCell) = true := by rw [ho, hc]; rfl
    cases m with
    | ro es => cases hm
    | exact => simp only [hb, must, bindR]
    | grown es => simp only [hb, must, bindR]
  unfold stC
  simp only [hx, hn, must, bindR, h1]
theorem lstore {a x : Operand} {n j b o : Nat} {vs xs : List Value} {e sty : TypeId} {m : Mode} (hw : wanted ops ⟨none, .store sty a x, ty, pos, af, g⟩ (TT env t0) = true) (hn : tsize P sty = .ok n) (hok : (okO a && okO x) = true)
    (ha : oev (TT env t0) a = .pointer (some ⟨b, o, none⟩)) (hj : own[j]? = some (some b, .cells vs e m)) (hm : wrM m = true) (hx : (oev (TT env t0) x).cells.toList = xs) (hb : Nat.beq xs.length n = true)
    (ho : Nat.ble (o + xs.length) vs.length = true) (hc : xs.all isCell = true) (hS : St φ lo h own)
    (hk : ∀ h', St φ lo h' (own.set j (some b, .cells (setAt vs o xs) e m)) → Sim (opersL P r N ops os k (TT env t0) h') M Q) :
    Sim (opersL P r N ops (⟨none, .store sty a x, ty, pos, af, g⟩ :: os) k (TT env t0) h) M Q := by
  obtain ⟨h', h1, h2⟩ := hS.st hj hm hx hb ho hc
  exact lheap0 hw (h_store hn hok) (by rw [ha]; exact h1) (hk _ h2)

/-! Rows that are read alone -/
/-- A place in such a row, and the cells from there on. -/
def FP (φ : Fz) (p : Value) (cs : List Value) : Prop := ∃ b off vs te m, p = .pointer (some ⟨b, off, none⟩) ∧ φ b = some (.cells vs te m) ∧ (vs.drop off).take cs.length = cs
def ptrAdd (p : Value) (k : Nat) : Value := match p with | .pointer (some ⟨b, o, none⟩) => .pointer (some ⟨b, Nat.add o k, none⟩) | _ => undef
theorem FP.mono {p : Value} {cs : List Value} (hf : φ.le φ') (hp : FP φ p cs) : FP φ' p cs := by
  obtain ⟨b, off, vs, te, m, h1, h2, h3⟩ := hp
  exact ⟨b, off, vs, te, m, h1, hf _ _ h2, h3⟩
theorem FP.add {p : Value} {cs cs' : List Value} {n w : Nat} (hp : FP φ p cs) (hc : (cs.drop n).take w = cs') (hl : Nat.beq cs'.length w = true) : FP φ (ptrAdd p n) cs' := by
  obtain ⟨b, off, vs, te, m, h1, h2, h3⟩ := hp
  have hl := Nat.eq_of_beq_eq_true hl
  subst h1
  refine ⟨b, Nat.add off n, vs, te, m, rfl, h2, ?_⟩
  show (vs.drop (off + n)).take cs'.length = cs'
  rw [← hc, ← h3] at hl ⊢
  simp only [List.length_take, List.length_drop] at hl
  rw [List.drop_take, List.take_take, List.drop_drop] at *
  simp only [List.length_take, List.length_drop] at *
  congr 1
  omega
theorem take_get {vs : List Value} {off n k : Nat} {cs : List Value} {c : Value} (h : (vs.drop off).take n = cs) (hk : cs[k]? = some c) : vs[off + k]? = some c := by
  rw [← h, List.getElem?_take] at hk
  split at hk
  · rw [List.getElem?_drop] at hk; exact hk
  · cases hk
theorem FP.ld {p : Value} {c : Value} (hS : St φ lo h own) (hp : FP φ p [c]) : ldC none h p = .ok c := by
  obtain ⟨b, off, vs, te, m, h1, h2, h3⟩ := hp
  subst h1
  have := take_get h3 (k := 0) rfl
  simp only [ldC, (hS.fz _ _ h2).2, readW, cell]
  rw [show off + 0 = off from rfl] at this
  rw [this]
theorem FP.ldw {p : Value} {n : Nat} {cs : List Value} (hS : St φ lo h own) (hp : FP φ p cs) (hn : Nat.beq cs.length n = true) (h0 : Nat.blt 0 n = true) : ldC (some n) h p = .ok (.agg cs.toArray) := by
  obtain ⟨b, off, vs, te, m, h1, h2, h3⟩ := hp
  have hn := Nat.eq_of_beq_eq_true hn
  subst h1
  have hb : Nat.ble (off + n) vs.length = true := by
    rw [ble_iff]
    have := congrArg List.length h3
    simp only [List.length_take, List.length_drop] at this
    rcases Nat.lt_or_ge off vs.length with h | h
    · omega
    · have := blt_true.1 h0
      omega
  simp only [ldC, (hS.fz _ _ h2).2, readW, cellsAt, hb, bindR]
  rw [← hn, h3]
theorem setAt_take : ∀ {vs : List Value} {n i : Nat} {xs : List Value}, i + xs.length ≤ n → (setAt vs i xs).take n = setAt (vs.take n) i xs
  | vs, n, i, [], _ => by cases vs <;> cases n <;> simp [setAt]
  | [], n, i, x :: xs, _ => by simp [setAt]
  | v :: vs, n, i, x :: xs, h => by
    simp only [List.length_cons] at h
    cases n with
    | zero => omega
    | succ n =>
      cases i with
      | zero =>
        simp only [setAt, List.take_succ_cons, List.cons.injEq, true_and]
        exact setAt_take (by omega)
      | succ i =>
        simp only [setAt, List.take_succ_cons, List.cons.injEq, true_and]
        exact setAt_take (by simp only [List.length_cons]; omega)
theorem ia_eq {n b o len c i j : Nat} {kd : IntKind} {ix : Int} (h : inRange ix len = .ok j) : iaC n (.slice (some ⟨b, o, none⟩) len c) (.int kd ix) = .ok (.pointer (some ⟨b, o + j * n, none⟩)) := by
  simp only [iaC, h, bindR]
theorem RSl.ia {α : Type} {E : Enc α} {l : List α} (hR : RSl E φ v l) {ix : Int} {a : α} (hi : idx l ix = .ok a) {kd : IntKind} {n : Nat} (hn : n = E.es) : ∃ p cs, iaC n v (.int kd ix) = .ok p ∧ FP φ p cs ∧ E.R φ cs a := by
  subst hn
  obtain ⟨b, off, c, vs, e, m, h1, h2, h3, h4⟩ := hR.at hi
  subst h1
  refine ⟨_, _, ia_eq (i := 0) h4, ⟨b, _, vs, e, m, rfl, h2, ?_⟩, h3⟩
  rw [E.len h3]
theorem OSl.ia {α : Type} {E : Enc α} {te : TypeId} {ob : Option Nat} {blk : Blk} {l : List α} (hO : OSl E φ te ob blk v l) {ix : Int} {a : α} (hi : idx l ix = .ok a) {kd : IntKind} {n : Nat} (hn : n = E.es) :
    ∃ b vs m off cs, ob = some b ∧ blk = .cells vs te m ∧ iaC n v (.int kd ix) = .ok (.pointer (some ⟨b, off, none⟩)) ∧ (vs.drop off).take cs.length = cs ∧ E.R φ cs a ∧ off + cs.length ≤ vs.length ∧ wrM m = true ∧
      ∀ (xs : List Value) (a' : α), E.R φ xs a' → OSl E φ te (some b) (.cells (setAt vs off xs) te m) v (l.set ix.toNat a') := by
  subst hn
  obtain ⟨h0, h1⟩ := idx_ok.1 hi
  obtain ⟨hlt, hget⟩ := List.getElem?_eq_some_iff.1 h1
  rcases hO with ⟨_, _, h⟩ | ⟨b, vs, m, c, g1, g2, g3, g4, g5⟩
  · subst h; simp at hlt
  · have hlen := g4.len
    have hmul : (ix.toNat + 1) * E.es ≤ l.length * E.es := Nat.mul_le_mul_right _ hlt
    rw [Nat.add_mul, Nat.one_mul] at hmul
    have hvl : l.length * E.es ≤ vs.length := by rw [List.length_take] at hlen; omega
    have hir : inRange ix l.length = .ok ix.toNat := by
      unfold inRange
      have : (decide (0 ≤ ix) && decide (ix < (l.length : Int))) = true := by simp; omega
      rw [this]; rfl
    have hR := g4.get ix.toNat a h1
    rw [List.drop_take, List.take_take, Nat.min_eq_left (by omega)] at hR
    have hR' : E.R φ ((vs.drop (0 + ix.toNat * E.es)).take E.es) a := by rw [Nat.zero_add]; exact hR
    refine ⟨b, vs, m, 0 + ix.toNat * E.es, _, g1, g2, by rw [g3]; exact ia_eq (i := 0) hir, ?_, hR', ?_, ?_, fun xs a' hx => ?_⟩
    · rw [E.len hR']
    · rw [E.len hR']; omega
    · rcases g5 with ⟨g, _⟩ | ⟨g, _⟩ <;> rw [g] <;> rfl
    · refine .inr ⟨b, _, m, c, rfl, rfl, by rw [List.length_set]; exact g3, ?_, by rw [setAt_length, List.length_set]; exact g5⟩
      have := g4.set ix.toNat hlt hx
      rw [List.length_set, Nat.zero_add, setAt_take (by rw [E.len hx]; omega)]
      exact this
end
end Go.AM
namespace Go.AM
open Go

/-! ### An answer, and then more -/
section
variable {β γ : Type} {P : Program} {r : Rec} {L N : Nat} {rd : Option Nat} {K : β → R γ}
theorem bindR_assoc {α : Type} {X : R α} {f : α → R β} : bindR (bindR X f) K = bindR X fun a => bindR (f a) K := by cases X <;> rfl
def kB (k : Kont β) (K : β → R γ) : Kont γ := fun e t h => bindR (k e t h) K

theorem oper_bind {o : Oper} {t : Tmps} {h : Heap} {k : Tmps → Heap → R β} : bindR (oper P r N o t h k) K = oper P r N o t h fun t h => bindR (k t h) K := by
  rw [oper_stepW, oper_stepW, bindR_assoc]
theorem opers_bind {ops : Array Oper} : ∀ {os : List Oper} {t : Tmps} {h : Heap} {k : Kont β}, bindR (opers P r N ops os t h k) K = opers P r N ops os t h (kB k K)
  | [], t, h, k => rfl
  | o :: os, t, h, k => by
    rw [opers, opers]
    split
    · rw [oper_bind]
      congr 1; funext t h
      exact opers_bind
    · exact opers_bind
theorem drawW_bind {ops : Array Oper} {pl : List Spot} {rec : DS → R β} {rec' : DS → R γ} (hr : ∀ d, bindR (rec d) K = rec' d) {d : DS} {k : Kont β} : bindR (drawW P r N ops pl rec d k) K = drawW P r N ops pl rec' d (kB k K) := by
  unfold drawW
  split
  · rfl
  · rw [bindR_assoc]
    congr 1; funext _
    rw [bindR_assoc]
    congr 1; funext p
    exact hr _
theorem drawL_bind {ops : Array Oper} {pl : List Spot} {k : Kont β} : ∀ {n : Nat} {d : DS}, bindR (drawL P r N ops pl k n d) K = drawL P r N ops pl (kB k K) n d
  | 0, d => rfl
  | n + 1, d => by
    unfold drawL
    rw [bindR_assoc]
    congr 1; funext d
    rw [bindR_assoc]
    congr 1; funext _
    exact drawW_bind fun d => drawL_bind
theorem drawK_bind {ops : Array Oper} {t : Tmps} {h : Heap} {k : Kont β} : bindR (drawK P r N ops t h k) K = drawK P r N ops t h (kB k K) := by
  unfold drawK
  rw [bindR_assoc]
  congr 1; funext _
  exact drawL_bind
theorem loopK_bind {body : Tmps → Heap → Kont β → R β} {body' : Tmps → Heap → Kont γ → R γ} (hb : ∀ t h k, bindR (body t h k) K = body' t h (kB k K)) : ∀ {n : Nat} {t : Tmps} {h : Heap} {k : Kont β}, bindR (loopK body n t h k) K = loopK body' n t h (kB k K)
  | 0, _, _, _ => rfl
  | n + 1, t, h, k => by
    unfold loopK
    rw [hb]
    congr 1; funext e t h
    unfold kB
    cases e with
    | normal => exact loopK_bind hb
    | _ => rfl
theorem rangeEnd_bind {l : Nat} {t : Tmps} {h : Heap} {k : Kont β} : bindR (rangeEnd l t h k) K = rangeEnd l t h (kB k K) := by
  unfold rangeEnd
  split
  · split
    · rfl
    · split <;> rfl
  · rfl
theorem rangeCall_bind {g : Value} {l : Nat} {t : Tmps} {h : Heap} {k : Kont β} : bindR (rangeCall P r g l t h k) K = rangeCall P r g l t h (kB k K) := by
  unfold rangeCall
  rw [bindR_assoc]
  congr 1; funext td
  split
  · rw [bindR_assoc]
    congr 1; funext p
    exact rangeEnd_bind
  · rfl
theorem rangeK_bind {g : Operand} {ps : Array Tmp} {a b : Code} {t : Tmps} {h : Heap} {k : Kont β} : bindR (rangeK P r N g ps a b t h rd k) K = rangeK P r N g ps a b t h rd (kB k K) := by
  unfold rangeK
  rw [bindR_assoc]
  congr 1; funext gv
  split
  · split
    · rw [bindR_assoc]
      congr 1; funext _
      exact rangeCall_bind
    · rfl
  · rw [bindR_assoc]
    congr 1; funext _
    exact rangeCall_bind
theorem den_bind : ∀ {c : Code} {t : Tmps} {h : Heap} {k : Kont β}, bindR (den P r L N rd c t h k) K = den P r L N rd c t h (kB k K) := by
  intro c
  induction c with
  | skip => intros; rfl
  | label l => intros; rfl
  | exit id => intros; rfl
  | goto l => intros; rfl
  | ret => intros; rfl
  | refuse m => intros; rfl
  | rangeFunc g ps a b => intros; exact rangeK_bind
  | region id ops d =>
    intro t h k
    cases d with
    | false => exact opers_bind
    | true => exact drawK_bind
  | seq a b iha ihb =>
    intro t h k
    simp only [den]
    rw [iha]
    congr 1; funext e t h
    unfold kB
    cases e with
    | normal => exact ihb
    | _ => rfl
  | cond x a b iha ihb =>
    intro t h k
    simp only [den]
    rw [bindR_assoc]
    congr 1; funext c
    split
    · exact iha
    · exact ihb
    · rfl
  | block id b ih =>
    intro t h k
    simp only [den]
    rw [ih]
    congr 1; funext e t h
    unfold kB
    cases e with
    | exit i =>
      show bindR (match Nat.beq i id with | true => k .normal t h | false => k (.exit i) t h) K = match Nat.beq i id with | true => bindR (k .normal t h) K | false => bindR (k (.exit i) t h) K
      cases Nat.beq i id <;> rfl
    | _ => rfl
  | loop b ih =>
    intro t h k
    simp only [den]
    exact loopK_bind (fun t h k => ih (t := t) (h := h) (k := k))
  | scope b ih =>
    intro t h k
    simp only [den]
    rw [ih]
    congr 1; funext e t h
    unfold kB
    cases e with
    | goto l => simp only; rw [bindR_assoc]
    | _ => rfl
end

/-! ### Code, in the text's order -/
section
variable {δ β : Type} {P : Program} {r : Rec} {L N : Nat} {rd : Option Nat} {env : Env} {t0 : Tmps} {h h' : Heap} {k : Kont β} {Q : δ → β → Prop} {M : R δ} {φ : Fz} {lo : Nat} {own : OwnL}
theorem dseq {a b : Code} {t : Tmps} (hk : Sim (den P r L N rd a t h (kSeq P r L N rd b k)) M Q) : Sim (den P r L N rd (.seq a b) t h k) M Q := hk
theorem dskip {t : Tmps} (hk : Sim (k .normal t h) M Q) : Sim (den P r L N rd .skip t h k) M Q := hk
theorem dlabel {l : Nat} {t : Tmps} (hk : Sim (k .normal t h) M Q) : Sim (den P r L N rd (.label l) t h k) M Q := hk
theorem dret {t : Tmps} (hk : Sim (k .ret t h) M Q) : Sim (den P r L N rd .ret t h k) M Q := hk
theorem dexit {i : Nat} {t : Tmps} (hk : Sim (k (.exit i) t h) M Q) : Sim (den P r L N rd (.exit i) t h k) M Q := hk
theorem dblock {id : Nat} {b : Code} {t : Tmps} (hk : Sim (den P r L N rd b t h (kBlock id k)) M Q) : Sim (den P r L N rd (.block id b) t h k) M Q := hk
theorem nseq {b : Code} {t : Tmps} (hk : Sim (den P r L N rd b t h k) M Q) : Sim (kSeq P r L N rd b k .normal t h) M Q := hk
theorem rseq {b : Code} {t : Tmps} (hk : Sim (k .ret t h) M Q) : Sim (kSeq P r L N rd b k .ret t h) M Q := hk
theorem eseq {b : Code} {i : Nat} {t : Tmps} (hk : Sim (k (.exit i) t h) M Q) : Sim (kSeq P r L N rd b k (.exit i) t h) M Q := hk
theorem nblock {id : Nat} {t : Tmps} (hk : Sim (k .normal t h) M Q) : Sim (kBlock id k .normal t h) M Q := hk
theorem rblock {id : Nat} {t : Tmps} (hk : Sim (k .ret t h) M Q) : Sim (kBlock id k .ret t h) M Q := hk
theorem xblock {id : Nat} {t : Tmps} (hk : Sim (k .normal t h) M Q) : Sim (kBlock id k (.exit id) t h) M Q := by rw [kBlock_exit]; exact hk
theorem eblock {id i : Nat} {t : Tmps} (hi : Nat.beq i id = false) (hk : Sim (k (.exit i) t h) M Q) : Sim (kBlock id k (.exit i) t h) M Q := by
  have hne : i ≠ id := fun e => by subst e; rw [Nat.beq_refl] at hi; cases hi
  rw [kBlock_other hne]; exact hk
theorem rloop {b : Code} {n : Nat} {t : Tmps} (hk : Sim (k .ret t h) M Q) : Sim (kLoop P r L N rd b n k .ret t h) M Q := hk
theorem eloop {b : Code} {n i : Nat} {t : Tmps} (hk : Sim (k (.exit i) t h) M Q) : Sim (kLoop P r L N rd b n k (.exit i) t h) M Q := hk
def kScope (r : Rec) (N : Nat) (rd : Option Nat) (b : Code) (k : Kont β) : Kont β := fun e t h =>
  match e with
  | .goto l => bindR (r.again N b l t h rd) fun (e, t, h) => k e (cutT N t) h
  | e => k e t h
theorem dscope {b : Code} {t : Tmps} (hk : Sim (den P r L N rd b t h (kScope r N rd b k)) M Q) : Sim (den P r L N rd (.scope b) t h k) M Q := hk
theorem rscope {b : Code} {t : Tmps} (hk : Sim (k .ret t h) M Q) : Sim (kScope r N rd b k .ret t h) M Q := hk
theorem dcond {o : Operand} {a b : Code} {c : Bool} {M1 M2 : R δ} {t : Tmps} (ho : okO o = true) (hv : oev t o = .bool c) (h1 : c = true → Sim (den P r L N rd a t h k) M1 Q) (h2 : c = false → Sim (den P r L N rd b t h k) M2 Q) :
    Sim (den P r L N rd (.cond o a b) t h k) (if c = true then M1 else M2) Q := by
  rw [den_cond, ev_ok ho, hv]
  cases c with
  | true => exact h1 rfl
  | false => exact h2 rfl
theorem dcondT {o : Operand} {a b : Code} {t : Tmps} (ho : okO o = true) (hv : oev t o = .bool true) (h1 : Sim (den P r L N rd a t h k) M Q) : Sim (den P r L N rd (.cond o a b) t h k) M Q := by
  rw [den_cond, ev_ok ho, hv]; exact h1
theorem dcondF {o : Operand} {a b : Code} {t : Tmps} (ho : okO o = true) (hv : oev t o = .bool false) (h1 : Sim (den P r L N rd b t h k) M Q) : Sim (den P r L N rd (.cond o a b) t h k) M Q := by
  rw [den_cond, ev_ok ho, hv]; exact h1
end
end Go.AM
