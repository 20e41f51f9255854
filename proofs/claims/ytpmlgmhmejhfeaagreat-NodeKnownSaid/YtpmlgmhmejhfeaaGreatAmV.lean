/- A part of the abstract machine: definitions and lemmas for all programs, no claim of its own; no condition. -/
import Derived.Test.YtpmlgmhmejhfeaaGreatAmMemo
set_option linter.unusedVariables false
set_option linter.unusedSimpArgs false
namespace Go.AM
open Go

/-! ### The machine for the kernel: temporaries in a tree, operations looked at ahead of the run -/
abbrev TT := V8 (V8 (V8 Value))
section
variable {α β γ : Type}

noncomputable def g8 (d : D8) (v : V8 α) : α := @D8.rec (fun _ => α) v.a0 v.a1 v.a2 v.a3 v.a4 v.a5 v.a6 v.a7 d
theorem g8_eq {d : D8} {v : V8 α} : g8 d v = V8.get d v := by cases d <;> rfl
noncomputable def mo0 (v : V8 α) (f : α → (α → β) → β) (k : V8 α → β) : β := @V8.rec α (fun _ => β) (fun a0 a1 a2 a3 a4 a5 a6 a7 => f a0 fun y => k ⟨y, a1, a2, a3, a4, a5, a6, a7⟩) v
noncomputable def mo1 (v : V8 α) (f : α → (α → β) → β) (k : V8 α → β) : β := @V8.rec α (fun _ => β) (fun a0 a1 a2 a3 a4 a5 a6 a7 => f a1 fun y => k ⟨a0, y, a2, a3, a4, a5, a6, a7⟩) v
noncomputable def mo2 (v : V8 α) (f : α → (α → β) → β) (k : V8 α → β) : β := @V8.rec α (fun _ => β) (fun a0 a1 a2 a3 a4 a5 a6 a7 => f a2 fun y => k ⟨a0, a1, y, a3, a4, a5, a6, a7⟩) v
noncomputable def mo3 (v : V8 α) (f : α → (α → β) → β) (k : V8 α → β) : β := @V8.rec α (fun _ => β) (fun a0 a1 a2 a3 a4 a5 a6 a7 => f a3 fun y => k ⟨a0, a1, a2, y, a4, a5, a6, a7⟩) v
noncomputable def mo4 (v : V8 α) (f : α → (α → β) → β) (k : V8 α → β) : β := @V8.rec α (fun _ => β) (fun a0 a1 a2 a3 a4 a5 a6 a7 => f a4 fun y => k ⟨a0, a1, a2, a3, y, a5, a6, a7⟩) v
noncomputable def mo5 (v : V8 α) (f : α → (α → β) → β) (k : V8 α → β) : β := @V8.rec α (fun _ => β) (fun a0 a1 a2 a3 a4 a5 a6 a7 => f a5 fun y => k ⟨a0, a1, a2, a3, a4, y, a6, a7⟩) v
noncomputable def mo6 (v : V8 α) (f : α → (α → β) → β) (k : V8 α → β) : β := @V8.rec α (fun _ => β) (fun a0 a1 a2 a3 a4 a5 a6 a7 => f a6 fun y => k ⟨a0, a1, a2, a3, a4, a5, y, a7⟩) v
noncomputable def mo7 (v : V8 α) (f : α → (α → β) → β) (k : V8 α → β) : β := @V8.rec α (fun _ => β) (fun a0 a1 a2 a3 a4 a5 a6 a7 => f a7 fun y => k ⟨a0, a1, a2, a3, a4, a5, a6, y⟩) v
noncomputable def m8 (d : D8) (v : V8 α) (f : α → (α → β) → β) (k : V8 α → β) : β :=
  @D8.rec (fun _ => V8 α → (α → (α → β) → β) → (V8 α → β) → β) mo0 mo1 mo2 mo3 mo4 mo5 mo6 mo7 d v f k
theorem m8_eq {d : D8} {v : V8 α} {f : α → (α → β) → β} {k : V8 α → β} : m8 d v f k = f (V8.get d v) fun y => k (V8.set d v y) := by cases d <;> rfl

noncomputable def tg (a b c : D8) (t : TT) : Value := g8 c (g8 b (g8 a t))
noncomputable def ts0 (x : Value) (_ : Value) (k : Value → β) : β := k x
noncomputable def ts1 (c : D8) (x : Value) (l : V8 Value) (k : V8 Value → β) : β := m8 c l (ts0 x) k
noncomputable def ts2 (b c : D8) (x : Value) (m : V8 (V8 Value)) (k : V8 (V8 Value) → β) : β := m8 b m (ts1 c x) k
noncomputable def ts (a b c : D8) (t : TT) (x : Value) (k : TT → β) : β := m8 a t (ts2 b c x) k
def tset (a b c : D8) (t : TT) (x : Value) : TT := V8.set a t (V8.set b (V8.get a t) (V8.set c (V8.get b (V8.get a t)) x))
theorem ts_eq {a b c : D8} {t : TT} {x : Value} {k : TT → β} : ts a b c t x k = k (tset a b c t x) := by
  simp only [ts, ts2, ts1, ts0, m8_eq, tset]

noncomputable def TT.fn (t : TT) : Tmps := fun i => match Nat.blt i 512 with | true => tg (D8.of (Nat.div i 64)) (D8.of (Nat.mod (Nat.div i 8) 8)) (D8.of (Nat.mod i 8)) t | false => undef
theorem blt_iff {m n : Nat} : Nat.blt m n = true ↔ m < n := ⟨fun h => Nat.le_of_ble_eq_true h, fun h => Nat.ble_eq_true_of_le h⟩
theorem blt_f {m n : Nat} : Nat.blt m n = false ↔ n ≤ m := by
  cases hb : Nat.blt m n with
  | true => have := blt_iff.1 hb; simp; omega
  | false =>
    simp only [true_iff]
    by_cases h : m < n
    · rw [blt_iff.2 h] at hb; cases hb
    · omega

theorem fn_tset {t : TT} {i : Nat} {x : Value} (hi : i < 512) : TT.fn (tset (D8.of (Nat.div i 64)) (D8.of (Nat.mod (Nat.div i 8) 8)) (D8.of (Nat.mod i 8)) t x) = fun j => if j = i then x else TT.fn t j := by
  funext j
  unfold TT.fn
  cases hj : Nat.blt j 512 with
  | false =>
    have := blt_f.1 hj
    simp only
    rw [if_neg (by omega)]
  | true =>
    have hj' := blt_iff.1 hj
    simp only [tg, g8_eq, tset, V8.get_set]
    by_cases h : j = i
    · subst h; simp [V8.get_set]
    · simp only [h, if_false]
      by_cases h1 : D8.of (Nat.div i 64) = D8.of (Nat.div j 64)
      · have e1 : i / 64 = j / 64 := D8.of_inj (by show i / 64 < 8; omega) (by show j / 64 < 8; omega) h1
        simp only [h1, if_true, V8.get_set]
        by_cases h2 : D8.of (Nat.mod (Nat.div i 8) 8) = D8.of (Nat.mod (Nat.div j 8) 8)
        · have e2 : i / 8 % 8 = j / 8 % 8 := D8.of_inj (by show i / 8 % 8 < 8; omega) (by show j / 8 % 8 < 8; omega) h2
          simp only [h2, if_true, V8.get_set]
          by_cases h3 : D8.of (Nat.mod i 8) = D8.of (Nat.mod j 8)
          · have e3 : i % 8 = j % 8 := D8.of_inj (by show i % 8 < 8; omega) (by show j % 8 < 8; omega) h3
            omega
          · simp [h3]
        · simp [h2]
      · simp [h1]

/-- A tree that answers as a function does. -/
noncomputable def tab1 (f : Nat → Value) (i : Nat) : V8 Value := ⟨f i, f (Nat.add i 1), f (Nat.add i 2), f (Nat.add i 3), f (Nat.add i 4), f (Nat.add i 5), f (Nat.add i 6), f (Nat.add i 7)⟩
noncomputable def tab2 (f : Nat → Value) (i : Nat) : V8 (V8 Value) := ⟨tab1 f i, tab1 f (Nat.add i 8), tab1 f (Nat.add i 16), tab1 f (Nat.add i 24), tab1 f (Nat.add i 32), tab1 f (Nat.add i 40), tab1 f (Nat.add i 48), tab1 f (Nat.add i 56)⟩
noncomputable def tab (f : Nat → Value) : TT := ⟨tab2 f 0, tab2 f 64, tab2 f 128, tab2 f 192, tab2 f 256, tab2 f 320, tab2 f 384, tab2 f 448⟩
theorem tab1_get {f : Nat → Value} {i j : Nat} (hj : j < 8) : V8.get (D8.of j) (tab1 f i) = f (i + j) := by
  have : ∀ j : Fin 8, V8.get (D8.of j.1) (tab1 f i) = f (i + j.1) := fun j => match j with | ⟨0, _⟩ | ⟨1, _⟩ | ⟨2, _⟩ | ⟨3, _⟩ | ⟨4, _⟩ | ⟨5, _⟩ | ⟨6, _⟩ | ⟨7, _⟩ => rfl
  exact this ⟨j, hj⟩
theorem tab2_get {f : Nat → Value} {i j : Nat} (hj : j < 8) : V8.get (D8.of j) (tab2 f i) = tab1 f (i + 8 * j) := by
  have : ∀ j : Fin 8, V8.get (D8.of j.1) (tab2 f i) = tab1 f (i + 8 * j.1) := fun j => match j with | ⟨0, _⟩ | ⟨1, _⟩ | ⟨2, _⟩ | ⟨3, _⟩ | ⟨4, _⟩ | ⟨5, _⟩ | ⟨6, _⟩ | ⟨7, _⟩ => rfl
  exact this ⟨j, hj⟩
theorem tab_get {f : Nat → Value} {j : Nat} (hj : j < 8) : V8.get (D8.of j) (tab f) = tab2 f (64 * j) := by
  have : ∀ j : Fin 8, V8.get (D8.of j.1) (tab f) = tab2 f (64 * j.1) := fun j => match j with | ⟨0, _⟩ | ⟨1, _⟩ | ⟨2, _⟩ | ⟨3, _⟩ | ⟨4, _⟩ | ⟨5, _⟩ | ⟨6, _⟩ | ⟨7, _⟩ => rfl
  exact this ⟨j, hj⟩
theorem fn_tab {f : Tmps} (hf : ∀ i, 512 ≤ i → f i = undef) : TT.fn (tab f) = f := by
  funext i
  unfold TT.fn
  cases hi : Nat.blt i 512 with
  | false => exact (hf i (blt_f.1 hi)).symm
  | true =>
    have hi' := blt_iff.1 hi
    simp only [tg, g8_eq]
    rw [tab_get (by show i / 64 < 8; omega), tab2_get (by show i / 8 % 8 < 8; omega), tab1_get (by show i % 8 < 8; omega)]
    congr 1
    show 64 * (i / 64) + 8 * (i / 8 % 8) + i % 8 = i
    omega
theorem fn_cut {N : Nat} (hN : N ≤ 512) {t : Tmps} : TT.fn (tab (cutT N t)) = cutT N t := fn_tab fun i hi => by
  unfold cutT
  rw [blt_f.2 (by omega)]
end

/-! ### The heap's tree, strictly -/
section
variable {β : Type}
/-- The same as 'D8.of', by halves. -/
noncomputable def d8 (n : Nat) : D8 :=
  @Bool.rec (fun _ => D8)
    (@Bool.rec (fun _ => D8) (@Bool.rec (fun _ => D8) .d0 .d1 (Nat.ble 1 n)) (@Bool.rec (fun _ => D8) .d2 .d3 (Nat.ble 3 n)) (Nat.ble 2 n))
    (@Bool.rec (fun _ => D8) (@Bool.rec (fun _ => D8) .d4 .d5 (Nat.ble 5 n)) (@Bool.rec (fun _ => D8) .d6 .d7 (Nat.ble 7 n)) (Nat.ble 6 n))
    (Nat.ble 4 n)
theorem d8_eq {n : Nat} (hn : n < 8) : d8 n = D8.of n := by
  have : ∀ n : Fin 8, d8 n.1 = D8.of n.1 := fun n => match n with | ⟨0, _⟩ | ⟨1, _⟩ | ⟨2, _⟩ | ⟨3, _⟩ | ⟨4, _⟩ | ⟨5, _⟩ | ⟨6, _⟩ | ⟨7, _⟩ => rfl
  exact this ⟨n, hn⟩
noncomputable def hg4 (i : Nat) (t : HT4) : Blk :=
  g8 (d8 (Nat.mod i 8)) (g8 (d8 (Nat.mod (Nat.div i 8) 8)) (g8 (d8 (Nat.mod (Nat.div i 64) 8)) (g8 (d8 (Nat.div i 512)) t)))
noncomputable def hs0 (x : Blk) (_ : Blk) (k : Blk → β) : β := k x
noncomputable def hs1 (i : Nat) (x : Blk) (l : V8 Blk) (k : V8 Blk → β) : β := m8 (d8 (Nat.mod i 8)) l (hs0 x) k
noncomputable def hs2 (i : Nat) (x : Blk) (l : V8 (V8 Blk)) (k : V8 (V8 Blk) → β) : β := m8 (d8 (Nat.mod (Nat.div i 8) 8)) l (hs1 i x) k
noncomputable def hs3 (i : Nat) (x : Blk) (l : V8 (V8 (V8 Blk))) (k : V8 (V8 (V8 Blk)) → β) : β := m8 (d8 (Nat.mod (Nat.div i 64) 8)) l (hs2 i x) k
noncomputable def hs4 (i : Nat) (t : HT4) (x : Blk) (k : HT4 → β) : β := m8 (d8 (Nat.div i 512)) t (hs3 i x) k
theorem hg4_eq {i : Nat} (hi : i < 4096) {t : HT4}  : hg4 i t = HT4.get i t := by
  simp only [hg4, HT4.get, g8_eq]
  rw [d8_eq (n := Nat.div i 512) (by show i / 512 < 8; omega), d8_eq (n := Nat.mod (Nat.div i 64) 8) (by show i / 64 % 8 < 8; omega), d8_eq (n := Nat.mod (Nat.div i 8) 8) (by show i / 8 % 8 < 8; omega), d8_eq (n := Nat.mod i 8) (by show i % 8 < 8; omega)]
theorem hs4_eq {i : Nat} (hi : i < 4096) {t : HT4} {x : Blk} {k : HT4 → β} : hs4 i t x k = k (HT4.set i t x) := by
  simp only [hs4, hs3, hs2, hs1, hs0, m8_eq, HT4.set]
  rw [d8_eq (n := Nat.div i 512) (by show i / 512 < 8; omega), d8_eq (n := Nat.mod (Nat.div i 64) 8) (by show i / 64 % 8 < 8; omega), d8_eq (n := Nat.mod (Nat.div i 8) 8) (by show i / 8 % 8 < 8; omega), d8_eq (n := Nat.mod i 8) (by show i % 8 < 8; omega)]

noncomputable def hg (i : Nat) (t : HT) : Blk := hg4 (Nat.mod i 4096) (g8 (d8 (Nat.div i 4096)) t)
noncomputable def hs5 (i : Nat) (x : Blk) (l : HT4) (k : HT4 → β) : β := hs4 i l x k
noncomputable def hs (i : Nat) (t : HT) (x : Blk) (k : HT → β) : β := m8 (d8 (Nat.div i 4096)) t (hs5 (Nat.mod i 4096) x) k
theorem hg_eq {i : Nat} (hi : i < 32768) {t : HT} : hg i t = HT.get i t := by
  simp only [hg, HT.get, g8_eq]
  rw [hg4_eq (by show i % 4096 < 4096; omega), d8_eq (n := Nat.div i 4096) (by show i / 4096 < 8; omega)]
theorem hs_eq {i : Nat} (hi : i < 32768) {t : HT} {x : Blk} {k : HT → β} : hs i t x k = k (HT.set i t x) := by
  simp only [hs, hs5, m8_eq, HT.set]
  rw [hs4_eq (by show i % 4096 < 4096; omega), d8_eq (n := Nat.div i 4096) (by show i / 4096 < 8; omega)]

/-- The block at a place, if the heap isn't too great. -/
noncomputable def hread (h : Heap) (i : Nat) (k : Blk → R β) : R β :=
  @Bool.rec (fun _ => R β) (.error "heap") (@Bool.rec (fun _ => R β) (.error "heap") (k (hg i h.t)) (Nat.blt i h.n)) (Nat.blt i 32768)
theorem hread_ok {h : Heap} {i : Nat} {k : Blk → R β} {x : β} (hh : hread h i k = .ok x) : k (h.get i) = .ok x := by
  unfold hread at hh
  unfold Heap.get
  cases h1 : Nat.blt i 32768 with
  | false => rw [h1] at hh; cases hh
  | true =>
    rw [h1] at hh
    cases h2 : Nat.blt i h.n with
    | false => rw [h2] at hh; cases hh
    | true =>
      rw [h2] at hh
      simp only
      rw [← hg_eq (blt_iff.1 h1)]
      exact hh
noncomputable def hputK (n base wr hi : Nat) (k : Heap → R β) (t : HT) : R β := k ⟨n, t, base, wr, hi⟩
noncomputable def hput (h : Heap) (b : Blk) (k : Heap → R β) : R β :=
  @Heap.rec (fun _ => R β) (fun n t base wr hi => @Bool.rec (fun _ => R β) (.error "room") (hs n t b (hputK (Nat.succ n) base wr hi k)) (Nat.blt n 32768)) h
theorem hput_ok {h : Heap} {b : Blk} {k : Heap → R β} {x : β} (hh : hput h b k = .ok x) : h.room = .ok () ∧ k (h.put b) = .ok x := by
  obtain ⟨n, t, base, wr, hi⟩ := h
  unfold hput at hh
  simp only at hh
  cases h1 : Nat.blt n 32768 with
  | false => rw [h1] at hh; cases hh
  | true =>
    rw [h1] at hh
    simp only at hh
    rw [hs_eq (blt_iff.1 h1)] at hh
    exact ⟨by simp [Heap.room, must, h1], hh⟩
noncomputable def fmin (a b : Nat) (k : Nat → β) : β := @Bool.rec (fun _ => β) (k a) (k b) (Nat.ble b a)
noncomputable def fmax (a b : Nat) (k : Nat → β) : β := @Bool.rec (fun _ => β) (k a) (k b) (Nat.ble a b)
theorem ble_iff {m n : Nat} : Nat.ble m n = true ↔ m ≤ n := ⟨Nat.le_of_ble_eq_true, Nat.ble_eq_true_of_le⟩
theorem ble_f {m n : Nat} : Nat.ble m n = false ↔ n < m := by
  cases hb : Nat.ble m n with
  | true => have := ble_iff.1 hb; simp; omega
  | false =>
    simp only [true_iff]
    by_cases h : m ≤ n
    · rw [ble_iff.2 h] at hb; cases hb
    · omega
theorem fmin_eq {a b : Nat} {k : Nat → β} : fmin a b k = k (Nat.min a b) := by
  unfold fmin
  cases h : Nat.ble b a with
  | true => have := ble_iff.1 h; rw [show Nat.min a b = b from Nat.min_eq_right this]
  | false => have := ble_f.1 h; rw [show Nat.min a b = a from Nat.min_eq_left (by omega)]
theorem fmax_eq {a b : Nat} {k : Nat → β} : fmax a b k = k (Nat.max a b) := by
  unfold fmax
  cases h : Nat.ble a b with
  | true => have := ble_iff.1 h; rw [show Nat.max a b = b from Nat.max_eq_right this]
  | false => have := ble_f.1 h; rw [show Nat.max a b = a from Nat.max_eq_left (by omega)]
noncomputable def hwK (n base hi : Nat) (t : HT) (k : Heap → R β) (wr : Nat) : R β := k ⟨n, t, base, wr, hi⟩
noncomputable def hwH (n base wr i : Nat) (t : HT) (k : Heap → R β) (hi : Nat) : R β := fmin wr i (hwK n base hi t k)
noncomputable def hwT (n base wr hi i m : Nat) (k : Heap → R β) (t : HT) : R β :=
  @Bool.rec (fun _ => R β) (hwH n base wr i t k hi) (fmax hi m (hwH n base wr i t k)) (Nat.blt i base)
noncomputable def hwrite (h : Heap) (i : Nat) (b : Blk) (m : Nat) (k : Heap → R β) : R β :=
  @Heap.rec (fun _ => R β) (fun n t base wr hi => @Bool.rec (fun _ => R β) (.error "heap") (hs i t b (hwT n base wr hi i m k)) (Nat.blt i 32768)) h
theorem hwrite_ok {h : Heap} {i m : Nat} {b : Blk} {k : Heap → R β} {x : β} (hh : hwrite h i b m k = .ok x) : k (h.write i b m) = .ok x := by
  obtain ⟨n, t, base, wr, hi⟩ := h
  unfold hwrite at hh
  simp only at hh
  cases h1 : Nat.blt i 32768 with
  | false => rw [h1] at hh; cases hh
  | true =>
    rw [h1] at hh
    simp only at hh
    rw [hs_eq (blt_iff.1 h1)] at hh
    unfold hwT at hh
    simp only [Heap.write]
    cases h2 : Nat.blt i base with
    | false => rw [h2] at hh; simpa [hwH, fmin_eq, hwK] using hh
    | true => rw [h2] at hh; simpa [hwH, fmin_eq, fmax_eq, hwK] using hh
end
end Go.AM
