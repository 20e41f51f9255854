/- Of the abstract machine, for all programs: definitions and lemmas, no claim of its own; no condition. -/
import GoSem.Step
import Derived.Control
import Derived.Orders
set_option linter.unusedVariables false
set_option linter.unusedSimpArgs false
namespace Go.AM

inductive D8 where
  | d0 | d1 | d2 | d3 | d4 | d5 | d6 | d7
  deriving DecidableEq, Inhabited

structure V8 (α : Type) where
  a0 : α
  a1 : α
  a2 : α
  a3 : α
  a4 : α
  a5 : α
  a6 : α
  a7 : α

def V8.get {α : Type} (d : D8) (v : V8 α) : α :=
  match d with
  | .d0 => v.a0 | .d1 => v.a1 | .d2 => v.a2 | .d3 => v.a3 | .d4 => v.a4 | .d5 => v.a5 | .d6 => v.a6 | .d7 => v.a7

def V8.set {α : Type} (d : D8) (v : V8 α) (x : α) : V8 α :=
  match d with
  | .d0 => ⟨x, v.a1, v.a2, v.a3, v.a4, v.a5, v.a6, v.a7⟩
  | .d1 => ⟨v.a0, x, v.a2, v.a3, v.a4, v.a5, v.a6, v.a7⟩
  | .d2 => ⟨v.a0, v.a1, x, v.a3, v.a4, v.a5, v.a6, v.a7⟩
  | .d3 => ⟨v.a0, v.a1, v.a2, x, v.a4, v.a5, v.a6, v.a7⟩
  | .d4 => ⟨v.a0, v.a1, v.a2, v.a3, x, v.a5, v.a6, v.a7⟩
  | .d5 => ⟨v.a0, v.a1, v.a2, v.a3, v.a4, x, v.a6, v.a7⟩
  | .d6 => ⟨v.a0, v.a1, v.a2, v.a3, v.a4, v.a5, x, v.a7⟩
  | .d7 => ⟨v.a0, v.a1, v.a2, v.a3, v.a4, v.a5, v.a6, x⟩

theorem V8.get_set {α : Type} (d e : D8) (v : V8 α) (x : α) : V8.get e (V8.set d v x) = if d = e then x else V8.get e v := by
  cases d <;> cases e <;> rfl

def V8.all {α : Type} (x : α) : V8 α := ⟨x, x, x, x, x, x, x, x⟩
theorem V8.get_all {α : Type} (d : D8) (x : α) : V8.get d (V8.all x) = x := by cases d <;> rfl

def D8.of (n : Nat) : D8 :=
  match n with
  | 0 => .d0
  | 1 => .d1
  | 2 => .d2
  | 3 => .d3
  | 4 => .d4
  | 5 => .d5
  | 6 => .d6
  | _ => .d7
theorem D8.of_inj {m n : Nat} (hm : m < 8) (hn : n < 8) (h : D8.of m = D8.of n) : m = n := by
  have key : ∀ m : Fin 8, ∀ n : Fin 8, D8.of m.1 = D8.of n.1 → m.1 = n.1 := by decide
  exact key ⟨m, hm⟩ ⟨n, hn⟩ h

/-! ### Results -/
abbrev R := Except String
def bindR {α β : Type} (x : R α) (k : α → R β) : R β :=
  match x with
  | .ok a => k a
  | .error e => .error e
theorem bindR_ok {α β : Type} {x : R α} {k : α → R β} {b : β} : bindR x k = .ok b ↔ ∃ a, x = .ok a ∧ k a = .ok b := by
  cases x <;> simp [bindR]
def ofOpt {α : Type} (x : Option α) : R α :=
  match x with
  | some a => .ok a
  | none => .error "none"
theorem ofOpt_ok {α : Type} {x : Option α} {a : α} : ofOpt x = .ok a ↔ x = some a := by
  cases x <;> simp [ofOpt]
def must (b : Bool) : R Unit :=
  match b with
  | true => .ok ()
  | false => .error "must"
theorem must_ok {b : Bool} {u : Unit} : must b = .ok u ↔ b = true := by
  cases b <;> simp [must]

/-! ### Temporaries -/
abbrev Tmps := Nat → Value
/-- N: how many temporaries there are. -/
def put (N : Nat) (t : Tmps) (d : Option Tmp) (v : Value) : Tmps :=
  match d with
  | some i => match Nat.blt i N with
    | true => fun j => match Nat.beq j i with | true => v | false => t j
    | false => t
  | none => t

/-- Nothing at or beyond N. -/
def cutT (N : Nat) (t : Tmps) : Tmps := fun i => match Nat.blt i N with | true => t i | false => undef

/-! ### The heap: a tree of four levels of eight -/
/-- A row that is just as long as is known; one that may go on (elements of es cells each) and is the program's own; one that is read alone. -/
inductive Mode where
  | exact
  | grown (es : Nat)
  | ro (es : Nat)
  deriving DecidableEq, Inhabited
def Mode.es : Mode → Option Nat
  | .exact => none
  | .grown n => some n
  | .ro n => some n

structure ALoop where
  state : LoopState
  pending : Option Code
  ntmps : Nat
  tmps : Tmps
  params : Array Tmp
  assign : Code
  body : Code
  defers : Nat

inductive Blk where
  | cells (vs : List Value) (elem : TypeId) (m : Mode)
  | map (es : List MapEntry) (clock : Nat)
  | siter (s : ByteArray) (pos : Nat)
  | loop (r : ALoop)
  | defs
  | dead

abbrev HT4 := V8 (V8 (V8 (V8 Blk)))
def HT4.get (i : Nat) (t : HT4) : Blk :=
  V8.get (D8.of (Nat.mod i 8)) (V8.get (D8.of (Nat.mod (Nat.div i 8) 8)) (V8.get (D8.of (Nat.mod (Nat.div i 64) 8)) (V8.get (D8.of (Nat.div i 512)) t)))
def HT4.set (i : Nat) (t : HT4) (x : Blk) : HT4 :=
  V8.set (D8.of (Nat.div i 512)) t
    (V8.set (D8.of (Nat.mod (Nat.div i 64) 8)) (V8.get (D8.of (Nat.div i 512)) t)
      (V8.set (D8.of (Nat.mod (Nat.div i 8) 8)) (V8.get (D8.of (Nat.mod (Nat.div i 64) 8)) (V8.get (D8.of (Nat.div i 512)) t))
        (V8.set (D8.of (Nat.mod i 8)) (V8.get (D8.of (Nat.mod (Nat.div i 8) 8)) (V8.get (D8.of (Nat.mod (Nat.div i 64) 8)) (V8.get (D8.of (Nat.div i 512)) t))) x)))
def HT4.none : HT4 := V8.all (V8.all (V8.all (V8.all .dead)))
theorem HT4.get_set {i j : Nat} (hi : i < 4096) (hj : j < 4096) (t : HT4) (x : Blk) : HT4.get j (HT4.set i t x) = if i = j then x else HT4.get j t := by
  simp only [HT4.get, HT4.set, V8.get_set]
  by_cases h : i = j
  · subst h; simp [V8.get_set]
  · simp only [h, if_false]
    by_cases h1 : D8.of (Nat.div i 512) = D8.of (Nat.div j 512)
    · have e1 := D8.of_inj (by show i / 512 < 8; omega) (by show j / 512 < 8; omega) h1
      simp only [h1, if_true, V8.get_set]
      by_cases h2 : D8.of (Nat.mod (Nat.div i 64) 8) = D8.of (Nat.mod (Nat.div j 64) 8)
      · have e2 := D8.of_inj (by show i / 64 % 8 < 8; omega) (by show j / 64 % 8 < 8; omega) h2
        simp only [h2, if_true, V8.get_set]
        by_cases h3 : D8.of (Nat.mod (Nat.div i 8) 8) = D8.of (Nat.mod (Nat.div j 8) 8)
        · have e3 := D8.of_inj (by show i / 8 % 8 < 8; omega) (by show j / 8 % 8 < 8; omega) h3
          simp only [h3, if_true, V8.get_set]
          by_cases h4 : D8.of (Nat.mod i 8) = D8.of (Nat.mod j 8)
          · have e4 := D8.of_inj (by show i % 8 < 8; omega) (by show j % 8 < 8; omega) h4
            have e1' : i / 512 = j / 512 := e1
            have e2' : i / 64 % 8 = j / 64 % 8 := e2
            have e3' : i / 8 % 8 = j / 8 % 8 := e3
            have e4' : i % 8 = j % 8 := e4
            omega
          · simp [h4]
        · simp [h3]
      · simp [h2]
    · simp [h1]

structure HT where
  a : V8 HT4
  f : Nat → Blk
def HT.get (i : Nat) (t : HT) : Blk :=
  match Nat.blt i 32768 with
  | true => HT4.get (Nat.mod i 4096) (V8.get (D8.of (Nat.div i 4096)) t.a)
  | false => t.f i
def HT.set (i : Nat) (t : HT) (x : Blk) : HT :=
  match Nat.blt i 32768 with
  | true => { a := V8.set (D8.of (Nat.div i 4096)) t.a (HT4.set (Nat.mod i 4096) (V8.get (D8.of (Nat.div i 4096)) t.a) x), f := t.f }
  | false => { a := t.a, f := fun j => match Nat.beq i j with | true => x | false => t.f j }
def HT.none : HT := { a := V8.all HT4.none, f := fun _ => .dead }
theorem HT.get_set {i j : Nat} (t : HT) (x : Blk) : HT.get j (HT.set i t x) = if i = j then x else HT.get j t := by
  have bt : ∀ {a b : Nat}, Nat.blt a b = true ↔ a < b := by intro a b; unfold Nat.blt; rw [Nat.ble_eq]; exact Iff.rfl
  cases hi : Nat.blt i 32768 with
  | false =>
    have hi' : ¬ i < 32768 := fun e => by rw [bt.2 e] at hi; cases hi
    simp only [HT.set, hi]
    cases hj : Nat.blt j 32768 with
    | true =>
      have hj' := bt.1 hj
      simp only [HT.get, hj]
      rw [if_neg (by omega)]
    | false =>
      simp only [HT.get, hj]
      by_cases e : i = j
      · subst e; simp
      · cases hb : Nat.beq i j with
        | true => exact absurd (Nat.eq_of_beq_eq_true hb) e
        | false => simp [e]
  | true =>
    have hi' := bt.1 hi
    simp only [HT.set, hi]
    cases hj : Nat.blt j 32768 with
    | false =>
      have hj' : ¬ j < 32768 := fun e => by rw [bt.2 e] at hj; cases hj
      simp only [HT.get, hj]
      rw [if_neg (by omega)]
    | true =>
      have hj' := bt.1 hj
      simp only [HT.get, hj, V8.get_set]
      by_cases h1 : D8.of (Nat.div i 4096) = D8.of (Nat.div j 4096)
      · have e1 : i / 4096 = j / 4096 := D8.of_inj (by show i / 4096 < 8; omega) (by show j / 4096 < 8; omega) h1
        simp only [h1, if_true]
        rw [HT4.get_set (by show i % 4096 < 4096; omega) (by show j % 4096 < 4096; omega)]
        by_cases h : i = j
        · subst h; simp
        · have : Nat.mod i 4096 ≠ Nat.mod j 4096 := fun e => by
            have e' : i % 4096 = j % 4096 := e
            omega
          simp only [h, this, if_false]
      · have : i ≠ j := fun e => h1 (by rw [e])
        simp only [h1, this, if_false]

structure Heap where
  n : Nat
  t : HT
  base : Nat
  wr : Nat
  hi : Nat

def big : Nat := 18446744073709551616
/-- A capacity from here on is one that isn't known. -/
def unk : Nat := 9223372036854775808

def Heap.get (h : Heap) (i : Nat) : Blk :=
  match Nat.blt i h.n with
  | true => HT.get i h.t
  | false => .dead
def Heap.put (h : Heap) (b : Blk) : Heap := { h with n := h.n + 1, t := HT.set h.n h.t b }
def Heap.write (h : Heap) (i : Nat) (b : Blk) (m : Nat) : Heap :=
  { h with t := HT.set i h.t b, wr := Nat.min h.wr i, hi := match Nat.blt i h.base with | true => Nat.max h.hi m | false => h.hi }
/-- Room for one block more. -/
def Heap.room (_ : Heap) : R Unit := .ok ()

/-- One more than the greatest block that a value names. -/
def maxId : Nat → Value → Nat
  | 0, _ => big
  | f + 1, v =>
    match v with
    | .pointer (some a) => a.block + 1
    | .slice (some a) _ _ => a.block + 1
    | .map (some r) => r + 1
    | .func fn first captured =>
      Nat.max (match fn with | .yield l => l + 1 | _ => 0) (Nat.max (first.toList.foldr (fun c m => Nat.max (maxId f c) m) 0) (captured.toList.foldr (fun c m => Nat.max (maxId f c) m) 0))
    | .iface _ x => maxId f x
    | .agg cs => cs.toList.foldr (fun c m => Nat.max (maxId f c) m) 0
    | .tuple cs => cs.toList.foldr (fun c m => Nat.max (maxId f c) m) 0
    | _ => 0
def ids (v : Value) : Nat := maxId 20 v
def idsL (vs : List Value) : Nat := vs.foldr (fun c m => Nat.max (ids c) m) 0

/-- All that a value names lies below m. -/
def lowV : Nat → Nat → Value → Bool
  | 0, _, _ => false
  | f + 1, m, v =>
    match v with
    | .pointer (some a) => Nat.blt a.block m
    | .slice (some a) _ _ => Nat.blt a.block m
    | .map (some r) => Nat.blt r m
    | .func fn first captured => (match fn with | .yield l => Nat.blt l m | _ => true) && (first.toList.all (lowV f m) && captured.toList.all (lowV f m))
    | .iface _ x => lowV f m x
    | .agg cs => cs.toList.all (lowV f m)
    | .tuple cs => cs.toList.all (lowV f m)
    | _ => true

/-- Flat through and through: no addresses, no functions. -/
def plainV : Nat → Value → Bool
  | 0, _ => false
  | f + 1, v =>
    match v with
    | .bool _ | .int .. | .string _ | .nilIface | .nilFunc | .pointer none | .map none | .slice none 0 0 => true
    | .iface _ x => plainV f x
    | .agg cs => cs.toList.all (plainV f)
    | _ => false

/-! ### Tables -/
def under (P : Program) (t : TypeId) : R TypeDesc := ofOpt (P.underlying t)
def tsize (P : Program) (t : TypeId) : R Nat := bindR (ofOpt (P.info? t)) fun i => .ok i.size
def tbytes (P : Program) (t : TypeId) : R Nat := bindR (ofOpt (P.info? t)) fun i => .ok i.bytes
def tzero (P : Program) (t : TypeId) : R Value := bindR (ofOpt (P.info? t)) fun i => bindR (ofOpt i.zero) fun z => bindR (must (plainV 20 z)) fun _ => .ok z
def isAggD : TypeDesc → Bool
  | .struct _ | .array _ _ => true
  | _ => false
/-- How a variable of a type lies: its one cell as it is, or an aggregate of so many. -/
def wide (P : Program) (t : TypeId) : R (Option Nat) :=
  bindR (under P t) fun d => bindR (tsize P t) fun n => .ok (match isAggD d with | true => some n | false => none)

/-! ### Rows of cells -/
def cell (vs : List Value) (i : Nat) : R Value :=
  match vs[i]? with
  | some v => .ok v
  | none => .error "no such cell"
def cellsAt (vs : List Value) (i n : Nat) : R (List Value) :=
  match Nat.ble (i + n) vs.length with
  | true => .ok ((vs.drop i).take n)
  | false => .error "no such cells"
def setAt : List Value → Nat → List Value → List Value
  | vs, _, [] => vs
  | [], _, _ :: _ => []
  | _ :: vs, 0, x :: xs => x :: setAt vs 0 xs
  | v :: vs, i + 1, x :: xs => v :: setAt vs i (x :: xs)
def isCell : Value → Bool
  | .agg _ | .tuple _ => false
  | _ => true

def readW (vs : List Value) (off : Nat) (w : Option Nat) : R Value :=
  match w with
  | none => cell vs off
  | some n => bindR (cellsAt vs off n) fun l => .ok (.agg l.toArray)

def loadA (P : Program) (h : Heap) (ty : TypeId) (a : Addr) : R Value :=
  match h.get a.block, a.spot with
  | .cells vs _ _, none => bindR (wide P ty) fun w => readW vs a.off w
  | _, _ => .error "load"
def loadV (P : Program) (h : Heap) (ty : TypeId) (v : Value) : R Value :=
  match v with
  | .pointer (some a) => loadA P h ty a
  | _ => .error "load"

def storeCells (h : Heap) (b off : Nat) (xs : List Value) : R Heap :=
  match h.get b with
  | .cells vs e m =>
    match m with
    | .ro _ => .error "store: read-only"
    | m => bindR (must (Nat.ble (off + xs.length) vs.length && xs.all isCell)) fun _ => .ok (h.write b (.cells (setAt vs off xs) e m) (idsL xs))
  | _ => .error "store"
def storeV (P : Program) (h : Heap) (ty : TypeId) (a x : Value) : R Heap :=
  match a with
  | .pointer (some ⟨b, off, none⟩) => bindR (tsize P ty) fun n => bindR (must (Nat.beq x.cells.toList.length n)) fun _ => storeCells h b off x.cells.toList
  | _ => .error "store"

def partV (P : Program) (ty : TypeId) (cs : Array Value) (off : Nat) : R Value := bindR (wide P ty) fun w => readW cs.toList off w

def rowV (h : Heap) (e : TypeId) (cs : List Value) : R (Value × Heap) :=
  bindR h.room fun _ => bindR (must (cs.all isCell)) fun _ => .ok (.pointer (some ⟨h.n, 0, none⟩), h.put (.cells cs e .exact))

def intOf : Value → R Int
  | .int _ n => .ok n
  | _ => .error "int expected"

def sbound (x : Value) (y : Nat) : R Nat :=
  bindR (intOf x) fun i => bindR (must (decide (0 ≤ i) && decide (i ≤ (y : Int)))) fun _ => .ok i.toNat
def sbounds (len cap : Nat) (low high max : Option Value) : R (Nat × Nat × Nat) :=
  bindR (match max with | some v => sbound v cap | none => .ok cap) fun m =>
  bindR (match high, max with | some v, _ => sbound v m | none, none => .ok len | none, some _ => .error "slice") fun h =>
  bindR (match low with | some v => sbound v h | none => .ok 0) fun l => .ok (l, h, m)

/-- How wide the elements of a row are whose length isn't known. -/
def rowEs (h : Heap) (a : Option Addr) : R Nat :=
  match a with
  | some a => match h.get a.block with
    | .cells _ _ m => ofOpt m.es
    | _ => .error "row"
  | none => .error "row"

/-- How far a row that the program has grown may be sliced, as far as its cells are known. -/
def rowB (h : Heap) (a : Option Addr) (len es : Nat) : Nat :=
  match a with
  | some a => match h.get a.block with
    | .cells vs _ (.grown _) => Nat.max len (Nat.div (Nat.sub vs.length a.off) es)
    | _ => len
  | none => len
def sboundsU (h : Heap) (a : Option Addr) (len es : Nat) (lo hi : Option Value) : R (Nat × Nat × Nat) :=
  match sbounds len len lo hi none with
  | .ok r => .ok r
  | .error _ => sbounds len (rowB h a len es) lo hi none

def sliceV (P : Program) (h : Heap) (t : TypeId) (x : Value) (lo hi mx : Option Value) : R Value :=
  bindR (under P t) fun d =>
  match d, x with
  | .string, .string s =>
    match mx with
    | some _ => .error "slice"
    | none => bindR (sbounds s.size s.size lo hi none) fun (l, h, _) => .ok (.string (s.extract l h))
  | .slice e, .slice a len cap =>
    bindR (tsize P e) fun size =>
    match Nat.ble unk cap, mx with
    | true, none => bindR (rowEs h a) fun es => bindR (must (Nat.beq es size)) fun _ =>
      bindR (sboundsU h a len es lo hi) fun (l, h, _) => .ok (.slice (a.map (·.add (l * size))) (h - l) cap)
    | true, some _ => bindR (must (Nat.blt 0 len && Nat.blt len unk)) fun _ =>
      bindR (sbounds len len lo hi mx) fun (l, h, m) => .ok (.slice (if m = l then a else a.map (·.add (l * size))) (h - l) (m - l))
    | false, _ => bindR (must (Nat.ble len cap)) fun _ => bindR (sbounds len cap lo hi mx) fun (l, h, m) => .ok (.slice (if m = l then a else a.map (·.add (l * size))) (h - l) (m - l))
  | .array n e, .pointer (some a) =>
    bindR (must (Nat.blt n unk)) fun _ => bindR (tsize P e) fun size => bindR (sbounds n n lo hi mx) fun (l, h, m) => .ok (.slice (some (if m = l then a else a.add (l * size))) (h - l) (m - l))
  | _, _ => .error "slice"

def fieldAddrV (P : Program) (s : TypeId) (x : Value) (f : Nat) : R Value :=
  bindR (under P s) fun d =>
  match d, x with
  | .struct fields, .pointer (some a) =>
    bindR (ofOpt fields[f]?) fun fd => bindR (tsize P fd.type) fun n => bindR (must (Nat.blt 0 n)) fun _ => .ok (.pointer (some (a.add fd.offset)))
  | _, _ => .error "fieldAddr"

def fieldV (P : Program) (t : TypeId) (x : Value) (f : Nat) : R Value :=
  bindR (under P t) fun d =>
  match d, x with
  | .struct fields, .agg cs => bindR (ofOpt fields[f]?) fun fd => partV P fd.type cs fd.offset
  | _, _ => .error "field"

def inRange (i : Int) (len : Nat) : R Nat := bindR (must (decide (0 ≤ i) && decide (i < (len : Int)))) fun _ => .ok i.toNat

def indexAddrV (P : Program) (t : TypeId) (x ix : Value) : R Value :=
  bindR (intOf ix) fun i => bindR (under P t) fun d =>
  match d, x with
  | .array len e, .pointer (some a) => bindR (inRange i len) fun i => bindR (tsize P e) fun n => .ok (.pointer (some (a.add (i * n))))
  | .slice e, .slice (some a) len _ => bindR (inRange i len) fun i => bindR (tsize P e) fun n => .ok (.pointer (some (a.add (i * n))))
  | _, _ => .error "indexAddr"

def indexV (P : Program) (t : TypeId) (x ix : Value) : R Value :=
  bindR (intOf ix) fun i => bindR (under P t) fun d =>
  match d, x with
  | .array len e, .agg cs => bindR (inRange i len) fun i => bindR (tsize P e) fun n => partV P e cs (i * n)
  | .string, .string s => bindR (inRange i s.size) fun i => bindR (ofOpt s[i]?) fun b => .ok (.int .u8 b.toNat)
  | _, _ => .error "index"

/-! ### Building -/
def places (P : Program) : List Field → R (List (Nat × Nat))
  | [] => .ok []
  | f :: fs => bindR (tsize P f.type) fun n => bindR (places P fs) fun l => .ok ((f.offset, n) :: l)

def buildV (P : Program) (t : TypeId) (parts : List (Nat × Value)) : R Value :=
  bindR (tzero P t) fun z => bindR (under P t) fun d =>
  match d with
  | .struct fields => bindR (places P fields.toList) fun pl => bindR (ofOpt (Instr.fill (pl[·]?) z.cells parts)) fun cs => .ok (.agg cs)
  | .array _ e => bindR (tsize P e) fun n => bindR (ofOpt (Instr.fill (fun i => some (i * n, n)) z.cells parts)) fun cs => .ok (.agg cs)
  | _ => .error "build"

def zeros (zero : Array Value) (n : Nat) : Array Value := (Array.range n).map (zero[· % zero.size]!)

def zeroFor (P : Program) (e : TypeId) (n : Nat) : R (Array Value) :=
  match Nat.beq n 0 with
  | true => .ok #[]
  | false => bindR (tzero P e) fun z => .ok z.cells

def buildSliceV (P : Program) (h : Heap) (t : TypeId) (len : Nat) (parts : List (Nat × Value)) : R (Value × Heap) :=
  bindR (under P t) fun d =>
  match d with
  | .slice e =>
    bindR (tsize P e) fun n => bindR (must (Nat.ble (len * n) 16777216 && Nat.blt len unk)) fun _ => bindR (zeroFor P e (len * n)) fun z =>
    bindR (ofOpt (Instr.fill (fun i => some (i * n, n)) (zeros z (len * n)) parts)) fun cs =>
    bindR h.room fun _ => bindR (must (cs.toList.all isCell)) fun _ =>
    .ok (.slice (some ⟨h.n, 0, none⟩) len len, h.put (.cells cs.toList e .exact))
  | _ => .error "buildSlice"

def makeSliceV (P : Program) (h : Heap) (t : TypeId) (len cap : Value) : R (Value × Heap) :=
  bindR (under P t) fun d =>
  match d with
  | .slice e =>
    bindR (intOf len) fun l => bindR (intOf cap) fun c => bindR (tbytes P e) fun bytes =>
    bindR (must (decide (0 ≤ l) && decide (l ≤ c) && decide ((bytes : Int) * c ≤ 140737488355328) && decide (c ≤ 140737488355328))) fun _ =>
    bindR (tsize P e) fun n => bindR (zeroFor P e (c.toNat * n)) fun z =>
    bindR h.room fun _ => bindR (must (z.toList.all isCell)) fun _ =>
    .ok (.slice (some ⟨h.n, 0, none⟩) l.toNat c.toNat, h.put (.cells (zeros z (c.toNat * n)).toList e .exact))
  | _ => .error "makeSlice"

/-! ### Operations on plain data: the model's own, in a world that they don't look at -/
def pureRun {α : Type} (P : Program) (s : Sem α) : R α :=
  match s.run P default with
  | .ok a _ => .ok a
  | .halt _ _ => .error "halt"

/-- What an operation over plain data hands back must be seen to be plain. -/
def plainOut (r : R Value) : R Value := bindR r fun v => bindR (must (plainV 20 v)) fun _ => .ok v

def isNil : Value → Bool
  | .nilIface | .nilFunc | .slice none 0 0 | .pointer none | .map none => true
  | _ => false
/-- Which kind a nil value and one that isn't nil are of. -/
def nilVs : Value → Value → Nat
  | .nilIface, .iface _ _ => 1
  | .nilFunc, .func _ _ _ => 2
  | .slice none 0 0, .slice (some _) _ _ => 3
  | .pointer none, .pointer (some _) => 4
  | .map none, .map (some _) => 5
  | _, _ => 0
def descKind : TypeDesc → Nat
  | .interface _ => 1
  | .func _ _ _ => 2
  | .slice _ => 3
  | .pointer _ => 4
  | .map _ _ => 5
  | _ => 0

/-- One side nil, the other not. -/
def nilEq (P : Program) (t : TypeId) (x y : Value) : R Unit :=
  bindR (under P t) fun d => must ((Nat.blt 0 (nilVs x y) && Nat.beq (nilVs x y) (descKind d)) || (Nat.blt 0 (nilVs y x) && Nat.beq (nilVs y x) (descKind d)))

def isPtr : Value → Bool
  | .pointer _ => true
  | _ => false
def isEq : BinOp → Bool
  | .eql | .neq => true
  | _ => false

def binV (P : Program) (op : BinOp) (t : TypeId) (xo yo : Operand) (x y : Value) : R Value :=
  match plainV 20 x && plainV 20 y && (isEq op || !(isPtr x || isPtr y)) with
  | true => plainOut (pureRun P (do eqGuard op t xo yo x y; binOp op t x y))
  | false =>
    match op with
    | .eql => match isNil x || isNil y with
      | true => bindR (nilEq P t x y) fun _ => .ok (.bool false)
      | false => .error "compared"
    | .neq => match isNil x || isNil y with
      | true => bindR (nilEq P t x y) fun _ => .ok (.bool true)
      | false => .error "compared"
    | _ => .error "binOp"

def unV (P : Program) (op : UnOp) (x : Value) : R Value :=
  match plainV 1 x with
  | true => plainOut (pureRun P (Op.unary op x))
  | false => .error "unOp"

/-! ### Slices: append, copy -/
def readCells (h : Heap) (size n : Nat) : Value → R (List Value)
  | .slice (some a) _ _ =>
    match Nat.beq (n * size) 0 with
    | true => .ok []
    | false =>
      match h.get a.block, a.spot with
      | .cells vs _ _, none => cellsAt vs a.off (n * size)
      | _, _ => .error "cells"
  | .slice none _ _ => .ok []
  | .string s => .ok ((s.extract 0 n).data.toList.map fun b => .int .u8 b.toNat)
  | _ => .error "slice or string expected"

def lenOf : Value → R Nat
  | .slice _ n _ => .ok n
  | .string s => .ok s.size
  | _ => .error "slice or string expected"

/-- 'append' onto a row. -/
def appendAt (h : Heap) (size n : Nat) (e : TypeId) (new : List Value) (a : Addr) (sLen sCap : Nat) : R (Value × Heap) :=
  match h.get a.block, a.spot with
  | .cells vs e' m, none =>
    bindR (must (Nat.beq e' e)) fun _ =>
    match Nat.ble unk sCap with
    | true =>
      match m with
      | .grown es =>
        bindR (must (Nat.beq es size)) fun _ =>
        match Nat.ble (a.off + sLen * size + new.length) vs.length with
        | true => bindR (storeCells h a.block (a.off + sLen * size) new) fun h' => .ok (.slice (some a) (sLen + n) sCap, h')
        | false => bindR (cellsAt vs a.off (sLen * size)) fun old => bindR h.room fun _ =>
            .ok (.slice (some ⟨h.n, 0, none⟩) (sLen + n) unk, (h.write a.block .dead 0).put (.cells (old ++ new) e (.grown size)))
      | _ => .error "append: a row whose capacity isn't known"
    | false =>
      match Nat.ble (sLen + n) sCap with
      | true => bindR (storeCells h a.block (a.off + sLen * size) new) fun h' => .ok (.slice (some a) (sLen + n) sCap, h')
      | false => bindR (cellsAt vs a.off (sLen * size)) fun old => bindR h.room fun _ =>
          .ok (.slice (some ⟨h.n, 0, none⟩) (sLen + n) unk, h.put (.cells (old ++ new) e (.grown size)))
  | _, _ => .error "append: cells"

def appendV (P : Program) (h : Heap) (argTypes : Array TypeId) (args : List Value) : R (Value × Heap) :=
  match args with
  | [.slice base sLen sCap, x] =>
    bindR (ofOpt argTypes[0]?) fun sType => bindR (under P sType) fun d =>
    match d with
    | .slice e =>
      bindR (match argTypes[1]? with | some xt => bindR (under P xt) fun d => must (match d with | .int _ => false | _ => true) | none => .ok ()) fun _ =>
      bindR (tsize P e) fun size => bindR (lenOf x) fun n => bindR (readCells h size n x) fun new =>
      match Nat.beq n 0 with
      | true => bindR (must (Nat.ble sLen sCap)) fun _ => .ok (.slice base sLen sCap, h)
      | false =>
        bindR (tbytes P e) fun bytes => bindR (tzero P e) fun z =>
        bindR (must (Nat.beq z.cells.size size && Nat.ble ((2 * (sLen + n) + 768) * bytes) 140737488355328 && Nat.blt 0 size && Nat.blt 0 bytes && new.all isCell && Nat.beq new.length (n * size))) fun _ =>
        match base with
        | none => bindR (must (Nat.beq sLen 0 && Nat.beq sCap 0)) fun _ => bindR h.room fun _ => .ok (.slice (some ⟨h.n, 0, none⟩) n unk, h.put (.cells new e (.grown size)))
        | some a => appendAt h size n e new a sLen sCap
    | _ => .error "append"
  | _ => .error "append"

def copyV (P : Program) (h : Heap) (argTypes : Array TypeId) (args : List Value) : R (Value × Heap) :=
  match args with
  | [.slice base dLen _, src] =>
    bindR (ofOpt argTypes[0]?) fun dType => bindR (under P dType) fun d =>
    match d with
    | .slice e =>
      bindR (tsize P e) fun size => bindR (lenOf src) fun n => bindR (readCells h size (Nat.min n dLen) src) fun new =>
      match base, new with
      | none, _ => .ok (.int .i64 (Nat.min n dLen), h)
      | some _, [] => .ok (.int .i64 (Nat.min n dLen), h)
      | some ⟨b, off, none⟩, new => bindR (storeCells h b off new) fun h' => .ok (.int .i64 (Nat.min n dLen), h')
      | _, _ => .error "copy"
    | _ => .error "copy"
  | _ => .error "copy"

def clearV (P : Program) (h : Heap) (argTypes : Array TypeId) (args : List Value) : R Heap :=
  match args with
  | [.slice base n _] =>
    bindR (ofOpt argTypes[0]?) fun t => bindR (under P t) fun d =>
    match d with
    | .slice e =>
      match n, base with
      | 0, _ => .ok h
      | _, some ⟨b, off, none⟩ => bindR (tzero P e) fun z => storeCells h b off (Builtin.zeroCells z.cells n).toList
      | _, _ => .error "clear"
    | _ => .error "clear"
  | _ => .error "clear"

/-! ### Maps whose keys are integers, strings or bools -/
def keyEq (k x : Value) : R Bool :=
  match k, x with
  | .int a m, .int b n => bindR (must (decide (a = b))) fun _ => .ok (m == n)
  | .string a, .string b => .ok (a == b)
  | .bool a, .bool b => .ok (a == b)
  | _, _ => .error "key"
def findKey (k : Value) : List MapEntry → Nat → R (Option (Nat × Value))
  | [], _ => .ok none
  | e :: es, i => bindR (keyEq k e.key) fun b => match b with | true => .ok (some (i, e.val)) | false => findKey k es (i + 1)
def keyFits (P : Program) (t : TypeId) (k : Value) : R Unit :=
  bindR (under P t) fun d =>
  match d, k with
  | .int _, .int _ _ | .string, .string _ | .bool, .bool _ => .ok ()
  | _, _ => .error "map key"
def mapOf (h : Heap) : Value → R (List MapEntry)
  | .map none => .ok []
  | .map (some r) =>
    match h.get r with
    | .map es _ => .ok es
    | _ => .error "map"
  | _ => .error "map"

def lookupV (P : Program) (h : Heap) (t : TypeId) (m k : Value) (ok : Bool) : R Value :=
  bindR (under P t) fun d =>
  match d with
  | .map key e =>
    bindR (keyFits P key k) fun _ => bindR (mapOf h m) fun es => bindR (findKey k es 0) fun r => bindR (tzero P e) fun z =>
    .ok (match ok, r with
      | true, some (_, v) => .tuple #[v, .bool true]
      | true, none => .tuple #[z, .bool false]
      | false, some (_, v) => v
      | false, none => z)
  | _ => .error "map"

def updateV (P : Program) (h : Heap) (t : TypeId) (m k x : Value) : R Heap :=
  bindR (under P t) fun d =>
  match d, m with
  | .map key _, .map (some r) =>
    bindR (keyFits P key k) fun _ =>
    match h.get r with
    | .map es clock =>
      bindR (findKey k es 0) fun f =>
      match f with
      | some (i, _) => .ok (h.write r (.map (es.modify i fun e => { e with key := k, val := x }) clock) (ids x))
      | none => .ok (h.write r (.map (es ++ [{ key := k, val := x, born := clock }]) (clock + 1)) (ids x))
    | _ => .error "map"
  | _, _ => .error "map"

def deleteV (P : Program) (h : Heap) (argTypes : Array TypeId) (args : List Value) : R Heap :=
  match args with
  | [m, k] =>
    bindR (ofOpt argTypes[0]?) fun t => bindR (under P t) fun d =>
    match d, m with
    | .map key _, .map none => bindR (keyFits P key k) fun _ => .ok h
    | .map key _, .map (some r) =>
      bindR (keyFits P key k) fun _ =>
      match h.get r with
      | .map es clock =>
        bindR (findKey k es 0) fun f =>
        match f with
        | some (i, _) => .ok (h.write r (.map (es.eraseIdx i) clock) 0)
        | none => .ok (h.write r (.map es clock) 0)
      | _ => .error "map"
    | _, _ => .error "delete"
  | _ => .error "delete"

def lenV (P : Program) (h : Heap) (argTypes : Array TypeId) (args : List Value) : R Value :=
  match args with
  | [x] =>
    bindR (ofOpt argTypes[0]?) fun t => bindR (under P t) fun d =>
    match d, x with
    | .string, .string s => .ok (.int .i64 s.size)
    | .array n _, _ => .ok (.int .i64 n)
    | .slice _, .slice _ n _ => .ok (.int .i64 n)
    | .map _ _, m => bindR (mapOf h m) fun es => .ok (.int .i64 es.length)
    | _, _ => .error "len"
  | _ => .error "len"

def capV (P : Program) (argTypes : Array TypeId) (args : List Value) : R Value :=
  match args with
  | [.slice _ _ c] =>
    bindR (ofOpt argTypes[0]?) fun t => bindR (under P t) fun d =>
    match d with
    | .slice _ => bindR (must (Nat.blt c unk)) fun _ => .ok (.int .i64 c)
    | _ => .error "cap"
  | _ => .error "cap"

def bytesFrom (s : ByteArray) : List Value → R ByteArray
  | [] => .ok s
  | .int .u8 n :: l => bytesFrom (s.push (UInt8.ofNat n.toNat)) l
  | _ :: _ => .error "byte"

def convertV (P : Program) (h : Heap) (src dst : TypeId) (x : Value) : R (Value × Heap) :=
  bindR (under P src) fun ds => bindR (under P dst) fun dd =>
  match ds, dd, x with
  | _, .int k, .int _ n => .ok (.int k (k.wrap n), h)
  | _, .string, .string s => .ok (.string s, h)
  | _, .string, .int _ n => .ok (.string (Utf8.encode n), h)
  | .slice e, .string, .slice a len cap =>
    bindR (under P e) fun de =>
    match de with
    | .int .u8 => bindR (readCells h 1 len (.slice a len cap)) fun cs => bindR (bytesFrom ByteArray.empty cs) fun s => .ok (.string s, h)
    | _ => .error "convert"
  | _, _, _ => .error "convert"

def fails (P : Program) (asserted : TypeId) (ok : Bool) : R Value :=
  match ok with
  | true => bindR (tzero P asserted) fun z => .ok (.tuple #[z, .bool false])
  | false => .error "assert"
def holdsV (v : Value) (ok : Bool) : Value :=
  match ok with
  | true => .tuple #[v, .bool true]
  | false => v

def typeAssertV (P : Program) (x : Value) (asserted : TypeId) (ok : Bool) : R Value :=
  bindR (under P asserted) fun d =>
  match d, x with
  | .interface _, .nilIface => fails P asserted ok
  | .interface want, .iface t v => bindR (ofOpt (P.info? t)) fun i =>
    match Instr.missingMethod want i.methods with
    | none => .ok (holdsV (.iface t v) ok)
    | some _ => fails P asserted ok
  | _, .nilIface => fails P asserted ok
  | _, .iface t v => match Nat.beq t asserted with
    | true => .ok (holdsV v ok)
    | false => fails P asserted ok
  | _, _ => .error "assert"

/-! ### One operation -/
inductive Todo where
  | value (v : Value) (h : Heap)
  | enter (f : FuncId) (args : Array Value)
  | round (l : Nat) (args : Array Value)

def ev (t : Tmps) : Operand → R Value
  | .tmp i => .ok (t i)
  | .const v => match plainV 20 v with | true => .ok v | false => .error "a constant"
  | .global _ => .error "a global"
  | .func f => .ok (.func (.func f) #[] #[])
def evs (t : Tmps) : List Operand → R (List Value)
  | [] => .ok []
  | x :: xs => bindR (ev t x) fun v => bindR (evs t xs) fun vs => .ok (v :: vs)
def evo (t : Tmps) : Option Operand → R (Option Value)
  | none => .ok none
  | some x => bindR (ev t x) fun v => .ok (some v)
def evp (t : Tmps) : List (Nat × Operand) → R (List (Nat × Value))
  | [] => .ok []
  | (i, x) :: xs => bindR (ev t x) fun v => bindR (evp t xs) fun vs => .ok ((i, v) :: vs)

def val (h : Heap) (r : R Value) : R Todo := bindR r fun v => .ok (.value v h)
def valh (r : R (Value × Heap)) : R Todo := bindR r fun (v, h) => .ok (.value v h)
def valu (r : R Heap) : R Todo := bindR r fun h => .ok (.value undef h)

/-- A function that is entered when it is called. -/
def callable (P : Program) (f : FuncId) : R Unit :=
  bindR (ofOpt P.funcs[f]?) fun fn => must (fn.body.isSome && !(fn.name == "runtime.NumGoroutine"))

def invokeV (P : Program) (f : Value) (args : List Value) : R Todo :=
  match f with
  | .func (.func f) first captured => bindR (callable P f) fun _ => .ok (.enter f ((first ++ args.toArray) ++ captured))
  | .func (.yield l) _ _ => .ok (.round l args.toArray)
  | _ => .error "call: what?"

def builtinV (P : Program) (h : Heap) (b : Builtin) (argTypes : Array TypeId) (args : List Value) : R (Value × Heap) :=
  match b with
  | .append => appendV P h argTypes args
  | .copy => copyV P h argTypes args
  | .clear => bindR (clearV P h argTypes args) fun h => .ok (.tuple #[], h)
  | .len => bindR (lenV P h argTypes args) fun v => .ok (v, h)
  | .cap => bindR (capV P argTypes args) fun v => .ok (v, h)
  | .delete => bindR (deleteV P h argTypes args) fun h => .ok (.tuple #[], h)
  | .max => bindR (must (args.all (plainV 1))) fun _ => bindR (plainOut (pureRun P (Builtin.max_ argTypes 0 args.toArray))) fun v => .ok (v, h)
  | .min => bindR (must (args.all (plainV 1))) fun _ => bindR (plainOut (pureRun P (Builtin.min_ argTypes 0 args.toArray))) fun v => .ok (v, h)
  | _ => .error "builtin"

def nilCheckV (v : Value) : R Value :=
  match v with
  | .pointer (some a) => .ok (.pointer (some a))
  | .func (.func f) first captured => .ok (.func (.func f) first captured)
  | .func (.yield l) first captured => .ok (.func (.yield l) first captured)
  | _ => .error "nil"

def makeMapV (P : Program) (h : Heap) (t : TypeId) (hint : Option Value) : R (Value × Heap) :=
  bindR (under P t) fun d => bindR (match hint, d with | none, _ => .ok 0 | some v, .map _ _ => intOf v | _, _ => .error "makeMap") fun _ =>
  bindR h.room fun _ => .ok (.map (some h.n), h.put (.map [] 0))

def rangeV (P : Program) (h : Heap) (t : TypeId) (x : Value) : R (Value × Heap) :=
  bindR (under P t) fun d =>
  match d, x with
  | .string, .string s => bindR h.room fun _ => .ok (.pointer (some ⟨h.n, 0, none⟩), h.put (.siter s 0))
  | _, _ => .error "range"

def nextV (h : Heap) (it : Value) : R (Value × Heap) :=
  match it with
  | .pointer (some ⟨r, 0, none⟩) =>
    match h.get r with
    | .siter s pos =>
      match Nat.blt pos s.size with
      | true => .ok (.tuple #[.bool true, .int .i64 pos, .int .i32 (Utf8.decode s pos).1], h.write r (.siter s (pos + (Utf8.decode s pos).2)) 0)
      | false => .ok (.tuple #[.bool false], h)
    | _ => .error "next"
  | _ => .error "next"

def extractV (x : Value) (i : Nat) : R Value :=
  match x with
  | .tuple vs => ofOpt vs[i]?
  | _ => .error "extract"

def pickV (c a b : Value) : R Value :=
  match c with
  | .bool true => .ok a
  | .bool false => .ok b
  | _ => .error "pick"

def ifaceV (P : Program) (t : TypeId) (x : Value) : R Value :=
  bindR (under P t) fun d =>
  match d with
  | .interface _ => .error "makeInterface"
  | _ => .ok (.iface t x)

def callStep (P : Program) (c : Call) (t : Tmps) (h : Heap) : R Todo :=
  bindR (evs t c.args.toList) fun args =>
  match c.callee with
  | .builtin b => valh (builtinV P h b c.argTypes args)
  | .value f => bindR (ev t f) fun f => invokeV P f args
  | .invoke _ _ => .error "invoke"

def step (P : Program) (op : Op) (t : Tmps) (h : Heap) : R Todo :=
  match op with
  | .move x => val h (ev t x)
  | .assign x => val h (ev t x)
  | .pick c a b => bindR (ev t c) fun c => bindR (ev t a) fun a => bindR (ev t b) fun b => val h (pickV c a b)
  | .alloc e => bindR (tzero P e) fun z => valh (rowV h e z.cells.toList)
  | .box e x => bindR (ev t x) fun v => valh (rowV h e v.cells.toList)
  | .build ty parts => bindR (evp t parts.toList) fun l => val h (buildV P ty l)
  | .buildSlice ty len parts => bindR (evp t parts.toList) fun l => valh (buildSliceV P h ty len l)
  | .load ty a => bindR (ev t a) fun a => val h (loadV P h ty a)
  | .store ty a x => bindR (ev t a) fun a => bindR (ev t x) fun x => valu (storeV P h ty a x)
  | .nilCheck x => bindR (ev t x) fun x => val h (nilCheckV x)
  | .binOp op ty x y _ => bindR (ev t x) fun a => bindR (ev t y) fun b => val h (binV P op ty x y a b)
  | .unOp op _ x => bindR (ev t x) fun a => val h (unV P op a)
  | .convert s d x => bindR (ev t x) fun a => valh (convertV P h s d a)
  | .makeInterface ty x => bindR (ev t x) fun a => val h (ifaceV P ty a)
  | .makeFunc fn first captured => bindR (evs t first.toList) fun a => bindR (evs t captured.toList) fun b =>
      match fn with
      | .func f => .ok (.value (.func (.func f) a.toArray b.toArray) h)
      | _ => .error "makeFunc"
  | .makeMap ty r => bindR (evo t r) fun r => valh (makeMapV P h ty r)
  | .makeSlice ty l c => bindR (ev t l) fun l => bindR (ev t c) fun c => valh (makeSliceV P h ty l c)
  | .slice ty x lo hi mx => bindR (ev t x) fun x => bindR (evo t lo) fun lo => bindR (evo t hi) fun hi => bindR (evo t mx) fun mx => val h (sliceV P h ty x lo hi mx)
  | .fieldAddr s x f => bindR (ev t x) fun x => val h (fieldAddrV P s x f)
  | .field ty x f => bindR (ev t x) fun x => val h (fieldV P ty x f)
  | .indexAddr ty x i => bindR (ev t x) fun x => bindR (ev t i) fun i => val h (indexAddrV P ty x i)
  | .index ty x i => bindR (ev t x) fun x => bindR (ev t i) fun i => val h (indexV P ty x i)
  | .lookup ty x i ok => bindR (ev t x) fun x => bindR (ev t i) fun i => val h (lookupV P h ty x i ok)
  | .mapUpdate ty m k x => bindR (ev t m) fun m => bindR (ev t k) fun k => bindR (ev t x) fun x => valu (updateV P h ty m k x)
  | .insert ty m k x => bindR (ev t m) fun m => bindR (ev t k) fun k => bindR (ev t x) fun x => valu (updateV P h ty m k x)
  | .range ty x => bindR (ev t x) fun x => valh (rangeV P h ty x)
  | .next it true => bindR (ev t it) fun it => valh (nextV h it)
  | .typeAssert x _ ty ok => bindR (ev t x) fun x => val h (typeAssertV P x ty ok)
  | .extract x i => bindR (ev t x) fun x => val h (extractV x i)
  | .call c => callStep P c t h
  | _ => .error "op"

/-! ### Code, by continuations -/
inductive AExit where
  | normal
  | exit (id : Nat)
  | goto (l : Nat)
  | ret
  deriving DecidableEq, Inhabited

abbrev Kont (β : Type) := AExit → Tmps → Heap → R β

structure Rec where
  call : FuncId → Array Value → Heap → R (Value × Heap)
  round : Nat → Array Value → Heap → R (Value × Heap)
  again : Nat → Code → Nat → Tmps → Heap → Option Nat → R (AExit × Tmps × Heap)

def wanted (ops : Array Oper) (o : Oper) (t : Tmps) : Bool :=
  match o.guard with
  | none => true
  | some (j, want) =>
    match (ops[j]?).bind (·.dst) with
    | some d => match t d with
      | .bool b => b == want
      | _ => false
    | none => false

def oper {β : Type} (P : Program) (r : Rec) (N : Nat) (o : Oper) (t : Tmps) (h : Heap) (k : Tmps → Heap → R β) : R β :=
  bindR (step P o.op t h) fun td =>
  match td with
  | .value v h => k (put N t o.dst v) h
  | .enter f args => bindR (r.call f args h) fun (v, h) => k (put N t o.dst v) h
  | .round l args => bindR (r.round l args h) fun (v, h) => k (put N t o.dst v) h

def opers {β : Type} (P : Program) (r : Rec) (N : Nat) (ops : Array Oper) : List Oper → Tmps → Heap → Kont β → R β
  | [], t, h, k => k .normal t h
  | o :: os, t, h, k =>
    match wanted ops o t with
    | true => oper P r N o t h fun t h => opers P r N ops os t h k
    | false => opers P r N ops os (put N t o.dst undef) h k

def owned : Blk → Bool
  | .cells _ _ (.ro _) => false
  | .cells _ _ _ => true
  | .map _ _ => true
  | .siter _ _ => true
  | .loop _ => true
  | .defs => false
  | .dead => false

/-! ### A region that draws its order

Run in one order of its own: whatever asks nothing of the heap, and what reads it, as early as it may; then the one operation that may write, and so on.
What was read is read again ahead of the next write and at the end: so it is read alike wherever the program reads it. -/
def mustM (s : String) (b : Bool) : R Unit := match b with | true => .ok () | false => .error s
def sameL (f : Value → Value → Bool) : List Value → List Value → Bool
  | [], [] => true
  | x :: xs, y :: ys => match f x y with | true => sameL f xs ys | false => false
  | _, _ => false
def sameV : Nat → Value → Value → Bool
  | 0, _, _ => false
  | f + 1, x, y =>
    match x, y with
    | .bool a, .bool b => a == b
    | .int k a, .int l b => k == l && a == b
    | .string a, .string b => a.data.toList == b.data.toList
    | .pointer a, .pointer b => a == b
    | .slice a n c, .slice b m d => a == b && (Nat.beq n m && Nat.beq c d)
    | .map a, .map b => a == b
    | .func (.func g) as bs, .func (.func g') cs ds => Nat.beq g g' && (sameL (sameV f) as.toList cs.toList && sameL (sameV f) bs.toList ds.toList)
    | .nilFunc, .nilFunc => true
    | .nilIface, .nilIface => true
    | .iface t a, .iface u b => t == u && sameV f a b
    | .agg as, .agg bs => sameL (sameV f) as.toList bs.toList
    | .tuple as, .tuple bs => sameL (sameV f) as.toList bs.toList
    | _, _ => false

def isRead : Op → Bool
  | .load _ _ => true
  | .lookup _ _ _ _ => true
  | .slice _ _ _ _ _ => true
  | .call c => match c.callee with | .builtin .len => true | _ => false
  | _ => false

/-- An operation of a region: its place, the places that come before it, itself. -/
abbrev Spot := Nat × Nat × Oper
def lk : List Spot → Nat → Nat
  | [], _ => 0
  | (i, b, _) :: l, j => match Nat.beq i j with | true => b | false => lk l j
def maskE (acc : List Spot) : List Edge → Nat
  | [] => 0
  | e :: es => match Region.binds .any e with
    | true => Nat.lor (Nat.lor (Nat.pow 2 e.on) (lk acc e.on)) (maskE acc es)
    | false => maskE acc es
def planL : List Oper → Nat → List Spot → List Spot
  | [], _, _ => []
  | o :: os, i, acc => (i, maskE acc o.after.toList, o) :: planL os (Nat.succ i) ((i, maskE acc o.after.toList, o) :: acc)
def bit (m i : Nat) : Bool := Nat.testBit m i
def sub (a b : Nat) : Bool := Nat.beq (Nat.lor a b) b

/-- No two write one temporary; what an operation looks at is settled ahead of it; edges lead back. -/
def apart1 (ops : Array Oper) (N : Nat) (pl : List Spot) (x : Spot) : Bool :=
  (x.2.2.after.toList.all fun e => !Region.binds .any e || Nat.blt e.on x.1) &&
  (match x.2.2.dst with | some d => Nat.blt d N | none => true) &&
  pl.all fun y => match y.2.2.dst with
    | some d => (Nat.beq y.1 x.1 || !(x.2.2.dst == some d)) && ((bit x.2.1 y.1 || bit y.2.1 x.1) || !((x.2.2.looksAt ops).contains d))
    | none => true
def static (ops : Array Oper) (N : Nat) (pl : List Spot) : Bool := pl.all (apart1 ops N pl)

def blankN (m : Nat) : Heap := { n := m, t := HT.none, base := m, wr := big, hi := 0 }
def lowL (t : Tmps) (m : Nat) : List Operand → Bool
  | [] => true
  | .tmp i :: xs => match lowV 20 m (t i) with | true => lowL t m xs | false => false
  | _ :: xs => lowL t m xs
def freshOf (m : Nat) (hb : Heap) : R (Option Blk) :=
  match Nat.beq hb.n m with
  | true => .ok none
  | false => match Nat.beq hb.n (Nat.succ m), owned (hb.get m) with
    | true, true => .ok (some (hb.get m))
    | _, _ => .error "still"
def stillOf (P : Program) (o : Oper) (t : Tmps) (m : Nat) : R (Value × Option Blk) :=
  bindR (mustM "low" (lowL t m o.op.operands.toList)) fun _ => bindR (step P o.op t (blankN m)) fun td =>
  match td with
  | .value v hb => bindR (freshOf m hb) fun b => .ok (v, b)
  | _ => .error "still"

structure DS where
  done : Nat
  t : Tmps
  h : Heap
  rd : List (Nat × Oper × Tmps × Value)

def passOne (P : Program) (N : Nat) (ops : Array Oper) (x : Spot) (d : DS) : R DS :=
  match wanted ops x.2.2 d.t with
  | false => .ok { done := Nat.lor (Nat.pow 2 x.1) d.done, t := put N d.t x.2.2.dst undef, h := d.h, rd := d.rd }
  | true =>
    match stillOf P x.2.2 d.t d.h.n with
    | .ok (v, none) => .ok { done := Nat.lor (Nat.pow 2 x.1) d.done, t := put N d.t x.2.2.dst v, h := d.h, rd := d.rd }
    | .ok (v, some b) => bindR d.h.room fun _ => .ok { done := Nat.lor (Nat.pow 2 x.1) d.done, t := put N d.t x.2.2.dst v, h := d.h.put b, rd := d.rd }
    | .error _ =>
      match isRead x.2.2.op with
      | false => .ok d
      | true => bindR (step P x.2.2.op d.t d.h) fun td =>
        match td with
        | .value v _ => .ok { done := Nat.lor (Nat.pow 2 x.1) d.done, t := put N d.t x.2.2.dst v, h := d.h, rd := (x.1, x.2.2, d.t, v) :: d.rd }
        | _ => .error "read"
def pass (P : Program) (N : Nat) (ops : Array Oper) : List Spot → DS → R DS
  | [], d => .ok d
  | x :: xs, d =>
    match bit d.done x.1, sub x.2.1 d.done with
    | false, true => bindR (passOne P N ops x d) fun d => pass P N ops xs d
    | _, _ => pass P N ops xs d

def recheck (P : Program) (h : Heap) : List (Nat × Oper × Tmps × Value) → R Unit
  | [] => .ok ()
  | (_, o, t, v) :: l => bindR (step P o.op t h) fun td =>
    match td with
    | .value u _ => bindR (mustM ("recheck " ++ o.pos) (sameV 20 v u)) fun _ => recheck P h l
    | _ => .error "recheck"

def undone (done : Nat) : List Spot → List Spot
  | [] => []
  | x :: xs => match bit done x.1 with | true => undone done xs | false => x :: undone done xs

def stepV (P : Program) (r : Rec) (o : Oper) (t : Tmps) (h : Heap) : R (Value × Heap) :=
  bindR (step P o.op t h) fun td =>
  match td with
  | .value v h => .ok (v, h)
  | .enter f args => r.call f args h
  | .round l args => r.round l args h

def drawW {β : Type} (P : Program) (r : Rec) (N : Nat) (ops : Array Oper) (pl : List Spot) (rec : DS → R β) (d : DS) (k : Kont β) : R β :=
  match undone d.done pl with
  | [] => k .normal d.t d.h
  | x :: xs => bindR (mustM ("drawW " ++ x.2.2.pos) (sub x.2.1 d.done && wanted ops x.2.2 d.t && xs.all fun y => !sub y.2.1 d.done)) fun _ =>
    bindR (stepV P r x.2.2 d.t d.h) fun (v, h) =>
    rec { done := Nat.lor (Nat.pow 2 x.1) d.done, t := put N d.t x.2.2.dst v, h := h, rd := d.rd.filter fun y => !bit x.2.1 y.1 }

def drawL {β : Type} (P : Program) (r : Rec) (N : Nat) (ops : Array Oper) (pl : List Spot) (k : Kont β) : Nat → DS → R β
  | 0, _ => .error "fuel"
  | n + 1, d => bindR (pass P N ops pl d) fun d => bindR (recheck P d.h d.rd) fun _ => drawW P r N ops pl (drawL P r N ops pl k n) d k

def drawK {β : Type} (P : Program) (r : Rec) (N : Nat) (ops : Array Oper) (t : Tmps) (h : Heap) (k : Kont β) : R β :=
  bindR (mustM "static" (P.follows .mixedOrders && static ops N (planL ops.toList 0 []))) fun _ =>
  drawL P r N ops (planL ops.toList 0 []) k (Nat.succ ops.size) { done := 0, t := t, h := h, rd := [] }

def loopK {β : Type} (body : Tmps → Heap → Kont β → R β) : Nat → Tmps → Heap → Kont β → R β
  | 0, _, _, _ => .error "fuel"
  | n + 1, t, h, k => body t h fun e t h =>
    match e with
    | .normal => loopK body n t h k
    | e => k e t h

def rangeEnd {β : Type} (l : Nat) (t : Tmps) (h : Heap) (k : Kont β) : R β :=
  match h.get l with
  | .loop r =>
    match r.state with
    | .busy => .error "range: busy"
    | _ =>
      match r.pending with
      | none => k .normal t (h.write l (.loop { r with state := .exhausted }) 0)
      | some .ret => k .ret t (h.write l (.loop { r with state := .exhausted }) 0)
      | some (.exit id) => k (.exit id) t (h.write l (.loop { r with state := .exhausted }) 0)
      | some (.goto g) => k (.goto g) t (h.write l (.loop { r with state := .exhausted }) 0)
      | _ => .error "range: jump"
  | _ => .error "range: no loop"

def rangeCall {β : Type} (P : Program) (r : Rec) (g : Value) (l : Nat) (t : Tmps) (h : Heap) (k : Kont β) : R β :=
  bindR (invokeV P g [.func (.yield l) #[] #[]]) fun td =>
  match td with
  | .enter f args => bindR (r.call f args h) fun (_, h) => rangeEnd l t h k
  | _ => .error "range: what?"

def rangeK {β : Type} (P : Program) (r : Rec) (N : Nat) (g : Operand) (ps : Array Tmp) (assign body : Code) (t : Tmps) (h : Heap) (rd : Option Nat) (k : Kont β) : R β :=
  bindR (ev t g) fun gv =>
  match rd with
  | some l =>
    match h.get l with
    | .loop r' => bindR h.room fun _ =>
        rangeCall P r gv h.n t (h.put (.loop { state := .ready, pending := none, ntmps := N, tmps := t, params := ps, assign, body, defers := r'.defers })) k
    | _ => .error "round"
  | none => bindR h.room fun _ =>
        rangeCall P r gv (h.n + 1) t ((h.put .defs).put (.loop { state := .ready, pending := none, ntmps := N, tmps := t, params := ps, assign, body, defers := h.n })) k

def den {β : Type} (P : Program) (r : Rec) (L N : Nat) (rd : Option Nat) : Code → Tmps → Heap → Kont β → R β
  | .skip, t, h, k => k .normal t h
  | .label _, t, h, k => k .normal t h
  | .region _ ops false, t, h, k => opers P r N ops ops.toList t h k
  | .region _ ops true, t, h, k => drawK P r N ops t h k
  | .seq a b, t, h, k => den P r L N rd a t h fun e t h =>
    match e with
    | .normal => den P r L N rd b t h k
    | e => k e t h
  | .cond x a b, t, h, k => bindR (ev t x) fun c =>
    match c with
    | .bool true => den P r L N rd a t h k
    | .bool false => den P r L N rd b t h k
    | _ => .error "cond"
  | .block id b, t, h, k => den P r L N rd b t h fun e t h =>
    match e with
    | .exit i => match Nat.beq i id with
      | true => k .normal t h
      | false => k (.exit i) t h
    | e => k e t h
  | .loop b, t, h, k => loopK (fun t h k => den P r L N rd b t h k) L t h k
  | .scope b, t, h, k => den P r L N rd b t h fun e t h =>
    match e with
    | .goto l => bindR (r.again N b l t h rd) fun (e, t, h) => k e (cutT N t) h
    | e => k e t h
  | .exit id, t, h, k => k (.exit id) t h
  | .goto l, t, h, k => k (.goto l) t h
  | .ret, t, h, k => k .ret t h
  | .refuse _, _, _, _ => .error "refuse"
  | .rangeFunc g ps assign body, t, h, k => rangeK P r N g ps assign body t h rd k

/-! ### Functions -/
def resultV (P : Program) (t : Tmps) (h : Heap) : ResultVar → R Value
  | .tmp i => .ok (t i)
  | .cell a ty => loadV P h ty (t a)
def resultsL (P : Program) (t : Tmps) (h : Heap) : List ResultVar → R (List Value)
  | [] => .ok []
  | x :: xs => bindR (resultV P t h x) fun v => bindR (resultsL P t h xs) fun vs => .ok (v :: vs)
def resultsV (P : Program) (rs : List ResultVar) (t : Tmps) (h : Heap) : R Value :=
  bindR (resultsL P t h rs) fun vs =>
  match vs with
  | [v] => .ok v
  | vs => .ok (.tuple vs.toArray)

def tmpsOf (args : Array Value) : Tmps := fun i => args.getD i undef

/-- The end of a function that is cut off: nothing that the caller had was written, and the result names nothing new. The others go on with the heap as it is. -/
def leaveC (c : Bool) (h0 h : Heap) (v : Value) : R (Value × Heap) :=
  match c with
  | true => match lowV 20 h0.n v, Nat.ble h0.n h.wr with
    | true, true => .ok (v, h0)
    | _, _ => .error "cut"
  | false => .ok (v, h)

def enter (h : Heap) : Heap := { n := h.n, t := h.t, base := h.n, wr := h.n, hi := 0 }

def enterC (c : Bool) (h : Heap) : Heap := match c with | true => enter h | false => h

def callB (P : Program) (r : Rec) (L : Nat) (cut : Bool) (f : FuncId) (args : Array Value) (h0 : Heap) : R (Value × Heap) :=
  bindR (ofOpt P.funcs[f]?) fun fn => bindR (ofOpt fn.body) fun c => bindR (must (Nat.ble args.size fn.ntmps)) fun _ =>
  den P r L fn.ntmps none c (tmpsOf args) (enterC cut h0) fun e t h =>
    match e with
    | .normal => bindR (resultsV P fn.results.toList t h) fun v => leaveC cut h0 h v
    | .ret => bindR (resultsV P fn.results.toList t h) fun v => leaveC cut h0 h v
    | _ => .error "a jump out"

/-- How a function is called: as it stands; cut off; or it is the library's sort of integers, taken as one step. -/
inductive Cut where
  | no
  | yes
  | sort
  | compact
def intsOf : List Value → R (List Int)
  | [] => .ok []
  | v :: vs => match v with
    | .int .i64 n => bindR (intsOf vs) fun l => .ok (n :: l)
    | _ => .error "ints"
def insI (x : Int) : List Int → List Int
  | [] => [x]
  | y :: ys => match Int.decLe x y with | .isTrue _ => x :: y :: ys | .isFalse _ => y :: insI x ys
def sortI : List Int → List Int
  | [] => []
  | x :: xs => insI x (sortI xs)
def sortC (args : List Value) (h : Heap) : R (Value × Heap) :=
  match args with
  | [.slice a n _] =>
    match n, a with
    | 0, _ => .ok (.tuple #[], h)
    | n + 1, some ⟨b, o, none⟩ =>
      match h.get b with
      | .cells vs _ _ => bindR (must (Nat.ble (o + (n + 1)) vs.length && Nat.blt n 1000000000000)) fun _ => bindR (intsOf ((vs.drop o).take (n + 1))) fun zs =>
        bindR (storeCells h b o ((sortI zs).map (Value.int .i64))) fun h' => .ok (.tuple #[], h')
      | _ => .error "sort"
    | _, _ => .error "sort"
  | _ => .error "sort"
def cmpI : Int → List Int → List Int
  | _, [] => []
  | p, x :: xs => match Int.decEq x p with | .isTrue _ => cmpI p xs | .isFalse _ => x :: cmpI x xs
def compactI : List Int → List Int
  | [] => []
  | x :: xs => x :: cmpI x xs
def compactC (args : List Value) (h : Heap) : R (Value × Heap) :=
  match args with
  | [.slice a n c] =>
    match n, a with
    | 0, _ => .ok (.slice a 0 c, h)
    | n + 1, some ⟨b, o, none⟩ =>
      match h.get b with
      | .cells vs e m => bindR (must (Nat.ble (o + (n + 1)) vs.length && Nat.blt n 1000000000000 && Nat.ble (n + 1) c)) fun _ => bindR (intsOf ((vs.drop o).take (n + 1))) fun zs =>
        bindR (storeCells h b o ((compactI zs ++ List.replicate (n + 1 - (compactI zs).length) 0).map (Value.int .i64))) fun h' =>
        .ok (.slice (some ⟨b, o, none⟩) (compactI zs).length c,
          match m with
          | .grown _ => h'.write b (.cells ((setAt vs o ((compactI zs ++ List.replicate (n + 1 - (compactI zs).length) 0).map (Value.int .i64))).take (o + (compactI zs).length)) e m) 0
          | _ => h')
      | _ => .error "compact"
    | _, _ => .error "compact"
  | _ => .error "compact"
def callK (P : Program) (r : Rec) (L : Nat) (cut : FuncId → Cut) (f : FuncId) (args : Array Value) (h0 : Heap) : R (Value × Heap) :=
  match cut f with
  | .no => callB P r L false f args h0
  | .yes => callB P r L true f args h0
  | .sort => sortC args.toList h0
  | .compact => compactC args.toList h0

def roundEnd (l : Nat) (e : AExit) (h : Heap) : R (Value × Heap) :=
  match h.get l with
  | .loop r =>
    match e with
    | .normal => .ok (.bool true, h.write l (.loop { r with state := .ready, pending := none }) 0)
    | .ret => .ok (.bool false, h.write l (.loop { r with state := .done, pending := some .ret }) 0)
    | .exit id => .ok (.bool false, h.write l (.loop { r with state := .done, pending := some (.exit id) }) 0)
    | .goto g => .ok (.bool false, h.write l (.loop { r with state := .done, pending := some (.goto g) }) 0)
  | _ => .error "round"

def setAll (N : Nat) (t : Tmps) : List Tmp → List Value → Tmps
  | d :: ds, v :: vs => setAll N (put N t (some d) v) ds vs
  | _, _ => t

def roundK (P : Program) (r : Rec) (L : Nat) (l : Nat) (args : Array Value) (h : Heap) : R (Value × Heap) :=
  match h.get l with
  | .loop q =>
    bindR (must (Nat.beq q.params.size args.size)) fun _ =>
    den P r L q.ntmps (some l) q.assign (cutT q.ntmps (setAll q.ntmps q.tmps q.params.toList args.toList)) h fun e t h =>
    match e, h.get l with
    | .normal, .loop q' =>
      match q'.state with
      | .ready => den P r L q.ntmps (some l) q.body t (h.write l (.loop { q' with state := .busy }) 0) fun e _ h => roundEnd l e h
      | _ => .error "yield: not ready"
    | _, _ => .error "round"
  | _ => .error "yield: no loop"

def againK (P : Program) (r : Rec) (L N : Nat) (b : Code) (l : Nat) (t : Tmps) (h : Heap) (rd : Option Nat) : R (AExit × Tmps × Heap) :=
  match findLabel b l with
  | none => .ok (.goto l, t, h)
  | some rest => den P r L N rd rest (cutT N t) h fun e t h =>
    match e with
    | .goto l => r.again N b l t h rd
    | e => .ok (e, t, h)

def recN (P : Program) (L : Nat) (cut : FuncId → Cut) : Nat → Rec
  | 0 => { call := fun _ _ _ => .error "fuel", round := fun _ _ _ => .error "fuel", again := fun _ _ _ _ _ _ => .error "fuel" }
  | n + 1 => { call := callK P (recN P L cut n) L cut, round := roundK P (recN P L cut n) L, again := fun N => againK P (recN P L cut n) L N }

end Go.AM
