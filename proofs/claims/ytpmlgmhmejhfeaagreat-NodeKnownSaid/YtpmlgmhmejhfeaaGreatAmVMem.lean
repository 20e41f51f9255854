/- A part of the abstract machine: definitions and lemmas for all programs, no claim of its own; no condition. -/
import Derived.Test.YtpmlgmhmejhfeaaGreatAmVStep
set_option linter.unusedVariables false
set_option linter.unusedSimpArgs false
namespace Go.AM
open Go

section
variable {β : Type} {P : Program}

/-! ### Memory -/
noncomputable def readK (vs : List Value) (off : Nat) (w : Option Nat) (k : Value → R β) : R β :=
  @Option.rec Nat (fun _ => R β) (nthK vs off k) (fun n => dropK vs off fun l => takeK n l fun r => k (.agg ⟨r⟩)) w
theorem readK_ok {vs : List Value} {off : Nat} {w : Option Nat} {k : Value → R β} {x : β} (h : readK vs off w k = .ok x) : ∃ v, readW vs off w = .ok v ∧ k v = .ok x := by
  cases w with
  | none =>
    obtain ⟨v, h1, h2⟩ := nthK_ok (show nthK vs off k = .ok x from h)
    exact ⟨v, by simp only [readW, cell, h1], h2⟩
  | some n =>
    obtain ⟨h1, h2⟩ := dropK_ok (show dropK vs off (fun l => takeK n l fun r => k (.agg ⟨r⟩)) = .ok x from h)
    obtain ⟨h3, h4⟩ := takeK_ok h2
    refine ⟨.agg ⟨(vs.drop off).take n⟩, ?_, h4⟩
    have : Nat.ble (off + n) vs.length = true := ble_iff.2 (by simp at h3; omega)
    simp only [readW, cellsAt, this, bindR]
noncomputable def v_load (w : Option Nat) (a : Opd) : OpB β :=
  ⟨fun _ tt h k => vP (a.f tt) fun b off s => noneK s (hread h b fun blk => bC blk fun vs _ _ => readK vs off w fun v => k v h)⟩
theorem load_ok {ty : TypeId} {x : Operand} {w : Option Nat} {a : Opd} (ha : ∀ tt, ev (TT.fn tt) x = .ok (a.f tt)) (hw : wide P ty = .ok w) : OpOk P (.load ty x) (v_load (β := β) w a) := fun r tt h k z hh => by
  obtain ⟨b, off, s, h1, h2⟩ := vP_ok hh
  obtain ⟨rfl, h3⟩ := noneK_ok h2
  have h4 := hread_ok h3
  obtain ⟨vs, e, m, h5, h6⟩ := bC_ok h4
  obtain ⟨v, h7, h8⟩ := readK_ok h6
  refine ⟨v, h, stepW_val ?_, h8⟩
  simp only [step, ha, h1, bindR, loadV, loadA, h5, hw, h7, val]

noncomputable def v_store (n : Nat) (a x : Opd) : OpB β :=
  ⟨fun _ tt h k => vP (a.f tt) fun b off s => noneK s (vC (x.f tt) fun xs => ifB (Nat.beq (lenN xs) n)
    (hread h b fun blk => bC blk fun vs e m => roK m (setAtK off xs vs fun vs' => hwrite h b (.cells vs' e m) (idsL xs) (k undef))) (.error "store"))⟩
theorem store_ok {ty : TypeId} {x y : Operand} {n : Nat} {a b : Opd} (ha : ∀ tt, ev (TT.fn tt) x = .ok (a.f tt)) (hb : ∀ tt, ev (TT.fn tt) y = .ok (b.f tt)) (hn : tsize P ty = .ok n) :
    OpOk P (.store ty x y) (v_store (β := β) n a b) := fun r tt h k z hh => by
  obtain ⟨b', off, s, h1, h2⟩ := vP_ok hh
  obtain ⟨rfl, h3⟩ := noneK_ok h2
  have h4 := vC_ok h3
  obtain ⟨h5, h6⟩ := ifB_ok h4
  have h7 := hread_ok h6
  obtain ⟨vs, e, m, h8, h9⟩ := bC_ok h7
  obtain ⟨h10, h11⟩ := roK_ok h9
  obtain ⟨h12, h13, h14⟩ := setAtK_ok h11
  have h15 := hwrite_ok h14
  rw [lenN_eq] at h5
  refine ⟨undef, _, stepW_val ?_, h15⟩
  have hle : Nat.ble (off + (b.f tt).cells.toList.length) vs.length = true := ble_iff.2 h12
  simp only [step, ha, hb, h1, bindR, storeV, hn, h5, must, storeCells, h8, hle, h13, Bool.and_self, valu]

noncomputable def v_alloc (cs : List Value) (e : TypeId) : OpB β := ⟨fun _ _ h k => hput h (.cells cs e .exact) (k (.pointer (some ⟨h.n, 0, none⟩)))⟩
theorem alloc_ok {e : TypeId} {z : Value} (hz : tzero P e = .ok z) (hc : z.cells.toList.all isCell = true) : OpOk P (.alloc e) (v_alloc (β := β) z.cells.toList e) := fun r tt h k x hh => by
  obtain ⟨h1, h2⟩ := hput_ok hh
  exact ⟨_, _, stepW_val (by simp only [step, hz, bindR, rowV, h1, hc, must, valh]), h2⟩
noncomputable def v_box (e : TypeId) (a : Opd) : OpB β := ⟨fun _ tt h k => vC (a.f tt) fun cs => cellsK cs (hput h (.cells cs e .exact) (k (.pointer (some ⟨h.n, 0, none⟩))))⟩
theorem box_ok {e : TypeId} {x : Operand} {a : Opd} (ha : ∀ tt, ev (TT.fn tt) x = .ok (a.f tt)) : OpOk P (.box e x) (v_box (β := β) e a) := fun r tt h k z hh => by
  have h1 := vC_ok hh
  obtain ⟨h2, h3⟩ := cellsK_ok h1
  obtain ⟨h4, h5⟩ := hput_ok h3
  exact ⟨_, _, stepW_val (by simp only [step, ha, bindR, rowV, h4, h2, must, valh]), h5⟩

def fieldOff (P : Program) (s : TypeId) (f : Nat) : R Nat :=
  bindR (under P s) fun d =>
  match d with
  | .struct fields => bindR (ofOpt fields[f]?) fun fd => bindR (tsize P fd.type) fun n => bindR (must (Nat.blt 0 n)) fun _ => .ok fd.offset
  | _ => .error "fieldAddr"
noncomputable def v_fa (off : Nat) (a : Opd) : OpB β := ⟨fun _ tt h k => vP (a.f tt) fun b o s => noneK s (k (.pointer (some ⟨b, Nat.add o off, none⟩)) h)⟩
theorem addr_add {b o n : Nat} : Addr.add ⟨b, o, none⟩ n = ⟨b, Nat.add o n, none⟩ := by
  unfold Addr.add
  split
  · rename_i h; subst h; rfl
  · rfl
theorem fa_ok {s : TypeId} {x : Operand} {f off : Nat} {a : Opd} (ha : ∀ tt, ev (TT.fn tt) x = .ok (a.f tt)) (ho : fieldOff P s f = .ok off) : OpOk P (.fieldAddr s x f) (v_fa (β := β) off a) := fun r tt h k z hh => by
  obtain ⟨b, o, s', h1, h2⟩ := vP_ok hh
  obtain ⟨rfl, h3⟩ := noneK_ok h2
  refine ⟨_, h, stepW_val ?_, h3⟩
  unfold fieldOff at ho
  obtain ⟨d, hd, ho⟩ := bindR_ok.1 ho
  split at ho
  · rename_i fields
    obtain ⟨fd, h4, ho⟩ := bindR_ok.1 ho
    obtain ⟨n, h5, ho⟩ := bindR_ok.1 ho
    obtain ⟨_, h6, ho⟩ := bindR_ok.1 ho
    cases ho
    simp only [step, ha, h1, bindR, fieldAddrV, hd, h4, h5, h6, val, addr_add]
  · cases ho

def fieldW (P : Program) (s : TypeId) (f : Nat) : R (Nat × Option Nat) :=
  bindR (under P s) fun d =>
  match d with
  | .struct fields => bindR (ofOpt fields[f]?) fun fd => bindR (wide P fd.type) fun w => .ok (fd.offset, w)
  | _ => .error "field"
noncomputable def v_field (p : Nat × Option Nat) (a : Opd) : OpB β := ⟨fun _ tt h k => vA (a.f tt) fun l => readK l p.1 p.2 fun v => k v h⟩
theorem field_ok {s : TypeId} {x : Operand} {f : Nat} {p : Nat × Option Nat} {a : Opd} (ha : ∀ tt, ev (TT.fn tt) x = .ok (a.f tt)) (ho : fieldW P s f = .ok p) : OpOk P (.field s x f) (v_field (β := β) p a) := fun r tt h k z hh => by
  obtain ⟨l, h1, h2⟩ := vA_ok hh
  obtain ⟨v, h3, h4⟩ := readK_ok h2
  refine ⟨v, h, stepW_val ?_, h4⟩
  unfold fieldW at ho
  obtain ⟨d, hd, ho⟩ := bindR_ok.1 ho
  split at ho
  · rename_i fields
    obtain ⟨fd, h5, ho⟩ := bindR_ok.1 ho
    obtain ⟨n, h6, ho⟩ := bindR_ok.1 ho
    cases ho
    simp only [step, ha, h1, bindR, fieldV, hd, h5, partV, h6, h3, val]
  · cases ho

def rowSize (P : Program) (t : TypeId) : R Nat :=
  bindR (under P t) fun d =>
  match d with
  | .slice e => tsize P e
  | _ => .error "indexAddr"
noncomputable def ixK (v : Value) (len : Nat) (k : Nat → R β) : R β :=
  vI v (fun _ n => @Int.rec (fun _ => R β) (fun i => ifB (Nat.blt i len) (k i) (.error "index")) (fun _ => .error "index") n) (.error "index")
theorem ixK_ok {v : Value} {len : Nat} {k : Nat → R β} {x : β} (h : ixK v len k = .ok x) : ∃ kd i, v = .int kd (.ofNat i) ∧ inRange (.ofNat i) len = .ok i ∧ k i = .ok x := by
  unfold ixK vI at h
  split at h
  · rename_i kd n
    cases n with
    | negSucc n => cases h
    | ofNat i =>
      obtain ⟨h1, h2⟩ := ifB_ok (show ifB (Nat.blt i len) (k i) (.error "index") = .ok x from h)
      refine ⟨kd, i, rfl, ?_, h2⟩
      have := blt_iff.1 h1
      simp only [inRange]
      rw [show (decide ((0 : Int) ≤ .ofNat i) && decide (Int.ofNat i < (len : Int))) = true by simp; omega]
      rfl
  · cases h
noncomputable def v_ia (n : Nat) (a i : Opd) : OpB β :=
  ⟨fun _ tt h k => vS (a.f tt) (fun b o s len _ => ixK (i.f tt) len fun j => noneK s (k (.pointer (some ⟨b, Nat.add o (Nat.mul j n), none⟩)) h)) (.error "index")⟩
theorem vS_ok {v : Value} {k : Nat → Nat → Option Nat → Nat → Nat → R β} {x : β} {e : String} (h : vS v k (.error e) = .ok x) : ∃ b o s n c, v = .slice (some ⟨b, o, s⟩) n c ∧ k b o s n c = .ok x := by
  unfold vS at h; split at h
  · exact ⟨_, _, _, _, _, rfl, h⟩
  · cases h
theorem ia_ok {t : TypeId} {x y : Operand} {n : Nat} {a i : Opd} (ha : ∀ tt, ev (TT.fn tt) x = .ok (a.f tt)) (hi : ∀ tt, ev (TT.fn tt) y = .ok (i.f tt)) (hn : rowSize P t = .ok n) :
    OpOk P (.indexAddr t x y) (v_ia (β := β) n a i) := fun r tt h k z hh => by
  obtain ⟨b, o, s, len, c, h1, h2⟩ := vS_ok hh
  obtain ⟨kd, j, h3, h4, h5⟩ := ixK_ok h2
  obtain ⟨rfl, h6⟩ := noneK_ok h5
  refine ⟨_, h, stepW_val ?_, h6⟩
  unfold rowSize at hn
  obtain ⟨d, hd, hn⟩ := bindR_ok.1 hn
  split at hn
  · simp only [step, ha, hi, h1, h3, bindR, indexAddrV, intOf, hd, h4, hn, val, addr_add]; rfl
  · cases hn
def arrSize (P : Program) (t : TypeId) : R (Nat × Nat × Option Nat) :=
  bindR (under P t) fun d =>
  match d with
  | .array len e => bindR (tsize P e) fun n => bindR (wide P e) fun w => .ok (len, n, w)
  | _ => .error "index"
noncomputable def v_iaA (p : Nat × Nat × Option Nat) (a i : Opd) : OpB β :=
  ⟨fun _ tt h k => vP (a.f tt) fun b o s => ixK (i.f tt) p.1 fun j => noneK s (k (.pointer (some ⟨b, Nat.add o (Nat.mul j p.2.1), none⟩)) h)⟩
theorem iaA_ok {t : TypeId} {x y : Operand} {p : Nat × Nat × Option Nat} {a i : Opd} (ha : ∀ tt, ev (TT.fn tt) x = .ok (a.f tt)) (hi : ∀ tt, ev (TT.fn tt) y = .ok (i.f tt)) (hn : arrSize P t = .ok p) :
    OpOk P (.indexAddr t x y) (v_iaA (β := β) p a i) := fun r tt h k z hh => by
  obtain ⟨b, o, s, h1, h2⟩ := vP_ok hh
  obtain ⟨kd, j, h3, h4, h5⟩ := ixK_ok h2
  obtain ⟨rfl, h6⟩ := noneK_ok h5
  refine ⟨_, h, stepW_val ?_, h6⟩
  unfold arrSize at hn
  obtain ⟨d, hd, hn⟩ := bindR_ok.1 hn
  split at hn
  · obtain ⟨m, h7, hn⟩ := bindR_ok.1 hn
    obtain ⟨w, h8, hn⟩ := bindR_ok.1 hn
    cases hn
    simp only [step, ha, hi, h1, h3, bindR, indexAddrV, intOf, hd, h4, h7, val, addr_add]; rfl
  · cases hn
noncomputable def v_index (p : Nat × Nat × Option Nat) (a i : Opd) : OpB β :=
  ⟨fun _ tt h k => vA (a.f tt) fun l => ixK (i.f tt) p.1 fun j => readK l (Nat.mul j p.2.1) p.2.2 fun v => k v h⟩
theorem index_ok {t : TypeId} {x y : Operand} {p : Nat × Nat × Option Nat} {a i : Opd} (ha : ∀ tt, ev (TT.fn tt) x = .ok (a.f tt)) (hi : ∀ tt, ev (TT.fn tt) y = .ok (i.f tt)) (hn : arrSize P t = .ok p) :
    OpOk P (.index t x y) (v_index (β := β) p a i) := fun r tt h k z hh => by
  obtain ⟨l, h1, h2⟩ := vA_ok hh
  obtain ⟨kd, j, h3, h4, h5⟩ := ixK_ok h2
  obtain ⟨v, h6, h7⟩ := readK_ok h5
  refine ⟨v, h, stepW_val ?_, h7⟩
  unfold arrSize at hn
  obtain ⟨d, hd, hn⟩ := bindR_ok.1 hn
  split at hn
  · obtain ⟨m, h7, hn⟩ := bindR_ok.1 hn
    obtain ⟨w, h8, hn⟩ := bindR_ok.1 hn
    cases hn
    have h6' : readW l.toList (j * m) w = .ok v := h6
    simp only [step, ha, hi, h1, h3, bindR, indexV, intOf, hd, h4, h7, partV, h8, h6', val]
  · cases hn

noncomputable def v_extract (i : Nat) (a : Opd) : OpB β := ⟨fun _ tt h k => vT (a.f tt) fun l => nthK l i fun v => k v h⟩
theorem extract_ok {x : Operand} {i : Nat} {a : Opd} (ha : ∀ tt, ev (TT.fn tt) x = .ok (a.f tt)) : OpOk P (.extract x i) (v_extract (β := β) i a) := fun r tt h k z hh => by
  obtain ⟨l, h1, h2⟩ := vT_ok hh
  obtain ⟨v, h3, h4⟩ := nthK_ok h2
  refine ⟨v, h, stepW_val ?_, h4⟩
  have : l[i]? = some v := by simpa using h3
  simp only [step, ha, h1, bindR, extractV, this, ofOpt, val]

/-! ### Building -/
structure Part where
  off : Nat
  size : Nat
  v : Opd
noncomputable def partsOf (place : Nat → Option (Nat × Nat)) : List (Nat × Operand) → Option (List Part)
  | [] => some []
  | (i, x) :: xs => match place i, opdF x, partsOf place xs with
    | some (o, n), some a, some l => some (⟨o, n, a⟩ :: l)
    | _, _, _ => none
noncomputable def buildK (l : List Part) (tt : TT) (cs : List Value) (k : List Value → R β) : R β :=
  @List.rec Part (fun _ => List Value → (List Value → R β) → R β) (fun cs k => k cs)
    (fun p _ ih cs k => vC (p.v.f tt) fun xs => ifB (Nat.beq (lenN xs) p.size) (setAtK p.off xs cs fun cs => ih cs k) (.error "build")) l cs k
theorem setAt_nil (l : List Value) (i : Nat) : setAt l i [] = l := by cases l <;> cases i <;> rfl
theorem setAt_cons {x : Value} {xs : List Value} : ∀ {l : List Value} {i : Nat}, setAt l i (x :: xs) = setAt (l.set i x) (i + 1) xs
  | [], i => by cases xs <;> simp [setAt]
  | v :: l, 0 => by cases xs <;> simp [setAt, setAt_nil]
  | v :: l, i + 1 => by
    show v :: setAt l i (x :: xs) = _
    rw [setAt_cons (l := l)]
    cases xs with
    | nil => simp [setAt_nil]
    | cons y ys => rfl
theorem overlay_eq (off : Nat) : ∀ (xs : List Value) (j : Nat) (cs : Array Value), ((xs.zipIdx j).foldl (fun cs (c : Value × Nat) => cs.setIfInBounds (off + c.2) c.1) cs).toList = setAt cs.toList (off + j) xs
  | [], j, cs => by simp [setAt_nil]
  | x :: xs, j, cs => by
    simp only [List.zipIdx_cons, List.foldl_cons]
    rw [overlay_eq off xs (j + 1), setAt_cons]
    simp [Nat.add_assoc]
theorem build_fill {place : Nat → Option (Nat × Nat)} {tt : TT} : ∀ {ps : List (Nat × Operand)} {l : List Part}, partsOf place ps = some l → ∀ {cs : Array Value} {k : List Value → R β} {x : β}, buildK l tt cs.toList k = .ok x →
    ∃ vs r, evp (TT.fn tt) ps = .ok vs ∧ Instr.fill place cs vs = some r ∧ k r.toList = .ok x
  | [], l, h, cs, k, x, hh => by cases h; exact ⟨[], cs, rfl, rfl, hh⟩
  | (i, o) :: ps, l, h, cs, k, x, hh => by
    simp only [partsOf] at h
    split at h
    · rename_i off n a l' h1 h2 h3
      cases h
      have h4 := vC_ok (show vC (a.f tt) _ = .ok x from hh)
      obtain ⟨h5, h6⟩ := ifB_ok h4
      obtain ⟨h7, h8, h9⟩ := setAtK_ok h6
      rw [lenN_eq] at h5
      have h5 := Nat.eq_of_beq_eq_true h5
      have e := overlay_eq off (a.f tt).cells.toList 0 cs
      have h10 : buildK l' tt ((a.f tt).cells.toList.zipIdx.foldl (fun cs (c : Value × Nat) => cs.setIfInBounds (off + c.2) c.1) cs).toList k = .ok x := by rw [e]; exact h9
      obtain ⟨vs, r, g1, g2, g3⟩ := build_fill h3 h10
      refine ⟨(i, a.f tt) :: vs, r, by simp only [evp, opdF_ok h2, g1, bindR], ?_, g3⟩
      simp only [Instr.fill, h1]
      have hn1 : (a.f tt).cells.size = n := by simpa using h5
      have hn2 : off + (a.f tt).cells.size ≤ cs.size := by simpa using h7
      rw [if_neg (by simp [hn1]; omega)]
      rw [foldl_zipIdx]
      exact g2
    · cases h
noncomputable def v_build (z : List Value) (l : List Part) : OpB β := ⟨fun _ tt h k => buildK l tt z fun cs => k (.agg ⟨cs⟩) h⟩
noncomputable def buildB (P : Program) (t : TypeId) (ps : Array (Nat × Operand)) : OpB β :=
  onR (tzero P t) (fun z => onR (under P t) (fun d =>
    match d with
    | .struct fields => onR (places P fields.toList) (fun pl => match partsOf (fun i => pl[i]?) ps.toList with | some l => v_build z.cells.toList l | none => vGen P (.build t ps)) (vGen P (.build t ps))
    | .array _ e => onR (tsize P e) (fun n => match partsOf (fun i => some (i * n, n)) ps.toList with | some l => v_build z.cells.toList l | none => vGen P (.build t ps)) (vGen P (.build t ps))
    | _ => vGen P (.build t ps)) (vGen P (.build t ps))) (vGen P (.build t ps))
theorem buildB_ok {t : TypeId} {ps : Array (Nat × Operand)} : OpOk P (.build t ps) (buildB (β := β) P t ps) := by
  unfold buildB
  refine onR_ok fun z hz => onR_ok fun d hd => ?_
  split
  · refine onR_ok fun pl hpl => ?_
    split
    · rename_i l hl
      intro r tt h k x hh
      obtain ⟨vs, c, h1, h2, h3⟩ := build_fill hl hh
      refine ⟨.agg c, h, stepW_val ?_, h3⟩
      simp only [step, h1, bindR, buildV, hz, hd, hpl, h2, ofOpt, val]
    · exact gen_ok
  · refine onR_ok fun n hn => ?_
    split
    · rename_i l hl
      intro r tt h k x hh
      obtain ⟨vs, c, h1, h2, h3⟩ := build_fill hl hh
      refine ⟨.agg c, h, stepW_val ?_, h3⟩
      simp only [step, h1, bindR, buildV, hz, hd, hn, h2, ofOpt, val]
    · exact gen_ok
  · exact gen_ok

/-! ### Calls -/
noncomputable def v_call (g : FuncId) (l : List Opd) : OpB β := ⟨fun r tt h k => bx (r.call g ⟨valsL tt l⟩ h) (pairK k)⟩
theorem call_ok {c : Call} {g : FuncId} {l : List Opd} (hc : c.callee = .value (.func g)) (hl : opdL c.args.toList = some l) (hg : callable P g = .ok ()) : OpOk P (.call c) (v_call (β := β) g l) := fun r tt h k x hh => by
  obtain ⟨⟨v, h'⟩, h1, h2⟩ := bx_ok.1 hh
  refine ⟨v, h', ?_, h2⟩
  simp only [stepW, step, callStep, opdL_ok tt hl, bindR, hc, ev, invokeV, hg]
  simpa using h1
noncomputable def v_callv (P : Program) (a : Opd) (l : List Opd) : OpB β :=
  ⟨fun r tt h k => vF (a.f tt) (fun g first cap => bx (callable P g) fun _ => bx (r.call g ⟨appL first (appL (valsL tt l) cap)⟩ h) (pairK k)) (fun y => bx (r.round y ⟨valsL tt l⟩ h) (pairK k))⟩
theorem callv_ok {c : Call} {f : Operand} {a : Opd} {l : List Opd} (hc : c.callee = .value f) (ha : ∀ tt, ev (TT.fn tt) f = .ok (a.f tt)) (hl : opdL c.args.toList = some l) : OpOk P (.call c) (v_callv (β := β) P a l) := fun r tt h k x hh => by
  rcases vF_ok hh with ⟨g, first, cap, h1, h2⟩ | ⟨y, b, c', h1, h2⟩
  · obtain ⟨_, h3, h4⟩ := bx_ok.1 h2
    obtain ⟨⟨v, h'⟩, h5, h6⟩ := bx_ok.1 h4
    refine ⟨v, h', ?_, h6⟩
    simp only [stepW, step, callStep, opdL_ok tt hl, bindR, hc, ha, h1, invokeV, h3]
    rw [← h5]
    congr 1
    simp [appL_eq]
  · obtain ⟨⟨v, h'⟩, h5, h6⟩ := bx_ok.1 h2
    refine ⟨v, h', ?_, h6⟩
    simp only [stepW, step, callStep, opdL_ok tt hl, bindR, hc, ha, h1, invokeV]
    exact h5
noncomputable def v_len (a : Opd) : OpB β := ⟨fun _ tt h k => vLen (a.f tt) fun n => k (.int .i64 (.ofNat n)) h⟩
noncomputable def lenB (P : Program) (c : Call) : OpB β :=
  match c.args.toList, c.argTypes[0]? with
  | [x], some t => on1 x (fun a => onR (under P t) (fun d => match d with | .slice _ => v_len a | _ => vGen P (.call c)) (vGen P (.call c))) (vGen P (.call c))
  | _, _ => vGen P (.call c)
theorem lenB_ok {c : Call} (hc : c.callee = .builtin .len) : OpOk P (.call c) (lenB (β := β) P c) := by
  unfold lenB
  split
  · rename_i x t h1 h2
    refine on1_ok fun a ha => onR_ok fun d hd => ?_
    split
    · intro r tt h k z hh
      obtain ⟨s, n, c', h3, h4⟩ := vLen_ok hh
      refine ⟨_, h, stepW_val ?_, h4⟩
      simp only [step, callStep, h1, evs, ha, bindR, hc, builtinV, lenV, h2, ofOpt, hd, h3, valh]
      rfl
    · exact gen_ok
  · exact gen_ok
noncomputable def callB (P : Program) (c : Call) : OpB β :=
  match c.callee, opdL c.args.toList with
  | .builtin .len, _ => lenB P c
  | .value (.func g), some l => onR (callable P g) (fun _ => v_call g l) (vGen P (.call c))
  | .value f, some l => on1 f (fun a => v_callv P a l) (vGen P (.call c))
  | _, _ => vGen P (.call c)
theorem callB_ok {c : Call} : OpOk P (.call c) (callB (β := β) P c) := by
  unfold callB
  split
  · rename_i h; exact lenB_ok h
  · rename_i h1 h2; exact onR_ok fun u hu => call_ok h1 h2 hu
  · rename_i h1 h2; exact on1_ok fun a ha => callv_ok h1 ha h2
  · exact gen_ok
noncomputable def v_makeFunc (f : FuncId) (a b : List Opd) : OpB β := ⟨fun _ tt h k => k (.func (.func f) ⟨valsL tt a⟩ ⟨valsL tt b⟩) h⟩
noncomputable def mfB (P : Program) (fn : Fn) (first captured : Array Operand) : OpB β :=
  match fn, opdL first.toList, opdL captured.toList with
  | .func f, some a, some b => v_makeFunc f a b
  | _, _, _ => vGen P (.makeFunc fn first captured)
theorem mfB_ok {fn : Fn} {first captured : Array Operand} : OpOk P (.makeFunc fn first captured) (mfB (β := β) P fn first captured) := by
  unfold mfB
  split
  · rename_i f a b h1 h2
    intro r tt h k x hh
    refine ⟨_, h, stepW_val ?_, hh⟩
    simp only [step, opdL_ok tt h1, opdL_ok tt h2, bindR]
  · exact gen_ok

/-! ### All operations -/
noncomputable def opB (P : Program) (op : Op) : OpB β :=
  match op with
  | .move x => on1 x v_move (vGen P (.move x))
  | .assign x => on1 x v_move (vGen P (.assign x))
  | .pick c a b => on1 c (fun c' => on1 a (fun a' => on1 b (fun b' => v_pick c' a' b') (vGen P (.pick c a b))) (vGen P (.pick c a b))) (vGen P (.pick c a b))
  | .binOp o t x y yt => binB P o t x y yt
  | .unOp o t x => unB P o t x
  | .load ty a => on1 a (fun b => onR (wide P ty) (fun w => v_load w b) (vGen P (.load ty a))) (vGen P (.load ty a))
  | .store ty a x => on2 a x (fun b y => onR (tsize P ty) (fun n => v_store n b y) (vGen P (.store ty a x))) (vGen P (.store ty a x))
  | .alloc e => onR (tzero P e) (fun z => match z.cells.toList.all isCell with | true => v_alloc z.cells.toList e | false => vGen P (.alloc e)) (vGen P (.alloc e))
  | .box e x => on1 x (v_box e) (vGen P (.box e x))
  | .fieldAddr s x f => on1 x (fun a => onR (fieldOff P s f) (fun o => v_fa o a) (vGen P (.fieldAddr s x f))) (vGen P (.fieldAddr s x f))
  | .field s x f => on1 x (fun a => onR (fieldW P s f) (fun o => v_field o a) (vGen P (.field s x f))) (vGen P (.field s x f))
  | .indexAddr t x i => on2 x i (fun a b => onR (rowSize P t) (fun n => v_ia n a b) (onR (arrSize P t) (fun p => v_iaA p a b) (vGen P (.indexAddr t x i)))) (vGen P (.indexAddr t x i))
  | .index t x i => on2 x i (fun a b => onR (arrSize P t) (fun p => v_index p a b) (vGen P (.index t x i))) (vGen P (.index t x i))
  | .extract x i => on1 x (v_extract i) (vGen P (.extract x i))
  | .build t ps => buildB P t ps
  | .call c => callB P c
  | .makeFunc f a b => mfB P f a b
  | op => vGen P op
theorem onR_ok' {α : Type} {op : Op} {x : R α} {y : α → OpB β} {z : OpB β} (h : ∀ a, x = .ok a → OpOk P op (y a)) (hz : OpOk P op z) : OpOk P op (onR x y z) := by
  unfold onR
  split
  · exact h _ rfl
  · exact hz
theorem opB_ok {op : Op} : OpOk P op (opB (β := β) P op) := by
  unfold opB
  split
  · exact on1_ok fun a ha => move_ok ha
  · exact on1_ok fun a ha => assign_ok ha
  · exact on1_ok fun c hc => on1_ok fun a ha => on1_ok fun b hb => pick_ok hc ha hb
  · exact binB_ok
  · exact unB_ok
  · exact on1_ok fun a ha => onR_ok fun w hw => load_ok ha hw
  · exact on2_ok fun a b ha hb => onR_ok fun n hn => store_ok ha hb hn
  · refine onR_ok fun z hz => ?_
    split
    · rename_i hc; exact alloc_ok hz hc
    · exact gen_ok
  · exact on1_ok fun a ha => box_ok ha
  · exact on1_ok fun a ha => onR_ok fun o ho => fa_ok ha ho
  · exact on1_ok fun a ha => onR_ok fun o ho => field_ok ha ho
  · exact on2_ok fun a b ha hb => onR_ok' (fun n hn => ia_ok ha hb hn) (onR_ok fun p hp => iaA_ok ha hb hp)
  · exact on2_ok fun a b ha hb => onR_ok fun p hp => index_ok ha hb hp
  · exact on1_ok fun a ha => extract_ok ha
  · exact buildB_ok
  · exact callB_ok
  · exact mfB_ok
  · exact gen_ok
end
end Go.AM
