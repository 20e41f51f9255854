/- A part of the abstract machine: definitions and lemmas for all programs, no claim of its own; no condition. -/
import Derived.Test.YtpmlgmhmejhfeaaGreatAmDen
set_option linter.unusedVariables false
set_option linter.unusedSimpArgs false
namespace Go.AM
open Go

section
variable {P : Program} {r : Rec} {L N : Nat} {ρ ρ' : Ren} {h h' h₀ : Heap} {w w' : World}

/-! ### Results -/
def resF (tmps : Array Value) : ResultVar → Sem Value
  | .tmp t => pure (tmps.getD t undef)
  | .cell a t => do loadVar t (← asAddr (tmps.getD a undef))
theorem results_eq (fn : Func) (tmps : Array Value) : results fn tmps = (do
    let vs ← fn.results.mapM (resF tmps)
    pure (if h : vs.size = 1 then vs[0] else Value.tuple vs)) := by
  unfold results
  congr 2
theorem resultV_sound (hr : HR ρ h w) {t : Tmps} {tmps : Array Value} (ht : TR ρ t tmps) {x : ResultVar} {v : Value} (hh : resultV P t h x = .ok v) :
    ∃ c, (resF tmps x).run P w = .ok c w ∧ VR ρ v c := by
  cases x with
  | tmp i =>
    simp only [resultV, Except.ok.injEq] at hh
    subst hh
    exact ⟨_, rfl, ht i⟩
  | cell i ty =>
    simp only [resultV] at hh
    have hv := ht i
    generalize hx : tmps.getD i undef = ca at hv
    obtain ⟨c, h1, h2⟩ := loadV_sound (P := P) hr hv hh
    refine ⟨c, ?_, h2⟩
    simp only [resF, hx]
    generalize t i = x at hv hh
    cases hv <;> simp only [loadV, reduceCtorEq] at hh
    simpa [Instr.loadAt, Instr.sureAddr, asAddr] using h1

theorem resultsL_sound (hr : HR ρ h w) {t : Tmps} {tmps : Array Value} (ht : TR ρ t tmps) : ∀ (xs : List ResultVar) (vs : List Value), resultsL P t h xs = .ok vs →
    ∃ cs, (xs.mapM (resF tmps)).run P w = .ok cs w ∧ VL ρ vs cs
  | [], vs, hh => by simp only [resultsL, Except.ok.injEq] at hh; subst hh; exact ⟨[], rfl, .nil⟩
  | x :: xs, vs, hh => by
    simp only [resultsL, bindR_ok, Except.ok.injEq] at hh
    obtain ⟨v, h1, vs', h2, rfl⟩ := hh
    obtain ⟨c, g1, g2⟩ := resultV_sound hr ht h1
    obtain ⟨cs, g3, g4⟩ := resultsL_sound hr ht xs vs' h2
    refine ⟨c :: cs, ?_, .cons g2 g4⟩
    rw [List.mapM_cons]
    simp only [Sem.run_bind, Result.andThen_ok, Sem.run_pure, g3, g1]

theorem resultsV_sound (hr : HR ρ h w) {t : Tmps} {tmps : Array Value} (ht : TR ρ t tmps) {fn : Func} {v : Value} (hh : resultsV P fn.results.toList t h = .ok v) :
    ∃ c, (results fn tmps).run P w = .ok c w ∧ VR ρ v c := by
  simp only [resultsV, bindR_ok] at hh
  obtain ⟨vs, h1, hh⟩ := hh
  obtain ⟨cs, g1, g2⟩ := resultsL_sound hr ht _ _ h1
  have hrun : (results fn tmps).run P w = .ok (if h : cs.toArray.size = 1 then cs.toArray[0] else .tuple cs.toArray) w := by
    rw [results_eq, Array.mapM_eq_mapM_toList (m := Sem)]
    simp [Sem.run_bind, Result.andThen_ok, Sem.run_pure, g1]
  refine ⟨_, hrun, ?_⟩
  split at hh
  · cases hh
    obtain ⟨c, cs', rfl, e1, e2⟩ := g2.cases_cons
    obtain rfl := e2.cases_nil
    simpa using e1
  · rename_i hne
    cases hh
    have hl := g2.1
    rw [dif_neg]
    · exact .tuple' (by simpa using g2)
    · intro e
      rw [List.size_toArray, ← hl] at e
      match vs, e with
      | [v], _ => exact hne v rfl

/-! ### A call is left -/
theorem LowB.of_br {m : Nat} {b : Blk} {l : Loc} (hb : BR ρ b l w) (hd : ∀ b l, ρ b = some l → b < m) : LowB m b := by
  cases b with
  | cells vs e md =>
    obtain ⟨cs, fr, _, _, _, h4, _⟩ := hb
    intro v hv
    obtain ⟨i, hi, rfl⟩ := List.getElem_of_mem hv
    obtain ⟨c, _, hc⟩ := h4.get (List.getElem?_eq_getElem hi)
    exact .of_dom hc hd
  | map es clock =>
    obtain ⟨es', _, h2⟩ := hb
    intro e he
    obtain ⟨i, hi, rfl⟩ := List.getElem_of_mem he
    obtain ⟨e', _, hk, hv, _⟩ := h2.2 i _ (List.getElem?_eq_getElem hi)
    exact ⟨.of_dom hk hd, .of_dom hv hd⟩
  | siter s pos => trivial
  | loop r =>
    obtain ⟨q, ld, h1, h2, h3, h4, h5, h6, h7, h8, h9⟩ := hb
    exact ⟨fun i => .of_dom (h7.1 i) hd, hd _ _ h8⟩
  | defs => trivial
  | dead => trivial

theorem BR.below {m : Nat} {b : Blk} {l : Loc} (hb : BR ρ b l w) (hl : LowB m b) : BR (ρ.below m) b l w := by
  cases b with
  | cells vs e md =>
    obtain ⟨cs, fr, h1, h2, h3, h4, h5⟩ := hb
    refine ⟨cs, fr, h1, h2, h3, .of_get h4.1 fun i v hv => ?_, h5⟩
    obtain ⟨c, hc, hvc⟩ := h4.get hv
    exact ⟨c, hc, (hl v (List.mem_of_getElem? hv)).below hvc⟩
  | map es clock =>
    obtain ⟨es', h1, h2⟩ := hb
    refine ⟨es', h1, h2.1, fun i e he => ?_⟩
    obtain ⟨e', he', hk, hv, hb⟩ := h2.2 i e he
    have := hl e (List.mem_of_getElem? he)
    exact ⟨e', he', this.1.below hk, this.2.below hv, hb⟩
  | siter s pos => exact hb
  | loop r =>
    obtain ⟨q, ld, h1, h2, h3, h4, h5, h6, h7, h8, h9⟩ := hb
    exact ⟨q, ld, h1, h2, h3, h4, h5, h6, ⟨fun i => (hl.1 i).below (h7.1 i), h7.2⟩, Ren.below_some.2 ⟨hl.2, h8⟩, h9⟩
  | defs => exact hb
  | dead => trivial

theorem get_enter (i : Nat) : (enter h₀).get i = h₀.get i := rfl

theorem Post.below_eq (hr : HR ρ h₀ w) (p : Post ρ (enter h₀) w ρ' h' w') : ρ'.below h₀.n = ρ := by
  funext i
  unfold Ren.below
  split
  · rename_i hi; exact p.ext i hi
  · rename_i hi
    cases e : ρ i with
    | none => rfl
    | some l => exact absurd (hr.dom i l e).1 hi

/-- The caller's part of the heap alone. -/
theorem HR.cut (hr : HR ρ h₀ w) (p : Post ρ (enter h₀) w ρ' h' w') {hX : Heap} (hn : hX.n = h₀.n) (hg : ∀ i, i < h₀.n → hX.get i = h'.get i)
    (hlow : ∀ i l, ρ i = some l → LowB h₀.n (h'.get i)) : HR ρ hX w' ∧ Fr ρ h₀ w ρ hX w' := by
  have hρ := p.below_eq hr
  have hext : ∀ i l, ρ i = some l → ρ' i = some l := fun i l e => (p.ext i (hr.dom i l e).1).trans e
  refine ⟨⟨by rw [hn]; exact hr.n_le, fun i l e => ?_, fun i j li lj hij ei ej oi vj => ?_⟩, ?_⟩
  · have hi := (hr.dom i l e).1
    obtain ⟨_, h2, h3⟩ := p.hr.dom i l (hext i l e)
    refine ⟨by rw [hn]; exact hi, h2, ?_⟩
    rw [hg i hi, ← hρ]
    exact h3.below (hlow i l e)
  · rw [hg i (hr.dom i li ei).1] at oi
    rw [hg j (hr.dom j lj ej).1] at vj
    exact p.hr.inj i j li lj hij (hext _ _ ei) (hext _ _ ej) oi vj
  · refine ⟨p.fr.size, fun c hc hno => p.fr.same c hc hno, fun i l e o => ?_, p.fr.os, p.fr.output, p.fr.tape⟩
    rw [hg i (hr.dom i l e).1] at o
    exact p.fr.new i l (hext _ _ e) o

theorem leave_sound (hr : HR ρ h₀ w) (p : Post ρ (enter h₀) w ρ' h' w') {v c : Value} (hv : VR ρ' v c) : ∃ ρ'', VR ρ'' v c ∧ Post ρ h₀ w ρ'' (leave h₀ h' v) w' := by
  have hbig : h₀.n < big := Nat.lt_of_le_of_lt hr.n_le (by decide)
  have hlow0 : ∀ i l, ρ i = some l → LowB h₀.n (h₀.get i) := fun i l e => .of_br (hr.dom i l e).2.2 fun b l e => (hr.dom b l e).1
  have keep : Post ρ h₀ w ρ' { n := h'.n, t := h'.t, base := h₀.base, wr := Nat.min h₀.wr h'.wr, hi := Nat.max h₀.hi h'.hi } w' := by
    refine ⟨p.n_le, p.ext, ⟨p.hr.n_le, p.hr.dom, p.hr.inj⟩, ⟨p.fr.size, p.fr.same, p.fr.new, p.fr.os, p.fr.output, p.fr.tape⟩,
      ⟨rfl, Nat.min_le_left _ _, Nat.le_max_left _ _, fun i hi hw => ?_, fun i m hb hi hm hbg hl => ?_, fun i hi hd => p.trk.defs i hi hd⟩, p.far⟩
    · exact p.trk.same i hi (Nat.lt_of_lt_of_le hw (Nat.min_le_right _ _))
    · exact p.trk.low i m hi hi (Nat.le_trans (Nat.le_max_right _ _) hm) hbg hl
  unfold leave
  split
  · rename_i h1 h2
    have h1 : ids v ≤ h₀.n := Nat.le_of_ble_eq_true h1
    have h2 : h₀.n ≤ h'.wr := Nat.le_of_ble_eq_true h2
    have hsame : ∀ i, i < h₀.n → h'.get i = h₀.get i := fun i hi => p.trk.same i hi (Nat.lt_of_lt_of_le hi h2)
    obtain ⟨g1, g2⟩ := hr.cut p (hX := h₀) rfl (fun i hi => (hsame i hi).symm) (fun i l e => by rw [hsame i (hr.dom i l e).1]; exact hlow0 i l e)
    refine ⟨ρ, VR.lower hbig (fun b hb l e => (p.ext b hb) ▸ e) 20 v c h1 hv, Nat.le_refl _, fun _ _ => rfl, g1, g2, .refl _, fun _ _ _ => rfl⟩
  · rename_i h1 h2 h3
    have h1 : ids v ≤ h₀.n := Nat.le_of_ble_eq_true h1
    have h3 : h'.hi ≤ h₀.n := Nat.le_of_ble_eq_true h3
    have hl : ∀ i l, ρ i = some l → LowB h₀.n (h'.get i) := fun i l e => p.trk.low i h₀.n (hr.dom i l e).1 (hr.dom i l e).1 h3 hbig (hlow0 i l e)
    have hget : ∀ i, i < h₀.n → (⟨h₀.n, h'.t, h₀.base, Nat.min h₀.wr h'.wr, Nat.max h₀.hi h'.hi⟩ : Heap).get i = h'.get i := fun i hi => by
      rw [get_of_lt (by exact hi), get_of_lt (Nat.lt_of_lt_of_le hi p.n_le)]
    obtain ⟨g1, g2⟩ := hr.cut p (hX := ⟨h₀.n, h'.t, h₀.base, Nat.min h₀.wr h'.wr, Nat.max h₀.hi h'.hi⟩) rfl hget hl
    refine ⟨ρ, VR.lower hbig (fun b hb l e => (p.ext b hb) ▸ e) 20 v c h1 hv, Nat.le_refl _, fun _ _ => rfl, g1, g2,
      ⟨rfl, Nat.min_le_left _ _, Nat.le_max_left _ _, fun i hi hw => ?_, fun i m hb hi hm hbg hl => ?_, fun i hi hd => ?_⟩, fun i hi e => (hget i hi).trans (p.far i hi e)⟩
    · rw [hget i hi]; exact keep.trk.same i hi hw
    · rw [hget i hi]; exact keep.trk.low i m hb hi hm hbg hl
    · rw [hget i hi]; exact keep.trk.defs i hi hd
  · exact ⟨ρ', hv, keep⟩

/-- The block of a mark is shut. -/
theorem Post.shut (p : Post ρ h w ρ' h' w') {i : Nat} {l : Loc} {ds : Option (List Deferred)} (hi : ρ' i = some l) (hg : h'.get i = .defs) (hw : w'.heap[l.blk]? = some (.deferred ds)) (hlo : w.heap.size ≤ l.blk) :
    Post ρ h w ρ' h' (w'.putObj l.blk (.deferred none)) := by
  have hlt := (p.hr.dom i l hi).2.1
  have hat : At1 l.blk w' (w'.putObj l.blk (.deferred none)) := At1.setBlk _ _
  refine ⟨p.n_le, p.ext, ⟨p.hr.n_le, fun j lj e => ?_, p.hr.inj⟩, ⟨by rw [hat.size]; exact p.fr.size, fun c hc hno => ?_, p.fr.new, p.fr.os, p.fr.output, p.fr.tape⟩, p.trk, p.far⟩
  · obtain ⟨h1, h2, h3⟩ := p.hr.dom j lj e
    refine ⟨h1, by rw [hat.size]; exact h2, ?_⟩
    by_cases hb : lj.blk = l.blk
    · cases hgj : h'.get j with
      | defs => exact ⟨none, by rw [hb]; exact World.putObj_heap_same hlt⟩
      | dead => trivial
      | cells vs ty m => rw [hgj] at h3; obtain ⟨cs, fr, g1, _⟩ := h3; rw [hb, hw] at g1; cases g1
      | map es clock => rw [hgj] at h3; obtain ⟨es', g1, _⟩ := h3; rw [hb, hw] at g1; cases g1
      | siter s pos => rw [hgj] at h3; have g1 := h3.1; rw [hb, hw] at g1; cases g1
      | loop q => rw [hgj] at h3; obtain ⟨q', ld, g1, _⟩ := h3; rw [hb, hw] at g1; cases g1
    · exact h3.congr (World.putObj_heap_other hb)
  · rw [World.putObj_heap_other (by omega)]
    exact p.fr.same c hc hno

theorem leavesM {fn : Func} {tmps : Array Value} {R : Ending → World → Prop} {F : Fence} {n : Nat} : ∀ (ds : List Deferred) {w' : World}, Post ρ h w ρ' h' w' → DR w.heap.size ρ' h' w' ds →
    (∀ w'', Post ρ h w ρ' h' w'' → ∃ v, (results fn tmps).run P w'' = .ok v w'' ∧ R (.returned v) w'') → LeavesInM F n P fn tmps R ds .returning w' := by
  intro ds
  induction ds with
  | nil => intro w' p hd hk; exact hk _ p
  | cons d ds ih =>
    intro w' p hd hk
    obtain ⟨i, l, h1, h2, h3, h4, h5, h6⟩ := hd.1.2 d (List.mem_cons_self ..)
    refine ⟨by simp, .inl ⟨l.blk, w'.putObj l.blk (.deferred none), by rw [h6], run_takeDeferred h5, ?_⟩⟩
    have hnd := List.nodup_cons.1 hd.2
    refine ih (p.shut h1 h2 h5 h3) ⟨⟨by simpa using hd.1.1, fun d' hm => ?_⟩, hnd.2⟩ hk
    obtain ⟨j, lj, g1, g2, g3, g4, g5, g6⟩ := hd.1.2 d' (List.mem_cons_of_mem _ hm)
    refine ⟨j, lj, g1, g2, g3, by simpa using g4, ?_, g6⟩
    rw [World.putObj_heap_other]
    · exact g5
    · intro e; exact hnd.1 (by rw [h6, ← e, ← g6]; exact hm)

theorem TR.enter {args : Array Value} {cargs : Array Value} (ha : VL ρ args.toList cargs.toList) (n : Nat) : TR ρ (tmpsOf args) (cargs ++ Array.replicate n undef) := by
  intro i
  have hs : args.size = cargs.size := by simpa using ha.1
  have e1 : tmpsOf args i = gl args.toList i := by simp [tmpsOf, gl, List.getD, Array.getD_eq_getD_getElem?]
  rw [e1]
  by_cases hi : i < cargs.size
  · have e2 : (cargs ++ Array.replicate n undef).getD i undef = gl cargs.toList i := by
      simp [gl, List.getD, Array.getD_eq_getD_getElem?, Array.getElem?_append, hi]
    rw [e2]; exact ha.2 i (by simpa [hs] using hi)
  · have e3 : gl args.toList i = undef := by
      have : args.toList.length ≤ i := by simp only [Array.length_toList]; omega
      simp only [gl, List.getD, List.getElem?_eq_none this]; rfl
    have e2 : (cargs ++ Array.replicate n undef).getD i undef = undef := by
      simp only [Array.getD_eq_getD_getElem?, Array.getElem?_append, if_neg hi, Array.getElem?_replicate]
      split <;> rfl
    rw [e2, e3]; exact .undef ρ

theorem callK_sound (hrec : RecSound P r) {f : FuncId} {args : Array Value} {v : Value} (hh : callK P r L f args h₀ = .ok (v, h')) {cargs : Array Value} (hr : HR ρ h₀ w) (ha : VL ρ args.toList cargs.toList) (n : Nat) :
    CallsIn Fence.wide n P f cargs w fun e w' => ∃ c ρ', e = .returned c ∧ VR ρ' v c ∧ Post ρ h₀ w ρ' h' w' := by
  simp only [callK, bindR_ok, ofOpt_ok, must_ok] at hh
  obtain ⟨fn, hf, c, hb, _, hsz, hh⟩ := hh
  have hsz := Nat.le_of_ble_eq_true hsz
  have hs : args.size = cargs.size := by simpa using ha.1
  refine callsIn_of_wp_marks hf hb trivial ?_
  have hr' : HR ρ (enter h₀) w := ⟨hr.n_le, hr.dom, hr.inj⟩
  refine den_sound hrec c hh (s := w.heap.size) (.inl ⟨rfl, rfl⟩) (by simp; omega) (TR.enter ha _) hr' ⟨⟨Nat.le_refl _, fun d hm => by cases hm⟩, List.nodup_nil⟩ fun e t' h'' ρ' a' w' he hn' ht' hp hd' => ?_
  have fin : (bindR (resultsV P fn.results.toList t' h'') fun v => Except.ok (v, leave h₀ h'' v)) = .ok (v, h') →
      LeavesInM Fence.wide n P fn a'.tmps (fun e w' => ∃ c ρ', e = .returned c ∧ VR ρ' v c ∧ Post ρ h₀ w ρ' h' w') a'.defers .returning w' := by
    intro he
    simp only [bindR_ok, Except.ok.injEq, Prod.mk.injEq] at he
    obtain ⟨v', hv', rfl, rfl⟩ := he
    refine leavesM (h := enter h₀) (w := w) _ hp hd' fun w'' hp'' => ?_
    obtain ⟨c, g1, g2⟩ := resultsV_sound hp''.hr ht' hv'
    obtain ⟨ρ'', g3, g4⟩ := leave_sound hr hp'' g2
    exact ⟨c, g1, c, ρ'', rfl, g3, g4⟩
  cases e with
  | normal => exact fin he
  | ret => exact fin he
  | exit i => cases he
  | goto l => cases he

/-! ### A round -/
theorem setAll_sound : ∀ (ps : List Tmp) (vs cs : List Value) {t : Tmps} {tmps : Array Value}, tmps.size = N → TR ρ t tmps → VL ρ vs cs →
    TR ρ (setAll N t ps vs) ((ps.zip cs).foldl (fun tmps p => tmps.setIfInBounds p.1 p.2) tmps) ∧ ((ps.zip cs).foldl (fun tmps p => tmps.setIfInBounds p.1 p.2) tmps).size = N
  | [], vs, cs, t, tmps, hn, ht, hv => by simpa [setAll] using ⟨ht, hn⟩
  | p :: ps, [], cs, t, tmps, hn, ht, hv => by obtain rfl := hv.cases_nil; simpa [setAll] using ⟨ht, hn⟩
  | p :: ps, v :: vs, cs, t, tmps, hn, ht, hv => by
    obtain ⟨c, cs', rfl, h1, h2⟩ := hv.cases_cons
    have := put_sound (N := N) (a := { tmps, defers := [] }) (d := some p) hn ht h1
    simp only [setAll, List.zip_cons_cons, List.foldl_cons]
    exact setAll_sound ps vs cs' this.2 this.1 h2

theorem roundEnd_sound {l : Nat} {e : AExit} {v : Value} (hh : roundEnd l e h = .ok (v, h')) {loc : Loc} (hl : ρ l = some loc) (hr : HR ρ h w) {R : Ending → World → Prop} {a : Act}
    (hk : ∀ c w', VR ρ v c → Post ρ h w ρ h' w' → R (.returned c) w') : roundPost P loc.blk R (outOf e) a w := by
  unfold roundEnd at hh
  split at hh
  case h_2 => cases hh
  rename_i q hg
  have hb := (hr.dom _ _ hl).2.2
  rw [hg] at hb
  obtain ⟨q', ld, h1, h2, h3, h4, h5, h6, h7, h8, h9⟩ := hb
  have key : ∀ st pd, Post ρ h w ρ (h.write l (.loop { q with state := st, pending := pd }) 0) (w.putObj loc.blk (.loop { q' with state := st, pending := pd })) := fun st pd => by
    refine Post.write hr hl (by rw [hg]; rfl) (At1.setBlk _ _) ⟨_, ld, setBlk_heap (hr.dom _ _ hl).2.1, rfl, rfl, h4, h5, h6, h7, h8, h9⟩ (fun m' _ _ hlow => ?_)
    rw [hg] at hlow; exact hlow
  cases e with
  | normal =>
    simp only [Except.ok.injEq, Prod.mk.injEq] at hh
    obtain ⟨rfl, rfl⟩ := hh
    exact ⟨_, _, run_endRound none h1, hk _ _ (.bool _) (key _ _)⟩
  | ret =>
    simp only [Except.ok.injEq, Prod.mk.injEq] at hh
    obtain ⟨rfl, rfl⟩ := hh
    exact ⟨_, _, run_endRound (some .ret) h1, hk _ _ (.bool _) (key _ _)⟩
  | exit id =>
    simp only [Except.ok.injEq, Prod.mk.injEq] at hh
    obtain ⟨rfl, rfl⟩ := hh
    exact ⟨_, _, run_endRound (some (.exit id)) h1, hk _ _ (.bool _) (key _ _)⟩
  | goto g =>
    simp only [Except.ok.injEq, Prod.mk.injEq] at hh
    obtain ⟨rfl, rfl⟩ := hh
    exact ⟨_, _, run_endRound (some (.goto g)) h1, hk _ _ (.bool _) (key _ _)⟩

theorem roundK_sound (hrec : RecSound P r) {l : Nat} {args : Array Value} {v : Value} (hh : roundK P r L l args h = .ok (v, h')) {loc : Loc} {cargs : Array Value} (hr : HR ρ h w) (hl : ρ l = some loc)
    (ha : VL ρ args.toList cargs.toList) (n : Nat) :
    ∃ fn tmps assign body, (Instr.yield loc.blk cargs).run P w = .ok (.round loc.blk fn tmps assign body) w ∧
      RoundIn Fence.wide n P loc.blk fn tmps assign body w fun e w' => ∃ c ρ', e = .returned c ∧ VR ρ' v c ∧ Post ρ h w ρ' h' w' := by
  unfold roundK at hh
  split at hh
  case h_2 => cases hh
  rename_i q hg
  simp only [bindR_ok, must_ok] at hh
  obtain ⟨_, hsz, hh⟩ := hh
  have hsz : q.params.size = args.size := Nat.eq_of_beq_eq_true hsz
  have hs : args.size = cargs.size := by simpa using ha.1
  have hb := (hr.dom _ _ hl).2.2
  rw [hg] at hb
  obtain ⟨q', ld, h1, h2, h3, h4, h5, h6, h7, h8, h9⟩ := hb
  refine ⟨_, _, _, _, run_yield h1 (by rw [h4, hsz, hs]), ?_⟩
  have hset := setAll_sound q.params.toList args.toList cargs.toList h7.2 h7.1 ha
  have hfold : (q'.params.zip cargs).foldl (fun tmps (t, a) => tmps.setIfInBounds t a) q'.tmps = (q.params.toList.zip cargs.toList).foldl (fun tmps p => tmps.setIfInBounds p.1 p.2) q'.tmps := by
    rw [h4, ← Array.foldl_toList, Array.toList_zip]
  rw [hfold, h5, h6]
  have hF : FR ρ (some l) (Fence.wide.inRound loc.blk) := .inr ⟨l, loc, rfl, hl, rfl⟩
  refine roundIn_of_wpIn trivial (den_sound hrec q.assign hh (s := w.heap.size) hF hset.2 (hset.1.cut hset.2) hr ⟨⟨Nat.le_refl _, fun d hm => by cases hm⟩, List.nodup_nil⟩ fun e t' h'' ρ' a' w' he hn' ht' hp hd' => ?_)
  split at he
  case h_2 => cases he
  rename_i q₂ hg₂
  split at he
  case h_2 => cases he
  rename_i hst
  have hl' := hp.sub hr _ _ hl
  have hb' := (hp.hr.dom _ _ hl').2.2
  rw [hg₂] at hb'
  obtain ⟨q₃, ld₂, k1, k2, k3, k4, k5, k6, k7, k8, k9⟩ := hb'
  have hpw : Post ρ' h'' w' ρ' (h''.write l (.loop { q₂ with state := .busy }) 0) (w'.putObj loc.blk (.loop { q₃ with state := .busy })) := by
    refine Post.write hp.hr hl' (by rw [hg₂]; rfl) (At1.setBlk _ _) ⟨_, ld₂, setBlk_heap (hp.hr.dom _ _ hl').2.1, rfl, k3, k4, k5, k6, k7, k8, k9⟩ (fun m' _ _ hlow => ?_)
    rw [hg₂] at hlow; exact hlow
  refine ⟨_, run_beginRound k1 (by rw [k2]; exact hst), ?_⟩
  refine den_sound hrec q.body he (s := w.heap.size) (hF.mono (hp.sub hr)) hn' ht' hpw.hr (hd'.post hp.hr hpw) fun e t₃ h₃ ρ₃ a₃ w₃ he₃ hn₃ ht₃ hp₃ hd₃ => ?_
  exact roundEnd_sound he₃ (hp₃.sub hpw.hr _ _ hl') hp₃.hr fun c w₄ hv hp₄ => ⟨c, ρ₃, rfl, hv, ((hp.trans hpw).trans hp₃).trans hp₄⟩

theorem againK_sound (hrec : RecSound P r) {b : Code} {l : Nat} {t : Tmps} {rd : Option Nat} {e : AExit} {t' : Tmps} (hh : againK P r L N b l t h rd = .ok (e, t', h')) {s : Nat} {a : Act} {F : Fence} {n : Nat} {Q : Exit → Act → World → Prop}
    (hF : FR ρ rd F) (hn : a.tmps.size = N) (ht : TR ρ t a.tmps) (hr : HR ρ h w) (hd : DR s ρ h w a.defers)
    (hk : ∀ ρ' a' w', a'.tmps.size = N → TR ρ' t' a'.tmps → Post ρ h w ρ' h' w' → DR s ρ' h' w' a'.defers → Q (outOf e) a' w') : JumpIn F n P b Q l a w := by
  unfold againK at hh
  unfold JumpIn
  cases hf : findLabel b l with
  | none =>
    rw [hf] at hh
    simp only [Except.ok.injEq, Prod.mk.injEq] at hh
    obtain ⟨rfl, rfl, rfl⟩ := hh
    exact hk _ _ _ hn ht (.refl hr) hd
  | some rest =>
    rw [hf] at hh
    refine scopeIn_step (den_sound hrec rest hh hF hn (ht.cut hn) hr hd fun e₁ t₁ h₁ ρ₁ a₁ w₁ he hn₁ ht₁ hp₁ hd₁ => ?_)
    have go : ∀ e', (Except.ok (e', t₁, h₁) : R (AExit × Tmps × Heap)) = .ok (e, t', h') → Q (outOf e') a₁ w₁ := fun e' he => by
      simp only [Except.ok.injEq, Prod.mk.injEq] at he
      obtain ⟨rfl, rfl, rfl⟩ := he
      exact hk _ _ _ hn₁ ht₁ hp₁ hd₁
    cases e₁ with
    | normal => exact go _ he
    | exit i => exact go _ he
    | ret => exact go _ he
    | goto g => exact hrec.again he (hF.mono (hp₁.sub hr)) hn₁ ht₁ hp₁.hr hd₁ fun ρ₂ a₂ w₂ hn₂ ht₂ hp₂ hd₂ => hk _ _ _ hn₂ ht₂ (hp₁.trans hp₂) hd₂

theorem recN_sound : ∀ n, RecSound P (recN P L n)
  | 0 => ⟨fun hh => by simp [recN] at hh, fun hh => by simp [recN] at hh, fun hh => by simp [recN] at hh⟩
  | n + 1 => ⟨fun hh _ _ _ hr ha k => callK_sound (recN_sound n) hh hr ha k, fun hh _ _ _ _ hr hl ha k => roundK_sound (recN_sound n) hh hr hl ha k,
      fun hh _ _ _ _ _ _ _ hF hn ht hr hd hk => againK_sound (recN_sound n) hh hF hn ht hr hd hk⟩
end
end Go.AM
