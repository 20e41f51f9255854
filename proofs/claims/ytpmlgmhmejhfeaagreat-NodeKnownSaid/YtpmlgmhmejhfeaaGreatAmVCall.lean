/- A part of the abstract machine: definitions and lemmas for all programs, no claim of its own; no condition. -/
import Derived.Test.YtpmlgmhmejhfeaaGreatAmVDen
set_option linter.unusedVariables false
set_option linter.unusedSimpArgs false
namespace Go.AM
open Go

section
variable {P : Program} {L : Nat}

/-! ### Functions -/
noncomputable def leaveK (h0 h : Heap) (v : Value) : R (Value × Heap) :=
  @Heap.rec (fun _ => R (Value × Heap)) (fun n0 t0 b0 w0 i0 => @Heap.rec (fun _ => R (Value × Heap)) (fun n t _ w i =>
    @Bool.rec (fun _ => R (Value × Heap)) (fmin w0 w fun w' => fmax i0 i fun i' => .ok (v, ⟨n, t, b0, w', i'⟩))
      (@Bool.rec (fun _ => R (Value × Heap))
        (fmin w0 w fun w' => fmax i0 i fun i' => @Bool.rec (fun _ => R (Value × Heap)) (.ok (v, ⟨n, t, b0, w', i'⟩)) (.ok (v, ⟨n0, t, b0, w', i'⟩)) (Nat.ble i n0))
        (.ok (v, ⟨n0, t0, b0, w0, i0⟩)) (Nat.ble n0 w)) (Nat.ble (ids v) n0)) h) h0
theorem leaveK_eq {h0 h : Heap} {v : Value} : leaveK h0 h v = .ok (v, leave h0 h v) := by
  obtain ⟨n0, t0, b0, w0, i0⟩ := h0
  obtain ⟨n, t, b, w, i⟩ := h
  simp only [leaveK, leave, fmin_eq, fmax_eq]
  cases Nat.ble (ids v) n0 <;> cases Nat.ble n0 w <;> cases Nat.ble i n0 <;> rfl
noncomputable def enterK {β : Type} (h : Heap) (k : Heap → R β) : R β := @Heap.rec (fun _ => R β) (fun n t _ _ _ => k ⟨n, t, n, big, 0⟩) h
theorem enterK_eq {β : Type} {h : Heap} {k : Heap → R β} : enterK h k = k (enter h) := by cases h; rfl

noncomputable def g_resB (P : Program) (rs : List ResultVar) (h₀ : Heap) (tt : TT) (h : Heap) : R (Value × Heap) := bx (resultsV P rs (TT.fn tt) h) (leaveK h₀ h)
noncomputable def g_endB (P : Program) (rs : List ResultVar) (h₀ : Heap) (e : AExit) (tt : TT) (h : Heap) : R (Value × Heap) :=
  @AExit.rec (fun _ => R (Value × Heap)) (g_resB P rs h₀ tt h) (fun _ => .error "a jump out") (fun _ => .error "a jump out") (g_resB P rs h₀ tt h) e
noncomputable def g_fnB (P : Program) (r : Rec) (L : Nat) (args : List Value) (h₀ : Heap) (fn : Func) : R (Value × Heap) :=
  bx (ofOpt fn.body) fun c => ifB (Nat.ble (lenN args) fn.ntmps) (ifB (Nat.ble fn.ntmps 512) (enterK h₀ fun h => (denB P L fn.ntmps c).f ⟨r, none⟩ (tab (nthD args)) h (g_endB P fn.results.toList h₀)) (.error "temporaries")) (.error "arguments")
noncomputable def callB' (P : Program) (r : Rec) (L : Nat) (f : FuncId) (args : Array Value) (h₀ : Heap) : R (Value × Heap) := bx (ofOpt P.funcs[f]?) (g_fnB P r L args.toList h₀)
theorem tmpsOf_tab {args : Array Value} (hn : args.size ≤ 512) : TT.fn (tab (nthD args.toList)) = tmpsOf args := by
  have : nthD args.toList = tmpsOf args := by
    funext i
    rw [nthD_eq]
    unfold tmpsOf
    simp [Array.getD_eq_getD_getElem?, List.getD]
  rw [this]
  refine fn_tab fun i hi => ?_
  unfold tmpsOf
  unfold Array.getD
  rw [dif_neg (by omega)]
theorem callB_le {r : Rec} {f : FuncId} {args : Array Value} {h : Heap} {x : Value × Heap} (hh : callB' P r L f args h = .ok x) : callK P r L f args h = .ok x := by
  unfold callB' at hh
  obtain ⟨fn, h1, hh⟩ := bx_ok.1 hh
  unfold g_fnB at hh
  obtain ⟨c, h2, hh⟩ := bx_ok.1 hh
  obtain ⟨h3, hh⟩ := ifB_ok hh
  obtain ⟨h4, hh⟩ := ifB_ok hh
  rw [enterK_eq] at hh
  have h4 := ble_iff.1 h4
  have h3' : args.size ≤ fn.ntmps := by simpa [lenN_eq] using ble_iff.1 h3
  unfold callK
  refine bindR_ok.2 ⟨fn, h1, bindR_ok.2 ⟨c, h2, bindR_ok.2 ⟨(), by rw [must_ok]; exact ble_iff.2 h3', ?_⟩⟩⟩
  rw [← tmpsOf_tab (by omega)]
  refine denB_ok h4 ⟨r, none⟩ _ _ _ _ x (fun e tt h' he => ?_) hh
  have key : g_resB P fn.results.toList h tt h' = .ok x → (bindR (resultsV P fn.results.toList (TT.fn tt) h') fun v => .ok (v, leave h h' v)) = .ok x := fun hx => by
    obtain ⟨v, h5, h6⟩ := bx_ok.1 hx
    rw [leaveK_eq] at h6
    exact bindR_ok.2 ⟨v, h5, h6⟩
  cases e with
  | normal => exact key he
  | ret => exact key he
  | exit i => cases he
  | goto l => cases he

noncomputable def roundB (P : Program) (r : Rec) (L : Nat) (l : Nat) (args : Array Value) (h : Heap) : R (Value × Heap) :=
  match h.get l with
  | .loop q =>
    bindR (must (Nat.beq q.params.size args.size && Nat.ble q.ntmps 512)) fun _ =>
    (denB P L q.ntmps q.assign).f ⟨r, some l⟩ (tab (cutT q.ntmps (setAll q.ntmps q.tmps q.params.toList args.toList))) h fun e tt h =>
    match e, h.get l with
    | .normal, .loop q' =>
      match q'.state with
      | .ready => (denB P L q.ntmps q.body).f ⟨r, some l⟩ tt (h.write l (.loop { q' with state := .busy }) 0) fun e _ h => roundEnd l e h
      | _ => .error "yield: not ready"
    | _, _ => .error "round"
  | _ => .error "yield: no loop"
theorem roundB_le {r : Rec} {l : Nat} {args : Array Value} {h : Heap} {x : Value × Heap} (hh : roundB P r L l args h = .ok x) : roundK P r L l args h = .ok x := by
  unfold roundB at hh
  unfold roundK
  split at hh
  · rename_i q hg
    obtain ⟨u, h1, hh⟩ := bindR_ok.1 hh
    rw [must_ok, Bool.and_eq_true] at h1
    have hN := ble_iff.1 h1.2
    simp only [hg]
    refine bindR_ok.2 ⟨(), by rw [must_ok]; exact h1.1, ?_⟩
    rw [← fn_cut hN]
    refine denB_ok hN ⟨r, some l⟩ _ _ _ _ x (fun e tt h' he => ?_) hh
    split at he
    · rename_i hg'
      split at he
      · rename_i hst
        simp only [hg', hst]
        exact denB_ok hN ⟨r, some l⟩ _ _ (fun e _ h => roundEnd l e h) (fun e _ h => roundEnd l e h) x (fun e tt h' he => he) he
      · cases he
    · cases he
  · cases hh

noncomputable def againB (P : Program) (r : Rec) (L N : Nat) (b : Code) (l : Nat) (t : Tmps) (h : Heap) (rd : Option Nat) : R (AExit × Tmps × Heap) :=
  match findLabel b l, Nat.ble N 512 with
  | none, _ => .ok (.goto l, t, h)
  | some rest, true => (denB P L N rest).f ⟨r, rd⟩ (tab (cutT N t)) h fun e tt h =>
    match e with
    | .goto l => r.again N b l (TT.fn tt) h rd
    | e => .ok (e, TT.fn tt, h)
  | some _, false => .error "temporaries"
theorem againB_le {r : Rec} {N : Nat} {b : Code} {l : Nat} {t : Tmps} {h : Heap} {rd : Option Nat} {x : AExit × Tmps × Heap} (hh : againB P r L N b l t h rd = .ok x) : againK P r L N b l t h rd = .ok x := by
  unfold againB at hh
  unfold againK
  split at hh
  · rename_i hf; simp only [hf]; exact hh
  · rename_i rest hf hb
    simp only [hf]
    have hN := ble_iff.1 hb
    rw [← fn_cut hN]
    refine denB_ok hN ⟨r, rd⟩ _ _ _ _ x (fun e tt h' he => ?_) hh
    cases e <;> exact he
  · cases hh

/-! ### The machine with facts -/
noncomputable def callV (P : Program) (facts : List (FuncId × List Memo)) (r : Rec) (L : Nat) (f : FuncId) (args : Array Value) (h : Heap) : R (Value × Heap) :=
  @Option.rec Value (fun _ => R (Value × Heap)) (callB' P r L f args h) (fun v => .ok (v, h)) (pick1 h args.toList (group facts f))
noncomputable def recV (P : Program) (L : Nat) (facts : List (FuncId × List Memo)) (n : Nat) : Rec :=
  @Nat.rec (fun _ => Rec) { call := fun _ _ _ => .error "fuel", round := fun _ _ _ => .error "fuel", again := fun _ _ _ _ _ _ => .error "fuel" }
    (fun _ r => { call := callV P facts r L, round := roundB P r L, again := fun N => againB P r L N }) n

theorem recV_sound {facts : List (FuncId × List Memo)} (hf : FactsOk P facts) : ∀ n, RecSound P (recV P L facts n)
  | 0 => ⟨fun hh => by simp [recV] at hh, fun hh => by simp [recV] at hh, fun hh => by simp [recV] at hh⟩
  | n + 1 => by
    have ih := recV_sound hf n
    refine ⟨fun {f args h v h'} hh ρ w cargs hr ha k => ?_, fun hh _ _ _ _ hr hl ha k => roundK_sound (L := L) ih (roundB_le hh) hr hl ha k,
      fun hh _ _ _ _ _ _ _ hF hn ht hr hd hk => againK_sound (L := L) ih (againB_le hh) hF hn ht hr hd hk⟩
    have hh' : callV P facts (recV P L facts n) L f args h = .ok (v, h') := hh
    unfold callV at hh'
    cases hu : pick1 h args.toList (group facts f) with
    | none => rw [hu] at hh'; exact callK_sound ih (callB_le hh') hr ha k
    | some u =>
      rw [hu] at hh'
      simp only [Except.ok.injEq, Prod.mk.injEq] at hh'
      obtain ⟨rfl, rfl⟩ := hh'
      obtain ⟨q, hq, hfit, rfl⟩ := pick1_ok hu
      obtain ⟨rfl, hlen, hp, hc⟩ := group_ok hf q hq
      obtain ⟨ρ', h1, h2⟩ := fits_ok hr hlen ha hfit
      refine (callsIn_wide.2 (hc ρ' w cargs h1 h2)).mono fun e w' ⟨he, hk⟩ => ?_
      exact ⟨q.v, ρ, he, plain_refl 20 q.v hp, .kept hr hk⟩

theorem memoV_of_run {n : Nat} {facts : List (FuncId × List Memo)} (hf : FactsOk P facts) {q : Memo} (hp : (plainV 20 q.v && Nat.ble q.rows.length 32768) = true) (h : runOk (recV P L facts n) q = true) : MemoOk P q := by
  rw [Bool.and_eq_true] at hp
  refine ⟨hp.1, fun ρ w cargs hr ha => ?_⟩
  unfold runOk at h
  split at h
  · rename_i v h' hh
    obtain rfl := sameV_eq 20 _ _ h
    have := (recV_sound (L := L) hf n).call hh hr (cargs := cargs) (by simpa using ha) 0
    refine (callsIn_wide.1 this).mono fun e w' ⟨c, ρ', he, hv, hpo⟩ => ?_
    obtain rfl := plain_eq 20 _ hp.1 _ hv
    refine ⟨he, hpo.fr.size, fun c hc => hpo.fr.same c hc fun i l e o => ?_, hpo.fr.os, hpo.fr.output, hpo.fr.tape⟩
    unfold heapOf at o
    rw [putAll_get q.rows none0 (by simpa [none0] using Nat.le_of_ble_eq_true hp.2)] at o
    simp only [none0, Nat.sub_zero, Nat.zero_le, if_true] at o
    split at o
    · cases o
    · rw [get_of_ge (h := ⟨0, HT.none, 0, big, 0⟩) (Nat.zero_le _)] at o; cases o
  · cases h
theorem factsOk_nil : FactsOk P [] := fun g hg => by cases hg
end
end Go.AM
