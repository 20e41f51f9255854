/- A part of the abstract machine: definitions and lemmas for all programs, no claim of its own; no condition. -/
import Derived.Test.YtpmlgmhmejhfeaaGreatAmOps8
set_option linter.unusedVariables false
set_option linter.unusedSimpArgs false
namespace Go.AM
open Go

section
variable {P : Program} {ρ : Ren} {h h' : Heap} {w : World}

theorem run_bytes : ∀ (l : List Value) (s s' : ByteArray), bytesFrom s l = .ok s' →
    ((forIn l s fun c (s : ByteArray) => (match c with | .int .u8 n => pure (ForInStep.yield (s.push (UInt8.ofNat n.toNat))) | _ => do
        stuck "bytesToString: byte expected"
        pure (ForInStep.yield s) : Sem (ForInStep ByteArray))) : Sem ByteArray).run P w = .ok s' w
  | [], s, s', hh => by simp only [bytesFrom, Except.ok.injEq] at hh; subst hh; simp
  | c :: l, s, s', hh => by
    unfold bytesFrom at hh
    split at hh
    · rename_i e; cases e
    · rename_i n l' e
      simp only [List.cons.injEq] at e
      obtain ⟨rfl, rfl⟩ := e
      simp only [List.forIn_cons, Sem.run_bind, Sem.run_pure, Result.andThen_ok]
      exact run_bytes l _ _ hh
    · cases hh

theorem bytes_plain : ∀ (l : List Value) (s s' : ByteArray), bytesFrom s l = .ok s' → ∀ v ∈ l, Pl v
  | [], _, _, _ => fun v hv => by cases hv
  | c :: l, s, s', hh => by
    unfold bytesFrom at hh
    split at hh
    · rename_i e; cases e
    · rename_i n l' e
      simp only [List.cons.injEq] at e
      obtain ⟨rfl, rfl⟩ := e
      intro v hv
      rcases List.mem_cons.1 hv with rfl | hv
      · exact ⟨1, rfl⟩
      · exact bytes_plain l _ _ hh v hv
    · cases hh

theorem convertV_sound (hr : HR ρ h w) {s d : TypeId} {x cx v : Value} (hx : VR ρ x cx) (hh : convertV P h s d x = .ok (v, h')) : Out P ρ h w (Go.convert s d cx) v h' := by
  simp only [convertV, bindR_ok] at hh
  obtain ⟨ds, hds, dd, hdd, hh⟩ := hh
  have h1 := run_under (w := w) hds
  have h2 := run_under (w := w) hdd
  split at hh
  · simp only [Except.ok.injEq, Prod.mk.injEq] at hh
    obtain ⟨rfl, rfl⟩ := hh
    cases hx
    refine ⟨_, w, ρ, ?_, .int _ _, .refl hr⟩
    simp only [Go.convert, Sem.run_bind, h1, h2, Result.andThen_ok]
    cases ds <;> rfl
  · simp only [Except.ok.injEq, Prod.mk.injEq] at hh
    obtain ⟨rfl, rfl⟩ := hh
    cases hx
    refine ⟨_, w, ρ, ?_, .string _, .refl hr⟩
    simp only [Go.convert, Sem.run_bind, h1, h2, Result.andThen_ok]
    cases ds <;> rfl
  · simp only [Except.ok.injEq, Prod.mk.injEq] at hh
    obtain ⟨rfl, rfl⟩ := hh
    cases hx
    refine ⟨_, w, ρ, ?_, .string _, .refl hr⟩
    simp only [Go.convert, Sem.run_bind, h1, h2, Result.andThen_ok]
    cases ds <;> rfl
  · rename_i e a len cap
    simp only [bindR_ok] at hh
    obtain ⟨de, hde, hh⟩ := hh
    have h3 := run_under (w := w) hde
    split at hh
    case h_2 => cases hh
    simp only [bindR_ok] at hh
    obtain ⟨cs, hcs, st, hst, he⟩ := hh
    simp only [Except.ok.injEq, Prod.mk.injEq] at he
    obtain ⟨rfl, rfl⟩ := he
    obtain ⟨ccs, hrun, hvl⟩ := readCells_sound (P := P) hr hx ⟨len, rfl, Nat.le_refl _⟩ hcs
    obtain rfl := hvl.plain_eq (bytes_plain _ _ _ hst)
    have hrun' := hrun w rfl
    refine ⟨_, w, ρ, ?_, .string _, .refl hr⟩
    have hb := run_bytes (P := P) (w := w) _ _ _ hst
    simp only [Go.convert, Sem.run_bind, h1, h2, Result.andThen_ok]
    cases hx with
    | nilSlice =>
      simp only [Builtin.firstCells, Sem.run_pure, Result.ok.injEq, and_true] at hrun'
      have : ccs = [] := by simpa using hrun'.symm
      subst this
      simp only [bytesFrom, Except.ok.injEq] at hst
      subst hst
      simp only [Sem.run_bind, h3, Result.andThen_ok]
      rfl
    | slice hl hc =>
      simp only [Builtin.firstCells, Nat.mul_one] at hrun'
      simp only [Sem.run_bind, h3, Result.andThen_ok, Conv.bytesToString, hrun']
      rw [← Array.forIn_toList]
      exact (congrArg (fun r : Result ByteArray => r.andThen fun a w' => Sem.run P (pure (Value.string a)) w') hb).trans rfl
    | sliceU hl hc hn ho =>
      simp only [Builtin.firstCells, Nat.mul_one] at hrun'
      simp only [Sem.run_bind, h3, Result.andThen_ok, Conv.bytesToString, hrun']
      rw [← Array.forIn_toList]
      exact (congrArg (fun r : Result ByteArray => r.andThen fun a w' => Sem.run P (pure (Value.string a)) w') hb).trans rfl
  · cases hh

theorem fails_sound {t : TypeId} {ok : Bool} {v : Value} (hh : fails P t ok = .ok v) : ok = true ∧ ∃ z, tzero P t = .ok z ∧ v = .tuple #[z, .bool false] := by
  unfold fails at hh
  split at hh
  · simp only [bindR_ok, Except.ok.injEq] at hh
    obtain ⟨z, hz, rfl⟩ := hh
    exact ⟨rfl, z, hz, rfl⟩
  · cases hh

theorem holdsV_rel {v c : Value} {ok : Bool} (hv : VR ρ v c) : VR ρ (holdsV v ok) (if ok then .tuple #[c, .bool true] else c) := by
  cases ok with
  | true => exact .tuple' (.cons hv (.cons (.bool _) .nil))
  | false => exact hv

theorem typeAssertV_sound {x cx v : Value} {xt t : TypeId} {ok : Bool} (hx : VR ρ x cx) (hh : typeAssertV P x t ok = .ok v) : Same P ρ w (Instr.typeAssert cx xt t ok) v := by
  simp only [typeAssertV, bindR_ok] at hh
  obtain ⟨d, hd, hh⟩ := hh
  have hd' := run_under (w := w) hd
  split at hh
  · obtain ⟨rfl, z, hz, rfl⟩ := fails_sound hh
    cases hx
    exact ⟨_, by simp [Instr.typeAssert, hd', run_zeroValue hz], .tuple' (.cons (tzero_plain hz).refl (.cons (.bool _) .nil))⟩
  · simp only [bindR_ok, ofOpt_ok] at hh
    obtain ⟨i, hi, hh⟩ := hh
    have hi' := run_typeInfo (w := w) hi
    cases hx
    rename_i hy
    split at hh
    · rename_i hm
      cases hh
      exact ⟨_, by simp [Instr.typeAssert, hd', hi', hm], holdsV_rel (.iface _ hy)⟩
    · rename_i m hm
      obtain ⟨rfl, z, hz, rfl⟩ := fails_sound hh
      exact ⟨_, by simp [Instr.typeAssert, hd', hi', hm, run_zeroValue hz], .tuple' (.cons (tzero_plain hz).refl (.cons (.bool _) .nil))⟩
  · rename_i hni
    obtain ⟨rfl, z, hz, rfl⟩ := fails_sound hh
    cases hx
    refine ⟨.tuple #[z, .bool false], ?_, .tuple' (.cons (tzero_plain hz).refl (.cons (.bool _) .nil))⟩
    simp only [Instr.typeAssert, Sem.run_bind, hd', Result.andThen_ok]
    cases d <;> first | exact absurd rfl (hni _) | simp [run_zeroValue hz]
  · rename_i hni
    cases hx
    rename_i y hy
    split at hh
    · rename_i ht
      obtain rfl := beq_true.1 ht
      cases hh
      refine ⟨_, ?_, holdsV_rel hy⟩
      simp only [Instr.typeAssert, Sem.run_bind, hd', Result.andThen_ok]
      cases d <;> first | exact absurd rfl (hni _) | simp
    · rename_i ht
      have ht := beq_false ht
      obtain ⟨rfl, z, hz, rfl⟩ := fails_sound hh
      refine ⟨.tuple #[z, .bool false], ?_, .tuple' (.cons (tzero_plain hz).refl (.cons (.bool _) .nil))⟩
      simp only [Instr.typeAssert, Sem.run_bind, hd', Result.andThen_ok]
      cases d <;> first | exact absurd rfl (hni _) | simp [run_zeroValue hz, ht]
  · cases hh

theorem ifaceV_sound {t : TypeId} {x cx v : Value} (hx : VR ρ x cx) (hh : ifaceV P t x = .ok v) : Same P ρ w (Instr.makeInterface t cx) v := by
  simp only [ifaceV, bindR_ok] at hh
  obtain ⟨d, hd, hh⟩ := hh
  have hd' := run_under (w := w) hd
  split at hh
  · cases hh
  · rename_i hni
    cases hh
    refine ⟨_, ?_, .iface _ hx⟩
    simp only [Instr.makeInterface, Sem.run_bind, hd', Result.andThen_ok]
    cases d <;> first | exact absurd rfl (hni _) | rfl

theorem extractV_sound {x cx v : Value} {i : Nat} (hx : VR ρ x cx) (hh : extractV x i = .ok v) : Same P ρ w (Instr.extract cx i) v := by
  unfold extractV at hh
  split at hh
  case h_2 => cases hh
  rename_i vs
  have hv := ofOpt_ok.1 hh
  cases hx
  rename_i bs h1 h2
  have hl : VL ρ vs.toList bs.toList := ⟨by simpa using h1, fun i hi => h2 i (by simpa using hi)⟩
  obtain ⟨c, hc, hr⟩ := hl.get (i := i) (by simpa using hv)
  have hc' : bs[i]? = some c := by simpa using hc
  exact ⟨c, by simp [Instr.extract, hc'], hr⟩

theorem nilCheckV_rel {x cx v : Value} (hx : VR ρ x cx) (hh : nilCheckV x = .ok v) : v = x ∧
    ((∃ ad, cx = .pointer (some ad)) ∨ (∃ f as cs, cx = .func (.func f) as cs) ∨ ∃ l as cs, cx = .func (.yield l) as cs) := by
  unfold nilCheckV at hh
  split at hh <;> first | cases hh | skip
  · cases hx; exact ⟨rfl, .inl ⟨_, rfl⟩⟩
  · cases hx; exact ⟨rfl, .inr (.inl ⟨_, _, _, rfl⟩)⟩
  · cases hx; exact ⟨rfl, .inr (.inr ⟨_, _, _, rfl⟩)⟩

theorem new_obj (hr : HR ρ h w) (hn : h.n < 32768) (o : Obj) (b : Blk) (hb : ∀ w' : World, w'.heap[w.heap.size]? = some o → BR (ρ.add h.n ⟨w.heap.size, 0, 0, 0⟩) b ⟨w.heap.size, 0, 0, 0⟩ w') :
    Post ρ h w (ρ.add h.n ⟨w.heap.size, 0, 0, 0⟩) (h.put b) { w with heap := w.heap.push o } :=
  Post.alloc hr hn rfl ⟨rfl, rfl, rfl, rfl⟩ (hb _ (by simp))

theorem makeMapV_sound (hr : HR ρ h w) {t : TypeId} {x cx : Option Value} {v : Value} (hx : VO ρ x cx) (hh : makeMapV P h t x = .ok (v, h')) :
    Out P ρ h w (Instr.makeMap t cx) v h' := by
  simp only [makeMapV, bindR_ok, room_ok] at hh
  obtain ⟨d, hd, k, hk, _, hroom, he⟩ := hh
  simp only [Except.ok.injEq, Prod.mk.injEq] at he
  obtain ⟨rfl, rfl⟩ := he
  have hd' := run_under (w := w) hd
  refine ⟨.map (some w.heap.size), _, _, ?_, .map (l := ⟨w.heap.size, 0, 0, 0⟩) Ren.add_same, new_obj hr hroom (.map #[] 0) (.map [] 0) fun w' hw => ⟨#[], hw, .nil⟩⟩
  split at hk
  · cases cx with
    | some _ => exact hx.elim
    | none => simp [Instr.makeMap]
  · cases cx with
    | none => exact hx.elim
    | some c =>
      obtain ⟨kk, rfl, rfl⟩ := intOf_sound hx hk
      simp [Instr.makeMap, hd', asInt, asIntOf]
  · cases hk

theorem rangeV_sound (hr : HR ρ h w) {t : TypeId} {x cx v : Value} (hx : VR ρ x cx) (hh : rangeV P h t x = .ok (v, h')) : Out P ρ h w (Instr.range t cx) v h' := by
  simp only [rangeV, bindR_ok] at hh
  obtain ⟨d, hd, hh⟩ := hh
  have hd' := run_under (w := w) hd
  split at hh
  case h_2 => cases hh
  rename_i s
  simp only [bindR_ok, room_ok] at hh
  obtain ⟨_, hroom, he⟩ := hh
  simp only [Except.ok.injEq, Prod.mk.injEq] at he
  obtain ⟨rfl, rfl⟩ := he
  cases hx
  refine ⟨.pointer (some ⟨w.heap.size, 0, none⟩), _, _, ?_, .ptr (l := ⟨w.heap.size, 0, 0, 0⟩) (o := 0) Ren.add_same, new_obj hr hroom (.stringIter s 0) (.siter s 0) fun w' hw => ⟨hw, rfl⟩⟩
  simp [Instr.range, hd']

theorem nextV_sound (hr : HR ρ h w) {it cit v : Value} {ty : TypeId} (hi : VR ρ it cit) (hh : nextV h it = .ok (v, h')) : Out P ρ h w (Instr.next cit true ty) v h' := by
  unfold nextV at hh
  split at hh
  case h_2 => cases hh
  rename_i r
  split at hh
  case h_2 => cases hh
  rename_i s pos hg
  cases hi
  rename_i l hl
  have hb := (hr.dom _ _ hl).2.2
  have hlt := (hr.dom _ _ hl).2.1
  rw [hg] at hb
  obtain ⟨hw, h0⟩ := hb
  have hgo := run_getObj (P := P) hw (by intro c e f; simp)
  have how : owned (h.get r) = true := by rw [hg]; rfl
  have hoff : l.base + 0 = 0 := by omega
  split at hh
  · rename_i hp
    have hp := blt_true.1 hp
    simp only [Except.ok.injEq, Prod.mk.injEq] at hh
    obtain ⟨rfl, rfl⟩ := hh
    have hso := run_setObj (P := P) (o' := .stringIter s (pos + (Utf8.decode s pos).2)) hw (by intro c e f; simp)
    refine ⟨_, World.setBlk w l.blk (.stringIter s (pos + (Utf8.decode s pos).2)), ρ, ?_, .tuple' (.cons (.bool _) (.cons (.int _ _) (.cons (.int _ _) .nil))), Post.write hr hl how (At1.setBlk _ _) ⟨setBlk_heap hlt, h0⟩ (fun _ _ _ _ => trivial)⟩
    simp only [hoff, Instr.next, Sem.run_bind, hgo, Result.andThen_ok, if_pos hp, hso, Sem.run_pure, goInt]
  · rename_i hp
    have hp := blt_false.1 hp
    simp only [Except.ok.injEq, Prod.mk.injEq] at hh
    obtain ⟨rfl, rfl⟩ := hh
    refine ⟨.tuple #[.bool false], w, ρ, ?_, .tuple' (.cons (.bool _) .nil), .refl hr⟩
    have hp' : ¬ pos < s.size := by omega
    simp only [hoff, Instr.next, Sem.run_bind, hgo, Result.andThen_ok, if_neg hp', Sem.run_pure]
end
end Go.AM
