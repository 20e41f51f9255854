/- A part of the abstract machine: definitions and lemmas for all programs, no claim of its own; no condition. -/
import Derived.Test.YtpmlgmhmejhfeaaGreatAmRun
set_option linter.unusedVariables false
set_option linter.unusedSimpArgs false
namespace Go.AM
open Go

/-! The machine once more, in small definitions: what the kernel runs. Each is proved to be the machine's own. -/

def f_move (P : Program) (x : Operand) (t : Tmps) (h : Heap) : R Todo :=
  val h (ev t x)

def f_assign (P : Program) (x : Operand) (t : Tmps) (h : Heap) : R Todo :=
  val h (ev t x)

def f_pick (P : Program) (c a b : Operand) (t : Tmps) (h : Heap) : R Todo :=
  bindR (ev t c) fun c => bindR (ev t a) fun a => bindR (ev t b) fun b => val h (pickV c a b)

def f_alloc (P : Program) (e : TypeId) (t : Tmps) (h : Heap) : R Todo :=
  bindR (tzero P e) fun z => valh (rowV h e z.cells.toList)

def f_box (P : Program) (e : TypeId) (x : Operand) (t : Tmps) (h : Heap) : R Todo :=
  bindR (ev t x) fun v => valh (rowV h e v.cells.toList)

def f_build (P : Program) (ty : TypeId) (parts : Array (Nat × Operand)) (t : Tmps) (h : Heap) : R Todo :=
  bindR (evp t parts.toList) fun l => val h (buildV P ty l)

def f_buildSlice (P : Program) (ty : TypeId) (len : Nat) (parts : Array (Nat × Operand)) (t : Tmps) (h : Heap) : R Todo :=
  bindR (evp t parts.toList) fun l => valh (buildSliceV P h ty len l)

def f_load (P : Program) (ty : TypeId) (a : Operand) (t : Tmps) (h : Heap) : R Todo :=
  bindR (ev t a) fun a => val h (loadV P h ty a)

def f_store (P : Program) (ty : TypeId) (a x : Operand) (t : Tmps) (h : Heap) : R Todo :=
  bindR (ev t a) fun a => bindR (ev t x) fun x => valu (storeV P h ty a x)

def f_nilCheck (P : Program) (x : Operand) (t : Tmps) (h : Heap) : R Todo :=
  bindR (ev t x) fun x => val h (nilCheckV x)

def f_binOp (P : Program) (op : BinOp) (ty : TypeId) (x y : Operand) (yt : TypeId) (t : Tmps) (h : Heap) : R Todo :=
  bindR (ev t x) fun a => bindR (ev t y) fun b => val h (binV P op ty x y a b)

def f_unOp (P : Program) (op : UnOp) (ut : TypeId) (x : Operand) (t : Tmps) (h : Heap) : R Todo :=
  bindR (ev t x) fun a => val h (unV P op a)

def f_convert (P : Program) (s d : TypeId) (x : Operand) (t : Tmps) (h : Heap) : R Todo :=
  bindR (ev t x) fun a => valh (convertV P h s d a)

def f_makeInterface (P : Program) (ty : TypeId) (x : Operand) (t : Tmps) (h : Heap) : R Todo :=
  bindR (ev t x) fun a => val h (ifaceV P ty a)

def f_makeFunc (P : Program) (fn : Fn) (first captured : Array Operand) (t : Tmps) (h : Heap) : R Todo :=
  bindR (evs t first.toList) fun a => bindR (evs t captured.toList) fun b =>
      match fn with
      | .func f => .ok (.value (.func (.func f) a.toArray b.toArray) h)
      | _ => .error "makeFunc"

def f_makeMap (P : Program) (ty : TypeId) (r : Option Operand) (t : Tmps) (h : Heap) : R Todo :=
  bindR (evo t r) fun r => valh (makeMapV P h ty r)

def f_makeSlice (P : Program) (ty : TypeId) (l c : Operand) (t : Tmps) (h : Heap) : R Todo :=
  bindR (ev t l) fun l => bindR (ev t c) fun c => valh (makeSliceV P h ty l c)

def f_slice (P : Program) (ty : TypeId) (x : Operand) (lo hi mx : Option Operand) (t : Tmps) (h : Heap) : R Todo :=
  bindR (ev t x) fun x => bindR (evo t lo) fun lo => bindR (evo t hi) fun hi => bindR (evo t mx) fun mx => val h (sliceV P h ty x lo hi mx)

def f_fieldAddr (P : Program) (s : TypeId) (x : Operand) (f : Nat) (t : Tmps) (h : Heap) : R Todo :=
  bindR (ev t x) fun x => val h (fieldAddrV P s x f)

def f_field (P : Program) (ty : TypeId) (x : Operand) (f : Nat) (t : Tmps) (h : Heap) : R Todo :=
  bindR (ev t x) fun x => val h (fieldV P ty x f)

def f_indexAddr (P : Program) (ty : TypeId) (x i : Operand) (t : Tmps) (h : Heap) : R Todo :=
  bindR (ev t x) fun x => bindR (ev t i) fun i => val h (indexAddrV P ty x i)

def f_index (P : Program) (ty : TypeId) (x i : Operand) (t : Tmps) (h : Heap) : R Todo :=
  bindR (ev t x) fun x => bindR (ev t i) fun i => val h (indexV P ty x i)

def f_lookup (P : Program) (ty : TypeId) (x i : Operand) (ok : Bool) (t : Tmps) (h : Heap) : R Todo :=
  bindR (ev t x) fun x => bindR (ev t i) fun i => val h (lookupV P h ty x i ok)

def f_mapUpdate (P : Program) (ty : TypeId) (m k x : Operand) (t : Tmps) (h : Heap) : R Todo :=
  bindR (ev t m) fun m => bindR (ev t k) fun k => bindR (ev t x) fun x => valu (updateV P h ty m k x)

def f_insert (P : Program) (ty : TypeId) (m k x : Operand) (t : Tmps) (h : Heap) : R Todo :=
  bindR (ev t m) fun m => bindR (ev t k) fun k => bindR (ev t x) fun x => valu (updateV P h ty m k x)

def f_range (P : Program) (ty : TypeId) (x : Operand) (t : Tmps) (h : Heap) : R Todo :=
  bindR (ev t x) fun x => valh (rangeV P h ty x)

def f_next (P : Program) (it : Operand) (t : Tmps) (h : Heap) : R Todo :=
  bindR (ev t it) fun it => valh (nextV h it)

def f_typeAssert (P : Program) (x : Operand) (xt ty : TypeId) (ok : Bool) (t : Tmps) (h : Heap) : R Todo :=
  bindR (ev t x) fun x => val h (typeAssertV P x ty ok)

def f_extract (P : Program) (x : Operand) (i : Nat) (t : Tmps) (h : Heap) : R Todo :=
  bindR (ev t x) fun x => val h (extractV x i)

def f_call (P : Program) (c : Call) (t : Tmps) (h : Heap) : R Todo :=
  callStep P c t h

def f_none (_ : Tmps) (_ : Heap) : R Todo := .error "op"

def f_nextB (P : Program) (it : Operand) (b : Bool) (t : Tmps) (h : Heap) : R Todo := match b with | true => f_next P it t h | false => f_none t h

def stepF (P : Program) (op : Op) : Tmps → Heap → R Todo :=
  match op with
  | .move x => f_move P x
  | .assign x => f_assign P x
  | .pick c a b => f_pick P c a b
  | .alloc e => f_alloc P e
  | .box e x => f_box P e x
  | .build ty parts => f_build P ty parts
  | .buildSlice ty len parts => f_buildSlice P ty len parts
  | .load ty a => f_load P ty a
  | .store ty a x => f_store P ty a x
  | .nilCheck x => f_nilCheck P x
  | .binOp op ty x y yt => f_binOp P op ty x y yt
  | .unOp op ut x => f_unOp P op ut x
  | .convert s d x => f_convert P s d x
  | .makeInterface ty x => f_makeInterface P ty x
  | .makeFunc fn first captured => f_makeFunc P fn first captured
  | .makeMap ty r => f_makeMap P ty r
  | .makeSlice ty l c => f_makeSlice P ty l c
  | .slice ty x lo hi mx => f_slice P ty x lo hi mx
  | .fieldAddr s x f => f_fieldAddr P s x f
  | .field ty x f => f_field P ty x f
  | .indexAddr ty x i => f_indexAddr P ty x i
  | .index ty x i => f_index P ty x i
  | .lookup ty x i ok => f_lookup P ty x i ok
  | .mapUpdate ty m k x => f_mapUpdate P ty m k x
  | .insert ty m k x => f_insert P ty m k x
  | .range ty x => f_range P ty x
  | .next it b => f_nextB P it b
  | .typeAssert x xt ty ok => f_typeAssert P x xt ty ok
  | .extract x i => f_extract P x i
  | .call c => f_call P c
  | _ => f_none

theorem stepF_eq {P : Program} {op : Op} {t : Tmps} {h : Heap} : stepF P op t h = step P op t h := by
  cases op
  case next it b => cases b <;> rfl
  all_goals rfl

section
variable {β : Type}
def o_end (N : Nat) (dst : Option Tmp) (t : Tmps) (k : Tmps → Heap → R β) (x : Value × Heap) : R β := k (put N t dst x.1) x.2
def o_td (r : Rec) (N : Nat) (dst : Option Tmp) (t : Tmps) (h : Heap) (k : Tmps → Heap → R β) (td : Todo) : R β :=
  match td with
  | .value v h => k (put N t dst v) h
  | .enter f args => bindR (r.call f args h) (o_end N dst t k)
  | .round l args => bindR (r.round l args h) (o_end N dst t k)
def o_one (P : Program) (r : Rec) (N : Nat) (o : Oper) (t : Tmps) (h : Heap) (k : Tmps → Heap → R β) : R β := bindR (stepF P o.op t h) (o_td r N o.dst t h k)
theorem o_one_eq {P : Program} {r : Rec} {N : Nat} {o : Oper} {t : Tmps} {h : Heap} {k : Tmps → Heap → R β} : o_one P r N o t h k = oper P r N o t h k := by
  simp only [o_one, oper, stepF_eq]
  congr 1

abbrev Den (β : Type) := Tmps → Heap → Kont β → R β
def o_go (ih : Den β) (k : Kont β) (t : Tmps) (h : Heap) : R β := ih t h k
def o_nil (t : Tmps) (h : Heap) (k : Kont β) : R β := k .normal t h
def o_if (P : Program) (r : Rec) (N : Nat) (o : Oper) (ih : Den β) (t : Tmps) (h : Heap) (k : Kont β) (b : Bool) : R β :=
  match b with
  | true => o_one P r N o t h (o_go ih k)
  | false => ih (put N t o.dst undef) h k
def o_cons (P : Program) (r : Rec) (N : Nat) (ops : Array Oper) (o : Oper) (ih : Den β) (t : Tmps) (h : Heap) (k : Kont β) : R β := o_if P r N o ih t h k (wanted ops o t)
noncomputable def opersF (P : Program) (r : Rec) (N : Nat) (ops : Array Oper) (os : List Oper) : Den β :=
  @List.rec Oper (fun _ => Den β) o_nil (fun o _ ih => o_cons P r N ops o ih) os
theorem opersF_eq {P : Program} {r : Rec} {N : Nat} {ops : Array Oper} : ∀ {os : List Oper} {t : Tmps} {h : Heap} {k : Kont β}, opersF P r N ops os t h k = opers P r N ops os t h k
  | [], _, _, _ => rfl
  | o :: os, t, h, k => by
    show o_if P r N o (opersF P r N ops os) t h k (wanted ops o t) = _
    simp only [opers]
    cases wanted ops o t with
    | true =>
      show o_one P r N o t h (o_go (opersF P r N ops os) k) = oper P r N o t h fun t h => opers P r N ops os t h k
      rw [o_one_eq]; congr 1; funext t h; exact opersF_eq
    | false => exact opersF_eq

def c_region (P : Program) (r : Rec) (N : Nat) (ops : Array Oper) (draw : Bool) (f : Den β) (t : Tmps) (h : Heap) (k : Kont β) : R β :=
  match draw with
  | false => f t h k
  | true => drawK P r N ops t h k
def c_seqK (g : Den β) (k : Kont β) (e : AExit) (t : Tmps) (h : Heap) : R β :=
  match e with
  | .normal => g t h k
  | e => k e t h
def c_seq (f g : Den β) (t : Tmps) (h : Heap) (k : Kont β) : R β := f t h (c_seqK g k)
def c_condK (f g : Den β) (t : Tmps) (h : Heap) (k : Kont β) (c : Value) : R β :=
  match c with
  | .bool true => f t h k
  | .bool false => g t h k
  | _ => .error "cond"
def c_cond (x : Operand) (f g : Den β) (t : Tmps) (h : Heap) (k : Kont β) : R β := bindR (ev t x) (c_condK f g t h k)
def c_exit (b : Bool) (i : Nat) (k : Kont β) (t : Tmps) (h : Heap) : R β :=
  match b with
  | true => k .normal t h
  | false => k (.exit i) t h
def c_blockK (id : Nat) (k : Kont β) (e : AExit) (t : Tmps) (h : Heap) : R β :=
  match e with
  | .exit i => c_exit (Nat.beq i id) i k t h
  | e => k e t h
def c_block (id : Nat) (f : Den β) (t : Tmps) (h : Heap) (k : Kont β) : R β := f t h (c_blockK id k)
def c_loop0 (_ : Tmps) (_ : Heap) (_ : Kont β) : R β := .error "fuel"
def c_loop1 (f ih : Den β) (t : Tmps) (h : Heap) (k : Kont β) : R β := f t h (c_seqK ih k)
noncomputable def c_loop (f : Den β) (n : Nat) : Den β := @Nat.rec (fun _ => Den β) c_loop0 (fun _ ih => c_loop1 f ih) n
theorem c_loop_eq {f : Den β} : ∀ {n : Nat} {t : Tmps} {h : Heap} {k : Kont β}, c_loop f n t h k = loopK f n t h k
  | 0, _, _, _ => rfl
  | n + 1, t, h, k => by
    show f t h (c_seqK (c_loop f n) k) = f t h _
    congr 1; funext e t h
    cases e with
    | normal => exact c_loop_eq
    | _ => rfl
def c_scopeK (r : Rec) (N : Nat) (rd : Option Nat) (b : Code) (k : Kont β) (e : AExit) (t : Tmps) (h : Heap) : R β :=
  match e with
  | .goto l => bindR (r.again N b l t h rd) fun x => k x.1 (cutT N x.2.1) x.2.2
  | e => k e t h
def c_scope (r : Rec) (N : Nat) (rd : Option Nat) (b : Code) (f : Den β) (t : Tmps) (h : Heap) (k : Kont β) : R β := f t h (c_scopeK r N rd b k)
def c_leave (e : AExit) (t : Tmps) (h : Heap) (k : Kont β) : R β := k e t h
def c_refuse (_ : Tmps) (_ : Heap) (_ : Kont β) : R β := .error "refuse"
def c_range (P : Program) (r : Rec) (N : Nat) (rd : Option Nat) (g : Operand) (ps : Array Tmp) (assign body : Code) (t : Tmps) (h : Heap) (k : Kont β) : R β := rangeK P r N g ps assign body t h rd k

noncomputable def denF (P : Program) (r : Rec) (L N : Nat) (rd : Option Nat) (c : Code) : Den β :=
  @Code.rec (fun _ => Den β) o_nil (fun _ ops d => c_region P r N ops d (opersF P r N ops ops.toList)) (fun _ _ f g => c_seq f g) (fun x _ _ f g => c_cond x f g) (fun id _ f => c_block id f)
    (fun _ f => c_loop f L) (fun g ps a b _ _ => c_range P r N rd g ps a b) (fun id => c_leave (.exit id)) (fun b f => c_scope r N rd b f) (fun _ => o_nil) (fun l => c_leave (.goto l)) (c_leave .ret) (fun _ => c_refuse) c

theorem denF_eq {P : Program} {r : Rec} {L N : Nat} {rd : Option Nat} : ∀ {c : Code} {t : Tmps} {h : Heap} {k : Kont β}, denF P r L N rd c t h k = den P r L N rd c t h k := by
  intro c
  induction c with
  | skip => intros; rfl
  | label l => intros; rfl
  | exit id => intros; rfl
  | goto l => intros; rfl
  | ret => intros; rfl
  | refuse m => intros; rfl
  | rangeFunc => intros; rfl
  | region id ops d =>
    intro t h k
    cases d with
    | false => exact opersF_eq
    | true => rfl
  | seq a b iha ihb =>
    intro t h k
    show denF P r L N rd a t h (c_seqK (denF P r L N rd b) k) = _
    rw [iha]
    simp only [den]
    congr 1; funext e t h
    cases e with
    | normal => exact ihb
    | _ => rfl
  | cond x a b iha ihb =>
    intro t h k
    show bindR (ev t x) (c_condK (denF P r L N rd a) (denF P r L N rd b) t h k) = _
    simp only [den]
    congr 1; funext c
    unfold c_condK
    split
    · exact iha
    · exact ihb
    · split <;> simp_all
  | block id b ih =>
    intro t h k
    show denF P r L N rd b t h (c_blockK id k) = _
    rw [ih]
    simp only [den]
    congr 1
  | loop b ih =>
    intro t h k
    show c_loop (denF P r L N rd b) L t h k = _
    rw [c_loop_eq]
    simp only [den]
    congr 1; funext t h k; exact ih
  | scope b ih =>
    intro t h k
    show denF P r L N rd b t h (c_scopeK r N rd b k) = _
    rw [ih]
    simp only [den]
    congr 1
end

/-! ### Functions -/
def g_res (P : Program) (fn : Func) (h₀ : Heap) (t : Tmps) (h : Heap) : R (Value × Heap) := bindR (resultsV P fn.results.toList t h) fun v => .ok (v, leave h₀ h v)
def g_end (P : Program) (fn : Func) (h₀ : Heap) (e : AExit) (t : Tmps) (h : Heap) : R (Value × Heap) :=
  match e with
  | .normal => g_res P fn h₀ t h
  | .ret => g_res P fn h₀ t h
  | _ => .error "a jump out"
noncomputable def g_fn (P : Program) (r : Rec) (L : Nat) (args : Array Value) (h₀ : Heap) (fn : Func) : R (Value × Heap) :=
  bindR (ofOpt fn.body) fun c => bindR (must (Nat.ble args.size fn.ntmps)) fun _ => denF P r L fn.ntmps none c (tmpsOf args) (enter h₀) (g_end P fn h₀)
noncomputable def callF (P : Program) (r : Rec) (L : Nat) (f : FuncId) (args : Array Value) (h₀ : Heap) : R (Value × Heap) := bindR (ofOpt P.funcs[f]?) (g_fn P r L args h₀)
theorem callF_eq {P : Program} {r : Rec} {L : Nat} {f : FuncId} {args : Array Value} {h₀ : Heap} : callF P r L f args h₀ = callK P r L f args h₀ := by
  unfold callF callK
  congr 1; funext fn
  unfold g_fn
  congr 1; funext c
  congr 1; funext _
  rw [denF_eq]
  congr 1
noncomputable def roundF (P : Program) (r : Rec) (L : Nat) (l : Nat) (args : Array Value) (h : Heap) : R (Value × Heap) :=
  match h.get l with
  | .loop q =>
    bindR (must (Nat.beq q.params.size args.size)) fun _ =>
    denF P r L q.ntmps (some l) q.assign (cutT q.ntmps (setAll q.ntmps q.tmps q.params.toList args.toList)) h fun e t h =>
    match e, h.get l with
    | .normal, .loop q' =>
      match q'.state with
      | .ready => denF P r L q.ntmps (some l) q.body t (h.write l (.loop { q' with state := .busy }) 0) fun e _ h => roundEnd l e h
      | _ => .error "yield: not ready"
    | _, _ => .error "round"
  | _ => .error "yield: no loop"
theorem roundF_eq {P : Program} {r : Rec} {L : Nat} {l : Nat} {args : Array Value} {h : Heap} : roundF P r L l args h = roundK P r L l args h := by
  unfold roundF roundK
  simp only [denF_eq]
  rfl
noncomputable def againF (P : Program) (r : Rec) (L N : Nat) (b : Code) (l : Nat) (t : Tmps) (h : Heap) (rd : Option Nat) : R (AExit × Tmps × Heap) :=
  match findLabel b l with
  | none => .ok (.goto l, t, h)
  | some rest => denF P r L N rd rest (cutT N t) h fun e t h =>
    match e with
    | .goto l => r.again N b l t h rd
    | e => .ok (e, t, h)
theorem againF_eq {P : Program} {r : Rec} {L N : Nat} {b : Code} {l : Nat} {t : Tmps} {h : Heap} {rd : Option Nat} : againF P r L N b l t h rd = againK P r L N b l t h rd := by
  unfold againF againK
  simp only [denF_eq]
  rfl

noncomputable def recF (P : Program) (L : Nat) (n : Nat) : Rec :=
  @Nat.rec (fun _ => Rec) { call := fun _ _ _ => .error "fuel", round := fun _ _ _ => .error "fuel", again := fun _ _ _ _ _ _ => .error "fuel" }
    (fun _ r => { call := callF P r L, round := roundF P r L, again := fun N => againF P r L N }) n
theorem recF_eq {P : Program} {L : Nat} : ∀ {n : Nat}, recF P L n = recN P L n
  | 0 => rfl
  | n + 1 => by
    show Rec.mk (callF P (recF P L n) L) (roundF P (recF P L n) L) (fun N => againF P (recF P L n) L N) = _
    rw [recF_eq (n := n)]
    simp only [recN]
    congr 1
    · funext f a h; exact callF_eq
    · funext f a h; exact roundF_eq
    · funext N b l t h rd; exact againF_eq

theorem calls_of_runF {P : Program} {L n : Nat} {f : FuncId} (h : isTrue ((recF P L n).call f #[] none0) = true) (w : World) :
    Calls P f #[] w fun e w' => e = .returned (.bool true) ∧ w.heap.size ≤ w'.heap.size ∧ (∀ c, c < w.heap.size → w'.heap[c]? = w.heap[c]?) ∧ w'.os = w.os ∧ w'.output = w.output ∧ w'.tape = w.tape :=
  calls_of_run (by rw [← recF_eq]; exact h) w
end Go.AM
