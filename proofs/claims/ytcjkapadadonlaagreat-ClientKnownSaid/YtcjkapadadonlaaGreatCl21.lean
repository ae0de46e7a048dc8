/-
  Rules for a walk: how a region's last op goes on, loops that turn a known number of times, drawn regions, pure functions.
-/
import Derived.Test.YtcjkapadadonlaaGreatCl20
set_option linter.unusedSimpArgs false
set_option linter.unusedVariables false
namespace Go.Cl
open Go.RowKit

section steps
variable {C : Ctx} {D : Draws} {ops rest : List Oper} {Q : CPost} {next : Env → Heap → Prop} {env : Env} {h : Heap} {o : Oper}

theorem then_normal (k : next env h) : CExit.then next Q .normal env h := k
theorem then_ret (k : Q .ret env h) : CExit.then next Q .ret env h := k
theorem then_exit {i : Nat} (k : Q (.exit i) env h) : CExit.then next Q (.exit i) env h := k
theorem then_pan {v : CV} (k : Q (.pan v) env h) : CExit.then next Q (.pan v) env h := k
theorem in_normal {i : Nat} (k : Q .normal env h) : CExit.inBlock i Q .normal env h := k
theorem in_ret {i : Nat} (k : Q .ret env h) : CExit.inBlock i Q .ret env h := k
theorem in_pan {i : Nat} {v : CV} (k : Q (.pan v) env h) : CExit.inBlock i Q (.pan v) env h := k
theorem in_exit {i : Nat} (k : Q .normal env h) : CExit.inBlock i Q (.exit i) env h := by simp [CExit.inBlock, k]
theorem in_far {i j : Nat} (hj : Nat.beq j i = false) (k : Q (.exit j) env h) : CExit.inBlock i Q (.exit j) env h := by
  have : j ≠ i := Nat.ne_of_beq_eq_false hj
  simp [CExit.inBlock, this, k]
theorem body_ret {rs : List ResultVar} {Q : Out → Heap → Prop} {l : List CV} (hl : cres C env h rs = some l) (k : Q (.ret (pack l)) h) : bodyQ C rs Q .ret env h := ⟨l, hl, k⟩
theorem body_normal {rs : List ResultVar} {Q : Out → Heap → Prop} {l : List CV} (hl : cres C env h rs = some l) (k : Q (.ret (pack l)) h) : bodyQ C rs Q .normal env h := ⟨l, hl, k⟩
theorem body_pan {rs : List ResultVar} {Q : Out → Heap → Prop} {v : CV} (k : Q (.pan v) h) : bodyQ C rs Q (.pan v) env h := k

/-- A loop that turns fewer times than `n`. -/
def turns (C : Ctx) (D : Draws) (c : Code) (Q : CPost) (n : Nat) : Env → Heap → Prop :=
  cwp C D c (CExit.then (fun env' h' => ∃ m, ∃ _ : m < n, turns C D c Q m env' h') Q)
termination_by n
theorem turns_eq (c : Code) (n : Nat) : turns C D c Q n = cwp C D c (CExit.then (fun env' h' => ∃ m, m < n ∧ turns C D c Q m env' h') Q) := by
  rw [turns]
  congr 2
  funext env' h'
  exact propext ⟨fun ⟨m, a, b⟩ => ⟨m, a, b⟩, fun ⟨m, a, b⟩ => ⟨m, a, b⟩⟩
theorem wp_turns {c : Code} (n : Nat) (k : turns C D c Q n env h) : cwp C D (.loop c) Q env h :=
  ⟨turns C D c Q, n, k, fun n env h k => by rw [turns_eq] at k; exact k⟩
theorem turns_in {c : Code} {n : Nat} (k : cwp C D c (CExit.then (fun env' h' => ∃ m, m < n ∧ turns C D c Q m env' h') Q) env h) : turns C D c Q n env h := by
  rw [turns_eq]; exact k
theorem turns_next {c : Code} {n : Nat} (k : turns C D c Q n env h) : ∃ m, m < n + 1 ∧ turns C D c Q m env h := ⟨n, Nat.lt_succ_self n, k⟩

/-- A function that answers and changes nothing. -/
def OkP (C : Ctx) (f : FuncId) (args : List CV) (v : CV) : Prop := Ok C f fun a h Q => a = args ∧ Q (.ret v) h

theorem okP_of {f : FuncId} {c : Code} {rs : List ResultVar} {n : Nat} {args : List CV} {v : CV} (hf : FnOk C (cdraw C) f c rs n) (hl : args.length ≤ n)
    (hk : ∀ h Q, (∀ h', HLe h h' → Q (.ret v) h') → cwp C (cdraw C) c (bodyQ C rs Q) (envOf args) h) : OkP C f args v := by
  have := ok_of C (cdraw_sound C) hf (spec := fun a h Q => a = args ∧ ∀ h', HLe h h' → Q (.ret v) h') (fun a h Q k => by
    obtain ⟨rfl, k⟩ := k
    exact ⟨hl, hk h Q k⟩)
  exact Ok.mono C (Ok.drop C this) fun a h Q ⟨h1, h2⟩ => ⟨h1, fun h' hh => ⟨h, hh, h2⟩⟩

theorem leaf {Q : Out → Heap → Prop} {v v' : CV} {h0 h : Heap} (hq : ∀ h', HLe h0 h' → Q (.ret v) h') (hh : HLe h0 h) (hv : v' = v) : Q (.ret v') h := hv ▸ hq h hh

theorem hle_upd {a b : Heap} {i : Nat} {x : Option Obj} (hi : a i = none) (k : HLe a b) : HLe a (upd b i x) := fun j => by
  by_cases e : j = i
  · subst e; exact .inl hi
  · rw [upd_ne _ _ e]; exact k j

theorem upd_none (h : Heap) (i j : Nat) (x : Obj) : (upd h i (some x) j = none) = ((j ≠ i ∧ i ≠ j) ∧ h j = none) := by
  by_cases e : j = i
  · subst e; simp
  · rw [upd_ne _ _ e]; simp [e, Ne.symm e]

theorem ops_pcall {f : Operand} {args : Array Operand} {ts : Array TypeId} {g : FuncId} {first cap l : List CV} {v : CV} (hw : cwanted ops o env = some true) (ho : o.op = .call ⟨.value f, args, ts⟩) (hf : ev env f = .fn g first cap) (hl : first ++ args.toList.map (ev env) ++ cap = l) (hok : OkP C g l v)
    (hk : cwpOps C ops Q rest (put env o.dst v) h) : cwpOps C ops Q (o :: rest) env h :=
  ops_call hw ho hf hl hok ⟨rfl, hk⟩

theorem wp_condv {c : Operand} {a b : Code} {v : CV} {t : Bool} (hv : ev env c = v) (ht : v = .sc (.bool t)) (h1 : t = true → cwp C D a Q env h) (h2 : t = false → cwp C D b Q env h) : cwp C D (.cond c a b) Q env h := ⟨t, hv.trans ht, h1, h2⟩
theorem ops_splitv {x : Option Bool} {b : Bool} (hw : cwanted ops o env = x) (hx : x = some b) (h1 : b = true → cwpOps C ops Q (o :: rest) env h) (h2 : b = false → cwpOps C ops Q (o :: rest) env h) : cwpOps C ops Q (o :: rest) env h := ops_split (hw.trans hx) h1 h2

/-- A function whose answer is one of some, and that changes nothing. -/
def OkR (C : Ctx) (f : FuncId) (args : List CV) (R : CV → Prop) : Prop := Ok C f fun a h Q => a = args ∧ ∀ v, R v → Q (.ret v) h
theorem okR_of {f : FuncId} {c : Code} {rs : List ResultVar} {n : Nat} {args : List CV} {R : CV → Prop} (hf : FnOk C (cdraw C) f c rs n) (hl : args.length ≤ n)
    (hk : ∀ h Q, (∀ v h', R v → HLe h h' → Q (.ret v) h') → cwp C (cdraw C) c (bodyQ C rs Q) (envOf args) h) : OkR C f args R := by
  have := ok_of C (cdraw_sound C) hf (spec := fun a h Q => a = args ∧ ∀ v h', R v → HLe h h' → Q (.ret v) h') (fun a h Q k => by
    obtain ⟨rfl, k⟩ := k
    exact ⟨hl, hk h Q k⟩)
  exact Ok.mono C (Ok.drop C this) fun a h Q ⟨h1, h2⟩ => ⟨h1, fun v h' hv hh => ⟨h, hh, h2 v hv⟩⟩
theorem leafR {Q : Out → Heap → Prop} {R : CV → Prop} {v : CV} {h0 h : Heap} (hq : ∀ v h', R v → HLe h0 h' → Q (.ret v) h') (hh : HLe h0 h) (hv : R v) : Q (.ret v) h := hq v h hv hh
theorem ops_rcall {f : Operand} {args : Array Operand} {ts : Array TypeId} {g : FuncId} {first cap l : List CV} {R : CV → Prop} (hw : cwanted ops o env = some true) (ho : o.op = .call ⟨.value f, args, ts⟩) (hf : ev env f = .fn g first cap) (hl : first ++ args.toList.map (ev env) ++ cap = l) (hok : OkR C g l R)
    (hk : ∀ v, R v → cwpOps C ops Q rest (put env o.dst v) h) : cwpOps C ops Q (o :: rest) env h :=
  ops_call hw ho hf hl hok ⟨rfl, hk⟩

/-! Drawn regions. -/
theorem wp_draw {i : Nat} {ops : Array Oper} (m : Nat) (hd : drawOk ops.toList m = true) (k : preAlloc C 0 (ops.toList.take m) (fun _ => none) h fun al h1 => walkQ C ops.toList al h1 (fun env' => cwpOps C ops.toList Q (ops.toList.drop m) env' h1) 0 (ops.toList.take m) env) : cwp C (cdraw C) (.region i ops true) Q env h := ⟨m, hd, k⟩

variable {al : Nat → Option Nat} {h1 : Heap} {P : Env → Prop} {k : Nat} {K : (Nat → Option Nat) → Heap → Prop}
theorem pre_nil (hk : K al h) : preAlloc C k [] al h K := hk
theorem pre_alloc {t : TypeId} {ti : TI} (ho : o.op = .alloc t) (ht : C.tt t = some ti) (hk : ∀ i, h i = none → preAlloc C (k + 1) rest (fun j => if j = k then some i else al j) (upd h i (some (.var ti.zero))) K) : preAlloc C k (o :: rest) al h K := by
  simp only [preAlloc, ho, ht]; exact hk
theorem pre_skip (ho : (match o.op with | .alloc _ => false | _ => true) = true) (hk : preAlloc C (k + 1) rest al h K) : preAlloc C k (o :: rest) al h K := by
  unfold preAlloc
  split
  · rename_i e; rw [e] at ho; simp at ho
  · exact hk
theorem dr_nil (hk : P env) : walkQ C ops al h1 P k [] env := hk
theorem dr_off (hw : cwanted ops o env = some false) (hk : walkQ C ops al h1 P (k + 1) rest (put env o.dst (.tup []))) : walkQ C ops al h1 P k (o :: rest) env := by
  simp only [walkQ, hw]; exact hk
theorem dr_split {b : Bool} (_hw : cwanted ops o env = some b) (h1' : b = true → walkQ C ops al h1 P k (o :: rest) env) (h2 : b = false → walkQ C ops al h1 P k (o :: rest) env) : walkQ C ops al h1 P k (o :: rest) env := by
  cases b
  · exact h2 rfl
  · exact h1' rfl
theorem dr_splitv {x : Option Bool} {b : Bool} (hw : cwanted ops o env = x) (hx : x = some b) (h1' : b = true → walkQ C ops al h1 P k (o :: rest) env) (h2 : b = false → walkQ C ops al h1 P k (o :: rest) env) : walkQ C ops al h1 P k (o :: rest) env := dr_split (hw.trans hx) h1' h2
theorem dr_on {v : CV} (hw : cwanted ops o env = some true) (hq : qop C (ev env) h1 o.op = some v) (hk : walkQ C ops al h1 P (k + 1) rest (put env o.dst v)) : walkQ C ops al h1 P k (o :: rest) env := by
  simp only [walkQ, hw]
  split
  · rename_i e; rw [e] at hq; simp [qop] at hq
  · exact ⟨v, fun _ _ kk => cop_of_q hq kk, hk⟩
theorem dr_alloc {t : TypeId} {i : Nat} (hw : cwanted ops o env = some true) (ho : o.op = .alloc t) (ha : al k = some i) (hk : walkQ C ops al h1 P (k + 1) rest (put env o.dst (.ptr i []))) : walkQ C ops al h1 P k (o :: rest) env := by
  simp only [walkQ, hw, ho, ha]; exact hk
theorem dr_pcall {f : Operand} {args : Array Operand} {ts : Array TypeId} {g : FuncId} {first cap l : List CV} {v : CV} (hw : cwanted ops o env = some true) (ho : o.op = .call ⟨.value f, args, ts⟩) (hf : ev env f = .fn g first cap) (hl : first ++ args.toList.map (ev env) ++ cap = l) (hok : OkP C g l v)
    (hk : walkQ C ops al h1 P (k + 1) rest (put env o.dst v)) : walkQ C ops al h1 P k (o :: rest) env := by
  simp only [walkQ, hw, ho]
  refine ⟨v, fun _ _ kk => ?_, hk⟩
  simp only [cop, hf]
  exact ⟨_, hok, by rw [hl]; exact ⟨rfl, kk⟩⟩
end steps
attribute [simp] upd_none
theorem wrap_i64 {n : Int} (h1 : -9223372036854775808 ≤ n) (h2 : n ≤ 9223372036854775807) : IntKind.i64.wrap n = n := by
  have e : IntKind.bits .i64 = 64 := rfl
  have e2 : IntKind.signed .i64 = true := rfl
  simp only [IntKind.wrap, e, e2, Bool.true_and]
  split <;> rename_i h <;> simp at h <;> omega
theorem wrap_range (n : Int) : -9223372036854775808 ≤ IntKind.i64.wrap n ∧ IntKind.i64.wrap n ≤ 9223372036854775807 := by
  have e : IntKind.bits .i64 = 64 := rfl
  have e2 : IntKind.signed .i64 = true := rfl
  simp only [IntKind.wrap, e, e2, Bool.true_and]
  split <;> rename_i h <;> simp at h <;> omega
end Go.Cl
