/-
  An interpreter over clean values: the same, in small steps that the kernel takes quickly.
-/
import Derived.Test.YtcjkapadadonlaaGreatY20
set_option linter.unusedSimpArgs false
set_option linter.unusedVariables false
namespace Go.Cl
open Go.RowKit

/-! Small steps. -/
def fat2 (o : Option CV) (k : CV → Option CV) : Option CV :=
  match o with
  | some x => k x
  | none => none
def fat1 (v : CV) (i : Nat) (k : CV → Option CV) : Option CV :=
  match v with
  | .agg l => fat2 l[i]? k
  | _ => none
noncomputable def fat (v : CV) (q : List Nat) : Option CV :=
  List.rec (motive := fun _ => CV → Option CV) (fun v => some v) (fun i _ ih v => fat1 v i ih) q v
theorem fat_eq : ∀ (q : List Nat) (v : CV), fat v q = v.at q
  | [], v => by cases v <;> rfl
  | i :: q, v => by
    cases v <;> try rfl
    rename_i l
    show fat2 l[i]? (fun x => fat x q) = _
    simp only [CV.at]
    cases l[i]? with
    | none => rfl
    | some x => exact fat_eq q x

def fset2 (l : List CV) (i : Nat) (o : Option CV) (k : CV → CV) : CV :=
  match o with
  | some y => .agg (l.set i (k y))
  | none => .agg l
def fset1 (v : CV) (i : Nat) (k : CV → CV) : CV :=
  match v with
  | .agg l => fset2 l i l[i]? k
  | v => v
noncomputable def fset (v : CV) (q : List Nat) (x : CV) : CV :=
  List.rec (motive := fun _ => CV → CV) (fun _ => x) (fun i _ ih v => fset1 v i ih) q v
theorem fset_eq : ∀ (q : List Nat) (v x : CV), fset v q x = v.set q x
  | [], v, x => by cases v <;> rfl
  | i :: q, v, x => by
    cases v <;> try rfl
    rename_i l
    show fset2 l i l[i]? (fun y => fset y q x) = _
    simp only [CV.set]
    cases l[i]? with
    | none => rfl
    | some y => simp only [fset2, fset_eq q y x]

/-! Whole numbers. -/
def fw64 (n : Int) : Int :=
  match n with
  | .ofNat m => bif Nat.blt m 9223372036854775808 then .ofNat m else IntKind.i64.wrap (.ofNat m)
  | .negSucc m => bif Nat.blt m 9223372036854775808 then .negSucc m else IntKind.i64.wrap (.negSucc m)
theorem fw64_eq (n : Int) : fw64 n = IntKind.i64.wrap n := by
  cases n with
  | ofNat m =>
    simp only [fw64]
    cases h : Nat.blt m 9223372036854775808 with
    | false => rw [cond_false]
    | true =>
      have h1 := of_blt h
      have h2 : Int.ofNat m = (m : Int) := rfl
      rw [cond_true]
      exact (wrap_i64 (by rw [h2]; omega) (by rw [h2]; omega)).symm
  | negSucc m =>
    simp only [fw64]
    cases h : Nat.blt m 9223372036854775808 with
    | false => rw [cond_false]
    | true =>
      have h1 := of_blt h
      have h2 : Int.negSucc m = -(m : Int) - 1 := by rw [Int.negSucc_eq]; omega
      rw [cond_true]
      exact (wrap_i64 (by rw [h2]; omega) (by rw [h2]; omega)).symm

def fwrap (k : IntKind) (n : Int) : Int :=
  match k with
  | .i64 => fw64 n
  | k => k.wrap n
theorem fwrap_eq (k : IntKind) (n : Int) : fwrap k n = k.wrap n := by
  cases k <;> first | rfl | exact fw64_eq n

def kEq (a b : IntKind) : Bool := Nat.beq a.ctorIdx b.ctorIdx
theorem kEq_spec {a b : IntKind} : (kEq a b = true ↔ a = b) := by cases a <;> cases b <;> simp [kEq, IntKind.ctorIdx]

def iEq (a b : Int) : Bool :=
  match a with
  | .ofNat m => (match b with | .ofNat n => Nat.beq m n | .negSucc _ => false)
  | .negSucc m => (match b with | .ofNat _ => false | .negSucc n => Nat.beq m n)
theorem iEq_eq (a b : Int) : iEq a b = decide (a = b) := by
  have key : ∀ m n : Nat, Nat.beq m n = decide (m = n) := fun m n => by
    cases h : Nat.beq m n with
    | true => simp [Nat.eq_of_beq_eq_true h]
    | false => simp [Nat.ne_of_beq_eq_false h]
  cases a <;> cases b <;> simp [iEq, key] <;> exact ⟨fun h => by exact congrArg Nat.cast h, fun h => Int.ofNat.inj h⟩
def iLt (a b : Int) : Bool :=
  match a with
  | .ofNat m => (match b with | .ofNat n => Nat.blt m n | .negSucc _ => false)
  | .negSucc m => (match b with | .ofNat _ => true | .negSucc n => Nat.blt n m)
theorem blt_dec (m n : Nat) : Nat.blt m n = decide (m < n) := by
  cases h : Nat.blt m n with
  | true => simp [of_blt h]
  | false =>
    symm
    rw [decide_eq_false_iff_not]
    intro hlt
    rw [blt_of hlt] at h; cases h
theorem iLt_eq (a b : Int) : iLt a b = decide (a < b) := by
  cases a with
  | ofNat m =>
    cases b with
    | ofNat n => simp only [iLt, blt_dec]; congr 1; exact propext (by simp)
    | negSucc n => simp only [iLt]; symm; rw [decide_eq_false_iff_not, Int.negSucc_eq, show Int.ofNat m = (m : Int) from rfl]; omega
  | negSucc m =>
    cases b with
    | ofNat n => simp only [iLt]; symm; rw [decide_eq_true_iff, Int.negSucc_eq, show Int.ofNat n = (n : Int) from rfl]; omega
    | negSucc n => simp only [iLt, blt_dec]; congr 1; exact propext (by omega)

def fAdd (k : IntKind) (a b : Int) : Option CV := some (.sc (.int k (fwrap k (a + b))))
def fSub (k : IntKind) (a b : Int) : Option CV := some (.sc (.int k (fwrap k (a - b))))
def fMul (k : IntKind) (a b : Int) : Option CV := some (.sc (.int k (fwrap k (a * b))))
def fEql (_ : IntKind) (a b : Int) : Option CV := some (.sc (.bool (iEq a b)))
def fNeq (_ : IntKind) (a b : Int) : Option CV := some (.sc (.bool (!iEq a b)))
def fLss (_ : IntKind) (a b : Int) : Option CV := some (.sc (.bool (iLt a b)))
def fLeq (_ : IntKind) (a b : Int) : Option CV := some (.sc (.bool (!iLt b a)))
def fGtr (_ : IntKind) (a b : Int) : Option CV := some (.sc (.bool (iLt b a)))
def fGeq (_ : IntKind) (a b : Int) : Option CV := some (.sc (.bool (!iLt a b)))

structure NF where
  f : IntKind → Int → Int → Option CV
/-- What a comparison or a sum does: found once for each operation of the text. -/
def fnum (op : BinOp) : NF :=
  match op with
  | .add => ⟨fAdd⟩
  | .sub => ⟨fSub⟩
  | .mul => ⟨fMul⟩
  | .eql => ⟨fEql⟩
  | .neq => ⟨fNeq⟩
  | .lss => ⟨fLss⟩
  | .leq => ⟨fLeq⟩
  | .gtr => ⟨fGtr⟩
  | .geq => ⟨fGeq⟩
  | op => ⟨qnum op⟩
theorem not_lt_dec (a b : Int) : (!decide (a < b)) = decide (b ≤ a) := by
  by_cases h : a < b
  · simp [h]
  · simp [h]; omega
theorem fnum_eq (op : BinOp) (k : IntKind) (a b : Int) : (fnum op).f k a b = qnum op k a b := by
  cases op <;> simp only [fnum, fAdd, fSub, fMul, fEql, fNeq, fLss, fLeq, fGtr, fGeq, qnum, fwrap_eq, iEq_eq, iLt_eq, not_lt_dec]

def isShift (op : BinOp) : Bool :=
  match op with
  | .shl => true
  | .shr => true
  | _ => false
def fbin3 (C : Ctx) (op : BinOp) (t : TypeId) (cy : Bool) (k : IntKind) (a : Int) (v : Value) : Option CV :=
  match v with
  | .int k' b => bif isShift op then qshift op k a b else bif kEq k k' then (fnum op).f k a b else none
  | v => qbin C op t cy (.sc (.int k a)) (.sc v)
def fbin2 (C : Ctx) (op : BinOp) (t : TypeId) (cy : Bool) (k : IntKind) (a : Int) (y : CV) : Option CV :=
  match y with
  | .sc v => fbin3 C op t cy k a v
  | y => qbin C op t cy (.sc (.int k a)) y
def fbin1 (C : Ctx) (op : BinOp) (t : TypeId) (cy : Bool) (u : Value) (y : CV) : Option CV :=
  match u with
  | .int k a => fbin2 C op t cy k a y
  | u => qbin C op t cy (.sc u) y
def fbin (C : Ctx) (op : BinOp) (t : TypeId) (cy : Bool) (x y : CV) : Option CV :=
  match x with
  | .sc u => fbin1 C op t cy u y
  | x => qbin C op t cy x y
theorem fbin_eq (C : Ctx) (op : BinOp) (t : TypeId) (cy : Bool) (x y : CV) : fbin C op t cy x y = qbin C op t cy x y := by
  cases x <;> try rfl
  rename_i u
  cases u <;> try rfl
  rename_i k a
  cases y <;> try rfl
  rename_i v
  cases v <;> try rfl
  rename_i k' b
  show (bif isShift op then qshift op k a b else bif kEq k k' then (fnum op).f k a b else none) = _
  have hk : (bif kEq k k' then (fnum op).f k a b else none) = if k = k' then qnum op k a b else none := by
    rw [fnum_eq]
    by_cases h : k = k'
    · rw [if_pos h, kEq_spec.2 h, cond_true]
    · rw [if_neg h]
      cases hb : kEq k k' with
      | true => exact absurd (kEq_spec.1 hb) h
      | false => rfl
  rw [hk]
  cases op <;> rfl

/-! Loads and stores. -/
section
variable (C : Ctx)

def getTI (t : TypeId) : Option TI := C.tt t

noncomputable def fload3 (v : CV) (q : List Nat) (b : Bool) : Option CV := bif b then fat v q else none
noncomputable def fload2 (sh : Shape) (v : CV) (q : List Nat) (ti : Option TI) : Option CV :=
  match ti with
  | some ti => fload3 v q (subEq sh q ti.sh)
  | none => none
noncomputable def fload1 (o : Option XObj) (q : List Nat) (ti : Option TI) : Option CV :=
  match o with
  | some (.var sh v) => fload2 sh v q ti
  | _ => none
noncomputable def fload (p : Hp) (t : TypeId) (a : CV) : Option CV :=
  match a with
  | .ptr i q => fload1 (p.t.get i) q (C.tt t)
  | a => xload C p t a
theorem fload_eq (p : Hp) (t : TypeId) (a : CV) : fload C p t a = xload C p t a := by
  cases a <;> try rfl
  rename_i i q
  simp only [fload, xload]
  cases h : p.t.get i with
  | none => rfl
  | some o =>
    cases o with
    | var sh v =>
      simp only [fload1]
      cases C.tt t with
      | none => rfl
      | some ti =>
        simp only [fload2, fload3, fat_eq]
    | _ => rfl

noncomputable def fstore3 (p : Hp) (i : Nat) (sh : Shape) (v : CV) (q : List Nat) (x : CV) (b : Bool) : XRes := bif b then .ret (.tup []) (p.set i (some (.var sh (fset v q x)))) else .stuck
noncomputable def fstore2 (p : Hp) (i : Nat) (sh : Shape) (v : CV) (q : List Nat) (x : CV) (ti : Option TI) : XRes :=
  match ti with
  | some ti => fstore3 p i sh v q x (subEq sh q ti.sh && shOk x ti.sh)
  | none => .stuck
noncomputable def fstore1 (p : Hp) (i : Nat) (o : Option XObj) (q : List Nat) (x : CV) (ti : Option TI) : XRes :=
  match o with
  | some (.var sh v) => fstore2 p i sh v q x ti
  | _ => .stuck
noncomputable def fstore (p : Hp) (t : TypeId) (a x : CV) : XRes :=
  match a with
  | .ptr i q => fstore1 p i (p.t.get i) q x (C.tt t)
  | _ => .stuck
theorem fstore_eq (p : Hp) (t : TypeId) (a x : CV) : fstore C p t a x = xstore C p t a x := by
  cases a <;> try rfl
  rename_i i q
  simp only [fstore, xstore]
  cases h : p.t.get i with
  | none => rfl
  | some o =>
    cases o with
    | var sh v =>
      simp only [fstore1]
      cases C.tt t with
      | none => rfl
      | some ti => simp only [fstore2, fstore3, fset_eq]
    | _ => rfl

noncomputable def ffield2 (i : Nat) (q : List Nat) (f : Nat) (sho : Shape) (ti : Option TI) : Option CV :=
  match ti with
  | some ⟨.st fs, sh, _, _⟩ => bif subEq sho q sh && Nat.blt f fs.length then some (.ptr i (q ++ [f])) else none
  | _ => none
noncomputable def ffield1 (i : Nat) (q : List Nat) (f : Nat) (o : Option XObj) (ti : Option TI) : Option CV :=
  match o with
  | some (.var sho _) => ffield2 i q f sho ti
  | _ => none
noncomputable def ffieldAddr (p : Hp) (s : TypeId) (a : CV) (f : Nat) : Option CV :=
  match a with
  | .ptr i q => ffield1 i q f (p.t.get i) (C.tt s)
  | a => xfieldAddr C p s a f
theorem ffieldAddr_eq (p : Hp) (s : TypeId) (a : CV) (f : Nat) : ffieldAddr C p s a f = xfieldAddr C p s a f := by
  cases a <;> rfl

/-! One operation: what it does is found once. -/
structure FX where
  run : XCall → XEnv → Hp → XRes

noncomputable def ofOptF (p : Hp) (x : Option CV) : XRes := Option.rec (motive := fun _ => XRes) .stuck (fun v => .ret v p) x
theorem ofOptF_eq (p : Hp) (x : Option CV) : ofOptF p x = ofOpt p x := by cases x <;> rfl

structure OX where
  ev : XEnv → CV
noncomputable def fopd (x : Operand) : OX :=
  match x with
  | .tmp t => ⟨fun env => env.at t⟩
  | .const v => ⟨fun _ => ofConst v⟩
  | .global _ => ⟨fun _ => .tup []⟩
  | .func f => ⟨fun _ => .fn f [] []⟩
theorem fopd_eq (x : Operand) (env : XEnv) : (fopd x).ev env = xev env x := by cases x <;> rfl

noncomputable def fcall (ext : FuncId → List CV → Option CV) (call : XCall) (p : Hp) (f : CV) (args : List CV) : XRes :=
  match f with
  | .fn g first cap => Option.rec (motive := fun _ => XRes) (call g (first ++ args ++ cap) p) (fun v => .ret v p) (ext g (first ++ args ++ cap))
  | _ => .stuck
theorem fcall_eq (ext : FuncId → List CV → Option CV) (call : XCall) (p : Hp) (f : CV) (args : List CV) : fcall ext call p f args = xcallv ext call p f args := by
  cases f <;> try rfl
  rename_i g first cap
  simp only [fcall, xcallv]
  cases ext g (first ++ args ++ cap) <;> rfl

noncomputable def mapEv (l : List Operand) (env : XEnv) : List CV := List.rec (motive := fun _ => List CV) [] (fun x _ ih => (fopd x).ev env :: ih) l
theorem mapEv_eq (env : XEnv) : ∀ l, mapEv l env = l.map (xev env)
  | [] => rfl
  | x :: l => by
    show (fopd x).ev env :: mapEv l env = _
    rw [fopd_eq, mapEv_eq env l]; rfl

noncomputable def fop (mu : Bool) (ext : FuncId → List CV → Option CV) (o : Op) : FX :=
  match o with
  | .move x => ⟨fun _ env p => .ret ((fopd x).ev env) p⟩
  | .assign x => ⟨fun _ env p => .ret ((fopd x).ev env) p⟩
  | .load t a => ⟨fun _ env p => ofOptF p (fload C p t ((fopd a).ev env))⟩
  | .store t a x => ⟨fun _ env p => fstore C p t ((fopd a).ev env) ((fopd x).ev env)⟩
  | .fieldAddr s x f => ⟨fun _ env p => ofOptF p (ffieldAddr C p s ((fopd x).ev env) f)⟩
  | .binOp op t x (.tmp y) _ => ⟨fun _ env p => ofOptF p (fbin C op t false ((fopd x).ev env) (env.at y))⟩
  | .binOp op t x (.const (.int k n)) _ => ⟨fun _ env p => ofOptF p (fbin C op t true ((fopd x).ev env) (.sc (.int k n)))⟩
  | .call ⟨.value f, args, _⟩ => ⟨fun call env p => fcall ext call p ((fopd f).ev env) (mapEv args.toList env)⟩
  | o => ⟨fun call env p => xop C mu ext call env p o⟩
theorem fop_eq (mu : Bool) (ext : FuncId → List CV → Option CV) (o : Op) (call : XCall) (env : XEnv) (p : Hp) : (fop C mu ext o).run call env p = xop C mu ext call env p o := by
  unfold fop
  split
  · simp only [fopd_eq, xop]
  · simp only [fopd_eq, xop]
  · simp only [fopd_eq, xop, ofOptF_eq, fload_eq]
  · simp only [fopd_eq, xop, fstore_eq]
  · simp only [fopd_eq, xop, ofOptF_eq, ffieldAddr_eq]
  · simp only [fopd_eq, xop, ofOptF_eq, fbin_eq]; rfl
  · simp only [fopd_eq, xop, ofOptF_eq, fbin_eq]; rfl
  · simp only [fopd_eq, xop, fcall_eq, mapEv_eq]; rfl
  · rfl

noncomputable def fopm (mu : Bool) (ext : FuncId → List CV → Option CV) (o : Op) : FX :=
  match o with
  | .buildSlice t n ps => ⟨fun call env p => xopm C mu ext call env p (.buildSlice t n ps)⟩
  | o => fop C mu ext o
theorem fopm_eq (mu : Bool) (ext : FuncId → List CV → Option CV) (o : Op) (call : XCall) (env : XEnv) (p : Hp) : (fopm C mu ext o).run call env p = xopm C mu ext call env p o := by
  unfold fopm
  split
  · rfl
  · rename_i o h
    rw [fop_eq]
    unfold xopm
    split
    · exact absurd rfl (h _ _ _)
    · rfl

/-! Regions, code. -/
noncomputable def fwanted (ops : List Oper) (o : Oper) (env : XEnv) : Option Bool := Option.rec (motive := fun _ => Option Bool) (some true) (fun _ => xwanted ops o env) o.guard
theorem fwanted_eq (ops : List Oper) (o : Oper) (env : XEnv) : fwanted ops o env = xwanted ops o env := by
  unfold fwanted
  cases h : o.guard with
  | none => simp [xwanted, h]
  | some g => rfl

noncomputable def fops (mu : Bool) (ext : FuncId → List CV → Option CV) (call : XCall) (ops : List Oper) (l : List Oper) : XEnv → Hp → XR :=
  List.rec (motive := fun _ => XEnv → Hp → XR) (fun env p => .ok .normal env p) (fun o _ ih env p => Option.rec (motive := fun _ => XR) .stuck (fun b => Bool.rec (motive := fun _ => XR)
    (ih (env.put o.dst (.tup [])) p)
    (XRes.rec (motive := fun _ => XR) (fun v p' => ih (env.put o.dst v) p') (fun v p' => .ok (.pan v) env p') .stuck ((fopm C mu ext o.op).run call env p)) b) (fwanted ops o env)) l
theorem fops_eq (mu : Bool) (ext : FuncId → List CV → Option CV) (call : XCall) (ops : List Oper) : ∀ (l : List Oper) (env : XEnv) (p : Hp), fops C mu ext call ops l env p = xops C mu ext call ops l env p
  | [], _, _ => rfl
  | o :: l, env, p => by
    show Option.rec (motive := fun _ => XR) .stuck (fun b => Bool.rec (motive := fun _ => XR) (fops C mu ext call ops l (env.put o.dst (.tup [])) p)
      (XRes.rec (motive := fun _ => XR) (fun v p' => fops C mu ext call ops l (env.put o.dst v) p') (fun v p' => .ok (.pan v) env p') .stuck ((fopm C mu ext o.op).run call env p)) b) (fwanted ops o env) = _
    rw [fwanted_eq]
    simp only [xops]
    cases xwanted ops o env with
    | none => rfl
    | some b =>
      cases b with
      | false => exact fops_eq mu ext call ops l _ p
      | true =>
        simp only [fopm_eq]
        cases xopm C mu ext call env p o.op with
        | ret v p' => exact fops_eq mu ext call ops l _ p'
        | pan v p' => rfl
        | stuck => rfl
end
end Go.Cl
