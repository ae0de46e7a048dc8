/-
  An interpreter over clean values, in small steps: drawn regions, code, the run of a program.
-/
import Derived.Test.YtcjkapadadonlaaGreatY21
set_option linter.unusedSimpArgs false
set_option linter.unusedVariables false
namespace Go.Cl
open Go.RowKit

section
variable (C : Ctx)

noncomputable def ftr (mu : Bool) (ext : FuncId → List CV → Option CV) (call : XCall) (ops : List Oper) (A : List Nat) (n0 : Nat) (l : List Oper) : Nat → XEnv → Hp → XTR :=
  List.rec (motive := fun _ => Nat → XEnv → Hp → XTR) (fun _ env p => .done env [] [p]) (fun o rest ih i env p => Option.rec (motive := fun _ => XTR) .stuck (fun b => Bool.rec (motive := fun _ => XTR)
    (XTR.cons ⟨env, false, .tup []⟩ (ih (i + 1) (env.put o.dst (.tup [])) p))
    (Kind.rec (motive := fun _ => XTR)
      (XRes.rec (motive := fun _ => XTR) (fun v _ => XTR.cons ⟨env, true, v⟩ (ih (i + 1) (env.put o.dst v) p)) (fun _ _ => .stuck) .stuck ((fop C mu ext o.op).run call env p))
      (XTR.cons ⟨env, true, allocV o.op (n0 + i)⟩ (ih (i + 1) (env.put o.dst (allocV o.op (n0 + i))) p))
      (XRes.rec (motive := fun _ => XTR) (fun v p' => XTR.consH ⟨env, true, v⟩ p (ih (i + 1) (env.put o.dst v) p')) (fun v p' => bif (List.range' (i + 1) rest.length).all (fun j => bef A j i) then .pan v p' [] [p] else .stuck) .stuck ((fop C mu ext o.op).run call env p))
      (kindOf o.op)) b) (fwanted ops o env)) l
theorem ftr_eq (mu : Bool) (ext : FuncId → List CV → Option CV) (call : XCall) (ops : List Oper) (A : List Nat) (n0 : Nat) : ∀ (l : List Oper) (i : Nat) (env : XEnv) (p : Hp), ftr C mu ext call ops A n0 l i env p = xtr C mu ext call ops A n0 l i env p
  | [], _, _, _ => rfl
  | o :: l, i, env, p => by
    have ih := ftr_eq mu ext call ops A n0 l
    show Option.rec (motive := fun _ => XTR) .stuck (fun b => Bool.rec (motive := fun _ => XTR)
      (XTR.cons ⟨env, false, .tup []⟩ (ftr C mu ext call ops A n0 l (i + 1) (env.put o.dst (.tup [])) p))
      (Kind.rec (motive := fun _ => XTR)
        (XRes.rec (motive := fun _ => XTR) (fun v _ => XTR.cons ⟨env, true, v⟩ (ftr C mu ext call ops A n0 l (i + 1) (env.put o.dst v) p)) (fun _ _ => .stuck) .stuck ((fop C mu ext o.op).run call env p))
        (XTR.cons ⟨env, true, allocV o.op (n0 + i)⟩ (ftr C mu ext call ops A n0 l (i + 1) (env.put o.dst (allocV o.op (n0 + i))) p))
        (XRes.rec (motive := fun _ => XTR) (fun v p' => XTR.consH ⟨env, true, v⟩ p (ftr C mu ext call ops A n0 l (i + 1) (env.put o.dst v) p')) (fun v p' => bif (List.range' (i + 1) l.length).all (fun j => bef A j i) then .pan v p' [] [p] else .stuck) .stuck ((fop C mu ext o.op).run call env p))
        (kindOf o.op)) b) (fwanted ops o env) = _
    simp only [fwanted_eq, fop_eq, ih, xtr]
    cases xwanted ops o env with
    | none => rfl
    | some b =>
      cases b with
      | false => rfl
      | true =>
        simp only
        cases kindOf o.op with
        | quiet => simp only; cases xop C mu ext call env p o.op <;> rfl
        | alloc => rfl
        | eff => simp only; cases xop C mu ext call env p o.op <;> rfl

noncomputable def fchk (mu : Bool) (ext : FuncId → List CV → Option CV) (call : XCall) (o : Oper) (x : Ent) (q : Option Hp) : Bool :=
  Option.rec (motive := fun _ => Bool) true (fun q => XRes.rec (motive := fun _ => Bool) (fun v _ => cvEq x.v v) (fun _ _ => false) false ((fop C mu ext o.op).run call x.env q)) q

/-- One of the operations, at each heap that it may meet. -/
noncomputable def fchkOne (mu : Bool) (ext : FuncId → List CV → Option CV) (call : XCall) (A : List Nat) (n0 : Nat) (fl : List Bool) (hs : List Hp) (i : Nat) (o : Oper) (x : Ent) : Bool :=
  bif x.wanted then
    Kind.rec (motive := fun _ => Bool)
      (bif heapy o.op then (fun lo hi => bif Nat.beq lo hi then true else (List.range' lo (hi + 1 - lo)).all fun e => fchk C mu ext call o x hs[e]?) (cntF fl 0 fun j => bef A i j) (cntF fl 0 fun j => !bef A j i) else true)
      (chkOne C mu ext call A n0 fl hs i o x) true (kindOf o.op)
  else true
theorem fchkOne_eq (mu : Bool) (ext : FuncId → List CV → Option CV) (call : XCall) (A : List Nat) (n0 : Nat) (fl : List Bool) (hs : List Hp) (i : Nat) (o : Oper) (x : Ent) : fchkOne C mu ext call A n0 fl hs i o x = chkOne C mu ext call A n0 fl hs i o x := by
  unfold fchkOne
  cases hw : x.wanted with
  | false => simp [chkOne, hw]
  | true =>
    cases hk : kindOf o.op with
    | alloc => rfl
    | eff => simp [chkOne, hw, hk]
    | quiet =>
      simp only [chkOne, hw, hk, cond_true]
      have hc : (fun e => fchk C mu ext call o x hs[e]?) = fun e => chkAt C mu ext call n0 hs i o x e := by
        funext e
        unfold fchk chkAt
        cases hs[e]? with
        | none => rfl
        | some q =>
          simp only [hk, fop_eq]
          cases xop C mu ext call x.env q o.op <;> rfl
      rw [hc]

noncomputable def fchkAll (mu : Bool) (ext : FuncId → List CV → Option CV) (call : XCall) (A : List Nat) (n0 : Nat) (fl : List Bool) (hs : List Hp) (ops : List Oper) : Nat → List Ent → Bool :=
  List.rec (motive := fun _ => Nat → List Ent → Bool) (fun _ _ => true) (fun o _ ih i es => match es with
    | x :: es => fchkOne C mu ext call A n0 fl hs i o x && ih (i + 1) es
    | [] => true) ops
theorem fchkAll_eq (mu : Bool) (ext : FuncId → List CV → Option CV) (call : XCall) (A : List Nat) (n0 : Nat) (fl : List Bool) (hs : List Hp) : ∀ (ops : List Oper) (i : Nat) (es : List Ent), fchkAll C mu ext call A n0 fl hs ops i es = chkAll C mu ext call A n0 fl hs i ops es
  | [], i, es => by cases es <;> rfl
  | o :: ops, i, [] => rfl
  | o :: ops, i, x :: es => by
    show (fchkOne C mu ext call A n0 fl hs i o x && fchkAll C mu ext call A n0 fl hs ops (i + 1) es) = _
    rw [fchkOne_eq, fchkAll_eq mu ext call A n0 fl hs ops (i + 1) es]
    rfl

noncomputable def fdraw3 (hs : List Hp) (env' : XEnv) : XR := Option.rec (motive := fun _ => XR) .stuck (fun q => .ok .normal env' q) hs.getLast?
noncomputable def fdraw2 (mu : Bool) (ext : FuncId → List CV → Option CV) (call : XCall) (ops : List Oper) (A : List Nat) (env : XEnv) (n0 : Nat) (t : XTR) : XR :=
  match t with
  | .done env' es hs => bif fchkAll C mu ext call A n0 (flags ops es) hs ops 0 es then fdraw3 hs env' else .stuck
  | .pan v q es hs => bif fchkAll C mu ext call A n0 (flags ops es) hs ops 0 es then .ok (.panU v) env q else .stuck
  | .stuck => .stuck
noncomputable def fdraw (mu : Bool) (ext : FuncId → List CV → Option CV) (call : XCall) (ops : List Oper) (A : List Nat) (env : XEnv) (p : Hp) : XR :=
  bif drawStat ops A then fdraw2 C mu ext call ops A env p.n (ftr C mu ext call ops A p.n ops 0 env (layA C p.n ops 0 ⟨p.n + ops.length, p.t⟩)) else .stuck
theorem fdraw_eq (mu : Bool) (ext : FuncId → List CV → Option CV) (call : XCall) (ops : List Oper) (A : List Nat) (env : XEnv) (p : Hp) : fdraw C mu ext call ops A env p = xdraw C mu ext call ops A env p := by
  unfold fdraw xdraw
  cases drawStat ops A with
  | false => rfl
  | true =>
    simp only [cond_true, ftr_eq]
    cases xtr C mu ext call ops A p.n ops 0 env (layA C p.n ops 0 ⟨p.n + ops.length, p.t⟩) with
    | done env' es hs =>
      simp only [fdraw2, fchkAll_eq, fdraw3]
      cases hs.getLast? <;> rfl
    | pan v q es hs => simp only [fdraw2, fchkAll_eq]
    | stuck => rfl

/-! Code. -/
noncomputable def fseq (k : XEnv → Hp → XR) (r : XR) : XR :=
  match r with
  | .ok .normal env p => k env p
  | r => r
def condV (v : CV) : Option Bool :=
  match v with
  | .sc (.bool t) => some t
  | _ => none
def fblk (id : Nat) (r : XR) : XR :=
  match r with
  | .ok (.exit j) env p => bif Nat.beq j id then .ok .normal env p else .ok (.exit j) env p
  | r => r

noncomputable def floop (body : XEnv → Hp → XR) (fuel : Nat) : XEnv → Hp → XR :=
  Nat.rec (motive := fun _ => XEnv → Hp → XR) (fun _ _ => .stuck) (fun _ ih env p => fseq ih (body env p)) fuel
theorem floop_eq (body : XEnv → Hp → XR) : ∀ (fuel : Nat) (env : XEnv) (p : Hp), floop body fuel env p = xloop body fuel env p
  | 0, _, _ => rfl
  | f + 1, env, p => by
    rw [xloop_succ]
    show fseq (floop body f) (body env p) = _
    cases body env p with
    | stuck => rfl
    | ok e env' p' => cases e <;> first | rfl | exact floop_eq body f env' p'

noncomputable def fcode (mu : Bool) (ext : FuncId → List CV → Option CV) (call : XCall) (fuel : Nat) (c : Code) : XEnv → Hp → XR :=
  Code.rec (motive := fun _ => XEnv → Hp → XR) (fun env p => .ok .normal env p)
    (fun _ ops draw env p => Bool.rec (motive := fun _ => XR) (fops C mu ext call ops.toList ops.toList env p) (fdraw C mu ext call ops.toList (ancs ops.toList []) env p) draw)
    (fun _ _ iha ihb env p => fseq ihb (iha env p))
    (fun c _ _ iha ihb env p => Option.rec (motive := fun _ => XR) .stuck (fun t => Bool.rec (motive := fun _ => XR) (ihb env p) (iha env p) t) (condV ((fopd c).ev env)))
    (fun id _ ih env p => fblk id (ih env p))
    (fun _ ih env p => floop ih fuel env p)
    (fun _ _ _ _ _ _ _ _ => .stuck)
    (fun id env p => .ok (.exit id) env p)
    (fun _ _ _ _ => .stuck)
    (fun _ env p => .ok .normal env p)
    (fun _ _ _ => .stuck)
    (fun env p => .ok .ret env p)
    (fun _ _ _ => .stuck) c
theorem fcode_eq (mu : Bool) (ext : FuncId → List CV → Option CV) (call : XCall) (fuel : Nat) (c : Code) : ∀ (env : XEnv) (p : Hp), fcode C mu ext call fuel c env p = xcode C mu ext call fuel c env p := by
  induction c with
  | region id ops draw =>
    intro env p
    cases draw with
    | false => exact fops_eq C mu ext call _ _ env p
    | true => exact fdraw_eq C mu ext call _ _ env p
  | seq a b iha ihb =>
    intro env p
    show fseq (fcode C mu ext call fuel b) (fcode C mu ext call fuel a env p) = _
    rw [iha]
    simp only [xcode]
    cases xcode C mu ext call fuel a env p with
    | stuck => rfl
    | ok e env' p' => cases e <;> first | rfl | exact ihb env' p'
  | cond c a b iha ihb =>
    intro env p
    show Option.rec (motive := fun _ => XR) .stuck (fun t => Bool.rec (motive := fun _ => XR) (fcode C mu ext call fuel b env p) (fcode C mu ext call fuel a env p) t) (condV ((fopd c).ev env)) = _
    rw [fopd_eq]
    simp only [xcode, iha, ihb]
    cases xev env c <;> try rfl
    rename_i v
    cases v <;> try rfl
    rename_i t
    cases t <;> rfl
  | block id c ih =>
    intro env p
    show fblk id (fcode C mu ext call fuel c env p) = _
    rw [ih]
    simp only [xcode]
    cases xcode C mu ext call fuel c env p with
    | stuck => rfl
    | ok e env' p' => cases e <;> rfl
  | loop c ih =>
    intro env p
    show floop (fcode C mu ext call fuel c) fuel env p = xloop (xcode C mu ext call fuel c) fuel env p
    rw [floop_eq, show fcode C mu ext call fuel c = xcode C mu ext call fuel c from funext fun env => funext fun p => ih env p]
  | _ => intro env p; rfl

noncomputable def ffin (p : Hp) (l : Option (List CV)) : XRes := Option.rec (motive := fun _ => XRes) .stuck (fun l => .ret (pack l) p) l
theorem ffin_eq (p : Hp) (l : Option (List CV)) : ffin p l = xfin p l := by cases l <;> rfl
noncomputable def fend (rs : List ResultVar) (r : XR) : XRes :=
  match r with
  | .ok .normal env p => ffin p (xres C env p rs)
  | .ok .ret env p => ffin p (xres C env p rs)
  | .ok (.pan v) _ p => .pan v p
  | .ok (.panU v) _ p => .pan v p
  | _ => .stuck
noncomputable def ffun (mu : Bool) (ext : FuncId → List CV → Option CV) (call : XCall) (fuel : Nat) (x : XF) (args : List CV) (p : Hp) : XRes :=
  bif Nat.ble args.length x.n then fend C x.rs (fcode C mu ext call fuel x.code (putAll 0 args .e) p) else .stuck
theorem ffun_eq (mu : Bool) (ext : FuncId → List CV → Option CV) (call : XCall) (fuel : Nat) (x : XF) (args : List CV) (p : Hp) : ffun C mu ext call fuel x args p = xfun C mu ext call fuel x args p := by
  unfold ffun xfun
  rw [fcode_eq]
  cases Nat.ble args.length x.n with
  | false => rfl
  | true =>
    simp only [cond_true]
    cases xcode C mu ext call fuel x.code (putAll 0 args .e) p with
    | stuck => rfl
    | ok e env' p' => cases e <;> simp only [fend, ffin_eq]

noncomputable def fcatch (mu : Bool) (ext : FuncId → List CV → Option CV) (call : XCall) (fuel : Nat) (x : XC) (args : List CV) (p : Hp) : XRes :=
  bif Nat.ble args.length x.n then
    match fcode C mu ext call fuel x.a (putAll 0 args .e) p with
    | .ok .normal env1 p1 => match fcode C mu ext call fuel x.b env1 p1 with
      | .ok .normal env2 p2 => match fcode C mu ext call fuel x.post (env2.put (some x.k) (.fn x.g [] (x.caps.map env2.at))) p2 with
        | .ok .normal env3 p3 => xcatchEnd C mu ext call fuel x (x.caps.map env2.at) (.sc .nilIface) env3 p3
        | .ok .ret env3 p3 => xcatchEnd C mu ext call fuel x (x.caps.map env2.at) (.sc .nilIface) env3 p3
        | .ok (.pan v) env3 p3 => xcatchEnd C mu ext call fuel x (x.caps.map env2.at) v env3 p3
        | _ => .stuck
      | _ => .stuck
    | _ => .stuck
  else .stuck
theorem fcatch_eq (mu : Bool) (ext : FuncId → List CV → Option CV) (call : XCall) (fuel : Nat) (x : XC) (args : List CV) (p : Hp) : fcatch C mu ext call fuel x args p = xcatch C mu ext call fuel x args p := by
  have h : fcode C mu ext call fuel = xcode C mu ext call fuel := funext fun c => funext fun env => funext fun p => fcode_eq C mu ext call fuel c env p
  unfold fcatch xcatch
  rw [h]
  rfl

noncomputable def frun1 (X : XP) (k : Nat) (ih : XCall) (f : FuncId) (args : List CV) (p : Hp) (x : Option XF) : XRes :=
  Option.rec (motive := fun _ => XRes) .stuck (fun x => ffun C (X.mu f) X.ext ih k x args p) x
noncomputable def frun (X : XP) (fuel : Nat) : XCall :=
  Nat.rec (motive := fun _ => XCall) (fun _ _ _ => .stuck) (fun k ih f args p => Option.rec (motive := fun _ => XRes) (frun1 C X k ih f args p (X.tab f)) (fun x => fcatch C (X.mu f) X.ext ih k x args p) (X.cat f)) fuel
theorem frun_eq (X : XP) : ∀ (fuel : Nat) (f : FuncId) (args : List CV) (p : Hp), frun C X fuel f args p = xrun C X fuel f args p
  | 0, _, _, _ => rfl
  | k + 1, f, args, p => by
    have ih : frun C X k = xrun C X k := funext fun f => funext fun a => funext fun p => frun_eq X k f a p
    rw [xrun_succ]
    show Option.rec (motive := fun _ => XRes) (frun1 C X k (frun C X k) f args p (X.tab f)) (fun x => fcatch C (X.mu f) X.ext (frun C X k) k x args p) (X.cat f) = _
    rw [ih]
    cases X.cat f with
    | some x => exact fcatch_eq C _ _ _ _ x args p
    | none =>
      simp only [frun1]
      cases X.tab f with
      | none => rfl
      | some x => exact ffun_eq C _ _ _ _ x args p
end

theorem closed_fast {C : Ctx} {X : XP} (hX : XPok C X) (hname : ∀ f x, X.cat f = some x → ∃ fn, C.P.funcs[f]? = some fn ∧ fn.body.isNone = false ∧ (fn.name == "runtime.NumGoroutine") = false) {fuel : Nat} {f : FuncId} (h : isTrue (frun C X fuel f [] ⟨0, .e⟩) = true) (w : World) :
    Calls C.P f #[] w fun e w' => e = .returned (.bool true) ∧ Below w.heap.size w w' := closed_true hX hname (by rw [← frun_eq]; exact h) w
end Go.Cl
