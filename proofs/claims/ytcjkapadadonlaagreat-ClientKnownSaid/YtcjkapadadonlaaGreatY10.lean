/-
  An interpreter over clean values: each operation; regions in the order of the text.
-/
import Derived.Test.YtcjkapadadonlaaGreatY9
set_option linter.unusedSimpArgs false
set_option linter.unusedVariables false
namespace Go.Cl
open Go.RowKit

section
variable (C : Ctx)

noncomputable def xcallOp (mu : Bool) (ext : FuncId → List CV → Option CV) (call : XCall) (env : XEnv) (p : Hp) (callee : Callee) (args : Array Operand) (ts : Array TypeId) : XRes :=
  match callee with
  | .value f => xcallv ext call p (xev env f) (args.toList.map (xev env))
  | .builtin .append => match args.toList, ts.toList with
    | [b, x], [t, tx] => xappend C mu p t tx (xev env b) (xev env x)
    | _, _ => .stuck
  | .builtin .delete => match args.toList, ts.toList with
    | [x, k], t :: _ => xdelete C p t (xev env x) (xev env k)
    | _, _ => .stuck
  | .builtin .cap => match args.toList, ts.toList with
    | [x], t :: _ => bif isSliceT C t then ofOpt p (xcap (xev env x)) else .stuck
    | _, _ => .stuck
  | c => ofOpt p (qop C (xev env) p.h (.call ⟨c, args, ts⟩))

noncomputable def xbin (env : XEnv) (p : Hp) (op : BinOp) (t : TypeId) (x y : Operand) (yt : TypeId) : XRes :=
  match y with
  | .const (.slice none 0 0) => ofOpt p (xnil C op t (xev env x))
  | _ => ofOpt p (qbin C op t (isConstOpd y) (xev env x) (xev env y))

noncomputable def xop (mu : Bool) (ext : FuncId → List CV → Option CV) (call : XCall) (env : XEnv) (p : Hp) (o : Op) : XRes :=
  match o with
  | .move x => .ret (xev env x) p
  | .assign x => .ret (xev env x) p
  | .load t a => ofOpt p (xload C p t (xev env a))
  | .store t a x => xstore C p t (xev env a) (xev env x)
  | .binOp op t x y yt => xbin C env p op t x y yt
  | .fieldAddr s x f => ofOpt p (xfieldAddr C p s (xev env x) f)
  | .indexAddr t x i => ofOpt p (xindexAddr C p t (xev env x) (xev env i))
  | .call ⟨f, args, ts⟩ => xcallOp C mu ext call env p f args ts
  | .alloc t => xalloc C p t
  | .box t x => xbox C p t (xev env x)
  | .panic x => xpanic p (xev env x)
  | .makeSlice t l c => xmake C p t (xev env l) (xev env c)
  | .lookup t x k ok => xlookup C p t (xev env x) (xev env k) ok
  | .mapUpdate t x k y => xupdate C p t (xev env x) (xev env k) (xev env y)
  | .makeMap _ none => xmakeMap p
  | .field t x f => ofOpt p (qfield C t (xev env x) f)
  | .convert s d x => ofOpt p (xconv C p.h s d (xev env x))
  | o => ofOpt p (qop C (xev env) p.h o)

theorem goes_q {w0 : World} {B : Nat} {S : St} {p : Hp} {w : World} (r : XRel w0 B S p w) {o : Oper} {a : Act} {env : XEnv} (hρ : ∀ x ∈ o.op.operands.toList, VR S (xev env x) (a.eval x)) {x : Option CV} (h : ∀ v, x = some v → qop C (xev env) p.h o.op = some v) :
    XGoes C w0 B S o a w (ofOpt p x) := by
  cases x with
  | none => trivial
  | some v => exact XGoes.quiet C r hρ (h v rfl)

theorem goes_val {w0 : World} {B : Nat} {S : St} {w : World} {o : Oper} {a : Act} {s : Sem Value} {res : XRes} (hx : (execOp a.eval o).run C.P w = (do pure (.value (← s)) : Sem Next).run C.P w) (h : XVal C w0 B S w s res) : XGoes C w0 B S o a w res := by
  cases res with
  | stuck => trivial
  | pan v p' => exact h.elim
  | ret v p' =>
    obtain ⟨y, w', S', h1, h2, h3, h4⟩ := h
    intro next Q hn
    unfold Oper.wp
    rw [hx]
    simp only [Sem.run_bind, h1, Result.andThen_ok, Sem.run_pure]
    exact hn S' y w' h2 h3 h4

theorem xop_sound {ext : FuncId → List CV → Option CV} {call : XCall} (hext : ExtOk C ext) (hcall : CallOk C call) {mu : Bool} {w0 : World} {B : Nat} {S : St} {p : Hp} {w : World} (r : XRel w0 B S p w) {o : Oper} {a : Act} {env : XEnv} (hρ : ∀ x ∈ o.op.operands.toList, VR S (xev env x) (a.eval x)) :
    XGoes C w0 B S o a w (xop C mu ext call env p o.op) := by
  obtain ⟨dst, op, ty, pos, aft, gd⟩ := o
  simp only at hρ ⊢
  unfold xop
  split
  · rename_i x; exact XGoes.quiet C r (ρ := xev env) hρ rfl
  · rename_i x; exact XGoes.quiet C r (ρ := xev env) hρ rfl
  · exact goes_q C r hρ fun v h => xload_spec C r.good h
  · rename_i t pt x; exact xstore_sound C r (hρ pt (by simp [Op.operands])) (hρ x (by simp [Op.operands]))
  · rename_i op t x y yt
    unfold xbin
    split
    · cases hn : xnil C op t (xev env x) with
      | none => trivial
      | some u =>
        obtain ⟨z, h1, h2⟩ := xnil_sound C (dst := dst) (ty := ty) (yt := yt) (pos := pos) (aft := aft) (gd := gd) (a := a) (w := w) (hρ x (by simp [Op.operands])) hn
        exact XGoes.still C r h1 h2
    · exact goes_q C r hρ fun v h => h
  · exact goes_q C r hρ fun v h => xfieldAddr_spec C r.good h
  · exact goes_q C r hρ fun v h => xindexAddr_spec C r.good h
  · rename_i f args ts
    unfold xcallOp
    split
    · rename_i f
      exact xcallv_sound C hext hcall r (hρ f (by simp [Op.operands, Call.operands])) (VRs_map args.toList fun x hx => hρ x (by simp [Op.operands, Call.operands]; right; simpa using hx))
    · split <;> try trivial
      rename_i b x t tx ha ht
      have h1 := hρ b (by simp [Op.operands, Call.operands]; rw [← Array.mem_toList_iff, ha]; simp)
      have h2 := hρ x (by simp [Op.operands, Call.operands]; rw [← Array.mem_toList_iff, ha]; simp)
      have hargs : args.map a.eval = #[a.eval b, a.eval x] := by apply Array.ext'; simp [ha]
      have hts : ts = #[t, tx] := by apply Array.ext'; rw [ht]
      obtain ⟨cs, hexec⟩ := exec_builtin a.eval .append args ts dst ty pos aft gd
      exact goes_val C (by rw [hexec, hargs, hts]; rfl) (xappend_sound C r (ty := ty) h1 h2)
    · split <;> try trivial
      rename_i x k t l ha ht
      have h1 := hρ x (by simp [Op.operands, Call.operands]; rw [← Array.mem_toList_iff, ha]; simp)
      have h2 := hρ k (by simp [Op.operands, Call.operands]; rw [← Array.mem_toList_iff, ha]; simp)
      exact xdelete_sound C r (by apply Array.ext'; rw [ha]) (by rw [← Array.getElem?_toList, ht]; rfl) h1 h2
    · split <;> try trivial
      rename_i x t l ha ht
      cases hb : isSliceT C t with
      | false => trivial
      | true =>
        have h1 := hρ x (by simp [Op.operands, Call.operands]; rw [← Array.mem_toList_iff, ha]; simp)
        simp only [cond_true]
        cases hc : xcap (xev env x) with
        | none => trivial
        | some v =>
          obtain ⟨z, k1, k2⟩ := xcap_sound C (w := w) (ty := ty) (ts := ts) (by rw [← Array.getElem?_toList, ht]; rfl) hb h1 hc
          obtain ⟨cs, hexec⟩ := exec_builtin a.eval .cap args ts dst ty pos aft gd
          have hargs : args.map a.eval = #[a.eval x] := by apply Array.ext'; simp [ha]
          exact XGoes.still C r (by rw [hexec, hargs]; simp only [builtin, Sem.run_bind, k1, Result.andThen_ok, Sem.run_pure]) k2
    · exact goes_q C r hρ fun v h => h
  · exact xalloc_sound C r
  · rename_i t x; exact xbox_sound C r (hρ x (by simp [Op.operands]))
  · rename_i x; exact xpanic_sound C r (hρ x (by simp [Op.operands]))
  · rename_i t l c
    exact goes_val C rfl (xmake_sound C r (hρ l (by simp [Op.operands])) (hρ c (by simp [Op.operands])))
  · rename_i t x k ok; exact xlookup_sound C r (hρ x (by simp [Op.operands])) (hρ k (by simp [Op.operands]))
  · rename_i t x k y; exact xupdate_sound C r (hρ x (by simp [Op.operands])) (hρ k (by simp [Op.operands])) (hρ y (by simp [Op.operands]))
  · exact xmakeMap_sound C r
  · rename_i t x f
    cases hq : qfield C t (xev env x) f with
    | none => trivial
    | some v =>
      obtain ⟨y, h1, h2⟩ := qfield_sound C (w := w) (hρ x (by simp [Op.operands])) hq
      exact XGoes.still C r (by simp [execOp, h1]) h2
  · rename_i s d x
    cases hq : xconv C p.h s d (xev env x) with
    | none => trivial
    | some v =>
      obtain ⟨y, h1, h2⟩ := xconv_sound C r (hρ x (by simp [Op.operands])) hq
      exact XGoes.still C r (by simp [execOp, h1]) h2
  · exact goes_q C r hρ fun v h => h

/-! Regions. -/
noncomputable def xwanted (ops : List Oper) (o : Oper) (env : XEnv) : Option Bool :=
  match o.guard with
  | none => some true
  | some (j, want) => match ops[j]? with
    | some oj => match oj.dst with
      | some d => match env.at d with
        | .sc (.bool b) => some (b == want)
        | .tup [] => some false
        | _ => none
      | none => none
    | none => none

inductive XE where
  | normal
  | exit (id : Nat)
  | ret
  | pan (v : CV)
  | panU (v : CV)

def XE.ex : XE → CExit
  | .normal => .normal
  | .exit i => .exit i
  | .ret => .ret
  | .pan v => .pan v
  | .panU v => .pan v

inductive XR where
  | ok (e : XE) (env : XEnv) (p : Hp)
  | stuck

/-- The guard's word, from what is known of its temporary. -/
theorem xwanted_sound {S : St} {ops : List Oper} {o : Oper} {env : XEnv} {tmps : Array Value} {b : Bool} (he : ∀ j want oj d, o.guard = some (j, want) → ops[j]? = some oj → oj.dst = some d → ∃ x, tmps[d]? = some x ∧ VR S (env.at d) x) (h : xwanted ops o env = some b) :
    Region.wanted o (yielded ops.toArray tmps) = b := by
  unfold xwanted at h
  unfold Region.wanted
  cases hg : o.guard with
  | none => simp [hg] at h; simp [h]
  | some g =>
    obtain ⟨j, want⟩ := g
    simp only [hg] at h ⊢
    cases hj : ops[j]? with
    | none => simp [hj] at h
    | some oj =>
      simp only [hj] at h
      cases hd : oj.dst with
      | none => simp [hd] at h
      | some d =>
        simp only [hd] at h
        obtain ⟨x, hx, hv⟩ := he j want oj d hg hj hd
        unfold yielded
        simp only [List.getElem?_toArray, hj, Option.bind_some, hd]
        split at h
        · rename_i y e
          rw [e] at hv
          have hxy := (VR_sc.1 hv).1
          simp only [Option.some.injEq] at h
          subst h
          simp [hx, hxy]
        · rename_i e
          rw [e, VR_nonagg rfl] at hv
          simp only [FR] at hv
          obtain ⟨⟨vs, hxv, hvs⟩, _⟩ := hv
          have hxv := (List.cons.inj hxv).1
          simp only [Option.some.injEq] at h
          subst h
          simp [hx, hxv]
        · cases h

theorem guard_known {S : St} {ops : List Oper} {o : Oper} {env : Env} {tmps : Array Value} (he : ER S env tmps) (hok : ops.all (okOper tmps.size) = true) : ∀ j want oj d, o.guard = some (j, want) → ops[j]? = some oj → oj.dst = some d → ∃ x, tmps[d]? = some x ∧ VR S (env d) x := by
  intro j want oj d _ hj hd
  have hlt : d < tmps.size := by
    have := List.all_eq_true.1 hok oj (List.mem_of_getElem? hj)
    unfold okOper at this
    rw [hd] at this
    simp at this
    exact this.1
  exact ⟨tmps[d], by simp [hlt], he d _ (by simp [hlt])⟩

/-- In a function whose lists may be written, a slice literal lies in a variable of its own. -/
noncomputable def xopm (mu : Bool) (ext : FuncId → List CV → Option CV) (call : XCall) (env : XEnv) (p : Hp) (o : Op) : XRes :=
  match o with
  | .buildSlice t n ps => cond mu (xbuildS C p t n (ps.toList.map fun q => (q.1, xev env q.2))) (xop C mu ext call env p (.buildSlice t n ps))
  | o => xop C mu ext call env p o

theorem xopm_sound {ext : FuncId → List CV → Option CV} {call : XCall} (hext : ExtOk C ext) (hcall : CallOk C call) {mu : Bool} {w0 : World} {B : Nat} {S : St} {p : Hp} {w : World} (r : XRel w0 B S p w) {o : Oper} {a : Act} {env : XEnv} (hρ : ∀ x ∈ o.op.operands.toList, VR S (xev env x) (a.eval x)) :
    XGoes C w0 B S o a w (xopm C mu ext call env p o.op) := by
  obtain ⟨dst, op, ty, pos, aft, gd⟩ := o
  simp only at hρ ⊢
  unfold xopm
  split
  · rename_i t n ps
    cases mu with
    | false => exact xop_sound C hext hcall (mu := false) r (o := ⟨dst, .buildSlice t n ps, ty, pos, aft, gd⟩) hρ
    | true =>
      obtain ⟨h1, h2⟩ := parts_of (S := S) (ρ := xev env) (ρ' := a.eval) ps (fun p hp => hρ p.2 (by simp [Op.operands]; exact ⟨p.1, by simpa using hp⟩))
      exact goes_val C (by simp [execOp, ← Array.toList_map]) (xbuildS_sound C r (t := t) (len := n) h1 h2)
  · exact xop_sound C hext hcall (mu := mu) r (o := ⟨dst, op, ty, pos, aft, gd⟩) hρ

noncomputable def xops (mu : Bool) (ext : FuncId → List CV → Option CV) (call : XCall) (ops : List Oper) : List Oper → XEnv → Hp → XR
  | [], env, p => .ok .normal env p
  | o :: rest, env, p => match xwanted ops o env with
    | some true => match xopm C mu ext call env p o.op with
      | .ret v p' => xops mu ext call ops rest (env.put o.dst v) p'
      | .pan v p' => .ok (.pan v) env p'
      | .stuck => .stuck
    | some false => xops mu ext call ops rest (env.put o.dst (.tup [])) p
    | none => .stuck

/-- What the model's run has come to. -/
def XPost (w0 : World) (B : Nat) (S : St) (n : Nat) (ds : List Deferred) (e : XE) (env : XEnv) (p : Hp) : Exit → Act → World → Prop := fun ex a w =>
  ∃ S', S.ext S' ∧ XRel w0 B S' p w ∧ ((∀ v, e ≠ .panU v) → ER S' env.at a.tmps) ∧ a.tmps.size = n ∧ a.defers = ds ∧ ExitR S' e.ex ex

end
end Go.Cl
