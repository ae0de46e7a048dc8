/-
  An interpreter over clean values: operations that change the heap.
-/
import Derived.Test.YtcjkapadadonlaaGreatY2
set_option linter.unusedSimpArgs false
set_option linter.unusedVariables false
namespace Go.Cl
open Go.RowKit

/-- The model's operation goes on as the interpreter's answer says. -/
def XGoes (C : Ctx) (w0 : World) (B : Nat) (S : St) (o : Oper) (a : Act) (w : World) : XRes → Prop
  | .ret v p' => ∀ (next : Act → World → Prop) (Q : Exit → Act → World → Prop), (∀ S' x w', S.ext S' → XRel w0 B S' p' w' → VR S' v x → next (a.put o.dst x) w') → o.wp C.P a w next Q
  | .pan v p' => ∀ (next : Act → World → Prop) (Q : Exit → Act → World → Prop), (∀ S' x w', S.ext S' → XRel w0 B S' p' w' → VR S' v x → Q (.panic [⟨x, false, false⟩]) a w') → o.wp C.P a w next Q
  | .stuck => True

section
variable (C : Ctx)

theorem XGoes.quiet {w0 : World} {B : Nat} {S : St} {p : Hp} {w : World} (r : XRel w0 B S p w) {o : Oper} {a : Act} {ρ : Operand → CV} {v : CV} (hρ : ∀ x ∈ o.op.operands.toList, VR S (ρ x) (a.eval x))
    (hv : qop C ρ p.h o.op = some v) : XGoes C w0 B S o a w (.ret v p) := by
  intro next Q hn
  obtain ⟨y, w', S', h1, h2, h3, h4, h5, h6⟩ := qop_sound C r.r hρ hv
  unfold Oper.wp
  rw [h1]
  exact hn S' y w' ⟨h2, fun i hi h0 => by rw [h3]; exact h0⟩ ⟨h5, by rw [h4]; exact r.n, r.good⟩ h6

/-- A pure answer. -/
theorem XGoes.still {w0 : World} {B : Nat} {S : St} {p : Hp} {w : World} (r : XRel w0 B S p w) {o : Oper} {a : Act} {v : CV} {x : Value}
    (hrun : (execOp a.eval o).run C.P w = .ok (.value x) w) (hv : VR S v x) : XGoes C w0 B S o a w (.ret v p) := by
  intro next Q hn
  unfold Oper.wp
  rw [hrun]
  exact hn S x w (St.ext.refl _) r hv

/-- A new variable. -/
theorem XRel.alloc {w0 : World} {B : Nat} {S : St} {p : Hp} {w : World} (r : XRel w0 B S p w) {v : CV} {sh : Shape} {arr : Array Value} {e : TypeId} (hsh : v.shape = sh) (hv : FR S v arr.toList) :
    S.ext (S.named S.n (.var w.heap.size v.shape arr.size)) ∧ XRel w0 B (S.named S.n (.var w.heap.size v.shape arr.size)) (p.new (.var sh v)) (w.alloc (.cells arr e)) ∧ (S.named S.n (.var w.heap.size v.shape arr.size)).μ p.n = some (.var w.heap.size v.shape arr.size) := by
  have hf := r.r.fresh S.n (Nat.le_refl _)
  refine ⟨St.ext_named (Nat.le_refl _) hf.1, ⟨?_, ?_, Hp.good_new r.good fun sh' v' e' => by cases e'; exact hsh⟩, ?_⟩
  · rw [Hp.new_h, ← r.n]
    exact r.r.alloc hf.1 hv (upd_same _ _ _) (fun j hj => upd_ne _ _ hj)
  · show max S.n (S.n + 1) = Nat.succ p.n
    have := r.n; omega
  · rw [← r.n]; exact St.named_μ

theorem XGoes.alloc {w0 : World} {B : Nat} {S : St} {p : Hp} {w : World} (r : XRel w0 B S p w) {o : Oper} {a : Act} {v : CV} {sh : Shape} {x : Value} {t : TypeId} (hsh : v.shape = sh) (hv : FR S v x.cells.toList)
    (hrun : (execOp a.eval o).run C.P w = .ok (.value (.pointer (some ⟨w.heap.size, 0, none⟩))) (w.alloc (.cells x.cells t))) : XGoes C w0 B S o a w (.ret (.ptr p.n []) (p.new (.var sh v))) := by
  intro next Q hn
  unfold Oper.wp
  rw [hrun]
  obtain ⟨h1, h2, h3⟩ := r.alloc (e := t) hsh hv
  refine hn _ _ _ h1 h2 ?_
  rw [VR_nonagg rfl]; simp only [FR]
  exact ⟨⟨_, _, 0, rfl, ⟨_, h3⟩, by cases v.shape <;> rfl⟩, by simp⟩

noncomputable def xalloc (p : Hp) (t : TypeId) : XRes :=
  match C.tt t with
  | some ti => .ret (.ptr p.n []) (p.new (.var ti.sh ti.zero))
  | none => .stuck
noncomputable def xbox (p : Hp) (t : TypeId) (x : CV) : XRes :=
  match C.tt t with
  | some ti => bif shOk x ti.sh then .ret (.ptr p.n []) (p.new (.var ti.sh x)) else .stuck
  | none => .stuck
noncomputable def xstore (p : Hp) (t : TypeId) (a x : CV) : XRes :=
  match a with
  | .ptr i q => match p.t.get i with
    | some (.var sh v) => match C.tt t with
      | some ti => bif subEq sh q ti.sh && shOk x ti.sh then .ret (.tup []) (p.set i (some (.var sh (v.set q x)))) else .stuck
      | none => .stuck
    | _ => .stuck
  | _ => .stuck

theorem xalloc_sound {w0 : World} {B : Nat} {S : St} {p : Hp} {w : World} (r : XRel w0 B S p w) {dst : Option Tmp} {t ty : TypeId} {pos : String} {aft : Array Edge} {gd : Option (Nat × Bool)} {a : Act} :
    XGoes C w0 B S ⟨dst, .alloc t, ty, pos, aft, gd⟩ a w (xalloc C p t) := by
  unfold xalloc
  split
  · rename_i ti hti
    obtain ⟨z, hz, hfz⟩ := zero_FR C (S := S) (C.htt _ _ hti)
    exact XGoes.alloc C r (x := z) (t := t) (C.htt _ _ hti).zsh hfz (by simp [execOp, Instr.alloc, hz, run_newVar])
  · trivial

theorem xbox_sound {w0 : World} {B : Nat} {S : St} {p : Hp} {w : World} (r : XRel w0 B S p w) {dst : Option Tmp} {t ty : TypeId} {x : Operand} {v : CV} {pos : String} {aft : Array Edge} {gd : Option (Nat × Bool)} {a : Act} (hx : VR S v (a.eval x)) :
    XGoes C w0 B S ⟨dst, .box t x, ty, pos, aft, gd⟩ a w (xbox C p t v) := by
  unfold xbox
  split
  · rename_i ti hti
    cases hb : shOk v ti.sh with
    | false => trivial
    | true => exact XGoes.alloc C r (x := a.eval x) (t := t) (shOk_spec hb) hx.1 (by simp [execOp, Instr.box, run_newVar])
  · trivial

theorem xstore_sound {w0 : World} {B : Nat} {S : St} {p : Hp} {w : World} (r : XRel w0 B S p w) {dst : Option Tmp} {t ty : TypeId} {pt x : Operand} {pv v : CV} {pos : String} {aft : Array Edge} {gd : Option (Nat × Bool)} {a : Act} (hp : VR S pv (a.eval pt)) (hx : VR S v (a.eval x)) :
    XGoes C w0 B S ⟨dst, .store t pt x, ty, pos, aft, gd⟩ a w (xstore C p t pv v) := by
  unfold xstore
  split <;> try trivial
  rename_i i q
  split <;> try trivial
  rename_i sh u hi
  split <;> try trivial
  rename_i ti hti
  cases hb : (subEq sh q ti.sh && shOk v ti.sh) with
  | false => trivial
  | true =>
    rw [Bool.and_eq_true] at hb
    simp only [cond_true]
    have hs := subEq_spec hb.1
    have hxs := shOk_spec hb.2
    have hu := r.good i sh u hi
    rw [← hu] at hs
    obtain ⟨y, hy, hys⟩ := CV.at_sub _ _ _ hs
    rw [VR_nonagg rfl] at hp; simp only [FR] at hp
    obtain ⟨⟨rb, sh', o, hpe, ⟨tot, hμ⟩, ho⟩, _⟩ := hp
    have hpe := (List.cons.inj hpe).1
    obtain ⟨hr', hthere⟩ := r.r.store (get_h hi) hμ hy ho hx.1 (by rw [hxs, hys])
    intro next Q hn
    unfold Oper.wp
    have hrun : (execOp a.eval ⟨dst, .store t pt x, ty, pos, aft, gd⟩).run C.P w = .ok .skip (w.setCells rb o (a.eval x).cells.toList) := by
      simp [execOp, hpe, Instr.storeAt, Instr.sureAddr, run_storeVar_VR C (C.htt _ _ hti) hx hxs hthere]
    rw [hrun]
    refine hn S undef _ (St.ext.refl _) ⟨by rw [Hp.set_h]; exact hr', r.n, Hp.good_set r.good fun sh' v' e' => ?_⟩ VR_undef
    cases e'
    rw [CV.shape_set q u y v hy (by rw [hxs, hys])]; exact hu

noncomputable def xpanic (p : Hp) (x : CV) : XRes :=
  match x with
  | .ifc t v => .pan (.ifc t v) p
  | _ => .stuck
theorem xpanic_sound {w0 : World} {B : Nat} {S : St} {p : Hp} {w : World} (r : XRel w0 B S p w) {dst : Option Tmp} {ty : TypeId} {x : Operand} {v : CV} {pos : String} {aft : Array Edge} {gd : Option (Nat × Bool)} {a : Act} (hx : VR S v (a.eval x)) :
    XGoes C w0 B S ⟨dst, .panic x, ty, pos, aft, gd⟩ a w (xpanic p v) := by
  unfold xpanic
  split <;> try trivial
  rename_i t v
  have hxv := hx
  rw [VR_nonagg rfl] at hxv; simp only [FR] at hxv
  obtain ⟨⟨z, hxe, _⟩, _⟩ := hxv
  have hxe := (List.cons.inj hxe).1
  intro next Q hq
  unfold Oper.wp
  have hrun : (execOp a.eval ⟨dst, .panic x, ty, pos, aft, gd⟩).run C.P w = .halt (.panic (a.eval x)) w := by
    simp [execOp, hxe, Instr.panic]
  rw [hrun]
  exact hq S _ w (St.ext.refl _) r hx

/-! Calls. -/
abbrev XCall := FuncId → List CV → Hp → XRes

/-- What the interpreter says of calls is so. -/
def CallOk (call : XCall) : Prop := ∀ (f : FuncId) (args : List CV) (p : Hp), match call f args p with
  | .ret v p' => (∃ fn, C.P.funcs[f]? = some fn ∧ fn.body.isNone = false ∧ (fn.name == "runtime.NumGoroutine") = false) ∧ ∀ (w0 : World) (B : Nat) (S : St) (w : World) (vals : List Value), XRel w0 B S p w → VRs S args vals →
      Calls C.P f vals.toArray w fun e w' => ∃ S' x, S.ext S' ∧ XRel w0 B S' p' w' ∧ VR S' v x ∧ e = .returned x
  | .pan v p' => (∃ fn, C.P.funcs[f]? = some fn ∧ fn.body.isNone = false ∧ (fn.name == "runtime.NumGoroutine") = false) ∧ ∀ (w0 : World) (B : Nat) (S : St) (w : World) (vals : List Value), XRel w0 B S p w → VRs S args vals →
      Calls C.P f vals.toArray w fun e w' => ∃ S' x, S.ext S' ∧ XRel w0 B S' p' w' ∧ VR S' v x ∧ e = .panicked [⟨x, false, false⟩]
  | .stuck => True

/-- Functions without a body that answer at once. -/
def ExtOk (ext : FuncId → List CV → Option CV) : Prop := ∀ (f : FuncId) (args : List CV) (v : CV), ext f args = some v → ∀ (S : St) (vals : List Value) (w : World), VRs S args vals → ∃ x, (callFunc f vals.toArray).run C.P w = .ok (.value x) w ∧ VR S v x

noncomputable def xcallv (ext : FuncId → List CV → Option CV) (call : XCall) (p : Hp) (f : CV) (args : List CV) : XRes :=
  match f with
  | .fn g first cap => match ext g (first ++ args ++ cap) with
    | some v => .ret v p
    | none => call g (first ++ args ++ cap) p
  | _ => .stuck

theorem VRs_append {S : St} : ∀ {l m : List CV} {xs ys : List Value}, VRs S l xs → VRs S m ys → VRs S (l ++ m) (xs ++ ys)
  | [], _, [], _, _, h => h
  | [], _, _ :: _, _, h, _ => by simp [VRs] at h
  | _ :: _, _, [], _, h, _ => by simp [VRs] at h
  | _ :: _, _, _ :: _, _, h, k => VRs_cons.2 ⟨(VRs_cons.1 h).1, VRs_append (VRs_cons.1 h).2 k⟩

theorem xcallv_sound {ext : FuncId → List CV → Option CV} {call : XCall} (hext : ExtOk C ext) (hcall : CallOk C call) {w0 : World} {B : Nat} {S : St} {p : Hp} {w : World} (r : XRel w0 B S p w) {dst : Option Tmp} {ty : TypeId} {f : Operand} {args : Array Operand} {ts : Array TypeId}
    {fv : CV} {vs : List CV} {pos : String} {aft : Array Edge} {gd : Option (Nat × Bool)} {a : Act} (hf : VR S fv (a.eval f)) (hargs : VRs S vs (args.toList.map a.eval)) :
    XGoes C w0 B S ⟨dst, .call ⟨.value f, args, ts⟩, ty, pos, aft, gd⟩ a w (xcallv ext call p fv vs) := by
  unfold xcallv
  split <;> try trivial
  rename_i g first cap
  rw [VR_nonagg rfl] at hf; simp only [FR] at hf
  obtain ⟨⟨us, xs, hfe, hus, hxs⟩, _⟩ := hf
  have hfe := (List.cons.inj hfe).1
  have hall := VRs_append (VRs_append hus hargs) hxs
  have hargs' : us.toArray ++ args.map a.eval ++ xs.toArray = (us ++ args.toList.map a.eval ++ xs).toArray := by
    apply Array.ext'; simp
  have hexec : (execOp a.eval ⟨dst, .call ⟨.value f, args, ts⟩, ty, pos, aft, gd⟩).run C.P w = (callFunc g (us ++ args.toList.map a.eval ++ xs).toArray).run C.P w := by
    simp only [execOp, resolve, hfe, Deferred.ofValue, Sem.run_bind, Sem.run_pure, Result.andThen_ok, invoke, hargs']
  split
  · rename_i v hv
    obtain ⟨x, h1, h2⟩ := hext _ _ _ hv S _ w hall
    exact XGoes.still C r (by rw [hexec, h1]) h2
  · have hc := hcall g (first ++ vs ++ cap) p
    split at hc
    · rename_i v p' he
      rw [he]
      obtain ⟨⟨fn, hfn, hbody, hname⟩, hc⟩ := hc
      intro next Q hn
      unfold Oper.wp
      rw [hexec, run_callFunc hfn hbody hname]
      simp only [Oper.upon_enter]
      refine (hc w0 B S w _ r hall).mono fun e w' hh => ?_
      obtain ⟨S', x, k1, k2, k3, rfl⟩ := hh
      exact hn S' x w' k1 k2 k3
    · rename_i v p' he
      rw [he]
      obtain ⟨⟨fn, hfn, hbody, hname⟩, hc⟩ := hc
      intro next Q hn
      unfold Oper.wp
      rw [hexec, run_callFunc hfn hbody hname]
      simp only [Oper.upon_enter]
      refine (hc w0 B S w _ r hall).mono fun e w' hh => ?_
      obtain ⟨S', x, k1, k2, k3, rfl⟩ := hh
      exact hn S' x w' k1 k2 k3
    · rename_i he
      rw [he]; trivial
end
end Go.Cl
