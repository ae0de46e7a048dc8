/-
  Steps of a walk.
-/
import Derived.Test.YtcjkapadadonlaaGreatCl19
set_option linter.unusedSimpArgs false
set_option linter.unusedVariables false
namespace Go.Cl
open Go.RowKit

section steps
variable {C : Ctx} {ops rest : List Oper} {Q : CPost} {env : Env} {h : Heap} {o : Oper}

theorem cop_of_q {op : Op} {ρ : Operand → CV} {v : CV} {K Kp : CV → Heap → Prop} (hq : qop C ρ h op = some v) (hk : K v h) : cop C op ρ h K Kp := by
  have hql : quietly C op ρ h K := by unfold quietly; rw [hq]; exact hk
  unfold cop
  split <;> first | exact hql | exact .inl hql | (simp [qop] at hq; done)

theorem ops_on {v : CV} (hw : cwanted ops o env = some true) (hq : qop C (ev env) h o.op = some v) (hk : cwpOps C ops Q rest (put env o.dst v) h) : cwpOps C ops Q (o :: rest) env h := by
  simp only [cwpOps, hw]; exact cop_of_q hq hk
theorem ops_off (hw : cwanted ops o env = some false) (hk : cwpOps C ops Q rest (put env o.dst (.tup [])) h) : cwpOps C ops Q (o :: rest) env h := by
  simp only [cwpOps, hw]; exact hk
theorem ops_split {b : Bool} (_hw : cwanted ops o env = some b) (h1 : b = true → cwpOps C ops Q (o :: rest) env h) (h2 : b = false → cwpOps C ops Q (o :: rest) env h) : cwpOps C ops Q (o :: rest) env h := by
  cases b
  · exact h2 rfl
  · exact h1 rfl
theorem ops_alloc {t : TypeId} {ti : TI} (hw : cwanted ops o env = some true) (ho : o.op = .alloc t) (ht : C.tt t = some ti) (hk : ∀ i, h i = none → cwpOps C ops Q rest (put env o.dst (.ptr i [])) (upd h i (some (.var ti.zero)))) : cwpOps C ops Q (o :: rest) env h := by
  simp only [cwpOps, hw, ho, cop, ht]; exact hk
theorem ops_box {t : TypeId} {x : Operand} {ti : TI} {v : CV} (hw : cwanted ops o env = some true) (ho : o.op = .box t x) (ht : C.tt t = some ti) (hx : ev env x = v) (hs : v.shape = ti.sh) (hk : ∀ i, h i = none → cwpOps C ops Q rest (put env o.dst (.ptr i [])) (upd h i (some (.var v)))) : cwpOps C ops Q (o :: rest) env h := by
  simp only [cwpOps, hw, ho, cop, ht, hx]; exact ⟨hs, hk⟩
theorem ops_store {t : TypeId} {a x : Operand} {ti : TI} {i : Nat} {p : List Nat} {v u y : CV} (hw : cwanted ops o env = some true) (ho : o.op = .store t a x) (ht : C.tt t = some ti) (ha : ev env a = .ptr i p) (hi : h i = some (.var v)) (hp : v.at p = some y) (hy : y.shape = ti.sh)
    (hx : ev env x = u) (hs : u.shape = ti.sh) (hk : cwpOps C ops Q rest (put env o.dst (.tup [])) (upd h i (some (.var (v.set p u))))) : cwpOps C ops Q (o :: rest) env h := by
  simp only [cwpOps, hw, ho, cop, ht, ha, hi, hx]; exact ⟨⟨y, hp, hy⟩, hs, hk⟩
theorem ops_panic {x : Operand} {t : TypeId} {v : CV} (hw : cwanted ops o env = some true) (ho : o.op = .panic x) (hx : ev env x = .ifc t v) (hk : Q (.pan (.ifc t v)) env h) : cwpOps C ops Q (o :: rest) env h := by
  simp only [cwpOps, hw, ho, cop, hx]; exact hk
theorem ops_call {f : Operand} {args : Array Operand} {ts : Array TypeId} {g : FuncId} {first cap l : List CV} {spec : Spec} (hw : cwanted ops o env = some true) (ho : o.op = .call ⟨.value f, args, ts⟩) (hf : ev env f = .fn g first cap) (hl : first ++ args.toList.map (ev env) ++ cap = l) (hok : Ok C g spec)
    (hs : spec l h fun out h' => match out with
      | .ret v => cwpOps C ops Q rest (put env o.dst v) h'
      | .pan v => Q (.pan v) env h') : cwpOps C ops Q (o :: rest) env h := by
  simp only [cwpOps, hw, ho, cop, hf]; exact ⟨spec, hok, by rw [hl]; exact hs⟩
theorem ops_app {args : Array Operand} {ts : Array TypeId} {b x : Operand} {t tx e : TypeId} {sh : Shape} {by_ : Nat} {ze : CV} {te : TI} {tl : Tail} {l xs : List CV} (hw : cwanted ops o env = some true) (ho : o.op = .call ⟨.builtin .append, args, ts⟩) (ha : args.toList = [b, x]) (hts : ts.toList = [t, tx])
    (ht : C.tt t = some ⟨.base (.slice e), sh, by_, ze⟩) (hte : C.tt e = some te) (hb : ev env b = .lst tl l) (hx : srcOf C h tx (ev env x) = some xs) (hl : ∀ v ∈ l, v.shape = te.sh) (hxs : ∀ v ∈ xs, v.shape = te.sh) (hfit : (l.length + xs.length) * te.bytes ≤ 140737488355328) (h63 : l.length + xs.length ≤ 9223372036854775807)
    (h0 : xs = [] → cwpOps C ops Q rest (put env o.dst (.lst tl l)) h)
    (h1 : xs ≠ [] → appTl h tl l xs fun v h' => cwpOps C ops Q rest (put env o.dst v) h') : cwpOps C ops Q (o :: rest) env h := by
  simp only [cwpOps, hw, ho, cop]
  refine .inr ?_
  simp only [ha, hts, cappend, ht, hb, hx, hte]
  exact ⟨hl, hxs, hfit, h63, h0, h1⟩

theorem ops_nil (k : Q .normal env h) : cwpOps C ops Q [] env h := k

variable {D : Draws}
theorem wp_seq' {a b : Code} (k : cwp C D a (CExit.then (cwp C D b Q) Q) env h) : cwp C D (.seq a b) Q env h := k
theorem wp_skip' (k : Q .normal env h) : cwp C D .skip Q env h := k
theorem wp_ret' (k : Q .ret env h) : cwp C D .ret Q env h := k
theorem wp_exit' {i : Nat} (k : Q (.exit i) env h) : cwp C D (.exit i) Q env h := k
theorem wp_block' {i : Nat} {c : Code} (k : cwp C D c (CExit.inBlock i Q) env h) : cwp C D (.block i c) Q env h := k
theorem wp_region' {i : Nat} {ops : Array Oper} (k : cwpOps C ops.toList Q ops.toList env h) : cwp C D (.region i ops false) Q env h := k
theorem wp_region_lit {i : Nat} {l : List Oper} (k : cwpOps C l Q l env h) : cwp C D (.region i l.toArray false) Q env h := k
theorem wp_cond' {c : Operand} {a b : Code} {t : Bool} (ht : ev env c = .sc (.bool t)) (h1 : t = true → cwp C D a Q env h) (h2 : t = false → cwp C D b Q env h) : cwp C D (.cond c a b) Q env h := ⟨t, ht, h1, h2⟩
theorem wp_loop' {c : Code} (I : Nat → Env → Heap → Prop) (n : Nat) (h0 : I n env h) (hr : ∀ n env h, I n env h → cwp C D c (CExit.then (fun env' h' => ∃ m, m < n ∧ I m env' h') Q) env h) : cwp C D (.loop c) Q env h := ⟨I, n, h0, hr⟩
end steps

theorem put_same (env : Env) (t : Tmp) (v : CV) : put env (some t) v t = v := if_pos rfl
theorem put_ne (env : Env) {t k : Tmp} (v : CV) (hk : k ≠ t) : put env (some t) v k = env k := if_neg hk
theorem put_none (env : Env) (v : CV) : put env none v = env := rfl
theorem ev_tmp (env : Env) (t : Tmp) : ev env (.tmp t) = env t := rfl
theorem ev_func (env : Env) (f : FuncId) : ev env (.func f) = .fn f [] [] := rfl
theorem ev_const (env : Env) (v : Value) : ev env (.const v) = ofConst v := rfl
theorem ofConst_int (k : IntKind) (n : Int) : ofConst (.int k n) = .sc (.int k n) := rfl
theorem ofConst_bool (b : Bool) : ofConst (.bool b) = .sc (.bool b) := rfl
theorem ofConst_string (b : ByteArray) : ofConst (.string b) = .sc (.string b) := rfl
theorem ofConst_float (k : FloatKind) (b : Nat) : ofConst (.float k b) = .sc (.float k b) := rfl
theorem ofConst_nil : ofConst (.slice none 0 0) = .lst .nil [] := rfl
theorem ofConst_nilFunc : ofConst .nilFunc = .sc .nilFunc := rfl
theorem ofConst_nilIface : ofConst .nilIface = .sc .nilIface := rfl
theorem ofConst_nilPtr : ofConst (.pointer none) = .sc (.pointer none) := rfl
theorem ofConst_nilMap : ofConst (.map none) = .sc (.map none) := rfl
theorem envOf_get (l : List CV) (t : Tmp) : envOf l t = match l[t]? with | some v => v | none => .tup [] := rfl
attribute [simp] put_same put_ne put_none ev_tmp ev_func ev_const ofConst_int ofConst_bool ofConst_string ofConst_float ofConst_nil ofConst_nilFunc ofConst_nilIface ofConst_nilPtr ofConst_nilMap envOf_get upd_same upd_ne cwanted
attribute [simp] qop qload qfieldAddr qindexAddr tgt qbin qnum qshift qun qconv qbuiltin qlen qminmax qindex qassert concrete qbuild setAll partsOk qbuildSlice qslice qbnd qmake isConstOpd eqRes CV.at CV.set CExit.then CExit.inBlock bodyQ cres pack CV.shape CV.shapes
end Go.Cl
