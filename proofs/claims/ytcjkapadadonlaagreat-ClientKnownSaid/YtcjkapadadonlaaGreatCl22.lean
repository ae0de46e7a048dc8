/-
  Rules for a walk, second part: the answer of a quiet op is found first.
-/
import Derived.Test.YtcjkapadadonlaaGreatCl21
set_option linter.unusedSimpArgs false
set_option linter.unusedVariables false
namespace Go.Cl
section steps
variable {C : Ctx} {D : Draws} {ops rest : List Oper} {Q : CPost} {env : Env} {h h1 : Heap} {o : Oper} {P : Env → Prop} {k : Nat} {al : Nat → Option Nat}
theorem ops_onv {x : Option CV} {v : CV} (hw : cwanted ops o env = some true) (hq : qop C (ev env) h o.op = x) (hx : x = some v) (hk : cwpOps C ops Q rest (put env o.dst v) h) : cwpOps C ops Q (o :: rest) env h := ops_on hw (hq.trans hx) hk
theorem dr_onv {x : Option CV} {v : CV} (hw : cwanted ops o env = some true) (hq : qop C (ev env) h1 o.op = x) (hx : x = some v) (hk : walkQ C ops al h1 P (k + 1) rest (put env o.dst v)) : walkQ C ops al h1 P k (o :: rest) env := dr_on hw (hq.trans hx) hk
theorem ops_storev {t : TypeId} {a x : Operand} {ti : TI} {i : Nat} {p : List Nat} {v u y xa : CV} {xh : Option Obj} {xp : Option CV} (hw : cwanted ops o env = some true) (ho : o.op = .store t a x) (ht : C.tt t = some ti) (ha : ev env a = xa) (ha' : xa = .ptr i p) (hi : h i = xh) (hi' : xh = some (.var v)) (hp : v.at p = xp) (hp' : xp = some y) (hy : y.shape = ti.sh)
    (hx : ev env x = u) (hs : u.shape = ti.sh) (hk : cwpOps C ops Q rest (put env o.dst (.tup [])) (upd h i (some (.var (v.set p u))))) : cwpOps C ops Q (o :: rest) env h :=
  ops_store hw ho ht (ha.trans ha') (hi.trans hi') (hp.trans hp') hy hx hs hk
theorem hle_none {a b : Heap} {i : Nat} (k : HLe a b) (h : b i = none) : a i = none := by
  rcases k i with e | e
  · exact e
  · rw [e]; exact h
theorem ne_live {h : Heap} {p i : Nat} {x : Obj} (e : h p = some x) (k : h i = none) : p ≠ i ∧ i ≠ p := by
  refine ⟨fun q => ?_, fun q => ?_⟩ <;> subst q <;> rw [e] at k <;> cases k
end steps
end Go.Cl
