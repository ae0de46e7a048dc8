/-
  An interpreter over clean values: a program's table; a closed law.
-/
import Derived.Test.YtcjkapadadonlaaGreatY19
import Derived.Test.YtcjkapadadonlaaGreatCl23
set_option linter.unusedSimpArgs false
set_option linter.unusedVariables false
namespace Go.Cl
open Go.RowKit

noncomputable def mkTab (P : Program) (f : FuncId) : Option XF :=
  match P.funcs[f]? with
  | some fn => match fn.body with
    | some c => bif okCode fn.ntmps c && fn.results.toList.all (okRes fn.ntmps) && !(fn.name == "runtime.NumGoroutine") then some ⟨c, fn.results.toList, fn.ntmps⟩ else none
    | none => none
  | none => none
theorem mkTab_ok {C : Ctx} {f : FuncId} {x : XF} (h : mkTab C.P f = some x) : XFok C f x := by
  unfold mkTab at h
  split at h <;> try (cases h; done)
  rename_i fn hfn
  split at h <;> try (cases h; done)
  rename_i c hc
  cases hb : (okCode fn.ntmps c && fn.results.toList.all (okRes fn.ntmps) && !(fn.name == "runtime.NumGoroutine")) with
  | false => rw [hb] at h; cases h
  | true =>
    rw [hb, cond_true] at h
    cases h
    simp only [Bool.and_eq_true, Bool.not_eq_true'] at hb
    exact ⟨fn, hfn, hc, rfl, rfl, hb.2, hb.1.1, hb.1.2⟩

theorem run_extern {P : Program} {f : FuncId} {fn : Func} {e : Array Value → Sem Value} (h : P.funcs[f]? = some fn) (hb : fn.body.isNone = true) (hn : (fn.name == "runtime.NumGoroutine") = false) (h1 : (Extern.findNext fn).isNone = true) (h2 : Extern.find fn = some e) (args : Array Value) (w : World) :
    (callFunc f args).run P w = (do pure (Next.value (← e args)) : Sem Next).run P w := by
  have h1' : Extern.findNext fn = none := by simpa using h1
  unfold callFunc
  simp only [Sem.run_bind, run_program, Result.andThen_ok, h, hn, hb, Bool.false_eq_true, if_false, if_true, h1', h2]
  rfl

/-- The bits of a float, and back. -/
def extBits (a b : FuncId) (f : FuncId) (args : List CV) : Option CV :=
  bif Nat.beq f a then (match args with
    | [.sc (.float .f64 n)] => some (.sc (.int .u64 n))
    | _ => none)
  else bif Nat.beq f b then (match args with
    | [.sc (.int .u64 n)] => some (.sc (.float .f64 n.toNat))
    | _ => none)
  else none

structure ExtFn (P : Program) (f : FuncId) (e : Array Value → Sem Value) : Prop where
  h : ∃ fn, P.funcs[f]? = some fn ∧ fn.body.isNone = true ∧ (fn.name == "runtime.NumGoroutine") = false ∧ (Extern.findNext fn).isNone = true ∧ Extern.find fn = some e

theorem VRs_one {S : St} {v : CV} {vals : List Value} (h : VRs S [v] vals) : ∃ x, vals = [x] ∧ VR S v x := by
  match vals, h with
  | [], h => simp [VRs] at h
  | [x], h => exact ⟨x, rfl, (VRs_cons.1 h).1⟩
  | x :: y :: l, h => have := (VRs_cons.1 h).2; simp [VRs] at this

theorem extBits_ok {C : Ctx} {a b : FuncId} (ha : ExtFn C.P a Extern.MathFloatBits.float64bits) (hb : ExtFn C.P b Extern.MathFloatBits.float64frombits) : ExtOk C (extBits a b) := by
  intro f args v h S vals w hV
  unfold extBits at h
  cases h1 : Nat.beq f a with
  | true =>
    rw [h1, cond_true] at h
    have := Nat.eq_of_beq_eq_true h1
    subst this
    split at h <;> try (cases h; done)
    cases h
    obtain ⟨x, rfl, hx⟩ := VRs_one hV
    have hx := (VR_sc.1 hx).1
    subst hx
    obtain ⟨fn, k1, k2, k3, k4, k5⟩ := ha.h
    exact ⟨_, by rw [run_extern k1 k2 k3 k4 k5]; rfl, VR_sc.2 ⟨rfl, rfl⟩⟩
  | false =>
    rw [h1, cond_false] at h
    cases h2 : Nat.beq f b with
    | true =>
      rw [h2, cond_true] at h
      have := Nat.eq_of_beq_eq_true h2
      subst this
      split at h <;> try (cases h; done)
      cases h
      obtain ⟨x, rfl, hx⟩ := VRs_one hV
      have hx := (VR_sc.1 hx).1
      subst hx
      obtain ⟨fn, k1, k2, k3, k4, k5⟩ := hb.h
      exact ⟨_, by rw [run_extern k1 k2 k3 k4 k5]; rfl, VR_sc.2 ⟨rfl, rfl⟩⟩
    | false => rw [h2] at h; cases h

def noExt (_ : FuncId) (_ : List CV) : Option CV := none
theorem noExt_ok (C : Ctx) : ExtOk C noExt := fun _ _ _ h => by cases h

def oneOf (l : List FuncId) (f : FuncId) : Bool := l.any fun g => Nat.beq f g

/-- The code up to a deferred closure, and behind it. -/
def catA : Code → Code
  | .seq a _ => a
  | _ => .skip
def catB : Code → Code
  | .seq _ (.seq b _) => b
  | _ => .skip
def catP : Code → Code
  | .seq _ (.seq _ (.seq _ p)) => p
  | _ => .skip
def catR : Code → Code
  | .seq _ r => r
  | _ => .skip

noncomputable def catAt (f : FuncId) (x : XC) (g : FuncId) : Option XC := bif Nat.beq g f then some x else none
theorem catAt_ok {C : Ctx} {f : FuncId} {x : XC} (h : XCok C f x) : ∀ g y, catAt f x g = some y → XCok C g y := by
  intro g y hg
  unfold catAt at hg
  cases hb : Nat.beq g f with
  | false => rw [hb] at hg; cases hg
  | true =>
    rw [hb] at hg
    cases hg
    rw [Nat.eq_of_beq_eq_true hb]; exact h

def isTrue : XRes → Bool
  | .ret (.sc (.bool b)) _ => b
  | _ => false

theorem isTrue_spec {r : XRes} (h : isTrue r = true) : ∃ p, r = .ret (.sc (.bool true)) p := by
  unfold isTrue at h
  split at h
  · subst h; exact ⟨_, rfl⟩
  · cases h

/-- A closed law. -/
theorem closed_true {C : Ctx} {X : XP} (hX : XPok C X) (hname : ∀ f x, X.cat f = some x → ∃ fn, C.P.funcs[f]? = some fn ∧ fn.body.isNone = false ∧ (fn.name == "runtime.NumGoroutine") = false) {fuel : Nat} {f : FuncId} (h : isTrue (xrun C X fuel f [] ⟨0, .e⟩) = true) (w : World) :
    Calls C.P f #[] w fun e w' => e = .returned (.bool true) ∧ Below w.heap.size w w' := by
  obtain ⟨p, hp⟩ := isTrue_spec h
  have hc := xrun_sound C hX hname fuel f [] ⟨0, .e⟩
  rw [hp] at hc
  obtain ⟨_, hc⟩ := hc
  have r0 : XRel w w.heap.size (S0 w) ⟨0, .e⟩ w := ⟨R_init w, rfl, fun i sh v h => by simp [T.get_e] at h⟩
  refine (hc w w.heap.size (S0 w) w [] r0 (by simp [VRs])).mono ?_
  rintro e w' ⟨S', x, _, r, hx, rfl⟩
  exact ⟨by rw [(VR_sc.1 hx).1], r.r.below⟩
end Go.Cl
