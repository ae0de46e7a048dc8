/-
  An interpreter over clean values: calls that are answered by what was proved of them; heaps that hold the same.
-/
import Derived.Test.YtcjkapadadonlaaGreatY22
set_option linter.unusedSimpArgs false
set_option linter.unusedVariables false
namespace Go.Cl
open Go.RowKit

/-- Heaps that hold the same. -/
def HpEq (p q : Hp) : Prop := p.n = q.n ∧ ∀ i, p.t.get i = q.t.get i
theorem HpEq.refl (p : Hp) : HpEq p p := ⟨rfl, fun _ => rfl⟩
theorem HpEq.symm {p q : Hp} (h : HpEq p q) : HpEq q p := ⟨h.1.symm, fun i => (h.2 i).symm⟩
theorem HpEq.trans {p q r : Hp} (h : HpEq p q) (k : HpEq q r) : HpEq p r := ⟨h.1.trans k.1, fun i => (h.2 i).trans (k.2 i)⟩
theorem HpEq.h {p q : Hp} (e : HpEq p q) : p.h = q.h := by funext i; simp only [Hp.h, e.2 i]
theorem XRel.eqv {w0 : World} {B : Nat} {S : St} {p q : Hp} {w : World} (r : XRel w0 B S p w) (e : HpEq p q) : XRel w0 B S q w :=
  ⟨by rw [← e.h]; exact r.r, by rw [← e.1]; exact r.n, fun i sh v h => r.good i sh v (by rw [e.2 i]; exact h)⟩

theorem Hp.get_set (p : Hp) (i : Nat) (o : Option XObj) (j : Nat) : (p.set i o).t.get j = if j = i then o else p.t.get j := T.get_set o _ _ i (Nat.lt_succ_self i) j
theorem Hp.get_new (p : Hp) (o : XObj) (j : Nat) : (p.new o).t.get j = if j = p.n then some o else p.t.get j := T.get_set (some o) _ _ p.n (Nat.lt_succ_self _) j
theorem Hp.set_n (p : Hp) (i : Nat) (o : Option XObj) : (p.set i o).n = p.n := rfl
theorem Hp.new_n (p : Hp) (o : XObj) : (p.new o).n = p.n + 1 := rfl

def ResEq : XRes → XRes → Prop
  | .ret v p, .ret u q => v = u ∧ HpEq p q
  | .pan v p, .pan u q => v = u ∧ HpEq p q
  | .stuck, .stuck => True
  | _, _ => False

section
variable (C : Ctx)

theorem Ans.eqv {w0 : World} {B : Nat} {S : St} {f : FuncId} {vals : List Value} {w : World} {a b : XRes} (h : Ans C w0 B S f vals w a) (e : ResEq a b) : Ans C w0 B S f vals w b := by
  cases a <;> cases b <;> simp only [ResEq] at e <;> try trivial
  · obtain ⟨rfl, e⟩ := e
    exact Calls.mono h fun en w' ⟨S', x, k1, k2, k3⟩ => ⟨S', x, k1, k2.eqv e, k3⟩
  · obtain ⟨rfl, e⟩ := e
    exact Calls.mono h fun en w' ⟨S', x, k1, k2, k3⟩ => ⟨S', x, k1, k2.eqv e, k3⟩

/-- What is said of one function's calls is so. -/
def FunOk (f : FuncId) (spec : List CV → Hp → XRes) : Prop := (∃ fn, C.P.funcs[f]? = some fn ∧ fn.body.isNone = false ∧ (fn.name == "runtime.NumGoroutine") = false) ∧
  ∀ (args : List CV) (p : Hp) (w0 : World) (B : Nat) (S : St) (w : World) (vals : List Value), XRel w0 B S p w → VRs S args vals → Ans C w0 B S f vals w (spec args p)

/-- A table of what is said. -/
def orElse (f : FuncId) (spec : List CV → Hp → XRes) (T : XCall) : XCall := fun g args p => bif Nat.beq g f then spec args p else T g args p

theorem orElse_ok {f : FuncId} {spec : List CV → Hp → XRes} {T : XCall} (h : FunOk C f spec) (hT : CallOk C T) : CallOk C (orElse f spec T) := by
  intro g args p
  unfold orElse
  cases hb : Nat.beq g f with
  | false => exact hT g args p
  | true =>
    have := Nat.eq_of_beq_eq_true hb
    subst this
    obtain ⟨h1, h2⟩ := h
    have h2 := h2 args p
    simp only [cond_true]
    cases hs : spec args p with
    | stuck => trivial
    | ret v q => rw [hs] at h2; exact ⟨h1, fun w0 B S w vals r hV => h2 w0 B S w vals r hV⟩
    | pan v q => rw [hs] at h2; exact ⟨h1, fun w0 B S w vals r hV => h2 w0 B S w vals r hV⟩

def noCall : XCall := fun _ _ _ => .stuck
theorem noCall_ok : CallOk C noCall := fun _ _ _ => trivial

/-- A function's text gives what is said of it. -/
theorem funOk_of {f : FuncId} {x : XF} (hf : XFok C f x) {ext : FuncId → List CV → Option CV} {T : XCall} (hext : ExtOk C ext) (hT : CallOk C T) {mu : Bool} {spec : List CV → Hp → XRes}
    (h : ∀ args p, p.good → spec args p ≠ .stuck → ∃ fuel r, xfun C mu ext T fuel x args p = r ∧ ResEq r (spec args p)) : FunOk C f spec := by
  obtain ⟨fn, h1, h2, h3, h4, h5, h6, h7⟩ := hf
  refine ⟨⟨fn, h1, by rw [h2]; rfl, h5⟩, fun args p w0 B S w vals r hV => ?_⟩
  by_cases hs : spec args p = .stuck
  · rw [hs]; trivial
  · obtain ⟨fuel, res, k1, k2⟩ := h args p r.good hs
    have := xfun_sound C hext hT (mu := mu) (fuel := fuel) ⟨fn, h1, h2, h3, h4, h5, h6, h7⟩ r hV
    rw [k1] at this
    exact this.eqv C k2
end

/-! The run with a table. -/
section
variable (C : Ctx)

noncomputable def fnext (r : XRes) (k : XRes) : XRes :=
  match r with
  | .stuck => k
  | r => r

/-- What is said comes first, then the text. -/
noncomputable def trun (X : XP) (T : XCall) (fuel : Nat) : XCall :=
  Nat.rec (motive := fun _ => XCall) T (fun k ih f args p => fnext (T f args p) (Option.rec (motive := fun _ => XRes) (frun1 C X k ih f args p (X.tab f)) (fun x => fcatch C (X.mu f) X.ext ih k x args p) (X.cat f))) fuel

theorem trun_sound {X : XP} {T : XCall} (hX : XPok C X) (hname : ∀ f x, X.cat f = some x → ∃ fn, C.P.funcs[f]? = some fn ∧ fn.body.isNone = false ∧ (fn.name == "runtime.NumGoroutine") = false) (hT : CallOk C T) : ∀ fuel, CallOk C (trun C X T fuel) := by
  intro fuel
  induction fuel with
  | zero => exact hT
  | succ k ih =>
    intro f args p
    show match fnext (T f args p) (Option.rec (motive := fun _ => XRes) (frun1 C X k (trun C X T k) f args p (X.tab f)) (fun x => fcatch C (X.mu f) X.ext (trun C X T k) k x args p) (X.cat f)) with
      | .ret v p' => _
      | .pan v p' => _
      | .stuck => True
    have hTf := hT f args p
    cases ht : T f args p with
    | ret v q => rw [ht] at hTf; exact hTf
    | pan v q => rw [ht] at hTf; exact hTf
    | stuck =>
      simp only [fnext]
      have key : CallOk C (fun f args p => match X.cat f with
          | some x => xcatch C (X.mu f) X.ext (trun C X T k) k x args p
          | none => match X.tab f with
            | some x => xfun C (X.mu f) X.ext (trun C X T k) k x args p
            | none => .stuck) := by
        refine callOk_of_ans C fun f args p => ?_
        cases hc : X.cat f with
        | some x => exact ⟨fun _ => hname f x hc, fun w0 B S w vals r hV => xcatch_sound C hX.ext ih (hX.cat f x hc) r hV⟩
        | none =>
          simp only
          cases ht : X.tab f with
          | none => exact ⟨fun h => absurd rfl h, fun w0 B S w vals r hV => trivial⟩
          | some x =>
            have hf := hX.tab f x ht
            refine ⟨fun _ => ?_, fun w0 B S w vals r hV => xfun_sound C hX.ext ih hf r hV⟩
            obtain ⟨fn, h1, h2, _, _, h5, _⟩ := hf
            exact ⟨fn, h1, by rw [h2]; rfl, h5⟩
      have := key f args p
      have he : (Option.rec (motive := fun _ => XRes) (frun1 C X k (trun C X T k) f args p (X.tab f)) (fun x => fcatch C (X.mu f) X.ext (trun C X T k) k x args p) (X.cat f)) = (match X.cat f with
          | some x => xcatch C (X.mu f) X.ext (trun C X T k) k x args p
          | none => match X.tab f with
            | some x => xfun C (X.mu f) X.ext (trun C X T k) k x args p
            | none => .stuck) := by
        cases X.cat f with
        | some x => exact fcatch_eq C _ _ _ _ x args p
        | none =>
          simp only [frun1]
          cases X.tab f with
          | none => rfl
          | some x => exact ffun_eq C _ _ _ _ x args p
      rw [he]
      exact this

theorem closed_table {X : XP} {T : XCall} (hX : XPok C X) (hname : ∀ f x, X.cat f = some x → ∃ fn, C.P.funcs[f]? = some fn ∧ fn.body.isNone = false ∧ (fn.name == "runtime.NumGoroutine") = false) (hT : CallOk C T) {fuel : Nat} {f : FuncId} (h : isTrue (trun C X T fuel f [] ⟨0, .e⟩) = true) (w : World) :
    Calls C.P f #[] w fun e w' => e = .returned (.bool true) ∧ Below w.heap.size w w' := by
  obtain ⟨p, hp⟩ := isTrue_spec h
  have hc := trun_sound C hX hname hT fuel f [] ⟨0, .e⟩
  rw [hp] at hc
  obtain ⟨_, hc⟩ := hc
  have r0 : XRel w w.heap.size (S0 w) ⟨0, .e⟩ w := ⟨R_init w, rfl, fun i sh v h => by simp [Cl.T.get_e] at h⟩
  refine (hc w w.heap.size (S0 w) w [] r0 (by simp [VRs])).mono ?_
  rintro e w' ⟨S', x, _, r, hx, rfl⟩
  exact ⟨by rw [(VR_sc.1 hx).1], r.r.below⟩
end
end Go.Cl
