/-
  An interpreter over clean values: long runs in parts. Each part is one call, run by itself; the parts that it holds are looked up.
-/
import Derived.Test.YtcjkapadadonlaaGreatY23
set_option linter.unusedSimpArgs false
set_option linter.unusedVariables false
namespace Go.Cl
open Go.RowKit

abbrev CV.n_ (k : IntKind) (n : Nat) : CV := .sc (.int k (Int.ofNat n))
abbrev CV.i_ (k : IntKind) (n : Int) : CV := .sc (.int k n)
abbrev CV.b_ (b : Bool) : CV := .sc (.bool b)
abbrev CV.f_ (k : FloatKind) (n : Nat) : CV := .sc (.float k n)
abbrev CV.s_ (l : List UInt8) : CV := .sc (.string ⟨l.toArray⟩)
def ints (k : IntKind) : List Nat → List CV
  | [] => []
  | n :: l => .sc (.int k (Int.ofNat n)) :: ints k l
abbrev v_ (sh : Shape) (v : CV) : XObj := .var sh v

mutual
def shapeEq : Shape → Shape → Bool
  | .s, .s => true
  | .t, .t => true
  | .n l, .n m => shapesEq l m
  | _, _ => false
def shapesEq : List Shape → List Shape → Bool
  | [], [] => true
  | x :: l, y :: m => shapeEq x y && shapesEq l m
  | _, _ => false
end
mutual
theorem shapeEq_spec : ∀ (a b : Shape), shapeEq a b = true → a = b
  | .s, b, h => by cases b <;> simp [shapeEq] at h; rfl
  | .t, b, h => by cases b <;> simp [shapeEq] at h; rfl
  | .n l, b, h => by cases b <;> simp [shapeEq] at h; rw [shapesEq_spec l _ h]
theorem shapesEq_spec : ∀ (l m : List Shape), shapesEq l m = true → l = m
  | [], m, h => by cases m <;> simp [shapesEq] at h; rfl
  | x :: l, m, h => by cases m <;> simp [shapesEq] at h; rw [shapeEq_spec x _ h.1, shapesEq_spec l _ h.2]
end
def pairsEq : List (CV × CV) → List (CV × CV) → Bool
  | [], [] => true
  | (a, b) :: l, (c, d) :: m => cvEq a c && (cvEq b d && pairsEq l m)
  | _, _ => false
theorem pairsEq_spec : ∀ (l m : List (CV × CV)), pairsEq l m = true → l = m
  | [], m, h => by cases m <;> simp [pairsEq] at h; rfl
  | (a, b) :: l, m, h => by
    cases m with
    | nil => simp [pairsEq] at h
    | cons x m =>
      obtain ⟨c, d⟩ := x
      simp [pairsEq] at h
      rw [cvEq_spec a _ h.1, cvEq_spec b _ h.2.1, pairsEq_spec l _ h.2.2]
def xoEq : XObj → XObj → Bool
  | .var a v, .var b u => shapeEq a b && cvEq v u
  | .tail n, .tail m => Nat.beq n m
  | .map l, .map m => pairsEq l m
  | _, _ => false
theorem xoEq_spec (a b : XObj) (h : xoEq a b = true) : a = b := by
  cases a <;> cases b <;> simp [xoEq] at h
  · rw [shapeEq_spec _ _ h.1, cvEq_spec _ _ h.2]
  · rw [h]
  · rw [pairsEq_spec _ _ h]
def oxEq : Option XObj → Option XObj → Bool
  | none, none => true
  | some a, some b => xoEq a b
  | _, _ => false
theorem oxEq_spec (a b : Option XObj) (h : oxEq a b = true) : a = b := by
  cases a <;> cases b <;> simp [oxEq] at h
  · rfl
  · rw [xoEq_spec _ _ h]

/-- A heap of so many names that holds the listed. -/
noncomputable def ofL : List (Nat × XObj) → T XObj
  | [] => .e
  | (i, o) :: l => T.set (some o) (Nat.succ i) (ofL l) i
noncomputable def Hp.of (n : Nat) (l : List (Nat × XObj)) : Hp := ⟨n, ofL l⟩
noncomputable def holdsL (p : Hp) : List (Nat × XObj) → Bool
  | [] => true
  | (i, o) :: l => oxEq (p.t.get i) (some o) && holdsL p l
theorem holdsL_spec {p : Hp} : ∀ (l : List (Nat × XObj)), holdsL p l = true → ∀ i o, (ofL l).get i = some o → p.t.get i = some o
  | [], _, i, o, h => by simp [ofL, T.get_e] at h
  | (j, x) :: l, hh, i, o, h => by
    simp only [holdsL, Bool.and_eq_true] at hh
    simp only [ofL, T.get_set (some x) _ _ j (Nat.lt_succ_self j)] at h
    by_cases hij : i = j
    · rw [if_pos hij] at h; rw [hij, ← h]; exact oxEq_spec _ _ hh.1
    · rw [if_neg hij] at h; exact holdsL_spec l hh.2 i o h

/-- Less is known of the heap. -/
theorem XRel.less {w0 : World} {B : Nat} {S : St} {p q : Hp} {w : World} (r : XRel w0 B S p w) (hn : q.n = p.n) (h : ∀ i o, q.t.get i = some o → p.t.get i = some o) : XRel w0 B S q w :=
  ⟨r.r.drop fun i => by
    simp only [Hp.h]
    cases hq : q.t.get i with
    | none => exact .inl rfl
    | some o => exact .inr (by rw [h i o hq]), by rw [r.n, hn], fun i sh v hi => r.good i sh v (h i _ hi)⟩

noncomputable def resHolds (r : XRes) (k : Bool) (v : CV) (n : Nat) (l : List (Nat × XObj)) : Bool :=
  match r with
  | .ret u q => k && (cvEq u v && (Nat.beq q.n n && holdsL q l))
  | .pan u q => !k && (cvEq u v && (Nat.beq q.n n && holdsL q l))
  | .stuck => false
noncomputable def resOf (k : Bool) (v : CV) (n : Nat) (l : List (Nat × XObj)) : XRes := bif k then .ret v (Hp.of n l) else .pan v (Hp.of n l)

section
variable (C : Ctx)

/-- What is known comes ahead. -/
noncomputable def memo (f : Nat) (args : List CV) (n : Nat) (l : List (Nat × XObj)) (r : XRes) (T : XCall) : XCall := fun g as q => bif Nat.beq g f && (Nat.beq q.n n && (cvsEq as args && holdsL q l)) then r else T g as q

/-- One call's answer is so. -/
def Is (f : FuncId) (args : List CV) (n : Nat) (l : List (Nat × XObj)) (r : XRes) : Prop := CallOk C (memo f args n l r noCall)

theorem memo_ok {f : Nat} {args : List CV} {n : Nat} {l : List (Nat × XObj)} {r : XRes} {T : XCall} (h : Is C f args n l r) (hT : CallOk C T) : CallOk C (memo f args n l r T) := by
  intro g as q
  have h := h g as q
  unfold memo at h ⊢
  cases hb : Nat.beq g f && (Nat.beq q.n n && (cvsEq as args && holdsL q l)) with
  | false => exact hT g as q
  | true => rw [hb] at h; simp only [cond_true] at h ⊢; exact h

theorem is_of {X : XP} {T : XCall} (hX : XPok C X) (hname : ∀ f x, X.cat f = some x → ∃ fn, C.P.funcs[f]? = some fn ∧ fn.body.isNone = false ∧ (fn.name == "runtime.NumGoroutine") = false) (hT : CallOk C T) {fuel : Nat} {f : FuncId} {args : List CV} {n : Nat} {l : List (Nat × XObj)} {k : Bool} {v : CV} {n' : Nat} {l' : List (Nat × XObj)} (h : resHolds (trun C X T fuel f args (Hp.of n l)) k v n' l' = true) : Is C f args n l (resOf k v n' l') := by
  have hc := trun_sound C hX hname hT fuel f args (Hp.of n l)
  intro g as q
  unfold memo
  cases hb : Nat.beq g f && (Nat.beq q.n n && (cvsEq as args && holdsL q l)) with
  | false => trivial
  | true =>
    simp only [Bool.and_eq_true] at hb
    obtain ⟨h1, h2, h3, h4⟩ := hb
    have h1 := Nat.eq_of_beq_eq_true h1
    have h2 := Nat.eq_of_beq_eq_true h2
    have h3 := cvsEq_spec _ _ h3
    have h4 := holdsL_spec l h4
    subst h1 h3
    simp only [cond_true]
    cases hr : trun C X T fuel g as (Hp.of n l) with
    | stuck => rw [hr] at h; cases h
    | ret u p' =>
      rw [hr] at h hc
      simp only [resHolds, Bool.and_eq_true] at h
      obtain ⟨hk, k1, k2, k3⟩ := h
      subst hk
      have k1 := cvEq_spec _ _ k1
      have k2 := Nat.eq_of_beq_eq_true k2
      have k3 := holdsL_spec _ k3
      subst k1
      simp only [resOf, cond_true]
      obtain ⟨c1, c2⟩ := hc
      refine ⟨c1, fun w0 B S w vals r hV => (c2 w0 B S w vals (r.less (q := Hp.of n l) h2.symm h4) hV).mono ?_⟩
      rintro e w' ⟨S', x, d1, d2, d3⟩
      exact ⟨S', x, d1, d2.less (q := Hp.of n' l') k2.symm k3, d3⟩
    | pan u p' =>
      rw [hr] at h hc
      simp only [resHolds, Bool.and_eq_true, Bool.not_eq_true'] at h
      obtain ⟨hk, k1, k2, k3⟩ := h
      subst hk
      have k1 := cvEq_spec _ _ k1
      have k2 := Nat.eq_of_beq_eq_true k2
      have k3 := holdsL_spec _ k3
      subst k1
      simp only [resOf, cond_false]
      obtain ⟨c1, c2⟩ := hc
      refine ⟨c1, fun w0 B S w vals r hV => (c2 w0 B S w vals (r.less (q := Hp.of n l) h2.symm h4) hV).mono ?_⟩
      rintro e w' ⟨S', x, d1, d2, d3⟩
      exact ⟨S', x, d1, d2.less (q := Hp.of n' l') k2.symm k3, d3⟩
end
end Go.Cl
