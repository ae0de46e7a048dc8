/-
  An interpreter over clean values: maps from numbers as trees, the heap and the temporaries that it holds.
-/
import Derived.Test.YtcjkapadadonlaaGreatCl19
set_option linter.unusedSimpArgs false
set_option linter.unusedVariables false
namespace Go.Cl
open Go.RowKit

/-- A map from numbers, as a tree. -/
inductive T (α : Type) where
  | e
  | n (v : Option α) (l r : T α)

noncomputable def T.get {α : Type} (t : T α) : Nat → Option α :=
  T.rec (motive := fun _ => Nat → Option α) (fun _ => none)
    (fun v _ _ gl gr k => Nat.rec (motive := fun _ => Option α) v (fun j _ => cond (Nat.beq (Nat.mod j 2) 0) (gl (Nat.div j 2)) (gr (Nat.div j 2))) k) t

noncomputable def T.set {α : Type} (v : Option α) (f : Nat) : T α → Nat → T α :=
  Nat.rec (motive := fun _ => T α → Nat → T α) (fun t _ => t)
    (fun _ ih t k => T.rec (motive := fun _ => T α)
      (Nat.rec (motive := fun _ => T α) (.n v .e .e) (fun j _ => cond (Nat.beq (Nat.mod j 2) 0) (.n none (ih .e (Nat.div j 2)) .e) (.n none .e (ih .e (Nat.div j 2)))) k)
      (fun u l r _ _ => Nat.rec (motive := fun _ => T α) (.n v l r) (fun j _ => cond (Nat.beq (Nat.mod j 2) 0) (.n u (ih l (Nat.div j 2)) r) (.n u l (ih r (Nat.div j 2)))) k) t) f

section
variable {α : Type}
theorem T.get_e (k : Nat) : (T.e : T α).get k = none := rfl
theorem T.get_0 (v : Option α) (l r : T α) : (T.n v l r).get 0 = v := rfl
theorem T.get_s (v : Option α) (l r : T α) (j : Nat) : (T.n v l r).get (j + 1) = bif Nat.beq (Nat.mod j 2) 0 then l.get (Nat.div j 2) else r.get (Nat.div j 2) := rfl
theorem T.set_e0 (v : Option α) (f : Nat) : T.set v (f + 1) .e 0 = .n v .e .e := rfl
theorem T.set_es (v : Option α) (f j : Nat) : T.set v (f + 1) .e (j + 1) = bif Nat.beq (Nat.mod j 2) 0 then .n none (T.set v f .e (Nat.div j 2)) .e else .n none .e (T.set v f .e (Nat.div j 2)) := rfl
theorem T.set_n0 (v u : Option α) (f : Nat) (l r : T α) : T.set v (f + 1) (.n u l r) 0 = .n v l r := rfl
theorem T.set_ns (v u : Option α) (f j : Nat) (l r : T α) : T.set v (f + 1) (.n u l r) (j + 1) = bif Nat.beq (Nat.mod j 2) 0 then .n u (T.set v f l (Nat.div j 2)) r else .n u l (T.set v f r (Nat.div j 2)) := rfl

theorem T.get_set (v : Option α) : ∀ (f : Nat) (t : T α) (k : Nat), k < f → ∀ j, (T.set v f t k).get j = if j = k then v else t.get j
  | 0, _, _, h, _ => absurd h (by omega)
  | f + 1, t, k, h, j => by
    have key : ∀ (u : Option α) (l r : T α) (k : Nat), k < f + 1 → (match k with
        | 0 => T.n v l r
        | j + 1 => bif Nat.beq (Nat.mod j 2) 0 then .n u (T.set v f l (Nat.div j 2)) r else .n u l (T.set v f r (Nat.div j 2))).get j = if j = k then v else (T.n u l r).get j := by
      intro u l r k hk
      cases k with
      | zero =>
        cases j with
        | zero => simp [T.get_0]
        | succ j => simp [T.get_s]
      | succ k =>
        simp only
        have hk2 : Nat.div k 2 < f := by have : Nat.div k 2 = k / 2 := rfl; omega
        cases hb : Nat.beq (Nat.mod k 2) 0 with
        | true =>
          have hm : k % 2 = 0 := Nat.eq_of_beq_eq_true hb
          simp only [cond_true]
          cases j with
          | zero => simp [T.get_0]
          | succ j =>
            rw [T.get_s, T.get_s]
            cases hc : Nat.beq (Nat.mod j 2) 0 with
            | true =>
              have hn : j % 2 = 0 := Nat.eq_of_beq_eq_true hc
              simp only [cond_true]
              rw [T.get_set v f l _ hk2]
              have e1 : Nat.div j 2 = j / 2 := rfl
              have e2 : Nat.div k 2 = k / 2 := rfl
              rw [e1, e2]
              by_cases e : j = k
              · subst e; simp
              · rw [if_neg (by omega), if_neg (by omega)]
            | false =>
              have hn : j % 2 ≠ 0 := Nat.ne_of_beq_eq_false hc
              simp only [cond_false]
              rw [if_neg (by omega)]
        | false =>
          have hm : k % 2 ≠ 0 := Nat.ne_of_beq_eq_false hb
          simp only [cond_false]
          cases j with
          | zero => simp [T.get_0]
          | succ j =>
            rw [T.get_s, T.get_s]
            cases hc : Nat.beq (Nat.mod j 2) 0 with
            | true =>
              have hn : j % 2 = 0 := Nat.eq_of_beq_eq_true hc
              simp only [cond_true]
              rw [if_neg (by omega)]
            | false =>
              have hn : j % 2 ≠ 0 := Nat.ne_of_beq_eq_false hc
              simp only [cond_false]
              rw [T.get_set v f r _ hk2]
              have e1 : Nat.div j 2 = j / 2 := rfl
              have e2 : Nat.div k 2 = k / 2 := rfl
              rw [e1, e2]
              by_cases e : j = k
              · subst e; simp
              · rw [if_neg (by omega), if_neg (by omega)]
    cases t with
    | e =>
      have := key none .e .e k h
      cases k with
      | zero => rw [T.set_e0, this]; cases j <;> simp [T.get_e, T.get_0, T.get_s]
      | succ k => rw [T.set_es, this]; cases j <;> simp [T.get_e, T.get_0, T.get_s]
    | n u l r =>
      have := key u l r k h
      cases k with
      | zero => rw [T.set_n0, this]
      | succ k => rw [T.set_ns, this]
end

/-- Objects, each variable with its shape. -/
inductive XObj where
  | var (sh : Shape) (v : CV)
  | tail (n : Nat)
  | map (l : List (CV × CV))

def XObj.obj : XObj → Obj
  | .var _ v => .var v
  | .tail n => .tail n
  | .map l => .map l

structure Hp where
  n : Nat
  t : T XObj

noncomputable def Hp.h (p : Hp) : Heap := fun i => (p.t.get i).map XObj.obj
noncomputable def Hp.set (p : Hp) (i : Nat) (o : Option XObj) : Hp := ⟨p.n, T.set o (Nat.succ i) p.t i⟩
noncomputable def Hp.new (p : Hp) (o : XObj) : Hp := ⟨Nat.succ p.n, T.set (some o) (Nat.succ p.n) p.t p.n⟩

def Hp.good (p : Hp) : Prop := ∀ i sh v, p.t.get i = some (.var sh v) → v.shape = sh

theorem Hp.set_h (p : Hp) (i : Nat) (o : Option XObj) : (p.set i o).h = upd p.h i (o.map XObj.obj) := by
  funext j
  simp only [Hp.h, Hp.set, T.get_set o _ _ i (Nat.lt_succ_self i), upd]
  split <;> rfl
theorem Hp.new_h (p : Hp) (o : XObj) : (p.new o).h = upd p.h p.n (some o.obj) := by
  funext j
  simp only [Hp.h, Hp.new, T.get_set (some o) _ _ p.n (Nat.lt_succ_self _), upd]
  split <;> rfl
theorem Hp.good_set {p : Hp} (hp : p.good) {i : Nat} {o : Option XObj} (ho : ∀ sh v, o = some (.var sh v) → v.shape = sh) : (p.set i o).good := by
  intro j sh v hj
  simp only [Hp.set, T.get_set o _ _ i (Nat.lt_succ_self i)] at hj
  split at hj
  · exact ho sh v hj
  · exact hp j sh v hj
theorem Hp.good_new {p : Hp} (hp : p.good) {o : XObj} (ho : ∀ sh v, o = .var sh v → v.shape = sh) : (p.new o).good := by
  intro j sh v hj
  simp only [Hp.new, T.get_set (some o) _ _ p.n (Nat.lt_succ_self _)] at hj
  split at hj
  · exact ho sh v (Option.some.inj hj)
  · exact hp j sh v hj

abbrev XEnv := T CV
noncomputable def XEnv.at (m : XEnv) (t : Nat) : CV := Option.rec (motive := fun _ => CV) (.tup []) (fun v => v) (m.get t)
noncomputable def XEnv.put (m : XEnv) (d : Option Tmp) (v : CV) : XEnv := Option.rec (motive := fun _ => XEnv) m (fun t => T.set (some v) (Nat.succ t) m t) d
theorem XEnv.at_put (m : XEnv) (d : Option Tmp) (v : CV) : (m.put d v).at = Cl.put m.at d v := by
  cases d with
  | none => rfl
  | some t =>
    funext k
    simp only [XEnv.at, XEnv.put, Cl.put, T.get_set (some v) _ _ t (Nat.lt_succ_self t)]
    by_cases h : k = t
    · rw [if_pos h, if_pos h]
    · rw [if_neg h, if_neg h]

noncomputable def xev (m : XEnv) (x : Operand) : CV :=
  match x with
  | .tmp t => m.at t
  | .const v => ofConst v
  | .global _ => .tup []
  | .func f => .fn f [] []
theorem xev_eq (m : XEnv) : xev m = ev m.at := by
  funext x; cases x <;> rfl
end Go.Cl
