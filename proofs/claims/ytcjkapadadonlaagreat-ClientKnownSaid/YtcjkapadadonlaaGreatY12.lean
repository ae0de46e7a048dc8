/-
  An interpreter over clean values: a region whose order is drawn is run once, in the text's order; what was quiet is looked at again at each heap that it may have met.
-/
import Derived.Test.YtcjkapadadonlaaGreatY11
set_option linter.unusedSimpArgs false
set_option linter.unusedVariables false
namespace Go.Cl
open Go.RowKit

structure Ent where
  env : XEnv
  wanted : Bool
  v : CV

inductive XTR where
  | done (env : XEnv) (es : List Ent) (hs : List Hp)
  | pan (v : CV) (p : Hp) (es : List Ent) (hs : List Hp)
  | stuck

def XTR.cons (x : Ent) : XTR → XTR
  | .done env es hs => .done env (x :: es) hs
  | .pan v p es hs => .pan v p (x :: es) hs
  | .stuck => .stuck
def XTR.consH (x : Ent) (h : Hp) : XTR → XTR
  | .done env es hs => .done env (x :: es) (h :: hs)
  | .pan v p es hs => .pan v p (x :: es) (h :: hs)
  | .stuck => .stuck

def allocV (o : Op) (i : Nat) : CV :=
  match o with
  | .alloc _ => .ptr i []
  | _ => .mapr i

/-- How many of the flags are up at places of which `P` holds. -/
def cntF : List Bool → Nat → (Nat → Bool) → Nat
  | [], _, _ => 0
  | b :: l, i, P => (bif b && P i then 1 else 0) + cntF l (i + 1) P

def isEff (o : Oper) (x : Ent) : Bool :=
  match kindOf o.op with
  | .eff => x.wanted
  | _ => false
def flags (ops : List Oper) (es : List Ent) : List Bool := List.zipWith isEff ops es

theorem cntF_shift (P Q : Nat → Bool) : ∀ (l : List Bool) (i j : Nat), (∀ k, P (i + k) = Q (j + k)) → cntF l i P = cntF l j Q
  | [], _, _, _ => rfl
  | b :: l, i, j, h => by
    have h0 : P i = Q j := h 0
    have ih := cntF_shift P Q l (i + 1) (j + 1) (fun k => by rw [Nat.add_assoc, Nat.add_assoc, Nat.add_comm 1 k]; exact h (k + 1))
    simp only [cntF, h0, ih]
theorem cntF_congr {P Q : Nat → Bool} : ∀ (l : List Bool) (i : Nat), (∀ k, l[k]? = some true → P (i + k) = Q (i + k)) → cntF l i P = cntF l i Q
  | [], _, _ => rfl
  | b :: l, i, h => by
    have ih := cntF_congr (P := P) (Q := Q) l (i + 1) (fun k hk => by rw [Nat.add_assoc, Nat.add_comm 1 k]; exact h (k + 1) (by simpa using hk))
    simp only [cntF, ih]
    cases b with
    | false => rfl
    | true => rw [show P i = Q i from h 0 rfl]
theorem cntF_mono {P Q : Nat → Bool} : ∀ (l : List Bool) (i : Nat), (∀ k, l[k]? = some true → P (i + k) = true → Q (i + k) = true) → cntF l i P ≤ cntF l i Q
  | [], _, _ => Nat.le_refl _
  | b :: l, i, h => by
    simp only [cntF]
    have ih := cntF_mono l (i + 1) (fun k hk hp => by have := h (k + 1) (by simpa using hk); rw [show i + 1 + k = i + (k + 1) by omega]; exact this (by rw [show i + (k + 1) = i + 1 + k by omega]; exact hp))
    cases b with
    | false => simpa using ih
    | true =>
      have h0 := h 0 rfl
      cases hp : P i with
      | false => simp; omega
      | true => rw [show Q i = true from h0 hp]; simpa using ih
/-- One more. -/
theorem cntF_add {P : Nat → Bool} {x : Nat} : ∀ (l : List Bool) (i : Nat), i ≤ x → P x = false → l[x - i]? = some true → cntF l i (fun k => P k || Nat.beq k x) = cntF l i P + 1
  | [], _, _, _, h => by simp at h
  | b :: l, i, hi, hP, h => by
    simp only [cntF]
    by_cases hx : i = x
    · subst hx
      simp at h
      subst h
      have hz : cntF l (i + 1) (fun k => P k || Nat.beq k i) = cntF l (i + 1) P := cntF_congr l (i + 1) fun k _ => by
        have : Nat.beq (i + 1 + k) i = false := by
          cases hb : Nat.beq (i + 1 + k) i with
          | false => rfl
          | true => have := Nat.eq_of_beq_eq_true hb; omega
        rw [this]; simp
      rw [hz, hP]
      simp [Nat.add_comm]
    · have hb : Nat.beq i x = false := by
        cases hb : Nat.beq i x with
        | false => rfl
        | true => exact absurd (Nat.eq_of_beq_eq_true hb) hx
      rw [hb, Bool.or_false, cntF_add l (i + 1) (by omega) hP (by rw [show x - i = (x - (i + 1)) + 1 by omega] at h; simpa using h)]
      omega
theorem cntF_same {P : Nat → Bool} {x : Nat} (l : List Bool) (hx : l[x]? ≠ some true) : cntF l 0 (fun k => P k || Nat.beq k x) = cntF l 0 P := cntF_congr l 0 fun k hk => by
  have : Nat.beq (0 + k) x = false := by
    cases hb : Nat.beq (0 + k) x with
    | false => rfl
    | true => have := Nat.eq_of_beq_eq_true hb; rw [← this, Nat.zero_add] at hx; exact absurd hk hx
  rw [this]; simp

section
variable (C : Ctx)

noncomputable def xtr (mu : Bool) (ext : FuncId → List CV → Option CV) (call : XCall) (ops : List Oper) (A : List Nat) (n0 : Nat) : List Oper → Nat → XEnv → Hp → XTR
  | [], _, env, p => .done env [] [p]
  | o :: rest, i, env, p => match xwanted ops o env with
    | none => .stuck
    | some false => XTR.cons ⟨env, false, .tup []⟩ (xtr mu ext call ops A n0 rest (i + 1) (env.put o.dst (.tup [])) p)
    | some true => match kindOf o.op with
      | .quiet => match xop C mu ext call env p o.op with
        | .ret v _ => XTR.cons ⟨env, true, v⟩ (xtr mu ext call ops A n0 rest (i + 1) (env.put o.dst v) p)
        | _ => .stuck
      | .alloc => XTR.cons ⟨env, true, allocV o.op (n0 + i)⟩ (xtr mu ext call ops A n0 rest (i + 1) (env.put o.dst (allocV o.op (n0 + i))) p)
      | .eff => match xop C mu ext call env p o.op with
        | .ret v p' => XTR.consH ⟨env, true, v⟩ p (xtr mu ext call ops A n0 rest (i + 1) (env.put o.dst v) p')
        | .pan v p' => bif (List.range' (i + 1) rest.length).all (fun j => bef A j i) then .pan v p' [] [p] else .stuck
        | .stuck => .stuck

/-- What the run says of one operation. -/
structure EntOk (mu : Bool) (ext : FuncId → List CV → Option CV) (call : XCall) (ops : List Oper) (n0 : Nat) (o : Oper) (i : Nat) (x : Ent) (p p' : Hp) : Prop where
  want : xwanted ops o x.env = some x.wanted
  off : x.wanted = false → x.v = .tup []
  quiet : x.wanted = true → kindOf o.op = .quiet → ∃ q, xop C mu ext call x.env p o.op = .ret x.v q
  alloc : x.wanted = true → kindOf o.op = .alloc → x.v = allocV o.op (n0 + i)
  eff : x.wanted = true → kindOf o.op = .eff → xop C mu ext call x.env p o.op = .ret x.v p'

/-- The temporaries behind the first of the operations. -/
def preE : List Oper → List Ent → Env → Nat → Env
  | o :: ops, x :: es, env, j + 1 => preE ops es (put env o.dst x.v) j
  | _, _, env, _ => env

structure RunOk (mu : Bool) (ext : FuncId → List CV → Option CV) (call : XCall) (ops : List Oper) (n0 : Nat) (l : List Oper) (i : Nat) (env : XEnv) (p : Hp) (es : List Ent) (hs : List Hp) : Prop where
  len : es.length ≤ l.length
  hlen : hs.length = cntF (flags l es) 0 (fun _ => true) + 1
  h0 : hs[0]? = some p
  ent : ∀ j o x, l[j]? = some o → es[j]? = some x → ∃ q q', hs[cntF (flags l es) 0 (fun k => Nat.blt k j)]? = some q ∧ (isEff o x = true → hs[cntF (flags l es) 0 (fun k => Nat.blt k j) + 1]? = some q') ∧ EntOk C mu ext call ops n0 o (i + j) x q q'
  pre : ∀ j x, es[j]? = some x → x.env.at = preE l es env.at j

theorem blt_zero (k : Nat) : Nat.blt k 0 = false := by
  cases h : Nat.blt k 0 with
  | false => rfl
  | true => simp [Nat.blt] at h

theorem RunOk.cons {mu : Bool} {ext : FuncId → List CV → Option CV} {call : XCall} {ops : List Oper} {n0 : Nat} {o : Oper} {l : List Oper} {i : Nat} {env : XEnv} {p p1 : Hp} {x : Ent} {es : List Ent} {hs hs' : List Hp}
    (h : RunOk C mu ext call ops n0 l (i + 1) (env.put o.dst x.v) p1 es hs) (hx : EntOk C mu ext call ops n0 o i x p p1) (henv : x.env = env) (hh : (isEff o x = true ∧ hs' = p :: hs) ∨ (isEff o x = false ∧ hs' = hs ∧ p1 = p)) :
    RunOk C mu ext call ops n0 (o :: l) i env p (x :: es) hs' := by
  have hfl : flags (o :: l) (x :: es) = isEff o x :: flags l es := rfl
  have hsh : ∀ j, cntF (flags l es) 1 (fun k => Nat.blt k (j + 1)) = cntF (flags l es) 0 (fun k => Nat.blt k j) := fun j => cntF_shift _ _ _ _ _ fun k => by
    show Nat.ble (1 + k + 1) (j + 1) = Nat.ble (0 + k + 1) j
    rw [show 1 + k + 1 = (0 + k + 1) + 1 by omega]; rfl
  have hz : cntF (isEff o x :: flags l es) 0 (fun k => Nat.blt k 0) = 0 := by
    have : cntF (isEff o x :: flags l es) 0 (fun k => Nat.blt k 0) = cntF (isEff o x :: flags l es) 0 (fun _ => false) := cntF_congr _ _ fun k _ => blt_zero _
    rw [this]
    have key : ∀ (m : List Bool) (i : Nat), cntF m i (fun _ => false) = 0 := fun m => by
      induction m with
      | nil => intro i; rfl
      | cons b m ih => intro i; simp [cntF, ih]
    exact key _ _
  refine ⟨by simp; exact h.len, ?_, ?_, fun j o' x' hj hj' => ?_, fun j x' hj => ?_⟩
  · rw [hfl]
    simp only [cntF, Bool.and_true]
    have hc : cntF (flags l es) (0 + 1) (fun _ => true) = cntF (flags l es) 0 (fun _ => true) := cntF_shift _ _ _ _ _ fun _ => rfl
    rw [hc]
    rcases hh with ⟨h1, rfl⟩ | ⟨h1, rfl, _⟩ <;> rw [h1]
    · simp only [List.length_cons, h.hlen, cond_true]; omega
    · simp only [h.hlen, cond_false]; omega
  · rcases hh with ⟨_, rfl⟩ | ⟨_, rfl, rfl⟩
    · rfl
    · exact h.h0
  · cases j with
    | zero =>
      simp at hj hj'
      subst hj; subst hj'
      rw [hfl, hz]
      refine ⟨p, p1, ?_, fun he => ?_, by simpa using hx⟩
      · rcases hh with ⟨_, rfl⟩ | ⟨_, rfl, rfl⟩
        · rfl
        · exact h.h0
      · rcases hh with ⟨_, rfl⟩ | ⟨h1, _⟩
        · simpa using h.h0
        · rw [h1] at he; cases he
    | succ j =>
      obtain ⟨q, q', k1, k2, k3⟩ := h.ent j o' x' (by simpa using hj) (by simpa using hj')
      have hc : cntF (flags (o :: l) (x :: es)) 0 (fun k => Nat.blt k (j + 1)) = (bif isEff o x then 1 else 0) + cntF (flags l es) 0 (fun k => Nat.blt k j) := by
        rw [hfl]
        simp only [cntF]
        rw [show Nat.blt 0 (j + 1) = true from by simp [Nat.blt], Bool.and_true, hsh]
      rw [hc]
      refine ⟨q, q', ?_, fun he => ?_, by rw [show i + (j + 1) = i + 1 + j by omega]; exact k3⟩
      · rcases hh with ⟨h1, rfl⟩ | ⟨h1, rfl, _⟩ <;> rw [h1]
        · rw [cond_true, Nat.add_comm]; simpa using k1
        · simpa using k1
      · rcases hh with ⟨h1, rfl⟩ | ⟨h1, rfl, _⟩ <;> rw [h1]
        · rw [cond_true, show 1 + cntF (flags l es) 0 (fun k => Nat.blt k j) + 1 = (cntF (flags l es) 0 (fun k => Nat.blt k j) + 1) + 1 by omega]; simpa using k2 he
        · simpa using k2 he
  · cases j with
    | zero => simp at hj; subst hj; rw [henv]; simp [preE]
    | succ j =>
      simp only [preE]
      rw [← XEnv.at_put]
      exact h.pre j x' (by simpa using hj)

/-- How the run ends. -/
def XTRok (mu : Bool) (ext : FuncId → List CV → Option CV) (call : XCall) (ops : List Oper) (A : List Nat) (n0 : Nat) (l : List Oper) (i : Nat) (env : XEnv) (p : Hp) : XTR → Prop
  | .done env' es hs => RunOk C mu ext call ops n0 l i env p es hs ∧ es.length = l.length ∧ env'.at = preE l es env.at l.length
  | .pan v p' es hs => RunOk C mu ext call ops n0 l i env p es hs ∧ ∃ o x q, l[es.length]? = some o ∧ kindOf o.op = .eff ∧ xwanted ops o x = some true ∧ x.at = preE l es env.at es.length ∧ hs[cntF (flags l es) 0 (fun _ => true)]? = some q ∧ xop C mu ext call x q o.op = .pan v p' ∧
      ∀ j, es.length < j → j < l.length → bef A (i + j) (i + es.length) = true
  | .stuck => True

theorem xtr_ok {mu : Bool} {ext : FuncId → List CV → Option CV} {call : XCall} {ops : List Oper} {A : List Nat} {n0 : Nat} : ∀ (l : List Oper) (i : Nat) (env : XEnv) (p : Hp), XTRok C mu ext call ops A n0 l i env p (xtr C mu ext call ops A n0 l i env p)
  | [], i, env, p => ⟨⟨Nat.le_refl _, rfl, rfl, fun j o x h => by simp at h, fun j x h => by simp at h⟩, rfl, rfl⟩
  | o :: l, i, env, p => by
    have step : ∀ (x : Ent) (p1 : Hp) (t : XTR) (hs' : List Hp → List Hp), x.env = env → EntOk C mu ext call ops n0 o i x p p1 → ((isEff o x = true ∧ ∀ hs, hs' hs = p :: hs) ∨ (isEff o x = false ∧ (∀ hs, hs' hs = hs) ∧ p1 = p)) →
        XTRok C mu ext call ops A n0 l (i + 1) (env.put o.dst x.v) p1 t → XTRok C mu ext call ops A n0 (o :: l) i env p (match t with
          | .done ev es hs => .done ev (x :: es) (hs' hs)
          | .pan v q es hs => .pan v q (x :: es) (hs' hs)
          | .stuck => .stuck) := by
      intro x p1 t hs' henv hx hh ht
      have hh' : ∀ hs, (isEff o x = true ∧ hs' hs = p :: hs) ∨ (isEff o x = false ∧ hs' hs = hs ∧ p1 = p) := fun hs => by
        rcases hh with ⟨h1, h2⟩ | ⟨h1, h2, h3⟩
        · exact .inl ⟨h1, h2 hs⟩
        · exact .inr ⟨h1, h2 hs, h3⟩
      cases t with
      | stuck => trivial
      | done ev es hs =>
        obtain ⟨h1, h2, h3⟩ := ht
        exact ⟨h1.cons C hx henv (hh' hs), by simp [h2], by rw [h3, XEnv.at_put]; rfl⟩
      | pan v q es hs =>
        obtain ⟨h1, o', x', q', k1, k2, k3, k4, k5, k6, k7⟩ := ht
        refine ⟨h1.cons C hx henv (hh' hs), o', x', q', by simpa using k1, k2, k3, by rw [k4, XEnv.at_put]; rfl, ?_, k6, fun j h1 h2 => ?_⟩
        · have hc : cntF (flags (o :: l) (x :: es)) 0 (fun _ => true) = (bif isEff o x then 1 else 0) + cntF (flags l es) 0 (fun _ => true) := by
            show cntF (isEff o x :: flags l es) 0 (fun _ => true) = _
            simp only [cntF, Bool.and_true]
            rw [cntF_shift (fun _ => true) (fun _ => true) (flags l es) (0 + 1) 0 (fun _ => rfl)]
          rw [hc]
          rcases hh' hs with ⟨h1, h2⟩ | ⟨h1, h2, _⟩ <;> rw [h1, h2]
          · rw [cond_true, Nat.add_comm]; simpa using k5
          · simpa using k5
        · simp only [List.length_cons] at h1 h2 ⊢
          have := k7 (j - 1) (by omega) (by omega)
          rw [show i + 1 + (j - 1) = i + j by omega, show i + 1 + es.length = i + (es.length + 1) by omega] at this
          exact this
    unfold xtr
    cases hw : xwanted ops o env with
    | none => trivial
    | some b =>
      cases b with
      | false =>
        have := step ⟨env, false, .tup []⟩ p _ (fun hs => hs) rfl ⟨hw, fun _ => rfl, (fun h => by cases h), (fun h => by cases h), (fun h => by cases h)⟩ (.inr ⟨by unfold isEff; split <;> rfl, fun _ => rfl, rfl⟩) (xtr_ok l (i + 1) (env.put o.dst (.tup [])) p)
        simp only
        cases ht : xtr C mu ext call ops A n0 l (i + 1) (env.put o.dst (.tup [])) p <;> rw [ht] at this <;> exact this
      | true =>
        simp only
        cases hk : kindOf o.op with
        | quiet =>
          simp only
          cases hx : xop C mu ext call env p o.op with
          | stuck => trivial
          | pan v q => trivial
          | ret v q =>
            have := step ⟨env, true, v⟩ p _ (fun hs => hs) rfl ⟨hw, (fun h => by cases h), (fun _ _ => ⟨q, hx⟩), (fun _ h => by rw [hk] at h; cases h), (fun _ h => by rw [hk] at h; cases h)⟩ (.inr ⟨by unfold isEff; rw [hk], fun _ => rfl, rfl⟩) (xtr_ok l (i + 1) (env.put o.dst v) p)
            simp only
            cases ht : xtr C mu ext call ops A n0 l (i + 1) (env.put o.dst v) p <;> rw [ht] at this <;> exact this
        | alloc =>
          have := step ⟨env, true, allocV o.op (n0 + i)⟩ p _ (fun hs => hs) rfl ⟨hw, (fun h => by cases h), (fun _ h => by rw [hk] at h; cases h), (fun _ _ => rfl), (fun _ h => by rw [hk] at h; cases h)⟩ (.inr ⟨by unfold isEff; rw [hk], fun _ => rfl, rfl⟩) (xtr_ok l (i + 1) (env.put o.dst (allocV o.op (n0 + i))) p)
          simp only
          cases ht : xtr C mu ext call ops A n0 l (i + 1) (env.put o.dst (allocV o.op (n0 + i))) p <;> rw [ht] at this <;> exact this
        | eff =>
          simp only
          cases hx : xop C mu ext call env p o.op with
          | stuck => trivial
          | ret v q =>
            have := step ⟨env, true, v⟩ q _ (fun hs => p :: hs) rfl ⟨hw, (fun h => by cases h), (fun _ h => by rw [hk] at h; cases h), (fun _ h => by rw [hk] at h; cases h), (fun _ _ => hx)⟩ (.inl ⟨by unfold isEff; rw [hk], fun _ => rfl⟩) (xtr_ok l (i + 1) (env.put o.dst v) q)
            simp only
            cases ht : xtr C mu ext call ops A n0 l (i + 1) (env.put o.dst v) q <;> rw [ht] at this <;> exact this
          | pan v q =>
            simp only
            cases hb : (List.range' (i + 1) l.length).all (fun j => bef A j i) with
            | false => trivial
            | true =>
              refine ⟨⟨Nat.zero_le _, rfl, rfl, fun j o x _ h => by simp at h, fun j x h => by simp at h⟩, o, env, p, rfl, hk, hw, rfl, rfl, hx, fun j h1 h2 => ?_⟩
              simp only [List.length_nil, List.length_cons] at h1 h2 ⊢
              exact List.all_eq_true.1 hb (i + j) (by rw [List.mem_range']; exact ⟨j - 1, by omega, by omega⟩)
end
end Go.Cl
