/-
  An interpreter over clean values: drawn regions, whatever order is drawn.
-/
import Derived.Test.YtcjkapadadonlaaGreatY13
set_option linter.unusedSimpArgs false
set_option linter.unusedVariables false
namespace Go.Cl
open Go.RowKit

section
variable (C : Ctx)

theorem of_blt {i j : Nat} (h : Nat.blt i j = true) : i < j := Nat.le_of_ble_eq_true h
theorem blt_of {i j : Nat} (h : i < j) : Nat.blt i j = true := Nat.ble_eq_true_of_le h

def isEffOp (o : Oper) : Bool :=
  match kindOf o.op with
  | .eff => true
  | _ => false

/-- What changes the heap comes in one order. -/
def chainB (ops : List Oper) (A : List Nat) : Bool :=
  (List.range ops.length).all fun j => (List.range j).all fun i => match ops[i]?, ops[j]? with
    | some oi, some oj => !(isEffOp oi && isEffOp oj) || bef A j i
    | _, _ => true

def touches (ops : List Oper) (o : Oper) (t : Tmp) : Bool := (o.looksAt ops.toArray).contains t || (match o.dst with | some u => Nat.beq u t | none => false)

/-- Who sets a temporary and who looks at it come in one order. -/
def conflB (ops : List Oper) (A : List Nat) : Bool :=
  (List.range ops.length).all fun j => match ops[j]? with
    | some oj => match oj.dst with
      | some t => (List.range ops.length).all fun i => Nat.beq i j || (match ops[i]? with
        | some oi => !touches ops oi t || (bif Nat.blt i j then bef A j i else bef A i j)
        | none => true)
      | none => true
    | none => true

def drawStat (ops : List Oper) (A : List Nat) : Bool := lowB ops && chainB ops A && conflB ops A

theorem chainB_spec {ops : List Oper} {A : List Nat} (h : chainB ops A = true) {i j : Nat} {oi oj : Oper} (hi : ops[i]? = some oi) (hj : ops[j]? = some oj) (hij : i < j) (h1 : kindOf oi.op = .eff) (h2 : kindOf oj.op = .eff) : bef A j i = true := by
  have hjl := (List.getElem?_eq_some_iff.1 hj).1
  have a1 := List.all_eq_true.1 h j (by simpa using hjl)
  have a2 := List.all_eq_true.1 a1 i (by simpa using hij)
  simp only [hi, hj] at a2
  simpa [isEffOp, h1, h2] using a2

theorem conflB_spec {ops : List Oper} {A : List Nat} (h : conflB ops A = true) {i j : Nat} {oi oj : Oper} {t : Tmp} (hi : ops[i]? = some oi) (hj : ops[j]? = some oj) (hij : i ≠ j) (hd : oj.dst = some t) (ht : touches ops oi t = true) : (i < j → bef A j i = true) ∧ (j < i → bef A i j = true) := by
  have hjl := (List.getElem?_eq_some_iff.1 hj).1
  have hil := (List.getElem?_eq_some_iff.1 hi).1
  have a1 := List.all_eq_true.1 h j (by simpa using hjl)
  simp only [hj, hd] at a1
  have a2 := List.all_eq_true.1 a1 i (by simpa using hil)
  simp only [hi, Bool.or_eq_true] at a2
  rcases a2 with a2 | a2 | a2
  · exact absurd (Nat.eq_of_beq_eq_true a2) hij
  · rw [ht] at a2; cases a2
  · constructor
    · intro hlt
      rw [show Nat.blt i j = true from blt_of hlt] at a2
      exact a2
    · intro hlt
      have : Nat.blt i j = false := by
        cases hb : Nat.blt i j with
        | false => rfl
        | true => have := of_blt hb
                  omega
      rw [this] at a2
      exact a2

def allocObj (o : Op) : Option XObj :=
  match o with
  | .alloc t => match C.tt t with
    | some ti => some (.var ti.sh ti.zero)
    | none => none
  | _ => some (.map [])

def shEq (a b : Shape) : Bool := decide (a = b)
def objEq : XObj → XObj → Bool
  | .var sa v, .var sb u => shEq sa sb && cvEq v u
  | .map [], .map [] => true
  | _, _ => false
theorem objEq_spec {a b : XObj} (h : objEq a b = true) : a = b := by
  unfold objEq at h
  split at h
  · rw [Bool.and_eq_true] at h
    rw [of_decide_eq_true h.1, cvEq_spec _ _ h.2]
  · rfl
  · cases h

/-- The variables that the region makes are laid ahead. -/
noncomputable def layA (n0 : Nat) : List Oper → Nat → Hp → Hp
  | [], _, p => p
  | o :: l, i, p => layA n0 l (i + 1) (match kindOf o.op with
    | .alloc => match allocObj C o.op with
      | some ob => p.set (n0 + i) (some ob)
      | none => p
    | _ => p)

noncomputable def chkAt (mu : Bool) (ext : FuncId → List CV → Option CV) (call : XCall) (n0 : Nat) (hs : List Hp) (i : Nat) (o : Oper) (x : Ent) (e : Nat) : Bool :=
  match hs[e]? with
  | none => true
  | some q => match kindOf o.op with
    | .quiet => match xop C mu ext call x.env q o.op with
      | .ret v _ => cvEq x.v v
      | _ => false
    | .alloc => match q.t.get (n0 + i), allocObj C o.op with
      | some a, some b => objEq a b
      | _, _ => false
    | .eff => true

/-- One of the operations, at each heap that it may meet. -/
noncomputable def chkOne (mu : Bool) (ext : FuncId → List CV → Option CV) (call : XCall) (A : List Nat) (n0 : Nat) (fl : List Bool) (hs : List Hp) (i : Nat) (o : Oper) (x : Ent) : Bool :=
  bif x.wanted then
    match kindOf o.op with
    | .eff => true
    | .quiet => bif heapy o.op then
        (fun lo hi => bif Nat.beq lo hi then true else (List.range' lo (hi + 1 - lo)).all fun e => chkAt C mu ext call n0 hs i o x e) (cntF fl 0 fun j => bef A i j) (cntF fl 0 fun j => !bef A j i) else true
    | .alloc => (fun lo hi => (List.range' lo (hi + 1 - lo)).all fun e => chkAt C mu ext call n0 hs i o x e) (cntF fl 0 fun j => bef A i j) (cntF fl 0 fun j => !bef A j i)
  else true

noncomputable def chkAll (mu : Bool) (ext : FuncId → List CV → Option CV) (call : XCall) (A : List Nat) (n0 : Nat) (fl : List Bool) (hs : List Hp) : Nat → List Oper → List Ent → Bool
  | i, o :: ops, x :: es => chkOne C mu ext call A n0 fl hs i o x && chkAll mu ext call A n0 fl hs (i + 1) ops es
  | _, _, _ => true
theorem chkAll_spec {mu : Bool} {ext : FuncId → List CV → Option CV} {call : XCall} {A : List Nat} {n0 : Nat} {fl : List Bool} {hs : List Hp} : ∀ (ops : List Oper) (es : List Ent) (i : Nat), chkAll C mu ext call A n0 fl hs i ops es = true → ∀ j o x, ops[j]? = some o → es[j]? = some x → chkOne C mu ext call A n0 fl hs (i + j) o x = true
  | [], _, _, _, j, o, x, h, _ => by simp at h
  | _ :: _, [], _, _, j, o, x, _, h => by simp at h
  | o :: ops, x :: es, i, h, j, o', x', ho, hx => by
    simp only [chkAll, Bool.and_eq_true] at h
    cases j with
    | zero => simp at ho hx; subst ho; subst hx; simpa using h.1
    | succ j =>
      have := chkAll_spec ops es (i + 1) h.2 j o' x' (by simpa using ho) (by simpa using hx)
      rw [show i + (j + 1) = i + 1 + j by omega]; exact this

noncomputable def xdraw (mu : Bool) (ext : FuncId → List CV → Option CV) (call : XCall) (ops : List Oper) (A : List Nat) (env : XEnv) (p : Hp) : XR :=
  bif drawStat ops A then
    match xtr C mu ext call ops A p.n ops 0 env (layA C p.n ops 0 ⟨p.n + ops.length, p.t⟩) with
    | .done env' es hs => bif chkAll C mu ext call A p.n (flags ops es) hs 0 ops es then (match hs.getLast? with
        | some q => .ok .normal env' q
        | none => .stuck) else .stuck
    | .pan v q es hs => bif chkAll C mu ext call A p.n (flags ops es) hs 0 ops es then .ok (.panU v) env q else .stuck
    | .stuck => .stuck
  else .stuck

/-- Laying ahead keeps what is there. -/
theorem layA_spec {n0 : Nat} : ∀ (l : List Oper) (i : Nat) (p : Hp), p.good → (layA C n0 l i p).good ∧ (layA C n0 l i p).n = p.n ∧ ∀ k, (k < n0 + i ∨ n0 + i + l.length ≤ k) → (layA C n0 l i p).h k = p.h k
  | [], _, p, h => ⟨h, rfl, fun _ _ => rfl⟩
  | o :: l, i, p, h => by
    simp only [layA]
    have key : ∀ p' : Hp, p'.good → p'.n = p.n → (∀ k, k ≠ n0 + i → p'.h k = p.h k) → (layA C n0 l (i + 1) p').good ∧ (layA C n0 l (i + 1) p').n = p.n ∧ ∀ k, (k < n0 + i ∨ n0 + i + (o :: l).length ≤ k) → (layA C n0 l (i + 1) p').h k = p.h k := fun p' g1 g2 g3 => by
      obtain ⟨k1, k2, k3⟩ := layA_spec (n0 := n0) l (i + 1) p' g1
      refine ⟨k1, by rw [k2, g2], fun k hk => ?_⟩
      simp only [List.length_cons] at hk
      rw [k3 k (by omega), g3 k (by omega)]
    split
    · split
      · rename_i ob hob
        refine key _ (Hp.good_set h fun sh v e => ?_) rfl fun k hk => ?_
        · cases e
          unfold allocObj at hob
          split at hob
          · split at hob <;> simp at hob
            rename_i ti hti
            rw [← hob.1, ← hob.2]; exact (C.htt _ _ hti).zsh
          · cases hob
        · rw [Hp.set_h, upd_ne _ _ hk]
      · exact key p h rfl fun _ _ => rfl
    · exact key p h rfl fun _ _ => rfl

variable {ext : FuncId → List CV → Option CV} {call : XCall} {mu : Bool} {w0 : World} {B : Nat} {ops : List Oper} {ds : List Deferred} {n : Nat} {S0 : St} {n0 : Nat} {es : List Ent} {hs : List Hp} {env0 : Env}

structure XInv (w0 : World) (B : Nat) (ops : List Oper) (ds : List Deferred) (n : Nat) (S0 : St) (n0 : Nat) (es : List Ent) (hs : List Hp) (env0 : Env) (listed : Array Bool) (S : St) (a : Act) (w : World) : Prop where
  ext : S0.ext S
  r : ∃ q, hs[cntF (flags ops es) 0 (fun k => listed.getD k false)]? = some q ∧ XRel w0 B S q w
  er : ER S (lstE (fun k => listed.getD k false) ops es 0 env0) a.tmps
  tn : a.tmps.size = n
  td : a.defers = ds
  sn : n0 + ops.length ≤ S.n
  down : Down ops listed
  low : ∀ j, listed.getD j false = true → j < es.length
  free : ∀ j o, ops[j]? = some o → kindOf o.op = .alloc → listed.getD j false = false → S.μ (n0 + j) = none

theorem getD_false {listed : Array Bool} {j : Nat} (h : listed.getD j true = false) : listed.getD j false = false ∧ j < listed.size := by
  rcases Nat.lt_or_ge j listed.size with h' | h'
  · refine ⟨?_, h'⟩
    simp [h'] at h ⊢; exact h
  · simp [Array.getElem?_eq_none h'] at h

theorem flags_get {ops : List Oper} {es : List Ent} {j : Nat} (h : (flags ops es)[j]? = some true) : ∃ o x, ops[j]? = some o ∧ es[j]? = some x ∧ isEff o x = true := by
  unfold flags at h
  rw [List.getElem?_zipWith] at h
  cases ho : ops[j]? <;> cases hx : es[j]? <;> simp [ho, hx] at h
  exact ⟨_, _, rfl, rfl, h⟩
theorem isEff_kind {o : Oper} {x : Ent} (h : isEff o x = true) : kindOf o.op = .eff ∧ x.wanted = true := by
  unfold isEff at h
  split at h
  · rename_i hk; exact ⟨hk, h⟩
  · cases h

/-- What is known of one that is ready. -/
theorem ready_known (hlow : lowB ops = true) (hch : chainB ops (ancs ops []) = true) (hcf : conflB ops (ancs ops []) = true) {listed : Array Bool} (hd : Down ops listed) {i : Nat} {oi : Oper} (hi : ops[i]? = some oi) (hun : listed.getD i false = false) (hall : ∀ e ∈ oi.after, Region.binds .any e = true → listed.getD e.on false = true) :
    (∀ t, touches ops oi t = true → ∀ j o, ops[j]? = some o → o.dst = some t → j ≠ i → listed.getD j false = Nat.blt j i) ∧
    (∀ j, bef (ancs ops []) i j = true → listed.getD j false = true) ∧ (∀ j o, ops[j]? = some o → bef (ancs ops []) j i = true → listed.getD j false = false) ∧
    (kindOf oi.op = .eff → ∀ j o, ops[j]? = some o → kindOf o.op = .eff → j ≠ i → listed.getD j false = Nat.blt j i) := by
  have up : ∀ j, bef (ancs ops []) i j = true → listed.getD j false = true := fun j h => bef_listed hlow hd i j oi hi hall h
  have dn : ∀ j o, ops[j]? = some o → bef (ancs ops []) j i = true → listed.getD j false = false := fun j o ho h => by
    cases hv : listed.getD j false with
    | false => rfl
    | true =>
      have := bef_listed hlow hd j i o ho (fun e he hb => hd.down j o hv ho e he hb) h
      rw [hun] at this; cases this
  have ord : ∀ j o, ops[j]? = some o → ((i < j → bef (ancs ops []) j i = true) ∧ (j < i → bef (ancs ops []) i j = true)) → j ≠ i → listed.getD j false = Nat.blt j i := fun j o ho h hne => by
    rcases Nat.lt_or_ge j i with hlt | hge
    · rw [up j (h.2 hlt)]; simp [Nat.blt]; omega
    · rw [dn j o ho (h.1 (by omega))]
      cases hb : Nat.blt j i with
      | false => rfl
      | true => have := of_blt hb
                omega
  refine ⟨fun t ht j o ho hdst hne => ord j o ho (conflB_spec hcf hi ho (Ne.symm hne) hdst ht) hne, up, dn, fun hk j o ho hk' hne => ord j o ho ⟨fun hlt => chainB_spec hch hi ho hlt hk hk', fun hlt => chainB_spec hch ho hi hlt hk' hk⟩ hne⟩
end
end Go.Cl
