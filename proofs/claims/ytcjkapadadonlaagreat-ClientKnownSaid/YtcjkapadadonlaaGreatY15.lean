/-
  An interpreter over clean values: drawn regions, the proof.
-/
import Derived.Test.YtcjkapadadonlaaGreatY14
set_option linter.unusedSimpArgs false
set_option linter.unusedVariables false
namespace Go.Cl
open Go.RowKit

section
variable (C : Ctx)
variable {ext : FuncId → List CV → Option CV} {call : XCall} {mu : Bool} {w0 : World} {B : Nat} {ops : List Oper} {ds : List Deferred} {n : Nat} {S0 : St} {n0 : Nat} {es : List Ent} {hs : List Hp} {env0 : Env}

theorem beq_ne {a b : Nat} (h : a ≠ b) : Nat.beq a b = false := by
  cases hb : Nat.beq a b with
  | false => rfl
  | true => exact absurd (Nat.eq_of_beq_eq_true hb) h

/-- Listed with one more. -/
theorem getD_set {listed : Array Bool} {i : Nat} (hi : i < listed.size) : (fun k => (listed.setIfInBounds i true).getD k false) = fun k => listed.getD k false || Nat.beq k i := by
  funext k
  by_cases e : k = i
  · subst e
    simp [hi]
  · rw [getD_set_ne false (Ne.symm e), beq_ne e, Bool.or_false]

/-- The state behind one operation. -/
theorem XInv.next {listed : Array Bool} {S : St} {a : Act} {w : World} (I : XInv w0 B ops ds n S0 n0 es hs env0 listed S a w) (hlow : lowB ops = true) (hch : chainB ops (ancs ops []) = true) (hcf : conflB ops (ancs ops []) = true)
    {i : Nat} {oi : Oper} {x : Ent} (hi : ops[i]? = some oi) (hx : es[i]? = some x) (hun : listed.getD i false = false) (hall : ∀ e ∈ oi.after, Region.binds .any e = true → listed.getD e.on false = true)
    {S' : St} {y : Value} {w' : World} (hle : S.le S') (hext : S0.ext S') {q' : Hp} (hq' : hs[cntF (flags ops es) 0 (fun k => listed.getD k false) + (bif isEff oi x then 1 else 0)]? = some q') (r' : XRel w0 B S' q' w') (hy : VR S' x.v y)
    (hfree : ∀ j o, ops[j]? = some o → kindOf o.op = .alloc → j ≠ i → listed.getD j false = false → S'.μ (n0 + j) = none) :
    XInv w0 B ops ds n S0 n0 es hs env0 (listed.setIfInBounds i true) S' (a.put oi.dst y) w' := by
  have hil : i < ops.length := (List.getElem?_eq_some_iff.1 hi).1
  have hls : i < listed.size := by rw [I.down.size]; exact hil
  obtain ⟨_, up, dn, _⟩ := ready_known hlow hch hcf I.down hi hun hall
  have hfl : (flags ops es)[i]? = some (isEff oi x) := by unfold flags; rw [List.getElem?_zipWith, hi, hx]
  refine ⟨hext, ⟨q', ?_, r'⟩, ?_, by rw [put_size]; exact I.tn, by rw [put_defers]; exact I.td, Nat.le_trans I.sn hle.n, down_set I.down hi hall, fun j hj => ?_, fun j o ho hk hj => ?_⟩
  · rw [getD_set hls]
    cases he : isEff oi x with
    | true =>
      rw [he] at hfl hq'
      rw [cntF_add (P := fun k => listed.getD k false) (x := i) _ 0 (Nat.zero_le _) hun (by simpa using hfl)]
      exact hq'
    | false =>
      rw [he] at hfl hq'
      rw [cntF_same (P := fun k => listed.getD k false) (x := i) _ (fun h => by rw [hfl] at h; cases h)]
      simpa using hq'
  · rw [getD_set hls]
    rw [lstE_add (L := fun k => listed.getD k false) (y := i) ops es 0 env0 (Nat.zero_le _) (by simpa using hi) (by simpa using hx) hun fun j o t ho hl hlt hd hd' => ?_]
    · exact (I.er.mono hle).put hy
    · simp only [Nat.zero_add] at hl hlt
      have hb := (conflB_spec hcf hi ho (by omega) hd' (by simp [touches, hd])).1 hlt
      have := dn j o ho hb
      rw [this] at hl; cases hl
  · by_cases e : j = i
    · subst e; exact (List.getElem?_eq_some_iff.1 hx).1
    · rw [getD_set_ne false (Ne.symm e)] at hj; exact I.low j hj
  · by_cases e : j = i
    · subst e; simp [hls] at hj
    · rw [getD_set_ne false (Ne.symm e)] at hj
      exact hfree j o ho hk e hj

/-- What a ready operation sees. -/
theorem XInv.sees {listed : Array Bool} {S : St} {a : Act} {w : World} (I : XInv w0 B ops ds n S0 n0 es hs env0 listed S a w) (hlow : lowB ops = true) (hch : chainB ops (ancs ops []) = true) (hcf : conflB ops (ancs ops []) = true) (hok : ops.all (okOper n) = true)
    {i : Nat} {oi : Oper} {env : XEnv} (hi : ops[i]? = some oi) (henv : env.at = preE ops es env0 i) (hun : listed.getD i false = false) (hall : ∀ e ∈ oi.after, Region.binds .any e = true → listed.getD e.on false = true) :
    (∀ y ∈ oi.op.operands.toList, VR S (xev env y) (a.eval y)) ∧ (∀ j want oj d, oi.guard = some (j, want) → ops[j]? = some oj → oj.dst = some d → ∃ x, a.tmps[d]? = some x ∧ VR S (env.at d) x) := by
  obtain ⟨look, _⟩ := ready_known hlow hch hcf I.down hi hun hall
  have hoo := List.all_eq_true.1 hok oi (List.mem_of_getElem? hi)
  have same : ∀ t, t ∈ oi.looksAt ops.toArray → env.at t = lstE (fun k => listed.getD k false) ops es 0 env0 t := fun t ht => by
    rw [henv, preE_lstE ops es 0 env0 i]
    refine lstE_agree ops es 0 env0 env0 rfl fun j o ho hd _ => ?_
    simp only [Nat.zero_add]
    by_cases e : j = i
    · subst e
      rw [hun]
      cases hb : Nat.blt j j with
      | false => rfl
      | true => have := of_blt hb; omega
    · exact (look t (by unfold touches; rw [Bool.or_eq_true]; left; simpa using ht) j o ho hd e).symm
  have hops : ∀ t, Operand.tmp t ∈ oi.op.operands.toList → t ∈ oi.looksAt ops.toArray := fun t ht => by
    unfold Oper.looksAt
    exact List.mem_append.2 (.inl (List.mem_filterMap.2 ⟨_, ht, rfl⟩))
  refine ⟨fun y hy => ?_, fun j want oj d hg hj hd => ?_⟩
  · have hk : okOpd a.tmps.size y = true := by
      rw [I.tn]
      unfold okOper at hoo
      simp only [Bool.and_eq_true] at hoo
      exact List.all_eq_true.1 hoo.2 y hy
    have := I.er.eval (a := a) hk
    rw [xev_eq]
    cases y with
    | tmp t =>
      show VR S (env.at t) _
      rw [same t (hops t hy)]; exact this
    | _ => exact this
  · obtain ⟨x, h1, h2⟩ := guard_known I.er (by rw [I.tn]; exact hok) j want oj d hg hj hd
    refine ⟨x, h1, ?_⟩
    rw [same d (by
      unfold Oper.looksAt
      rw [hg]
      refine List.mem_append.2 (.inr ?_)
      simp [hj, hd])]
    exact h2

/-- Everything is done where nothing is ready. -/
theorem all_done (hlow : lowB ops = true) {listed : Array Bool} (hd : Down ops listed) (hr : Region.ready .any ops.toArray listed = []) : ∀ j, j < ops.length → listed.getD j false = true := by
  intro j
  induction j using Nat.strongRecOn with
  | _ j ih =>
    intro hj
    cases hv : listed.getD j false with
    | true => rfl
    | false =>
      have ho : ops[j]? = some ops[j] := by simp [hj]
      have : j ∈ Region.ready .any ops.toArray listed := by
        rw [mem_ready]
        refine ⟨getD_false_of hv (by rw [hd.size]; omega), ops[j], by simp [hj], fun e he hb => ?_⟩
        have h2 := List.all_eq_true.1 hlow (ops[j], j) (by rw [List.mem_zipIdx_iff_getElem?]; simp [hj])
        have h3 := List.all_eq_true.1 h2 e (by simpa using he)
        simp only [hb, Bool.not_true, Bool.false_or] at h3
        have h4 : e.on < j := by simpa using h3
        exact ih e.on h4 (by omega)
      rw [hr] at this; cases this

/-- A quiet operation answers the same at the heap of the moment. -/
theorem quiet_at {A : List Nat} {fl : List Bool} {i : Nat} {oi : Oper} {x : Ent} {q q1 : Hp} {e : Nat} (hw : x.wanted = true) (hk : kindOf oi.op = .quiet) (hc : chkOne C mu ext call A n0 fl hs i oi x = true) {k : Nat} (hq1 : hs[k]? = some q1) (h1 : ∃ q', xop C mu ext call x.env q1 oi.op = .ret x.v q')
    (hk1 : (cntF fl 0 fun j => bef A i j) ≤ k ∧ k ≤ cntF fl 0 fun j => !bef A j i) (hq : hs[e]? = some q) (he : (cntF fl 0 fun j => bef A i j) ≤ e ∧ e ≤ cntF fl 0 fun j => !bef A j i) : xop C mu ext call x.env q oi.op = .ret x.v q := by
  unfold chkOne at hc
  rw [hw, cond_true, hk] at hc
  simp only at hc
  obtain ⟨q', h1⟩ := h1
  cases hh : heapy oi.op with
  | false => exact xop_still C hk hh h1 q
  | true =>
    rw [hh, cond_true] at hc
    cases hb : Nat.beq (cntF fl 0 fun j => bef A i j) (cntF fl 0 fun j => !bef A j i) with
    | true =>
      have hlh := Nat.eq_of_beq_eq_true hb
      have : e = k := by omega
      subst this
      rw [hq] at hq1; cases hq1
      have := xop_quiet C hk h1
      rw [this] at h1; exact h1
    | false =>
      rw [hb, cond_false] at hc
      have := List.all_eq_true.1 hc e (by rw [List.mem_range']; exact ⟨e - (cntF fl 0 fun j => bef A i j), by omega, by omega⟩)
      unfold chkAt at this
      rw [hq, hk] at this
      simp only at this
      split at this <;> try (cases this; done)
      rename_i v q2 hx
      have hv := cvEq_spec _ _ this
      have h2 := xop_quiet C hk hx
      rw [h2] at hx
      rw [hv]; exact hx
end
end Go.Cl
