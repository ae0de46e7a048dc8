/-
  An interpreter over clean values: the temporaries and the heap of a drawn region at any moment.
-/
import Derived.Test.YtcjkapadadonlaaGreatY12
set_option linter.unusedSimpArgs false
set_option linter.unusedVariables false
namespace Go.Cl
open Go.RowKit

/-- The temporaries where these of the operations are done. -/
def lstE (L : Nat → Bool) : List Oper → List Ent → Nat → Env → Env
  | o :: ops, x :: es, i, env => lstE L ops es (i + 1) (bif L i then put env o.dst x.v else env)
  | _, _, _, env => env

theorem put_eq_of_ne {env : Env} {d : Option Tmp} {v : CV} {t : Nat} (h : d ≠ some t) : put env d v t = env t := by
  cases d with
  | none => rfl
  | some u =>
    have : t ≠ u := fun e => h (by rw [e])
    simp [put, this]

theorem lstE_agree {L L' : Nat → Bool} {t : Nat} : ∀ (ops : List Oper) (es : List Ent) (i : Nat) (env env' : Env), env t = env' t → (∀ j o, ops[j]? = some o → o.dst = some t → j < es.length → L (i + j) = L' (i + j)) → lstE L ops es i env t = lstE L' ops es i env' t
  | [], _, _, _, _, h, _ => by simpa [lstE] using h
  | _ :: _, [], _, _, _, h, _ => by simpa [lstE] using h
  | o :: ops, x :: es, i, env, env', h, hl => by
    simp only [lstE]
    refine lstE_agree ops es (i + 1) _ _ ?_ fun j o' hj hd hlt => by
      have := hl (j + 1) o' (by simpa using hj) hd (by simpa using hlt)
      rw [show i + 1 + j = i + (j + 1) by omega]; exact this
    by_cases hd : o.dst = some t
    · rw [show L i = L' i from hl 0 o rfl hd (by simp)]
      cases L' i with
      | false => exact h
      | true => simp [put, hd]
    · have e1 : ∀ (b : Bool) (e : Env), (bif b then put e o.dst x.v else e) t = e t := fun b e => by
        cases b with
        | false => rfl
        | true => exact put_eq_of_ne hd
      rw [e1, e1]; exact h

theorem preE_lstE : ∀ (ops : List Oper) (es : List Ent) (i : Nat) (env : Env) (j : Nat), preE ops es env j = lstE (fun k => Nat.blt k (i + j)) ops es i env
  | [], _, _, _, _ => by simp [preE, lstE]
  | _ :: _, [], _, _, _ => by simp [preE, lstE]
  | o :: ops, x :: es, i, env, 0 => by
    simp only [preE, lstE]
    have hz : ∀ (ops : List Oper) (es : List Ent) (k : Nat) (env : Env), i ≤ k → lstE (fun k => Nat.blt k (i + 0)) ops es k env = env := by
      intro ops
      induction ops with
      | nil => intro es k env _; simp [lstE]
      | cons o ops ih =>
        intro es k env hk
        cases es with
        | nil => simp [lstE]
        | cons x es =>
          simp only [lstE]
          have : Nat.blt k (i + 0) = false := by
            cases h : Nat.blt k (i + 0) with
            | false => rfl
            | true => simp [Nat.blt] at h; omega
          rw [this]
          exact ih es (k + 1) env (by omega)
    have : Nat.blt i (i + 0) = false := by
      cases h : Nat.blt i (i + 0) with
      | false => rfl
      | true => simp [Nat.blt] at h; omega
    rw [this]
    exact (hz ops es (i + 1) env (by omega)).symm
  | o :: ops, x :: es, i, env, j + 1 => by
    simp only [preE, lstE]
    have : Nat.blt i (i + (j + 1)) = true := by simp [Nat.blt]
    rw [this, cond_true, preE_lstE ops es (i + 1) _ j]
    congr 1
    funext k
    rw [show i + 1 + j = i + (j + 1) by omega]

theorem lstE_put {L : Nat → Bool} {d : Option Tmp} {v : CV} : ∀ (ops : List Oper) (es : List Ent) (i : Nat) (env : Env), (∀ j o t, ops[j]? = some o → L (i + j) = true → d = some t → o.dst ≠ some t) → lstE L ops es i (put env d v) = put (lstE L ops es i env) d v
  | [], _, _, _, _ => by simp [lstE]
  | _ :: _, [], _, _, _ => by simp [lstE]
  | o :: ops, x :: es, i, env, h => by
    simp only [lstE]
    have ih := fun env => lstE_put (L := L) (d := d) (v := v) ops es (i + 1) env (fun j o' t hj hl hd => by
      have := h (j + 1) o' t (by simpa using hj) (by rw [show i + (j + 1) = i + 1 + j by omega]; exact hl) hd
      exact this)
    cases hL : L i with
    | false => exact ih env
    | true =>
      simp only [cond_true]
      rw [put_comm (fun t ht => h 0 o t rfl hL ht)]
      exact ih _

theorem lstE_add {L : Nat → Bool} {y : Nat} {oy : Oper} {xy : Ent} : ∀ (ops : List Oper) (es : List Ent) (i : Nat) (env : Env), i ≤ y → ops[y - i]? = some oy → es[y - i]? = some xy → L y = false → (∀ j o t, ops[j]? = some o → L (i + j) = true → y < i + j → oy.dst = some t → o.dst ≠ some t) →
    lstE (fun k => L k || Nat.beq k y) ops es i env = put (lstE L ops es i env) oy.dst xy.v
  | [], _, _, _, _, h, _, _, _ => by simp at h
  | _ :: _, [], _, _, _, _, h, _, _ => by simp at h
  | o :: ops, x :: es, i, env, hi, ho, hx, hL, h => by
    simp only [lstE]
    by_cases e : i = y
    · subst e
      simp at ho hx
      subst ho; subst hx
      have hb : Nat.beq i i = true := Nat.beq_refl i
      rw [hL, hb]
      simp only [Bool.or_true, cond_true, cond_false]
      have hsame : ∀ env, lstE (fun k => L k || Nat.beq k i) ops es (i + 1) env = lstE L ops es (i + 1) env := fun env => by
        funext t
        refine lstE_agree ops es (i + 1) env env rfl fun j o' _ _ _ => ?_
        have : Nat.beq (i + 1 + j) i = false := by
          cases hb : Nat.beq (i + 1 + j) i with
          | false => rfl
          | true => have := Nat.eq_of_beq_eq_true hb; omega
        simp [this]
      rw [hsame]
      exact lstE_put ops es (i + 1) env fun j o' t hj hl hd => h (j + 1) o' t (by simpa using hj) (by rw [show i + (j + 1) = i + 1 + j by omega]; exact hl) (by omega) hd
    · have hb : Nat.beq i y = false := by
        cases hb : Nat.beq i y with
        | false => rfl
        | true => exact absurd (Nat.eq_of_beq_eq_true hb) e
      rw [hb, Bool.or_false]
      exact lstE_add ops es (i + 1) _ (by omega) (by rw [show y - i = (y - (i + 1)) + 1 by omega] at ho; simpa using ho) (by rw [show y - i = (y - (i + 1)) + 1 by omega] at hx; simpa using hx) hL fun j o' t hj hl hlt hd => h (j + 1) o' t (by simpa using hj) (by rw [show i + (j + 1) = i + 1 + j by omega]; exact hl) (by omega) hd

section
variable (C : Ctx)

/-- A new map behind a name that is laid out for it. -/
theorem R.newMapAt {w0 : World} {B : Nat} {S : St} {h : Heap} {w : World} (r : R w0 B S h w) {i : Nat} (hi : S.μ i = none) (hi' : h i = some (.map [])) : R w0 B (S.named i (.map w.heap.size)) h (w.alloc (.map #[] 0)) := by
  have hle := St.le_named (l := .map w.heap.size) hi
  have hheap : ∀ b, b < w.heap.size → (w.alloc (.map #[] 0)).heap[b]? = w.heap[b]? := fun b hb => Below.heap_alloc w _ b hb
  refine ⟨r.below.alloc r.size _, ?_, fun b o u hk => ?_, fun j hj => ?_, fun j obj lo h1 h2 => ?_, fun j k oj ok lj lk hjk h1 h2 h3 h4 => ?_⟩
  · have := r.size; rw [show (w.alloc (.map #[] 0)).heap = w.heap.push (.map #[] 0) from rfl, Array.size_push]; omega
  · have := r.kcell b o u hk
    rw [cell_of_block (w := w) (hheap b (lt_of_cell this))]; exact this
  · have h1 : S.n ≤ j := Nat.le_trans (Nat.le_max_left _ _) hj
    have h2 : j ≠ i := by have := Nat.le_trans (Nat.le_max_right S.n (i + 1)) hj; omega
    exact ⟨by rw [St.named_ne h2]; exact (r.fresh j h1).1, (r.fresh j h1).2⟩
  · by_cases hj : j = i
    · subst hj
      rw [hi'] at h1; cases h1
      rw [St.named_μ] at h2; cases h2
      refine ⟨⟨⟨#[], 0, by rw [show (w.alloc (.map #[] 0)).heap = w.heap.push (.map #[] 0) from rfl]; simp, rfl, fun i x e h => by simp at h⟩, fun o => ?_⟩, r.size⟩
      cases hk : S.K w.heap.size o with
      | none => exact hk
      | some x => have := lt_of_cell (r.kcell _ _ _ hk); omega
    · rw [St.named_ne hj] at h2
      have k := r.live j obj lo h1 h2
      exact ⟨k.1.mono hle (hheap _ k.1.lt) (fun _ h => h), k.2⟩
  · by_cases hj : j = i
    · subst hj
      have hk := Ne.symm hjk
      rw [St.named_μ] at h3; cases h3
      rw [St.named_ne hk] at h4
      have := (r.live k ok lk h2 h4).1.lt
      show w.heap.size ≠ _; omega
    · rw [St.named_ne hj] at h3
      by_cases hk : k = i
      · subst hk
        rw [St.named_μ] at h4; cases h4
        have := (r.live j oj lj h1 h3).1.lt
        show _ ≠ w.heap.size; omega
      · rw [St.named_ne hk] at h4
        exact r.inj j k oj ok lj lk hjk h1 h2 h3 h4

/-! Quiet operations leave the heap; some do not look at it. -/
theorem ofOpt_ret {p q : Hp} {x : Option CV} {v : CV} (h : ofOpt p x = .ret v q) : q = p ∧ x = some v := by
  cases x <;> simp [ofOpt] at h
  exact ⟨h.2.symm, by rw [h.1]⟩

theorem xop_quiet {mu : Bool} {ext : FuncId → List CV → Option CV} {call : XCall} {env : XEnv} {p q : Hp} {o : Op} {v : CV} (hk : kindOf o = .quiet) (h : xop C mu ext call env p o = .ret v q) : q = p := by
  unfold xop at h
  split at h <;> first
    | exact (ofOpt_ret h).1
    | (simp only [XRes.ret.injEq] at h; exact h.2.symm)
    | (simp [kindOf] at hk; done)
    | skip
  · unfold xbin at h
    split at h <;> exact (ofOpt_ret h).1
  · rename_i f args ts
    unfold xcallOp at h
    split at h
    · simp [kindOf] at hk
    · simp [kindOf] at hk
    · simp [kindOf] at hk
    · split at h <;> try (cases h; done)
      rename_i x t l _ _
      cases hb : isSliceT C t with
      | false => rw [hb] at h; cases h
      | true => rw [hb] at h; exact (ofOpt_ret h).1
    · exact (ofOpt_ret h).1
  · rename_i t x k ok
    unfold xlookup at h
    split at h <;> try (cases h; done)
    split at h <;> try (cases h; done)
    split at h <;> try (cases h; done)
    exact (ofOpt_ret h).1
  · simp [kindOf, isNoneB] at hk

theorem xop_still {mu : Bool} {ext : FuncId → List CV → Option CV} {call : XCall} {env : XEnv} {p q : Hp} {o : Op} {v : CV} (hk : kindOf o = .quiet) (hh : heapy o = false) (h : xop C mu ext call env p o = .ret v q) (p2 : Hp) : xop C mu ext call env p2 o = .ret v p2 := by
  have key : ∀ x : Option CV, ofOpt p x = .ret v q → ofOpt p2 x = .ret v p2 := fun x hx => by rw [(ofOpt_ret hx).2]; rfl
  cases o <;> first
    | (simp [heapy] at hh; done)
    | (simp [kindOf] at hk; done)
    | (simp only [xop] at h ⊢; simp only [XRes.ret.injEq] at h; rw [h.1]; done)
    | (simp only [xop] at h ⊢; exact key _ h)
    | skip
  · rename_i op t x y yt
    simp only [xop, xbin] at h ⊢
    split at h <;> rename_i hy <;> exact key _ h
  all_goals first
    | (simp only [xop] at h ⊢; rename_i t res; cases res <;> simp [kindOf, isNoneB] at hk <;> exact key _ h)
    | (rename_i fn first cap; cases fn <;> (simp only [xop] at h ⊢; exact key _ h))
    | skip
end
end Go.Cl
