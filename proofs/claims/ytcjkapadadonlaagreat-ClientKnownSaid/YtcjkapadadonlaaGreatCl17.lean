/-
  Regions that draw their order: a quiet beginning in whatever order, then one order.
-/
import Derived.Test.YtcjkapadadonlaaGreatCl16
set_option linter.unusedSimpArgs false
set_option linter.unusedVariables false
namespace Go.Cl
open Go.RowKit

section congr
variable (C : Ctx)

theorem qop_congr {ρ ρ' : Operand → CV} {h : Heap} {o : Op} (hρ : ∀ x ∈ o.operands.toList, ρ x = ρ' x) : qop C ρ h o = qop C ρ' h o := by
  have hm : ∀ l : List Operand, (∀ x ∈ l, x ∈ o.operands.toList) → l.map ρ = l.map ρ' := fun l hl => List.map_congr_left fun x hx => hρ x (hl x hx)
  have hp : ∀ l : List (Nat × Operand), (∀ p ∈ l, p.2 ∈ o.operands.toList) → (l.map fun p => (p.1, ρ p.2)) = (l.map fun p => (p.1, ρ' p.2)) := fun l hl => List.map_congr_left fun p hx => by rw [hρ p.2 (hl p hx)]
  have ho : ∀ x : Option Operand, (∀ y, x = some y → y ∈ o.operands.toList) → x.map ρ = x.map ρ' := fun x hx => by
    cases x with
    | none => rfl
    | some y => simp [hρ y (hx y rfl)]
  unfold qop
  split
  · rw [hρ _ (by simp [Op.operands])]
  · rw [hρ _ (by simp [Op.operands])]
  · rename_i c a b; rw [hρ c (by simp [Op.operands]), hρ a (by simp [Op.operands]), hρ b (by simp [Op.operands])]
  · rename_i t ps; rw [hp ps.toList (fun p hpp => by simp [Op.operands]; exact ⟨p.1, by simpa using hpp⟩)]
  · rename_i t n ps; rw [hp ps.toList (fun p hpp => by simp [Op.operands]; exact ⟨p.1, by simpa using hpp⟩)]
  · rw [hρ _ (by simp [Op.operands])]
  · rw [hρ _ (by simp [Op.operands])]
  · rename_i op t x y u; rw [hρ x (by simp [Op.operands]), hρ y (by simp [Op.operands])]
  · rw [hρ _ (by simp [Op.operands])]
  · rw [hρ _ (by simp [Op.operands])]
  · rw [hρ _ (by simp [Op.operands])]
  · rename_i t x i; rw [hρ x (by simp [Op.operands]), hρ i (by simp [Op.operands])]
  · rename_i t x i; rw [hρ x (by simp [Op.operands]), hρ i (by simp [Op.operands])]
  · rename_i t x lo hi mx; rw [hρ x (by simp [Op.operands]), ho lo (fun y hy => by simp [Op.operands, hy]), ho hi (fun y hy => by simp [Op.operands, hy]), ho mx (fun y hy => by simp [Op.operands, hy])]
  · rename_i t l c; rw [hρ l (by simp [Op.operands]), hρ c (by simp [Op.operands])]
  · rw [hρ _ (by simp [Op.operands])]
  · rename_i f a b; rw [hm a.toList (fun x hx => by simp [Op.operands]; exact .inl (by simpa using hx)), hm b.toList (fun x hx => by simp [Op.operands]; exact .inr (by simpa using hx))]
  · rw [hρ _ (by simp [Op.operands])]
  · rw [hρ _ (by simp [Op.operands])]
  · rename_i b args ts
    have hx : ∀ x ∈ args.toList, ρ x = ρ' x := fun x hx => hρ x (by simp [Op.operands, Call.operands]; simpa using hx)
    unfold qbuiltin
    split
    · rename_i x t ha _; rw [hx x (by rw [ha]; simp)]
    · rw [List.map_congr_left hx]
    · rw [List.map_congr_left hx]
    · rename_i x y t tx ha _; rw [hx x (by rw [ha]; simp), hx y (by rw [ha]; simp)]
    · rfl
  · rfl

theorem cop_congr {ρ ρ' : Operand → CV} {h : Heap} {o : Op} {K Kp : CV → Heap → Prop} (hρ : ∀ x ∈ o.operands.toList, ρ x = ρ' x) : cop C o ρ h K Kp = cop C o ρ' h K Kp := by
  have hq : quietly C o ρ h K = quietly C o ρ' h K := by unfold quietly; rw [qop_congr C hρ]
  unfold cop
  split <;> try (exact hq)
  · rfl
  · rw [hρ _ (by simp [Op.operands])]
  · rename_i t a x; rw [hρ a (by simp [Op.operands]), hρ x (by simp [Op.operands])]
  · rw [hρ _ (by simp [Op.operands])]
  · rename_i f args ts
    rw [hρ f (by simp [Op.operands, Call.operands])]
    rw [List.map_congr_left (l := args.toList) (g := ρ') (fun x hx => hρ x (by simp [Op.operands, Call.operands]; right; simpa using hx))]
  · rename_i args ts
    rw [hq]
    split
    · rename_i b x t tx ha ht
      rw [hρ b (by simp [Op.operands, Call.operands]; rw [← Array.mem_toList_iff, ha]; simp), hρ x (by simp [Op.operands, Call.operands]; rw [← Array.mem_toList_iff, ha]; simp)]
    · rfl
  · rename_i t l c; rw [hq, hρ l (by simp [Op.operands]), hρ c (by simp [Op.operands])]
  · rename_i op t x y yt; rw [hq, hρ x (by simp [Op.operands])]

end congr

theorem ev_put {env : Env} {d : Option Tmp} {v : CV} {x : Operand} (h : ∀ t, d = some t → x ≠ .tmp t) : ev (put env d v) x = ev env x := by
  cases d with
  | none => rfl
  | some t =>
    cases x with
    | tmp u =>
      have : u ≠ t := fun e => h t rfl (by rw [e])
      simp [ev, put, this]
    | _ => rfl

theorem put_comm {env : Env} {d d' : Option Tmp} {u v : CV} (h : ∀ t, d = some t → d' ≠ some t) : put (put env d u) d' v = put (put env d' v) d u := by
  cases d <;> cases d' <;> try rfl
  rename_i t t'
  have : t' ≠ t := fun e => h t rfl (by rw [e])
  funext k
  simp only [put]
  by_cases h1 : k = t <;> by_cases h2 : k = t' <;> simp_all

section draw
variable (C : Ctx) (ops : List Oper) (al : Nat → Option Nat) (h1 : Heap)

theorem looks_ops {o : Oper} {d : Option Tmp} (h : ∀ t, d = some t → t ∉ o.looksAt ops.toArray) {env : Env} {v : CV} : ∀ x ∈ o.op.operands.toList, ev (put env d v) x = ev env x := fun x hx => ev_put fun t ht e => by
  refine h t ht ?_
  unfold Oper.looksAt
  refine List.mem_append.2 (.inl (List.mem_filterMap.2 ⟨x, hx, ?_⟩))
  rw [e]

theorem looks_wanted {o : Oper} {d : Option Tmp} (h : ∀ t, d = some t → t ∉ o.looksAt ops.toArray) {env : Env} {v : CV} : cwanted ops o (put env d v) = cwanted ops o env := by
  unfold cwanted
  cases hg : o.guard with
  | none => rfl
  | some g =>
    obtain ⟨j, want⟩ := g
    simp only
    cases hj : ops[j]? with
    | none => rfl
    | some oj =>
      simp only
      cases hd : oj.dst with
      | none => rfl
      | some t =>
        simp only
        have : put env d v t = env t := by
          cases d with
          | none => rfl
          | some u =>
            have : t ≠ u := fun e => h u rfl (by
              unfold Oper.looksAt
              rw [hg]
              refine List.mem_append.2 (.inr ?_)
              simp [hj, hd, e])
            simp [put, this]
        rw [this]

/-- An operation that leaves the heap as it is. -/
def qstep (i : Nat) (K : Env → Prop) (env : Env) : Prop :=
  match ops[i]? with
  | none => K env
  | some o => match cwanted ops o env with
    | some true => match o.op with
      | .alloc _ => match al i with
        | some id => K (put env o.dst (.ptr id []))
        | none => False
      | _ => ∃ v, (∀ K' Kp, K' v h1 → cop C o.op (ev env) h1 K' Kp) ∧ K (put env o.dst v)
    | some false => K (put env o.dst (.tup []))
    | none => False

theorem qstep_mono {i : Nat} {K K' : Env → Prop} {env : Env} (h : ∀ env, K env → K' env) (k : qstep C ops al h1 i K env) : qstep C ops al h1 i K' env := by
  unfold qstep at *
  split
  · exact h _ (by simpa [*] using k)
  · rename_i o ho
    simp only [ho] at k
    split at k <;> try (exact k.elim)
    · split
      · rename_i t hop
        simp only [hop] at k
        split at k <;> try (exact k.elim)
        rename_i id hid
        exact h _ k
      · rename_i hne
        split at k
        · rename_i t hop; exact absurd hop (hne t)
        · obtain ⟨v, hv, hk⟩ := k; exact ⟨v, hv, h _ hk⟩
    · exact h _ k

/-- It yields this. -/
def Yields (i : Nat) (o : Oper) (v : CV) (env : Env) : Prop :=
  (cwanted ops o env = some true ∧ ((∃ t id, o.op = .alloc t ∧ al i = some id ∧ v = .ptr id []) ∨ ((∀ t, o.op ≠ .alloc t) ∧ ∀ K' Kp, K' v h1 → cop C o.op (ev env) h1 K' Kp))) ∨ (cwanted ops o env = some false ∧ v = .tup [])

theorem Yields.qstep {i : Nat} {o : Oper} {v : CV} {env : Env} (hi : ops[i]? = some o) (hy : Yields C ops al h1 i o v env) {K : Env → Prop} (h : K (put env o.dst v)) : Cl.qstep C ops al h1 i K env := by
  unfold Cl.qstep
  simp only [hi]
  rcases hy with ⟨hw, hy⟩ | ⟨hw, rfl⟩
  · rw [hw]
    rcases hy with ⟨t, id, hop, hid, rfl⟩ | ⟨hne, hy⟩
    · simp only [hop, hid]; exact h
    · have : ∀ p : Prop, (∃ v, (∀ K' Kp, K' v h1 → cop C o.op (ev env) h1 K' Kp) ∧ K (put env o.dst v)) → (match o.op with
        | .alloc _ => p
        | _ => ∃ v, (∀ K' Kp, K' v h1 → cop C o.op (ev env) h1 K' Kp) ∧ K (put env o.dst v)) := fun p hp => by
        split
        · rename_i t hop; exact absurd hop (hne t)
        · exact hp
      cases hop : o.op <;> first | exact absurd hop (hne _) | (simp only; rw [hop] at hy; exact ⟨v, hy, h⟩)
  · rw [hw]; exact h

theorem yields_of_qstep {i : Nat} {o : Oper} {env : Env} {K : Env → Prop} (hi : ops[i]? = some o) (h : qstep C ops al h1 i K env) : ∃ v, Yields C ops al h1 i o v env ∧ K (put env o.dst v) := by
  unfold qstep at h
  simp only [hi] at h
  split at h <;> try (exact h.elim)
  · rename_i hw
    split at h
    · rename_i t hop
      split at h <;> try (exact h.elim)
      rename_i id hid
      exact ⟨_, .inl ⟨hw, .inl ⟨t, id, hop, hid, rfl⟩⟩, h⟩
    · rename_i hne
      obtain ⟨v, hv, hk⟩ := h
      exact ⟨v, .inl ⟨hw, .inr ⟨fun t e => hne t e, hv⟩⟩, hk⟩
  · rename_i hw; exact ⟨_, .inr ⟨hw, rfl⟩, h⟩

theorem Yields.put {i : Nat} {o : Oper} {v : CV} {env : Env} (hy : Yields C ops al h1 i o v env) {d : Option Tmp} {u : CV} (hd : ∀ t, d = some t → t ∉ o.looksAt ops.toArray) : Yields C ops al h1 i o v (Cl.put env d u) := by
  unfold Yields at *
  rw [looks_wanted ops hd]
  rcases hy with ⟨hw, hy⟩ | hy
  · refine .inl ⟨hw, ?_⟩
    rcases hy with hy | ⟨hne, hy⟩
    · exact .inl hy
    · exact .inr ⟨hne, fun K' Kp hk => by rw [cop_congr C (looks_ops ops hd)]; exact hy K' Kp hk⟩
  · exact .inr hy

theorem Yields.unput {i : Nat} {o : Oper} {v : CV} {env : Env} {d : Option Tmp} {u : CV} (hd : ∀ t, d = some t → t ∉ o.looksAt ops.toArray) (hy : Yields C ops al h1 i o v (Cl.put env d u)) : Yields C ops al h1 i o v env := by
  unfold Yields at *
  rw [looks_wanted ops hd] at hy
  rcases hy with ⟨hw, hy⟩ | hy
  · refine .inl ⟨hw, ?_⟩
    rcases hy with hy | ⟨hne, hy⟩
    · exact .inl hy
    · exact .inr ⟨hne, fun K' Kp hk => by have := hy K' Kp hk; rwa [cop_congr C (looks_ops ops hd)] at this⟩
  · exact .inr hy

def readyM (m : Nat) (listed : Array Bool) : List Nat := (Region.ready .any ops.toArray listed).filter (· < m)

/-- Whatever order the quiet ones come in. -/
def anyQ (m : Nat) (Q : Env → Prop) : Nat → Array Bool → Env → Prop
  | 0, listed, env => readyM ops m listed = [] ∧ Q env
  | fuel + 1, listed, env => (readyM ops m listed = [] → Q env) ∧ ∀ i ∈ readyM ops m listed, qstep C ops al h1 i (anyQ m Q fuel (listed.setIfInBounds i true)) env

theorem mem_readyM {m j : Nat} {listed : Array Bool} : j ∈ readyM ops m listed ↔ j ∈ Region.ready .any ops.toArray listed ∧ j < m := by simp [readyM]

theorem anyQ_first {m : Nat} {Q : Env → Prop} {i : Nat} {oi : Oper} {v : CV} (hi : ops[i]? = some oi) (him : i < m) :
    ∀ (fuel : Nat) (listed : Array Bool) (env : Env),
      (∀ j oj, j < m → ops[j]? = some oj → j ≠ i → listed.getD j true = false → (∀ e ∈ oj.after, Region.binds .any e = true → e.on ≠ i) → oi.apart ops.toArray oj = true) →
      i ∈ Region.ready .any ops.toArray listed → Yields C ops al h1 i oi v env →
      anyQ C ops al h1 m Q fuel (listed.setIfInBounds i true) (put env oi.dst v) → anyQ C ops al h1 m Q (fuel + 1) listed env := by
  intro fuel
  induction fuel with
  | zero =>
    intro listed env _ hr hy H
    refine ⟨fun h => ?_, fun j hj => ?_⟩
    · have : i ∈ readyM ops m listed := (mem_readyM ops).2 ⟨hr, him⟩
      rw [h] at this; cases this
    · by_cases hji : j = i
      · subst hji; exact hy.qstep C ops al h1 hi H
      · obtain ⟨hj1, hj2⟩ := (mem_readyM ops).1 hj
        have : j ∈ readyM ops m (listed.setIfInBounds i true) := (mem_readyM ops).2 ⟨ready_mono hj1 hji, hj2⟩
        rw [H.1] at this
        cases this
  | succ fuel ih =>
    intro listed env hfree hr hy H
    refine ⟨fun h => ?_, fun j hj => ?_⟩
    · have : i ∈ readyM ops m listed := (mem_readyM ops).2 ⟨hr, him⟩
      rw [h] at this; cases this
    · by_cases hji : j = i
      · subst hji; exact hy.qstep C ops al h1 hi H
      · obtain ⟨hj1, hjm⟩ := (mem_readyM ops).1 hj
        have h2 := H.2 j ((mem_readyM ops).2 ⟨ready_mono hj1 hji, hjm⟩)
        obtain ⟨hjun, oj, hoj, hall⟩ := mem_ready.1 hj1
        have hoj' : ops[j]? = some oj := by simpa using hoj
        have hnot : ∀ e ∈ oj.after, Region.binds .any e = true → e.on ≠ i := fun e he hb heq => by
          have h1 := hall e he hb
          have h0 := (mem_ready.1 hr).1
          rw [heq] at h1
          rcases Nat.lt_or_ge i listed.size with h' | h'
          · simp [h'] at h0 h1; rw [h0] at h1; cases h1
          · simp [Array.getElem?_eq_none h'] at h1
        obtain ⟨a1, a2, a3⟩ := Oper.apart_spec (hfree j oj hjm hoj' hji hjun hnot)
        obtain ⟨u, hyu, hK⟩ := yields_of_qstep C ops al h1 hoj' h2
        have hyu' := Yields.unput C ops al h1 a1 hyu
        refine hyu'.qstep C ops al h1 hoj' ?_
        refine ih (listed.setIfInBounds j true) (put env oj.dst u) (fun k ok hkm hk hki hun hno => ?_) (ready_mono hr (Ne.symm hji)) (Yields.put C ops al h1 hy a3) ?_
        · refine hfree k ok hkm hk hki ?_ hno
          by_cases hjk : j = k
          · subst hjk; exact hjun
          · rw [getD_set_ne true hjk] at hun; exact hun
        · rw [Array.setIfInBounds_comm _ _ hji]
          rw [← put_comm a2]
          exact hK

/-- The quiet walk in index order. -/
def walkQ (Q : Env → Prop) : Nat → List Oper → Env → Prop
  | _, [], env => Q env
  | k, o :: l, env => match cwanted ops o env with
    | some true => match o.op with
      | .alloc _ => match al k with
        | some id => walkQ Q (k + 1) l (put env o.dst (.ptr id []))
        | none => False
      | _ => ∃ v, (∀ K' Kp, K' v h1 → cop C o.op (ev env) h1 K' Kp) ∧ walkQ Q (k + 1) l (put env o.dst v)
    | some false => walkQ Q (k + 1) l (put env o.dst (.tup []))
    | none => False

def freeM (m : Nat) (listed : Array Bool) (i : Nat) : Bool :=
  match ops[i]? with
  | none => false
  | some oi => (List.range m).all fun j => j == i || listed.getD j true || match ops[j]? with
      | some oj => oj.after.any (fun e => Region.binds .any e && e.on == i) || oi.apart ops.toArray oj
      | none => true

def lexM (m : Nat) : Nat → Nat → Array Bool → Bool
  | 0, _, listed => (readyM ops m listed).isEmpty
  | fuel + 1, k, listed => (Region.ready .any ops.toArray listed).contains k && Nat.blt k m && freeM ops m listed k && lexM m fuel (k + 1) (listed.setIfInBounds k true)

theorem freeM_spec {m i : Nat} {oi : Oper} {listed : Array Bool} (hi : ops[i]? = some oi) (h : freeM ops m listed i = true) (j : Nat) (oj : Oper) (hjm : j < m)
    (hj : ops[j]? = some oj) (hne : j ≠ i) (hun : listed.getD j true = false) (hno : ∀ e ∈ oj.after, Region.binds .any e = true → e.on ≠ i) :
    oi.apart ops.toArray oj = true := by
  simp only [freeM, hi, List.all_eq_true, List.mem_range] at h
  have h1 := h j hjm
  simp only [hj, Bool.or_eq_true, beq_iff_eq, hne, false_or, hun, Bool.false_eq_true] at h1
  rcases h1 with h1 | h1
  · obtain ⟨e, he, hb⟩ := Array.any_eq_true'.1 h1
    simp only [Bool.and_eq_true, beq_iff_eq] at hb
    exact absurd hb.2 (hno e he hb.1)
  · exact h1

theorem anyQ_lex {m : Nat} {Q : Env → Prop} : ∀ (l : List Oper) (k : Nat) (listed : Array Bool) (env : Env), (∀ j o, l[j]? = some o → ops[k + j]? = some o) →
    lexM ops m l.length k listed = true → walkQ C ops al h1 Q k l env → anyQ C ops al h1 m Q l.length listed env
  | [], _, _, _, _, hB, h => ⟨by simpa [lexM] using hB, h⟩
  | o :: l, k, listed, env, hl, hB, h => by
    have h0 : ops[k]? = some o := by simpa using hl 0 o rfl
    simp only [List.length_cons, lexM, Bool.and_eq_true] at hB
    obtain ⟨⟨⟨hr, hkm⟩, hf⟩, hB'⟩ := hB
    have hst : qstep C ops al h1 k (walkQ C ops al h1 Q (k + 1) l) env := by unfold qstep; simp only [h0]; exact h
    obtain ⟨v, hy, hK⟩ := yields_of_qstep C ops al h1 h0 hst
    exact anyQ_first C ops al h1 h0 (by simpa using hkm) l.length listed env (fun j oj hjm hj hne hun hno => freeM_spec ops h0 hf j oj hjm hj hne hun hno) (by simpa using hr) hy
      (anyQ_lex l (k + 1) _ _ (fun j o' hj => by have := hl (j + 1) o' (by simpa using hj); simpa [Nat.add_assoc, Nat.add_comm 1 j] using this) hB' hK)
end draw
end Go.Cl
