/-
  An interpreter over clean values: regions whose order is drawn.
-/
import Derived.Test.YtcjkapadadonlaaGreatY10
set_option linter.unusedSimpArgs false
set_option linter.unusedVariables false
namespace Go.Cl
open Go.RowKit

section
variable (C : Ctx)

theorem XPost.mono {w0 : World} {B : Nat} {S S' : St} {n : Nat} {ds : List Deferred} (hS : S'.ext S) {e : XE} {env : XEnv} {p : Hp} {ex : Exit} {a : Act} {w : World} (k : XPost w0 B S n ds e env p ex a w) : XPost w0 B S' n ds e env p ex a w := by
  obtain ⟨S2, k1, k2⟩ := k
  exact ⟨S2, hS.trans k1, k2⟩

theorem oper_known {S : St} {n : Nat} {o : Oper} {env : XEnv} {a : Act} (he : ER S env.at a.tmps) (hn : a.tmps.size = n) (hoo : okOper n o = true) : ∀ x ∈ o.op.operands.toList, VR S (xev env x) (a.eval x) := by
  intro x hx
  rw [xev_eq]
  refine he.eval ?_
  rw [hn]
  unfold okOper at hoo
  simp only [Bool.and_eq_true] at hoo
  exact List.all_eq_true.1 hoo.2 x hx

theorem xops_sound {ext : FuncId → List CV → Option CV} {call : XCall} (hext : ExtOk C ext) (hcall : CallOk C call) {mu : Bool} {w0 : World} {B : Nat} {ops : List Oper} {ds : List Deferred} {n : Nat} {Q' : Exit → Act → World → Prop} :
    ∀ (l : List Oper) (k : Nat) (S : St) (env : XEnv) (p : Hp) (a : Act) (w : World), ops.drop k = l → ops.all (okOper n) = true → XRel w0 B S p w → ER S env.at a.tmps → a.tmps.size = n → a.defers = ds →
      ∀ e env' p', xops C mu ext call ops l env p = .ok e env' p' → (∀ ex a w, XPost w0 B S n ds e env' p' ex a w → Q' ex a w) → wpOps C.P ops.toArray Q' (List.range' k l.length) a w
  | [], k, S, env, p, a, w, _, _, r, he, hn, hd, e, env', p', hx, hQ => by
    simp only [xops, XR.ok.injEq] at hx
    obtain ⟨rfl, rfl, rfl⟩ := hx
    simp only [List.length_nil, List.range'_zero, wpOps]
    exact hQ _ _ _ ⟨S, St.ext.refl _, r, fun _ => he, hn, hd, trivial⟩
  | o :: l, k, S, env, p, a, w, hl, hok, r, he, hn, hd, e, env', p', hx, hQ => by
    have hk : ops[k]? = some o := by
      have := congrArg (·[0]?) hl
      simpa using this
    have hl' : ops.drop (k + 1) = l := by rw [← List.tail_drop, hl]; rfl
    rw [List.length_cons, List.range'_succ, wpOps]
    simp only [List.getElem?_toArray, hk]
    simp only [xops] at hx
    have hoo := List.all_eq_true.1 hok o (List.mem_of_getElem? hk)
    cases hw : xwanted ops o env with
    | none => rw [hw] at hx; cases hx
    | some b =>
      rw [hw] at hx
      rw [xwanted_sound (guard_known he (by rw [hn]; exact hok)) hw]
      cases b with
      | false =>
        simp only at hx
        simp only [Bool.false_eq_true, if_false]
        exact xops_sound hext hcall l (k + 1) S _ p _ w hl' hok r (by rw [XEnv.at_put]; exact he.put VR_undef) (by rw [put_size]; exact hn) (by rw [put_defers]; exact hd) e env' p' hx hQ
      | true =>
        simp only at hx
        simp only [if_true]
        left
        have hg := xopm_sound C hext hcall (mu := mu) r (o := o) (a := a) (oper_known he hn hoo)
        cases ho : xopm C mu ext call env p o.op with
        | stuck => rw [ho] at hx; cases hx
        | ret v p2 =>
          rw [ho] at hx hg
          simp only at hx
          exact hg _ _ fun S' x w' k1 k2 k3 => xops_sound hext hcall l (k + 1) S' _ p2 _ w' hl' hok k2 (by rw [XEnv.at_put]; exact (he.mono k1.le).put k3) (by rw [put_size]; exact hn) (by rw [put_defers]; exact hd) e env' p' hx fun ex a w h => hQ ex a w (h.mono k1)
        | pan v p2 =>
          rw [ho] at hx hg
          simp only [XR.ok.injEq] at hx
          obtain ⟨rfl, rfl, rfl⟩ := hx
          exact hg _ _ fun S' x w' k1 k2 k3 => hQ _ _ _ ⟨S', k1, k2, fun _ => he.mono k1.le, hn, hd, ⟨x, rfl, k3⟩⟩

/-! Equality of clean values. -/
def tailEq : Tail → Tail → Bool
  | .nil, .nil => true
  | .view, .view => true
  | .part, .part => true
  | .exact, .exact => true
  | .own i, .own j => Nat.beq i j
  | _, _ => false
theorem tailEq_spec {a b : Tail} (h : tailEq a b = true) : a = b := by
  cases a <;> cases b <;> simp [tailEq] at h <;> first | rfl | (rw [h])

def natsEq : List Nat → List Nat → Bool
  | [], [] => true
  | a :: l, b :: m => Nat.beq a b && natsEq l m
  | _, _ => false
theorem natsEq_spec : ∀ {l m : List Nat}, natsEq l m = true → l = m
  | [], [], _ => rfl
  | [], _ :: _, h => by cases h
  | _ :: _, [], h => by cases h
  | a :: l, b :: m, h => by
    simp only [natsEq, Bool.and_eq_true] at h
    rw [Nat.eq_of_beq_eq_true h.1, natsEq_spec h.2]

mutual
def cvEq : CV → CV → Bool
  | .sc a, .sc b => valEq a b
  | .agg l, .agg m => cvsEq l m
  | .tup l, .tup m => cvsEq l m
  | .lst t l, .lst u m => tailEq t u && cvsEq l m
  | .slc i p a b, .slc j q c d => Nat.beq i j && natsEq p q && Nat.beq a c && Nat.beq b d
  | .ptr i p, .ptr j q => Nat.beq i j && natsEq p q
  | .rptr v, .rptr u => cvEq v u
  | .mapr i, .mapr j => Nat.beq i j
  | .fn f k l, .fn g m n => Nat.beq f g && cvsEq k m && cvsEq l n
  | .ifc t v, .ifc u x => Nat.beq t u && cvEq v x
  | _, _ => false
def cvsEq : List CV → List CV → Bool
  | [], [] => true
  | x :: l, y :: m => cvEq x y && cvsEq l m
  | _, _ => false
end
mutual
theorem cvEq_spec : ∀ (a b : CV), cvEq a b = true → a = b
  | .sc a, b, h => by cases b <;> simp [cvEq] at h; rw [valEq_spec h]
  | .agg l, b, h => by cases b <;> simp [cvEq] at h; rw [cvsEq_spec l _ h]
  | .tup l, b, h => by cases b <;> simp [cvEq] at h; rw [cvsEq_spec l _ h]
  | .lst t l, b, h => by cases b <;> simp [cvEq] at h; rw [tailEq_spec h.1, cvsEq_spec l _ h.2]
  | .slc i p a c, b, h => by cases b <;> simp [cvEq] at h; obtain ⟨⟨⟨h1, h2⟩, h3⟩, h4⟩ := h; rw [h1, natsEq_spec h2, h3, h4]
  | .ptr i p, b, h => by cases b <;> simp [cvEq] at h; rw [h.1, natsEq_spec h.2]
  | .rptr v, b, h => by cases b <;> simp [cvEq] at h; rw [cvEq_spec v _ h]
  | .mapr i, b, h => by cases b <;> simp [cvEq] at h; rw [h]
  | .fn f k l, b, h => by cases b <;> simp [cvEq] at h; obtain ⟨⟨h1, h2⟩, h3⟩ := h; rw [h1, cvsEq_spec k _ h2, cvsEq_spec l _ h3]
  | .ifc t v, b, h => by cases b <;> simp [cvEq] at h; rw [h.1, cvEq_spec v _ h.2]
theorem cvsEq_spec : ∀ (l m : List CV), cvsEq l m = true → l = m
  | [], m, h => by cases m <;> simp [cvsEq] at h; rfl
  | x :: l, m, h => by cases m <;> simp [cvsEq] at h; rw [cvEq_spec x _ h.1, cvsEq_spec l _ h.2]
end

/-! What an operation does to the heap: nothing; it makes a variable or a map; the rest. -/
inductive Kind where
  | quiet
  | alloc
  | eff

def isNoneB {α : Type} : Option α → Bool
  | none => true
  | some _ => false

def kindOf : Op → Kind
  | .alloc _ => .alloc
  | .makeMap _ r => bif isNoneB r then .alloc else .eff
  | .box _ _ => .eff
  | .store _ _ _ => .eff
  | .panic _ => .eff
  | .makeSlice _ _ _ => .eff
  | .mapUpdate _ _ _ _ => .eff
  | .call ⟨.value _, _, _⟩ => .eff
  | .call ⟨.builtin .append, _, _⟩ => .eff
  | .call ⟨.builtin .delete, _, _⟩ => .eff
  | _ => .quiet

/-- Does it read the heap? -/
def heapy : Op → Bool
  | .load _ _ => true
  | .fieldAddr _ _ _ => true
  | .indexAddr _ _ _ => true
  | .slice _ _ _ _ _ => true
  | .lookup _ _ _ _ => true
  | .convert _ _ _ => true
  | .call _ => true
  | _ => false

/-- Which operations lie ahead of each, as bits. -/
def ancOf (acc : List Nat) : List Edge → Nat
  | [] => 0
  | e :: l => bif Region.binds .any e then Nat.lor (Nat.lor (Nat.shiftLeft 1 e.on) (acc.getD e.on 0)) (ancOf acc l) else ancOf acc l
def ancs : List Oper → List Nat → List Nat
  | [], acc => acc
  | o :: l, acc => ancs l (acc ++ [ancOf acc o.after.toList])

def bef (A : List Nat) (j i : Nat) : Bool := Nat.testBit (A.getD j 0) i

theorem ancOf_spec (acc : List Nat) : ∀ (l : List Edge) (i : Nat), Nat.testBit (ancOf acc l) i = true → ∃ e ∈ l, Region.binds .any e = true ∧ (e.on = i ∨ Nat.testBit (acc.getD e.on 0) i = true)
  | [], i, h => by simp [ancOf] at h
  | e :: l, i, h => by
    simp only [ancOf] at h
    cases hb : Region.binds .any e with
    | false =>
      rw [hb] at h
      obtain ⟨e', h1, h2⟩ := ancOf_spec acc l i h
      exact ⟨e', List.mem_cons_of_mem _ h1, h2⟩
    | true =>
      rw [hb] at h
      simp only [cond_true] at h
      have h : Nat.testBit ((1 <<< e.on ||| acc.getD e.on 0) ||| ancOf acc l) i = true := h
      rw [Nat.testBit_or, Nat.testBit_or] at h
      simp only [Bool.or_eq_true] at h
      rcases h with (h | h) | h
      · refine ⟨e, by simp, hb, .inl ?_⟩
        rw [Nat.one_shiftLeft, Nat.testBit_two_pow] at h
        simpa using h
      · exact ⟨e, by simp, hb, .inr h⟩
      · obtain ⟨e', h1, h2⟩ := ancOf_spec acc l i h
        exact ⟨e', List.mem_cons_of_mem _ h1, h2⟩

theorem ancs_spec : ∀ (l : List Oper) (acc : List Nat), (∀ j, j < acc.length → (ancs l acc).getD j 0 = acc.getD j 0) ∧
    ∀ j o, l[j]? = some o → ∃ acc', (ancs l acc).getD (acc.length + j) 0 = ancOf acc' o.after.toList ∧ ∀ k, k < acc'.length → acc'.getD k 0 = (ancs l acc).getD k 0
  | [], acc => ⟨fun _ _ => rfl, fun j o h => by simp at h⟩
  | o :: l, acc => by
    obtain ⟨h1, h2⟩ := ancs_spec l (acc ++ [ancOf acc o.after.toList])
    have hlen : (acc ++ [ancOf acc o.after.toList]).length = acc.length + 1 := by simp
    have hkeep : ∀ j, j < acc.length → (ancs (o :: l) acc).getD j 0 = acc.getD j 0 := fun j hj => by
      simp only [ancs]
      rw [h1 j (by omega)]
      simp [List.getElem?_append_left hj]
    refine ⟨hkeep, fun j o' hj => ?_⟩
    cases j with
    | zero =>
      simp at hj; subst hj
      refine ⟨acc, ?_, fun k hk => (hkeep k hk).symm⟩
      simp only [ancs, Nat.add_zero]
      rw [h1 acc.length (by omega)]
      simp
    | succ j =>
      obtain ⟨acc', k1, k2⟩ := h2 j o' (by simpa using hj)
      refine ⟨acc', ?_, k2⟩
      simp only [ancs]
      rw [← k1, hlen]; congr 1; omega

theorem bef_listed {ops : List Oper} (hlow : lowB ops = true) {listed : Array Bool} (hd : Down ops listed) : ∀ (j i : Nat) (o : Oper), ops[j]? = some o → (∀ e ∈ o.after, Region.binds .any e = true → listed.getD e.on false = true) → bef (ancs ops []) j i = true → listed.getD i false = true := by
  intro j
  induction j using Nat.strongRecOn with
  | _ j ih =>
    intro i o ho hall hb
    obtain ⟨acc', k1, k2⟩ := (ancs_spec ops []).2 j o ho
    simp only [List.length_nil, Nat.zero_add] at k1
    unfold bef at hb
    rw [k1] at hb
    obtain ⟨e, he, hbind, h⟩ := ancOf_spec acc' _ i hb
    have hl := hall e (by simpa using he) hbind
    rcases h with h | h
    · rw [← h]; exact hl
    · have hlt : e.on < j := by
        have h2 := List.all_eq_true.1 hlow (o, j) (by rw [List.mem_zipIdx_iff_getElem?]; exact ho)
        have h3 := List.all_eq_true.1 h2 e he
        simpa [hbind] using h3
      have hlo : e.on < ops.length := by
        rw [← hd.size]
        rcases Nat.lt_or_ge e.on listed.size with h' | h'
        · exact h'
        · simp [Array.getElem?_eq_none h'] at hl
      have ho' : ops[e.on]? = some ops[e.on] := by simp [hlo]
      have hlen : e.on < acc'.length := by
        rcases Nat.lt_or_ge e.on acc'.length with h' | h'
        · exact h'
        · rw [List.getD_eq_getElem?_getD, List.getElem?_eq_none h'] at h
          simp at h
      refine ih e.on hlt i ops[e.on] ho' (fun e' he' hb' => hd.down e.on _ hl ho' e' he' hb') ?_
      unfold bef
      rw [← k2 e.on hlen]; exact h
end
end Go.Cl
