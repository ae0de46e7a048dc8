/-
  Regions and code.
-/
import Derived.Test.YtcjkapadadonlaaGreatCl14
set_option linter.unusedSimpArgs false
set_option linter.unusedVariables false
namespace Go.Cl
open Go.RowKit

section ops
variable (C : Ctx)

/-- Does an operation run? -/
def cwanted (ops : List Oper) (o : Oper) (env : Env) : Option Bool :=
  match o.guard with
  | none => some true
  | some (j, want) => match ops[j]? with
    | some oj => match oj.dst with
      | some d => match env d with
        | .sc (.bool b) => some (b == want)
        | .tup [] => some false
        | _ => none
      | none => none
    | none => none

def cwpOps (ops : List Oper) (Q : CPost) : List Oper → Env → Heap → Prop
  | [], env, h => Q .normal env h
  | o :: rest, env, h => match cwanted ops o env with
    | some true => cop C o.op (ev env) h (fun v h' => cwpOps ops Q rest (put env o.dst v) h') (fun v h' => Q (.pan v) env h')
    | some false => cwpOps ops Q rest (put env o.dst (.tup [])) h
    | none => False

def okOper (n : Nat) (o : Oper) : Bool := (match o.dst with | some d => Nat.blt d n | none => true) && o.op.operands.toList.all (okOpd n)

/-- All temporaries that code names are there. -/
def okCode (n : Nat) : Code → Bool
  | .region _ ops _ => ops.toList.all (okOper n)
  | .seq a b => okCode n a && okCode n b
  | .cond c a b => okOpd n c && okCode n a && okCode n b
  | .block _ c => okCode n c
  | .loop c => okCode n c
  | _ => true

/-- What the model's run has come to. -/
def Post (w0 : World) (B : Nat) (S : St) (n : Nat) (ds : List Deferred) (Q : CPost) : Exit → Act → World → Prop := fun e a w =>
  ∃ S' ce env h, S.ext S' ∧ R w0 B S' h w ∧ ER S' env a.tmps ∧ a.tmps.size = n ∧ a.defers = ds ∧ ExitR S' ce e ∧ Q ce env h

theorem put_size (a : Act) (d : Option Tmp) (v : Value) : (a.put d v).tmps.size = a.tmps.size := by cases d <;> simp [Act.put]
theorem put_defers (a : Act) (d : Option Tmp) (v : Value) : (a.put d v).defers = a.defers := by cases d <;> rfl

theorem VR_undef {S : St} : VR S (.tup []) undef := by rw [VR_nonagg rfl]; exact ⟨by simp [FR, VRs, undef], by simp [undef]⟩

theorem cwanted_sound {S : St} {ops : List Oper} {o : Oper} {env : Env} {tmps : Array Value} {b : Bool} (he : ER S env tmps) (hok : ops.all (okOper tmps.size) = true) (h : cwanted ops o env = some b) : Region.wanted o (yielded ops.toArray tmps) = b := by
  unfold cwanted at h
  unfold Region.wanted
  cases hg : o.guard with
  | none => simp [hg] at h; simp [h]
  | some g =>
    obtain ⟨j, want⟩ := g
    simp only [hg] at h ⊢
    cases hj : ops[j]? with
    | none => simp [hj] at h
    | some oj =>
      simp only [hj] at h
      cases hd : oj.dst with
      | none => simp [hd] at h
      | some d =>
        simp only [hd] at h
        have hlt : d < tmps.size := by
          have := List.all_eq_true.1 hok oj (List.mem_of_getElem? hj)
          unfold okOper at this
          rw [hd] at this
          simp at this
          exact this.1
        have hv := he d tmps[d] (by simp [hlt])
        unfold yielded
        simp only [List.getElem?_toArray, hj, Option.bind_some, hd]
        split at h
        · rename_i x e
          rw [e] at hv
          have hx := (VR_sc.1 hv).1
          simp only [Option.some.injEq] at h
          subst h
          simp [hlt, hx]
        · rename_i e
          rw [e, VR_nonagg rfl] at hv
          simp only [FR] at hv
          obtain ⟨⟨vs, hx, hvs⟩, _⟩ := hv
          have hx := (List.cons.inj hx).1
          simp only [Option.some.injEq] at h
          subst h
          simp [hlt, hx]
        · cases h

theorem cwpOps_sound {w0 : World} {B : Nat} {ops : List Oper} {Q : CPost} {ds : List Deferred} {n : Nat} {Q' : Exit → Act → World → Prop} :
    ∀ (l : List Oper) (k : Nat) (S : St) (env : Env) (h : Heap) (a : Act) (w : World), ops.drop k = l → ops.all (okOper n) = true → R w0 B S h w → ER S env a.tmps → a.tmps.size = n → a.defers = ds →
      (∀ e a w, Post w0 B S n ds Q e a w → Q' e a w) → cwpOps C ops Q l env h → wpOps C.P ops.toArray Q' (List.range' k l.length) a w
  | [], k, S, env, h, a, w, _, _, r, he, hn, hd, hQ, hc => by
    simp only [List.length_nil, List.range'_zero, wpOps]
    exact hQ _ _ _ ⟨S, .normal, env, h, St.ext.refl _, r, he, hn, hd, trivial, hc⟩
  | o :: l, k, S, env, h, a, w, hl, hok, r, he, hn, hd, hQ, hc => by
    have hk : ops[k]? = some o := by
      have := congrArg (·[0]?) hl
      simpa using this
    have hl' : ops.drop (k + 1) = l := by rw [← List.tail_drop, hl]; rfl
    rw [List.length_cons, List.range'_succ, wpOps]
    simp only [List.getElem?_toArray, hk]
    simp only [cwpOps] at hc
    split at hc <;> try (exact hc.elim)
    · rename_i hw
      rw [cwanted_sound he (by rw [hn]; exact hok) hw]
      simp only [if_true]
      left
      have hoo := List.all_eq_true.1 hok o (List.mem_of_getElem? hk)
      have hg := cop_sound C r (o := o) (a := a) (ρ := ev env) (fun x hx => he.eval (by
        rw [hn]
        unfold okOper at hoo
        simp only [Bool.and_eq_true] at hoo
        exact List.all_eq_true.1 hoo.2 x hx)) hc
      refine hg _ _ (fun S' v h' x w' k1 k2 k3 k4 => ?_) (fun S' v h' x w' k1 k2 k3 k4 => ?_)
      · exact cwpOps_sound l (k + 1) S' _ h' _ w' hl' hok k2 ((he.mono k1.le).put k3) (by rw [put_size]; exact hn) (by rw [put_defers]; exact hd)
          (fun e a w ⟨S2, ce, env2, h2, m1, m2⟩ => hQ e a w ⟨S2, ce, env2, h2, k1.trans m1, m2⟩) k4
      · exact hQ _ _ _ ⟨S', .pan v, env, h', k1, k2, he.mono k1.le, hn, hd, ⟨x, rfl, k3⟩, k4⟩
    · rename_i hw
      rw [cwanted_sound he (by rw [hn]; exact hok) hw]
      simp only [Bool.false_eq_true, if_false]
      exact cwpOps_sound l (k + 1) S _ h _ w hl' hok r (he.put VR_undef) (by rw [put_size]; exact hn) (by rw [put_defers]; exact hd) hQ hc

/-- A region whose order is drawn: see Cl16. -/
def Draws : Type := List Oper → CPost → Env → Heap → Prop

def CExit.then (next : Env → Heap → Prop) (Q : CPost) : CPost
  | .normal, env, h => next env h
  | e, env, h => Q e env h
def CExit.inBlock (id : Nat) (Q : CPost) : CPost
  | .exit j, env, h => if j = id then Q .normal env h else Q (.exit j) env h
  | e, env, h => Q e env h

def cwp (D : Draws) : Code → CPost → Env → Heap → Prop
  | .skip, Q, env, h => Q .normal env h
  | .label _, Q, env, h => Q .normal env h
  | .region _ ops false, Q, env, h => cwpOps C ops.toList Q ops.toList env h
  | .region _ ops true, Q, env, h => D ops.toList Q env h
  | .seq a b, Q, env, h => cwp D a (CExit.then (cwp D b Q) Q) env h
  | .cond c a b, Q, env, h => ∃ t, ev env c = .sc (.bool t) ∧ (t = true → cwp D a Q env h) ∧ (t = false → cwp D b Q env h)
  | .block id c, Q, env, h => cwp D c (CExit.inBlock id Q) env h
  | .loop c, Q, env, h => ∃ (I : Nat → Env → Heap → Prop) (n : Nat), I n env h ∧ ∀ n env h, I n env h → cwp D c (CExit.then (fun env' h' => ∃ m, m < n ∧ I m env' h') Q) env h
  | .exit id, Q, env, h => Q (.exit id) env h
  | .ret, Q, env, h => Q .ret env h
  | _, _, _, _ => False

def DSound (D : Draws) : Prop := ∀ (w0 : World) (B : Nat) (id : Nat) (ops : Array Oper) (Q : CPost) (ds : List Deferred) (n : Nat) (S : St) (env : Env) (h : Heap) (a : Act) (w : World) (Q' : Exit → Act → World → Prop), ops.toList.all (okOper n) = true → R w0 B S h w → ER S env a.tmps →
  a.tmps.size = n → a.defers = ds → (∀ e a w, Post w0 B S n ds Q e a w → Q' e a w) → D ops.toList Q env h → (Code.region id ops true).wp C.P Q' a w

theorem Post.mono {w0 : World} {B : Nat} {S S' : St} {n : Nat} {ds : List Deferred} {Q Q' : CPost} (hS : S'.ext S) (hq : ∀ e env h, Q e env h → Q' e env h) {e : Exit} {a : Act} {w : World} (k : Post w0 B S n ds Q e a w) : Post w0 B S' n ds Q' e a w := by
  obtain ⟨S2, ce, env, h, k1, k2, k3, k4, k5, k6, k7⟩ := k
  exact ⟨S2, ce, env, h, hS.trans k1, k2, k3, k4, k5, k6, hq _ _ _ k7⟩

theorem cwp_sound {D : Draws} (hD : DSound C D) {w0 : World} {B : Nat} {ds : List Deferred} {n : Nat} : ∀ (c : Code) (Q : CPost) (S : St) (env : Env) (h : Heap) (a : Act) (w : World), okCode n c = true → R w0 B S h w → ER S env a.tmps → a.tmps.size = n → a.defers = ds →
    cwp C D c Q env h → c.wp C.P (Post w0 B S n ds Q) a w := by
  intro c
  induction c with
  | skip => intro Q S env h a w _ r he hn hd hc; exact wp_skip ⟨S, .normal, env, h, St.ext.refl _, r, he, hn, hd, trivial, hc⟩
  | label l => intro Q S env h a w _ r he hn hd hc; exact wp_label ⟨S, .normal, env, h, St.ext.refl _, r, he, hn, hd, trivial, hc⟩
  | region id ops draw =>
    intro Q S env h a w hok r he hn hd hc
    cases draw with
    | false =>
      refine wp_region ?_
      have := cwpOps_sound C (Q' := Post w0 B S n ds Q) ops.toList 0 S env h a w rfl (by simpa [okCode] using hok) r he hn hd (fun _ _ _ h => h) hc
      simpa [List.range_eq_range'] using this
    | true => exact hD w0 B id ops Q ds n S env h a w _ (by simpa [okCode] using hok) r he hn hd (fun _ _ _ h => h) hc
  | seq x y ihx ihy =>
    intro Q S env h a w hok r he hn hd hc
    simp only [okCode, Bool.and_eq_true] at hok
    refine wp_seq (wp_mono (ihx _ S env h a w hok.1 r he hn hd hc) ?_)
    rintro e a' w' ⟨S', ce, env', h', k1, k2, k3, k4, k5, k6, k7⟩
    cases ce <;> cases e <;> simp only [ExitR] at k6
    · exact wp_mono (ihy Q S' env' h' a' w' hok.2 k2 k3 k4 k5 k7) (fun e a w k => k.mono k1 (fun _ _ _ h => h))
    · exact ⟨S', .exit _, env', h', k1, k2, k3, k4, k5, k6, k7⟩
    · exact ⟨S', .ret, env', h', k1, k2, k3, k4, k5, trivial, k7⟩
    · exact ⟨S', .pan _, env', h', k1, k2, k3, k4, k5, k6, k7⟩
  | cond c x y ihx ihy =>
    intro Q S env h a w hok r he hn hd hc
    simp only [okCode, Bool.and_eq_true] at hok
    obtain ⟨t, ht, h1, h2⟩ := hc
    have hv := he.eval (x := c) (a := a) (by rw [hn]; exact hok.1.1)
    rw [ht] at hv
    refine wp_cond_split (VR_sc.1 hv).1 (fun e => ?_) (fun e => ?_)
    · exact ihx Q S env h a w hok.1.2 r he hn hd (h1 e)
    · exact ihy Q S env h a w hok.2 r he hn hd (h2 e)
  | block id c ih =>
    intro Q S env h a w hok r he hn hd hc
    refine wp_block (wp_mono (ih _ S env h a w hok r he hn hd hc) ?_)
    rintro e a' w' ⟨S', ce, env', h', k1, k2, k3, k4, k5, k6, k7⟩
    cases ce <;> cases e <;> simp only [ExitR] at k6
    · exact ⟨S', .normal, env', h', k1, k2, k3, k4, k5, trivial, k7⟩
    · subst k6
      simp only [CExit.inBlock] at k7
      simp only [Exit.inBlock]
      split at k7
      · rename_i hid; rw [if_pos hid]; exact ⟨S', .normal, env', h', k1, k2, k3, k4, k5, trivial, k7⟩
      · rename_i hid; rw [if_neg hid]; exact ⟨S', .exit _, env', h', k1, k2, k3, k4, k5, rfl, k7⟩
    · exact ⟨S', .ret, env', h', k1, k2, k3, k4, k5, trivial, k7⟩
    · exact ⟨S', .pan _, env', h', k1, k2, k3, k4, k5, k6, k7⟩
  | loop c ih =>
    intro Q S env h a w hok r he hn hd hc
    obtain ⟨I, m, hI, hround⟩ := hc
    let J : Nat → Act → World → Prop := fun m a w => ∃ S' env h, S.ext S' ∧ R w0 B S' h w ∧ ER S' env a.tmps ∧ a.tmps.size = n ∧ a.defers = ds ∧ I m env h
    intro b k cs
    have key : ∀ m a w, J m a w → ∃ e a' w', Post w0 B S n ds Q e a' w' ∧ Arrives C.P (lone (b.at a (.code c :: .inLoop c :: k)) cs w) b k cs e a' w' := by
      intro m
      induction m using Nat.strongRecOn with
      | _ m ihm =>
        rintro a w ⟨S', env, h, j1, j2, j3, j4, j5, j6⟩
        obtain ⟨e, a1, w1, hq, harr⟩ := ih _ S' env h a w hok j2 j3 j4 j5 (hround m env h j6) b (.inLoop c :: k) cs
        obtain ⟨S2, ce, env2, h2, k1, k2, k3, k4, k5, k6, k7⟩ := hq
        cases ce <;> cases e <;> simp only [ExitR] at k6
        · obtain ⟨m', hm', hI'⟩ := k7
          obtain ⟨e2, a2, w2, hq2, harr2⟩ := ihm m' hm' a1 w1 ⟨S2, env2, h2, j1.trans k1, k2, k3, k4, k5, hI'⟩
          exact ⟨e2, a2, w2, hq2, .of_steps (Steps.trans harr (.one step_inLoop)) harr2⟩
        · exact ⟨.exit _, a1, w1, ⟨S2, .exit _, env2, h2, j1.trans k1, k2, k3, k4, k5, k6, k7⟩, .pass (x := .inLoop c) rfl (fun _ _ => .inl (by simp)) harr⟩
        · exact ⟨.ret, a1, w1, ⟨S2, .ret, env2, h2, j1.trans k1, k2, k3, k4, k5, trivial, k7⟩, .pass (x := .inLoop c) rfl (fun _ _ => .inl (by simp)) harr⟩
        · exact ⟨.panic _, a1, w1, ⟨S2, .pan _, env2, h2, j1.trans k1, k2, k3, k4, k5, k6, k7⟩, .pass (x := .inLoop c) rfl (fun _ _ => .inl (by simp)) harr⟩
    obtain ⟨e, a', w', hq, harr⟩ := key m a w ⟨S, env, h, St.ext.refl _, r, he, hn, hd, hI⟩
    exact ⟨e, a', w', hq, .of_steps (.one step_loop) harr⟩
  | exit id => intro Q S env h a w _ r he hn hd hc; exact wp_exit ⟨S, .exit id, env, h, St.ext.refl _, r, he, hn, hd, rfl, hc⟩
  | ret => intro Q S env h a w _ r he hn hd hc; exact wp_ret ⟨S, .ret, env, h, St.ext.refl _, r, he, hn, hd, trivial, hc⟩
  | rangeFunc f ps x y _ _ => intro Q S env h a w _ _ _ _ _ hc; exact hc.elim
  | scope c _ => intro Q S env h a w _ _ _ _ _ hc; exact hc.elim
  | goto l => intro Q S env h a w _ _ _ _ _ hc; exact hc.elim
  | refuse why => intro Q S env h a w _ _ _ _ _ hc; exact hc.elim
end ops
end Go.Cl
