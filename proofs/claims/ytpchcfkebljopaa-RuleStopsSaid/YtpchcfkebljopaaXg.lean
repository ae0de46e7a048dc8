import Derived.Test.YtpchcfkebljopaaXf
set_option linter.unusedSimpArgs false
set_option linter.unusedVariables false
set_option linter.constructorNameAsVariable false
section
namespace Go.Cl
open Go.RowKit
theorem ancOf_conv (acc : List Nat) : ∀ (l : List Edge) (i : Nat), (∃ e ∈ l, Region.binds .any e = true ∧ (e.on = i ∨ Nat.testBit (acc.getD e.on 0) i = true)) → Nat.testBit (ancOf acc l) i = true
  | [], i, ⟨e, he, _⟩ => by simp at he
  | x :: l, i, ⟨e, he, hb, h⟩ => by
    simp only [ancOf]
    rcases List.mem_cons.1 he with rfl | he
    · rw [hb, cond_true]
      show Nat.testBit ((1 <<< e.on ||| acc.getD e.on 0) ||| ancOf acc l) i = true
      rw [Nat.testBit_or, Nat.testBit_or]
      rcases h with rfl | h
      · simp
      · rw [h]; simp
    · have ih := ancOf_conv acc l i ⟨e, he, hb, h⟩
      cases Region.binds .any x with
      | false => exact ih
      | true =>
        show Nat.testBit ((1 <<< x.on ||| acc.getD x.on 0) ||| ancOf acc l) i = true
        rw [Nat.testBit_or, ih]; simp
theorem ancs_take : ∀ (l : List Oper) (acc : List Nat), (ancs l acc).take acc.length = acc ∧ (ancs l acc).length = acc.length + l.length
  | [], acc => by simp [ancs]
  | o :: l, acc => by
    obtain ⟨h1, h2⟩ := ancs_take l (acc ++ [ancOf acc o.after.toList])
    simp only [ancs]
    refine ⟨?_, by rw [h2]; simp; omega⟩
    have := congrArg (List.take acc.length) h1
    rw [List.take_take] at this
    simpa using this
theorem ancs_at : ∀ (l : List Oper) (acc : List Nat) (j : Nat) (o : Oper), l[j]? = some o → (ancs l acc).getD (acc.length + j) 0 = ancOf ((ancs l acc).take (acc.length + j)) o.after.toList
  | [], _, _, _, h => by simp at h
  | o :: l, acc, 0, o', h => by
    simp at h; subst h
    simp only [ancs, Nat.add_zero]
    obtain ⟨h1, h2⟩ := ancs_take l (acc ++ [ancOf acc o.after.toList])
    have h3 : (ancs l (acc ++ [ancOf acc o.after.toList])).take acc.length = acc := by
      have := congrArg (List.take acc.length) h1
      rw [List.take_take] at this
      simpa using this
    rw [h3, List.getD_eq_getElem?_getD]
    have h4 : (ancs l (acc ++ [ancOf acc o.after.toList]))[acc.length]? = ((ancs l (acc ++ [ancOf acc o.after.toList])).take (acc ++ [ancOf acc o.after.toList]).length)[acc.length]? := by
      rw [List.getElem?_take_of_lt (by simp)]
    rw [h4, h1]; simp
  | o :: l, acc, j + 1, o', h => by
    have := ancs_at l (acc ++ [ancOf acc o.after.toList]) j o' (by simpa using h)
    simp only [ancs]
    simp only [List.length_append, List.length_cons, List.length_nil] at this
    rw [show acc.length + (j + 1) = acc.length + 1 + j by omega]; simpa using this
theorem bef_trans {ops : List Oper} (hlow : lowB ops = true) : ∀ (k j i : Nat), k < ops.length → bef (ancs ops []) k j = true → bef (ancs ops []) j i = true → bef (ancs ops []) k i = true := by
  intro k
  induction k using Nat.strongRecOn with
  | _ k ih =>
    intro j i hk h1 h2
    have ho : ops[k]? = some ops[k] := by simp [hk]
    have hA := ancs_at ops [] k _ ho
    simp only [List.length_nil, Nat.zero_add] at hA
    unfold bef at h1 ⊢
    rw [hA] at h1 ⊢
    obtain ⟨e, he, hb, h⟩ := ancOf_spec _ _ j h1
    have hlt : e.on < k := by
      have h2 := List.all_eq_true.1 hlow (ops[k], k) (by rw [List.mem_zipIdx_iff_getElem?]; exact ho)
      have h3 := List.all_eq_true.1 h2 e he
      simpa [hb] using h3
    have hg : ((ancs ops []).take k).getD e.on 0 = (ancs ops []).getD e.on 0 := by
      rw [List.getD_eq_getElem?_getD, List.getD_eq_getElem?_getD, List.getElem?_take_of_lt hlt]
    refine ancOf_conv _ _ _ ⟨e, he, hb, .inr ?_⟩
    rw [hg]
    rcases h with rfl | h
    · exact h2
    · rw [hg] at h
      exact ih e.on hlt j i (by omega) h h2
structure DOp where
  ix : Nat
  dst : Option Tmp
  op : Op
  gd : Option (Tmp × Bool)
  fin : Bool
  bk : List Nat
  fw : List Nat
  keep : Bool
def seen (o : Op) : Bool :=
  match kindOf o with
  | .quiet => heapy o
  | .alloc => true
  | .eff => false
def bkOf (ops : List Oper) (A : List Nat) (i : Nat) (o : Oper) : List Nat := bif seen o.op then (List.range i).filter (fun e => (match ops[e]? with | some x => isEffOp x | none => false) && !bef A i e) else []
def fwOf (ops : List Oper) (A : List Nat) (i : Nat) (o : Oper) : List Nat := bif seen o.op then (List.range' (i + 1) (ops.length - (i + 1))).filter (fun e => (match ops[e]? with | some x => isEffOp x | none => false) && !bef A e i) else []
def keepOf (ops : List Oper) (A : List Nat) (i : Nat) : Bool := (List.range' (i + 1) (ops.length - (i + 1))).any fun j => match ops[j]? with | some x => seen x.op && !bef A j i | none => false
def dops (ops : List Oper) (A : List Nat) : List Oper → Nat → Option (List DOp)
  | [], _ => some []
  | o :: l, i => match lgd ops o with
    | some g => match dops ops A l (i + 1) with
      | some m => some (⟨i, o.dst, o.op, g, (List.range' (i + 1) l.length).all (fun j => bef A j i), bkOf ops A i o, fwOf ops A i o, isEffOp o && keepOf ops A i⟩ :: m)
      | none => none
    | none => none
structure Watch where
  fw : List Nat
  ix : Nat
  ρ : Env
  op : Op
  v : CV
def pushW (w : Watch) (wt : List Watch) : List Watch :=
  match w.fw with
  | [] => wt
  | _ => w :: wt
def pushH (b : Bool) (x : Nat × Hp) (hist : List (Nat × Hp)) : List (Nat × Hp) := bif b then x :: hist else hist
section
variable (C : Ctx) (mu : Bool) (ext : FuncId → List CV → Option CV) (call : XCall)
noncomputable def still (n0 : Nat) (w : Watch) (q : Hp) : Prop :=
  match kindOf w.op with
  | .alloc => ∃ ob, q.t.get (n0 + w.ix) = some ob ∧ allocObj C w.op = some ob
  | _ => zop C mu ext call w.ρ q w.op = .ret w.v q
noncomputable def histP (n0 : Nat) (w : Watch) (bk : List Nat) (hist : List (Nat × Hp)) : Prop :=
  match bk with
  | [] => True
  | _ => ∀ x ∈ hist, x.1 ∈ bk → still C mu ext call n0 w x.2
noncomputable def Wd (n0 : Nat) (ρ0 : Env) : List DOp → List (Nat × Hp) → List Watch → Env → Hp → ZQ → Prop
  | [], _, _, ρ, p, Q => Q .normal ρ p
  | o :: rest, hist, wt, ρ, p, Q => match zwanted ρ o.gd with
    | none => False
    | some false => Wd n0 ρ0 rest hist wt (put ρ o.dst (.tup [])) p Q
    | some true => match kindOf o.op with
      | .quiet => match zop C mu ext call ρ p o.op with
        | .ret v _ => histP C mu ext call n0 ⟨o.fw, o.ix, ρ, o.op, v⟩ o.bk hist ∧ Wd n0 ρ0 rest hist (pushW ⟨o.fw, o.ix, ρ, o.op, v⟩ wt) (put ρ o.dst v) p Q
        | _ => False
      | .alloc => still C mu ext call n0 ⟨o.fw, o.ix, ρ, o.op, allocV o.op (n0 + o.ix)⟩ p ∧ histP C mu ext call n0 ⟨o.fw, o.ix, ρ, o.op, allocV o.op (n0 + o.ix)⟩ o.bk hist ∧ Wd n0 ρ0 rest hist (pushW ⟨o.fw, o.ix, ρ, o.op, allocV o.op (n0 + o.ix)⟩ wt) (put ρ o.dst (allocV o.op (n0 + o.ix))) p Q
      | .eff => match zop C mu ext call ρ p o.op with
        | .ret v q => (∀ w ∈ wt, o.ix ∈ w.fw → still C mu ext call n0 w q) ∧ Wd n0 ρ0 rest (pushH o.keep (o.ix, p) hist) wt (put ρ o.dst v) q Q
        | .pan v q => o.fin = true ∧ Q (.panU v) ρ0 q
        | .stuck => False
def evs : List Oper → List Ent → List Hp → Nat → List (Nat × Hp × Hp)
  | o :: l, x :: es, hs, i => bif isEff o x then (match hs with
      | h :: h' :: hs' => (i, h, h') :: evs l es (h' :: hs') (i + 1)
      | _ => []) else evs l es hs (i + 1)
  | _, _, _, _ => []
structure Obl (ops : List Oper) (A : List Nat) (n0 : Nat) (hist : List (Nat × Hp)) (wt : List Watch) (l : List Oper) (i : Nat) (es : List Ent) (hs : List Hp) : Prop where
  ent : ∀ j o x, l[j]? = some o → es[j]? = some x → x.wanted = true → seen o.op = true →
    (∀ h ∈ hist, h.1 ∈ bkOf ops A (i + j) o → still C mu ext call n0 ⟨[], i + j, x.env.at, o.op, x.v⟩ h.2) ∧
    (∀ ev ∈ evs l es hs i, ev.1 ∈ bkOf ops A (i + j) o → still C mu ext call n0 ⟨[], i + j, x.env.at, o.op, x.v⟩ ev.2.1) ∧
    (∀ ev ∈ evs l es hs i, ev.1 ∈ fwOf ops A (i + j) o → still C mu ext call n0 ⟨[], i + j, x.env.at, o.op, x.v⟩ ev.2.2) ∧
    (∀ q, hs[cntF (flags l es) 0 (fun k => Nat.blt k j)]? = some q → still C mu ext call n0 ⟨[], i + j, x.env.at, o.op, x.v⟩ q)
  wt : ∀ w ∈ wt, ∀ ev ∈ evs l es hs i, ev.1 ∈ w.fw → still C mu ext call n0 w ev.2.2
theorem xtr_h0 {ops : List Oper} {A : List Nat} {n0 : Nat} (l : List Oper) (i : Nat) (env : XEnv) (p : Hp) : match xtr C mu ext call ops A n0 l i env p with
    | .done _ _ hs => hs[0]? = some p
    | .pan _ _ _ hs => hs[0]? = some p
    | .stuck => True := by
  have := xtr_ok C (mu := mu) (ext := ext) (call := call) (ops := ops) (A := A) (n0 := n0) l i env p
  cases h : xtr C mu ext call ops A n0 l i env p with
  | done env' es hs => rw [h] at this; exact this.1.h0
  | pan v q es hs => rw [h] at this; exact this.1.h0
  | stuck => trivial
theorem mem_fw {ops : List Oper} {A : List Nat} {i e : Nat} {o : Oper} (h : e ∈ fwOf ops A i o) : i < e := by
  unfold fwOf at h
  cases hs : seen o.op with
  | false => simp [hs] at h
  | true => simp only [hs, cond_true, List.mem_filter, List.mem_range'] at h; omega
theorem mem_bk {ops : List Oper} {A : List Nat} {i e : Nat} {o : Oper} (h : e ∈ bkOf ops A i o) : e < i := by
  unfold bkOf at h
  cases hs : seen o.op with
  | false => simp [hs] at h
  | true => simp only [hs, cond_true, List.mem_filter, List.mem_range] at h; exact h.1
theorem evs_ge : ∀ (l : List Oper) (es : List Ent) (hs : List Hp) (i : Nat), ∀ ev ∈ evs l es hs i, i ≤ ev.1
  | [], es, hs, i => by cases es <;> simp [evs]
  | _ :: _, [], hs, i => by simp [evs]
  | o :: l, x :: es, hs, i => by
    intro ev h
    simp only [evs] at h
    cases hb : isEff o x with
    | false => rw [hb, cond_false] at h; have := evs_ge l es hs (i + 1) ev h; omega
    | true =>
      rw [hb, cond_true] at h
      match hs, h with
      | h1 :: h2 :: hs', h =>
        rcases List.mem_cons.1 h with rfl | h
        · exact Nat.le_refl _
        · have := evs_ge l es (h2 :: hs') (i + 1) ev h; omega
      | [], h => simp at h
      | [_], h => simp at h
theorem cntF_blt_succ (b : Bool) (fl : List Bool) (j : Nat) : cntF (b :: fl) 0 (fun k => Nat.blt k (j + 1)) = (bif b then 1 else 0) + cntF fl 0 (fun k => Nat.blt k j) := by
  show (bif b && Nat.blt 0 (j + 1) then 1 else 0) + cntF fl 1 (fun k => Nat.blt k (j + 1)) = _
  have h0 : Nat.blt 0 (j + 1) = true := blt_of (by omega)
  rw [h0, Bool.and_true]
  congr 1
  refine cntF_shift _ _ fl 1 0 fun k => ?_
  show Nat.blt (1 + k) (j + 1) = Nat.blt (0 + k) j
  rw [show 1 + k = k + 1 by omega, Nat.zero_add]; rfl
theorem cntF_blt_zero : ∀ (fl : List Bool) (i : Nat), cntF fl i (fun k => Nat.blt k 0) = 0
  | [], _ => rfl
  | b :: fl, i => by
    show (bif b && Nat.blt i 0 then 1 else 0) + cntF fl (i + 1) (fun k => Nat.blt k 0) = 0
    rw [cntF_blt_zero fl (i + 1)]
    have : Nat.blt i 0 = false := rfl
    rw [this]; simp
def GoodT (ops : List Oper) (A : List Nat) (n0 : Nat) (ρ0 : Env) (Q : ZQ) (hist : List (Nat × Hp)) (wt : List Watch) (l : List Oper) (i : Nat) : XTR → Prop
  | .done env' es hs => (∃ q, hs.getLast? = some q ∧ Q .normal env'.at q) ∧ Obl C mu ext call ops A n0 hist wt l i es hs
  | .pan v q es hs => Q (.panU v) ρ0 q ∧ Obl C mu ext call ops A n0 hist wt l i es hs
  | .stuck => False
theorem Obl.cons_still {ops : List Oper} {A : List Nat} {n0 : Nat} {hist : List (Nat × Hp)} {wt wt' : List Watch} {o : Oper} {l : List Oper} {i : Nat} {x : Ent} {es : List Ent} {hs : List Hp} (he : isEff o x = false)
    (h : Obl C mu ext call ops A n0 hist wt' l (i + 1) es hs) (hw : ∀ w ∈ wt, w ∈ wt') {p : Hp} (h0 : hs[0]? = some p)
    (hx : x.wanted = true → seen o.op = true → still C mu ext call n0 ⟨[], i, x.env.at, o.op, x.v⟩ p ∧ (∀ h ∈ hist, h.1 ∈ bkOf ops A i o → still C mu ext call n0 ⟨[], i, x.env.at, o.op, x.v⟩ h.2) ∧ (∀ ev ∈ evs l es hs (i + 1), ev.1 ∈ fwOf ops A i o → still C mu ext call n0 ⟨[], i, x.env.at, o.op, x.v⟩ ev.2.2)) :
    Obl C mu ext call ops A n0 hist wt (o :: l) i (x :: es) hs := by
  have hev : evs (o :: l) (x :: es) hs i = evs l es hs (i + 1) := by simp only [evs, he, cond_false]
  have hfl : flags (o :: l) (x :: es) = false :: flags l es := by unfold flags; rw [List.zipWith_cons_cons, he]
  refine ⟨fun j o' x' h1 h2 h3 h4 => ?_, fun w hwm ev hm hf => ?_⟩
  · rw [hev, hfl]
    cases j with
    | zero =>
      simp only [List.getElem?_cons_zero, Option.some.injEq] at h1 h2
      subst h1; subst h2
      obtain ⟨k1, k2, k3⟩ := hx h3 h4
      refine ⟨k2, fun ev hm hb => ?_, k3, fun q hq => ?_⟩
      · have := evs_ge _ _ _ _ ev hm; have := mem_bk hb; omega
      · rw [cntF_blt_zero, h0] at hq; cases hq; exact k1
    | succ j =>
      have := h.ent j o' x' (by simpa using h1) (by simpa using h2) h3 h4
      rw [show i + (j + 1) = i + 1 + j by omega]
      refine ⟨this.1, this.2.1, this.2.2.1, fun q hq => this.2.2.2 q ?_⟩
      rw [cntF_blt_succ, cond_false, Nat.zero_add] at hq
      exact hq
  · rw [hev] at hm
    exact h.wt w (hw w hwm) ev hm hf
theorem Wd_xtr {ops : List Oper} {A : List Nat} {n0 : Nat} {ρ0 : Env} {Q : ZQ} : ∀ (l : List Oper) (i : Nat) (m : List DOp) (hist : List (Nat × Hp)) (wt : List Watch) (env : XEnv) (p : Hp), ops.drop i = l → dops ops A l i = some m → (∀ h ∈ hist, h.1 < i) →
    Wd C mu ext call n0 ρ0 m hist wt env.at p Q → GoodT C mu ext call ops A n0 ρ0 Q hist wt l i (xtr C mu ext call ops A n0 l i env p)
  | [], i, m, hist, wt, env, p, hl, hm, hh, h => by
    simp only [dops, Option.some.injEq] at hm
    subst hm
    refine ⟨⟨p, rfl, h⟩, ⟨fun j o x h1 => by simp at h1, fun w _ ev hev => by simp [evs] at hev⟩⟩
  | o :: l, i, m, hist, wt, env, p, hl, hm, hh, h => by
    have hil : i < ops.length := by
      rcases Nat.lt_or_ge i ops.length with h' | h'
      · exact h'
      · rw [List.drop_eq_nil_of_le h'] at hl; cases hl
    have hdrop : ops.drop (i + 1) = l := by
      have := congrArg List.tail hl
      rw [List.tail_drop] at this; exact this
    have hoi : ops[i]? = some o := by
      have := congrArg (fun x => x[0]?) hl
      simpa using this
    simp only [dops] at hm
    cases hg : lgd ops o with
    | none => simp [hg] at hm
    | some g =>
    cases hd : dops ops A l (i + 1) with
    | none => simp [hg, hd] at hm
    | some m' =>
    simp only [hg, hd, Option.some.injEq] at hm
    subst hm
    simp only [Wd] at h
    simp only [xtr, lwanted_eq hg, zwanted_eq]
    cases hw : zwanted env.at g with
    | none => rw [hw] at h; exact h.elim
    | some b =>
      rw [hw] at h
      cases b with
      | false =>
        simp only at h ⊢
        have ih := Wd_xtr l (i + 1) m' hist wt (env.put o.dst (.tup [])) p hdrop hd (fun x hx => Nat.lt_succ_of_lt (hh x hx)) (by rw [XEnv.at_put]; exact h)
        have h0 := xtr_h0 C mu ext call (ops := ops) (A := A) (n0 := n0) l (i + 1) (env.put o.dst (.tup [])) p
        have he : isEff o ⟨env, false, .tup []⟩ = false := by unfold isEff; split <;> rfl
        cases hx : xtr C mu ext call ops A n0 l (i + 1) (env.put o.dst (.tup [])) p with
        | stuck => rw [hx] at ih; exact ih.elim
        | done env' es hs => rw [hx] at ih h0; exact ⟨ih.1, ih.2.cons_still C mu ext call he (fun _ h => h) h0 fun h => by cases h⟩
        | pan v q es hs => rw [hx] at ih h0; exact ⟨ih.1, ih.2.cons_still C mu ext call he (fun _ h => h) h0 fun h => by cases h⟩
      | true =>
        simp only at h ⊢
        cases hk : kindOf o.op with
        | quiet =>
          rw [hk] at h
          simp only [zop_eq] at h ⊢
          cases hr : zop C mu ext call env.at p o.op with
          | stuck => rw [hr] at h; exact h.elim
          | pan v q => rw [hr] at h; exact h.elim
          | ret v q' =>
            rw [hr] at h
            simp only at h ⊢
            obtain ⟨k1, k2⟩ := h
            have ih := Wd_xtr l (i + 1) m' hist _ (env.put o.dst v) p hdrop hd (fun x hx => Nat.lt_succ_of_lt (hh x hx)) (by rw [XEnv.at_put]; exact k2)
            have h0 := xtr_h0 C mu ext call (ops := ops) (A := A) (n0 := n0) l (i + 1) (env.put o.dst v) p
            have he : isEff o ⟨env, true, v⟩ = false := by unfold isEff; rw [hk]
            have hq : q' = p := by
              have := xop_quiet C (mu := mu) (ext := ext) (call := call) (env := env) hk (by rw [zop_eq]; exact hr)
              exact this
            subst hq
            have hst : still C mu ext call n0 ⟨[], i, env.at, o.op, v⟩ q' := by unfold still; rw [hk]; exact hr
            have key : ∀ es hs, Obl C mu ext call ops A n0 hist (pushW ⟨fwOf ops A i o, i, env.at, o.op, v⟩ wt) l (i + 1) es hs → hs[0]? = some q' → Obl C mu ext call ops A n0 hist wt (o :: l) i (⟨env, true, v⟩ :: es) hs := fun es hs hO h0 => by
              refine hO.cons_still C mu ext call he (fun w hw => ?_) h0 fun _ hs' => ⟨hst, fun x hx hb => ?_, fun ev hm hf => ?_⟩
              · unfold pushW; split
                · exact hw
                · exact List.mem_cons_of_mem _ hw
              · unfold histP at k1
                split at k1
                · rename_i hbk; rw [hbk] at hb; simp at hb
                · exact k1 x hx hb
              · have : (⟨fwOf ops A i o, i, env.at, o.op, v⟩ : Watch) ∈ pushW ⟨fwOf ops A i o, i, env.at, o.op, v⟩ wt := by
                  unfold pushW; split
                  · rename_i hfw; simp only at hfw; rw [hfw] at hf; simp at hf
                  · exact List.mem_cons_self
                exact hO.wt _ this ev hm hf
            cases hx : xtr C mu ext call ops A n0 l (i + 1) (env.put o.dst v) q' with
            | stuck => rw [hx] at ih; exact ih.elim
            | done env' es hs => rw [hx] at ih h0; exact ⟨ih.1, key es hs ih.2 h0⟩
            | pan v' q es hs => rw [hx] at ih h0; exact ⟨ih.1, key es hs ih.2 h0⟩
        | alloc =>
          rw [hk] at h
          simp only at h ⊢
          obtain ⟨k0, k1, k2⟩ := h
          have ih := Wd_xtr l (i + 1) m' hist _ (env.put o.dst (allocV o.op (n0 + i))) p hdrop hd (fun x hx => Nat.lt_succ_of_lt (hh x hx)) (by rw [XEnv.at_put]; exact k2)
          have h0 := xtr_h0 C mu ext call (ops := ops) (A := A) (n0 := n0) l (i + 1) (env.put o.dst (allocV o.op (n0 + i))) p
          have he : isEff o ⟨env, true, allocV o.op (n0 + i)⟩ = false := by unfold isEff; rw [hk]
          have key : ∀ es hs, Obl C mu ext call ops A n0 hist (pushW ⟨fwOf ops A i o, i, env.at, o.op, allocV o.op (n0 + i)⟩ wt) l (i + 1) es hs → hs[0]? = some p → Obl C mu ext call ops A n0 hist wt (o :: l) i (⟨env, true, allocV o.op (n0 + i)⟩ :: es) hs := fun es hs hO h0 => by
            refine hO.cons_still C mu ext call he (fun w hw => ?_) h0 fun _ hs' => ⟨k0, fun x hx hb => ?_, fun ev hm hf => ?_⟩
            · unfold pushW; split
              · exact hw
              · exact List.mem_cons_of_mem _ hw
            · unfold histP at k1
              split at k1
              · rename_i hbk; rw [hbk] at hb; simp at hb
              · exact k1 x hx hb
            · have : (⟨fwOf ops A i o, i, env.at, o.op, allocV o.op (n0 + i)⟩ : Watch) ∈ pushW ⟨fwOf ops A i o, i, env.at, o.op, allocV o.op (n0 + i)⟩ wt := by
                unfold pushW; split
                · rename_i hfw; simp only at hfw; rw [hfw] at hf; simp at hf
                · exact List.mem_cons_self
              exact hO.wt _ this ev hm hf
          cases hx : xtr C mu ext call ops A n0 l (i + 1) (env.put o.dst (allocV o.op (n0 + i))) p with
          | stuck => rw [hx] at ih; exact ih.elim
          | done env' es hs => rw [hx] at ih h0; exact ⟨ih.1, key es hs ih.2 h0⟩
          | pan v' q es hs => rw [hx] at ih h0; exact ⟨ih.1, key es hs ih.2 h0⟩
        | eff =>
          rw [hk] at h
          simp only [zop_eq] at h ⊢
          have hsn : seen o.op = false := by unfold seen; rw [hk]
          have hE : isEffOp o = true := by unfold isEffOp; rw [hk]
          cases hr : zop C mu ext call env.at p o.op with
          | stuck => rw [hr] at h; exact h.elim
          | pan v q =>
            rw [hr] at h
            simp only at h ⊢
            rw [h.1, cond_true]
            exact ⟨h.2, ⟨fun j o x _ h2 => by simp at h2, fun w _ ev hev => by simp [evs] at hev⟩⟩
          | ret v q =>
            rw [hr] at h
            simp only at h ⊢
            obtain ⟨k1, k2⟩ := h
            have ih := Wd_xtr l (i + 1) m' (pushH (isEffOp o && keepOf ops A i) (i, p) hist) wt (env.put o.dst v) q hdrop hd (fun x hx => by
              unfold pushH at hx
              cases hkp : isEffOp o && keepOf ops A i with
              | false => rw [hkp, cond_false] at hx; exact Nat.lt_succ_of_lt (hh x hx)
              | true =>
                rw [hkp, cond_true] at hx
                rcases List.mem_cons.1 hx with rfl | hx
                · exact Nat.lt_succ_self _
                · exact Nat.lt_succ_of_lt (hh x hx)) (by rw [XEnv.at_put]; exact k2)
            have h0 := xtr_h0 C mu ext call (ops := ops) (A := A) (n0 := n0) l (i + 1) (env.put o.dst v) q
            have he : isEff o ⟨env, true, v⟩ = true := by unfold isEff; rw [hk]
            have key : ∀ es hs, Obl C mu ext call ops A n0 (pushH (isEffOp o && keepOf ops A i) (i, p) hist) wt l (i + 1) es hs → hs[0]? = some q → Obl C mu ext call ops A n0 hist wt (o :: l) i (⟨env, true, v⟩ :: es) (p :: hs) := fun es hs hO h0 => by
              match hs, h0 with
              | h1 :: hs', h0 =>
              simp only [List.getElem?_cons_zero, Option.some.injEq] at h0
              subst h0
              have hev : evs (o :: l) (⟨env, true, v⟩ :: es) (p :: h1 :: hs') i = (i, p, h1) :: evs l es (h1 :: hs') (i + 1) := by simp only [evs, he, cond_true]
              have hfl : flags (o :: l) (⟨env, true, v⟩ :: es) = true :: flags l es := by unfold flags; rw [List.zipWith_cons_cons, he]
              refine ⟨fun j o' x' h1' h2 h3 h4 => ?_, fun w hwm ev hm hf => ?_⟩
              · rw [hev, hfl]
                cases j with
                | zero =>
                  simp only [List.getElem?_cons_zero, Option.some.injEq] at h1'
                  subst h1'
                  rw [hsn] at h4; cases h4
                | succ j =>
                  have hlj : l[j]? = some o' := by simpa using h1'
                  have := hO.ent j o' x' hlj (by simpa using h2) h3 h4
                  rw [show i + (j + 1) = i + 1 + j by omega]
                  obtain ⟨a1, a2, a3, a4⟩ := this
                  have hin : ∀ x ∈ hist, x ∈ pushH (isEffOp o && keepOf ops A i) (i, p) hist := fun x hx => by
                    unfold pushH
                    cases isEffOp o && keepOf ops A i with
                    | false => exact hx
                    | true => exact List.mem_cons_of_mem _ hx
                  refine ⟨fun x hx hb => a1 x (hin x hx) hb, fun ev hm hb => ?_, fun ev hm hf => ?_, fun q hq => a4 q ?_⟩
                  · rcases List.mem_cons.1 hm with rfl | hm
                    · refine a1 (i, p) ?_ hb
                      have : keepOf ops A i = true := by
                        unfold keepOf
                        rw [List.any_eq_true]
                        have hoj : ops[i + 1 + j]? = some o' := by rw [← hdrop] at hlj; rw [List.getElem?_drop] at hlj; exact hlj
                        have hjl := (List.getElem?_eq_some_iff.1 hoj).1
                        refine ⟨i + 1 + j, by rw [List.mem_range']; exact ⟨j, by omega, by omega⟩, ?_⟩
                        rw [hoj]
                        unfold bkOf at hb
                        rw [h4, cond_true, List.mem_filter] at hb
                        simp only [Bool.and_eq_true] at hb ⊢
                        exact ⟨h4, hb.2.2⟩
                      unfold pushH
                      rw [hE, this]
                      exact List.mem_cons_self
                    · exact a2 ev hm hb
                  · rcases List.mem_cons.1 hm with rfl | hm
                    · have := mem_fw hf; simp only at this; omega
                    · exact a3 ev hm hf
                  · rw [cntF_blt_succ, cond_true, Nat.add_comm, List.getElem?_cons_succ] at hq
                    exact hq
              · rw [hev] at hm
                rcases List.mem_cons.1 hm with rfl | hm
                · exact k1 w hwm hf
                · exact hO.wt w hwm ev hm hf
            cases hx : xtr C mu ext call ops A n0 l (i + 1) (env.put o.dst v) q with
            | stuck => rw [hx] at ih; exact ih.elim
            | done env' es hs =>
              rw [hx] at ih h0
              obtain ⟨⟨q1, hq1, hQ⟩, hO⟩ := ih
              refine ⟨⟨q1, ?_, hQ⟩, key es hs hO h0⟩
              cases hs with
              | nil => simp at hq1
              | cons a hs => rw [List.getLast?_cons_cons]; exact hq1
            | pan v' q' es hs => rw [hx] at ih h0; exact ⟨ih.1, key es hs ih.2 h0⟩
end
end Go.Cl
end
section
namespace Go.Cl
open Go.RowKit
inductive ZC where
  | skip
  | reg (l : List LOp)
  | draw (n : Nat) (als : List (Nat × Op)) (l : List DOp)
  | seq (a b : ZC)
  | cond (c : Operand) (a b : ZC)
  | block (id : Nat) (c : ZC)
  | loop (c : ZC)
  | exit (id : Nat)
  | ret
def alsOf : List Oper → Nat → List (Nat × Op)
  | [], _ => []
  | o :: l, i => bif isAllocOp o then (i, o.op) :: alsOf l (i + 1) else alsOf l (i + 1)
def zcode : Code → Option ZC
  | .skip => some .skip
  | .label _ => some .skip
  | .region _ ops draw => bif draw then (bif drawStat ops.toList (ancs ops.toList []) then (match dops ops.toList (ancs ops.toList []) ops.toList 0 with
      | some l => some (.draw ops.toList.length (alsOf ops.toList 0) l)
      | none => none) else none) else (match lops ops.toList [] ops.toList 0 with
      | some l => some (.reg l)
      | none => none)
  | .seq a b => match zcode a with
    | some x => match zcode b with
      | some y => some (.seq x y)
      | none => none
    | none => none
  | .cond c a b => match zcode a with
    | some x => match zcode b with
      | some y => some (.cond c x y)
      | none => none
    | none => none
  | .block id c => match zcode c with
    | some x => some (.block id x)
    | none => none
  | .loop c => match zcode c with
    | some x => some (.loop x)
    | none => none
  | .exit id => some (.exit id)
  | .ret => some .ret
  | _ => none
section
variable (C : Ctx) (mu : Bool) (ext : FuncId → List CV → Option CV) (call : XCall)
noncomputable def layZ (n0 : Nat) : List (Nat × Op) → Hp → Hp
  | [], p => p
  | x :: l, p => layZ n0 l (match allocObj C x.2 with
    | some ob => p.set (n0 + x.1) (some ob)
    | none => p)
theorem layZ_eq {n0 : Nat} : ∀ (l : List Oper) (i : Nat) (p : Hp), layA C n0 l i p = layZ C n0 (alsOf l i) p
  | [], _, _ => rfl
  | o :: l, i, p => by
    simp only [layA, alsOf, isAllocOp]
    cases hk : kindOf o.op with
    | alloc => simp only [cond_true, layZ]; exact layZ_eq l (i + 1) _
    | quiet => exact layZ_eq l (i + 1) _
    | eff => exact layZ_eq l (i + 1) _
noncomputable def W : ZC → Env → Hp → ZQ → Prop
  | .skip, ρ, p, Q => Q .normal ρ p
  | .reg l, ρ, p, Q => Wo C mu ext call l ρ p Q
  | .draw n als l, ρ, p, Q => Wd C mu ext call p.n ρ l [] [] ρ (layZ C p.n als (p.bump n)) Q
  | .seq a b, ρ, p, Q => W a ρ p (seqQ (W b) Q)
  | .cond x a b, ρ, p, Q => condW (ev ρ x) (W a) (W b) ρ p Q
  | .block id c, ρ, p, Q => W c ρ p (blkQ id Q)
  | .loop c, ρ, p, Q => ∃ n, Wn (W c) n ρ p Q
  | .exit i, ρ, p, Q => Q (.exit i) ρ p
  | .ret, ρ, p, Q => Q .ret ρ p
theorem evs_at : ∀ (l : List Oper) (es : List Ent) (hs : List Hp) (i e : Nat), hs.length = cntF (flags l es) 0 (fun _ => true) + 1 → e < cntF (flags l es) 0 (fun _ => true) →
    ∃ k q q', (flags l es)[k]? = some true ∧ cntF (flags l es) 0 (fun m => Nat.blt m k) = e ∧ hs[e]? = some q ∧ hs[e + 1]? = some q' ∧ (i + k, q, q') ∈ evs l es hs i
  | [], es, hs, i, e, _, h => by simp [flags, cntF] at h
  | o :: l, [], hs, i, e, _, h => by simp [flags, cntF] at h
  | o :: l, x :: es, hs, i, e, hl, h => by
    have hfl : flags (o :: l) (x :: es) = isEff o x :: flags l es := by unfold flags; rw [List.zipWith_cons_cons]
    have hcnt : cntF (flags (o :: l) (x :: es)) 0 (fun _ => true) = (bif isEff o x then 1 else 0) + cntF (flags l es) 0 (fun _ => true) := by
      rw [hfl]
      show (bif isEff o x && true then 1 else 0) + cntF (flags l es) 1 (fun _ => true) = _
      rw [Bool.and_true, cntF_shift (fun _ => true) (fun _ => true) _ 1 0 (fun _ => rfl)]
    rw [hcnt] at hl h
    cases hb : isEff o x with
    | false =>
      rw [hb, cond_false, Nat.zero_add] at hl h
      obtain ⟨k, q, q', h1, h2, h3, h4, h5⟩ := evs_at l es hs (i + 1) e hl h
      refine ⟨k + 1, q, q', by rw [hfl]; simpa using h1, by rw [hfl, hb, cntF_blt_succ, h2]; simp, h3, h4, ?_⟩
      simp only [evs, hb, cond_false]
      rw [show i + (k + 1) = i + 1 + k by omega]; exact h5
    | true =>
      rw [hb, cond_true] at hl h
      match hs, hl with
      | [], hl => simp at hl
      | [_], hl => simp at hl
      | a :: b :: hs', hl =>
        cases e with
        | zero =>
          refine ⟨0, a, b, by rw [hfl, hb]; rfl, cntF_blt_zero _ _, rfl, rfl, ?_⟩
          simp [evs, hb]
        | succ e =>
          obtain ⟨k, q, q', h1, h2, h3, h4, h5⟩ := evs_at l es (b :: hs') (i + 1) e (by simp at hl ⊢; omega) (by omega)
          refine ⟨k + 1, q, q', by rw [hfl]; simpa using h1, by rw [hfl, hb, cntF_blt_succ, h2, cond_true]; omega, by simpa using h3, by simpa using h4, ?_⟩
          simp only [evs, hb, cond_true]
          rw [show i + (k + 1) = i + 1 + k by omega]; exact List.mem_cons_of_mem _ h5
theorem blt_le {a b : Nat} (h : a ≤ b) (k : Nat) (hk : Nat.blt k a = true) : Nat.blt k b = true := blt_of (by have := of_blt hk; omega)
theorem cnt_blt_le (fl : List Bool) {a b : Nat} (h : a ≤ b) : cntF fl 0 (fun m => Nat.blt m a) ≤ cntF fl 0 (fun m => Nat.blt m b) := cntF_mono fl 0 fun k _ hp => by rw [Nat.zero_add] at hp ⊢; exact blt_le h k hp
theorem blt_self (k : Nat) : Nat.blt k k = false := by
  cases h : Nat.blt k k with
  | false => rfl
  | true => have := of_blt h; omega
theorem cnt_blt_succ (fl : List Bool) {k : Nat} (hk : fl[k]? = some true) : cntF fl 0 (fun m => Nat.blt m (k + 1)) = cntF fl 0 (fun m => Nat.blt m k) + 1 := by
  rw [← cntF_add (P := fun m => Nat.blt m k) (x := k) fl 0 (Nat.zero_le _) (blt_self k) (by simpa using hk)]
  refine cntF_congr fl 0 fun m _ => ?_
  rw [Nat.zero_add, bltn_dec, bltn_dec]
  have : Nat.beq m k = decide (m = k) := by
    cases hb : Nat.beq m k with
    | true => simp [Nat.eq_of_beq_eq_true hb]
    | false => simp [Nat.ne_of_beq_eq_false hb]
  rw [this]
  by_cases h1 : m < k <;> by_cases h2 : m = k <;> simp [h1, h2] <;> omega
theorem chkP_of {ops : List Oper} (hlow : lowB ops = true) (hch : chainB ops (ancs ops []) = true) {n0 : Nat} {env : XEnv} {p : Hp} {es : List Ent} {hs : List Hp} (hrun : RunOk C mu ext call ops n0 ops 0 env p es hs)
    (hO : Obl C mu ext call ops (ancs ops []) n0 [] [] ops 0 es hs) : ∀ j o x, ops[j]? = some o → es[j]? = some x → ChkP C mu ext call (ancs ops []) n0 (flags ops es) hs j o x := by
  intro j o x ho hx hw
  obtain ⟨q0, q0', r1, r2, E⟩ := hrun.ent j o x ho hx
  rw [Nat.zero_add] at E
  have hjl := (List.getElem?_eq_some_iff.1 ho).1
  -- what is looked at, at all heaps that it may meet
  have main : seen o.op = true → ∀ e q, hs[e]? = some q → (cntF (flags ops es) 0 fun j' => bef (ancs ops []) j j') ≤ e → e ≤ (cntF (flags ops es) 0 fun j' => !bef (ancs ops []) j' j) → still C mu ext call n0 ⟨[], j, x.env.at, o.op, x.v⟩ q := by
    intro hsn e q hq hlo hhi
    have hent := hO.ent j o x ho hx hw hsn
    rw [Nat.zero_add] at hent
    obtain ⟨_, hB, hF, hP⟩ := hent
    have helt := (List.getElem?_eq_some_iff.1 hq).1
    rw [hrun.hlen] at helt
    rcases Nat.lt_trichotomy e (cntF (flags ops es) 0 fun k => Nat.blt k j) with hlt | heq | hgt
    · have hle : cntF (flags ops es) 0 (fun k => Nat.blt k j) ≤ cntF (flags ops es) 0 (fun _ => true) := cntF_mono _ 0 fun _ _ _ => rfl
      obtain ⟨k, qa, qb, k1, k2, k3, k4, k5⟩ := evs_at ops es hs 0 e hrun.hlen (by omega)
      rw [Nat.zero_add] at k5
      rw [hq] at k3; cases k3
      obtain ⟨ok, xk, g1, g2, g3⟩ := flags_get k1
      have hkj : k < j := by
        rcases Nat.lt_or_ge k j with h | h
        · exact h
        · have := cnt_blt_le (flags ops es) h; omega
      refine hB _ k5 ?_
      unfold bkOf
      rw [hsn, cond_true, List.mem_filter, List.mem_range]
      refine ⟨hkj, ?_⟩
      simp only [g1, Bool.and_eq_true]
      refine ⟨by unfold isEffOp; rw [(isEff_kind g3).1], ?_⟩
      cases hb : bef (ancs ops []) j k with
      | false => rfl
      | true =>
        have : cntF (flags ops es) 0 (fun m => Nat.blt m (k + 1)) ≤ cntF (flags ops es) 0 fun j' => bef (ancs ops []) j j' := cntF_mono _ 0 fun m hm hp => by
          rw [Nat.zero_add] at hp ⊢
          obtain ⟨om, xm, m1, m2, m3⟩ := flags_get hm
          have hmk : m < k + 1 := of_blt hp
          rcases Nat.lt_or_ge m k with h | h
          · exact bef_trans hlow j k m hjl hb (chainB_spec hch m1 g1 h (isEff_kind m3).1 (isEff_kind g3).1)
          · have : m = k := by omega
            subst this; exact hb
        rw [cnt_blt_succ _ k1] at this
        omega
    · subst heq; exact hP q hq
    · obtain ⟨k, qa, qb, k1, k2, k3, k4, k5⟩ := evs_at ops es hs 0 (e - 1) hrun.hlen (by omega)
      rw [Nat.zero_add] at k5
      rw [show e - 1 + 1 = e by omega, hq] at k4; cases k4
      obtain ⟨ok, xk, g1, g2, g3⟩ := flags_get k1
      have hkl := (List.getElem?_eq_some_iff.1 g1).1
      have hkj : j < k := by
        rcases Nat.lt_trichotomy j k with h | h | h
        · exact h
        · subst h
          rw [ho] at g1; cases g1
          have := (isEff_kind g3).1
          unfold seen at hsn
          rw [this] at hsn; cases hsn
        · have h1 := cnt_blt_le (flags ops es) (show k + 1 ≤ j from h)
          rw [cnt_blt_succ _ k1] at h1
          omega
      refine hF _ k5 ?_
      unfold fwOf
      rw [hsn, cond_true, List.mem_filter, List.mem_range']
      refine ⟨⟨k - (j + 1), by omega, by omega⟩, ?_⟩
      simp only [g1, Bool.and_eq_true]
      refine ⟨by unfold isEffOp; rw [(isEff_kind g3).1], ?_⟩
      cases hb : bef (ancs ops []) k j with
      | false => rfl
      | true =>
        have : (cntF (flags ops es) 0 fun j' => !bef (ancs ops []) j' j) ≤ cntF (flags ops es) 0 (fun m => Nat.blt m k) := cntF_mono _ 0 fun m hm hp => by
          rw [Nat.zero_add] at hp ⊢
          obtain ⟨om, xm, m1, m2, m3⟩ := flags_get hm
          rcases Nat.lt_or_ge m k with h | h
          · exact blt_of h
          · exfalso
            have hml := (List.getElem?_eq_some_iff.1 m1).1
            have : bef (ancs ops []) m j = true := by
              rcases Nat.lt_or_ge k m with h' | h'
              · exact bef_trans hlow m k j hml (chainB_spec hch g1 m1 h' (isEff_kind g3).1 (isEff_kind m3).1) hb
              · have : m = k := by omega
                subst this; exact hb
            rw [this] at hp; cases hp
        omega
  cases hk : kindOf o.op with
  | eff => trivial
  | quiet =>
    simp only
    intro e q hq hlo hhi
    obtain ⟨q1, hE⟩ := E.quiet hw hk
    cases hh : heapy o.op with
    | false =>
      exact xop_still C hk hh hE q
    | true =>
      have := main (by unfold seen; rw [hk]; exact hh) e q hq hlo hhi
      unfold still at this
      rw [hk] at this
      rw [zop_eq]; exact this
  | alloc =>
    simp only
    intro e q hq hlo hhi
    have := main (by unfold seen; rw [hk]) e q hq hlo hhi
    unfold still at this
    rw [hk] at this
    exact this
def XGo (w0 : World) (B : Nat) (S : St) (n : Nat) (ds : List Deferred) (Q : ZQ) : Exit → Act → World → Prop := fun ex a w => ∃ (e : XE) (env : XEnv) (p : Hp), Q e env.at p ∧ XPost w0 B S n ds e env p ex a w
theorem xgo_mono {w0 : World} {B : Nat} {S S' : St} {n : Nat} {ds : List Deferred} (hS : S'.ext S) {Q : ZQ} {c : Code} {a : Act} {w : World} (h : c.wp C.P (XGo w0 B S n ds Q) a w) : c.wp C.P (XGo w0 B S' n ds Q) a w :=
  wp_mono h fun _ _ _ ⟨e, env, p, hQ, k⟩ => ⟨e, env, p, hQ, k.mono hS⟩
theorem W_sound (hext : ExtOk C ext) (hcall : CallOk C call) {w0 : World} {B : Nat} {ds : List Deferred} {n : Nat} : ∀ (c : Code) (m : ZC) (S : St) (env : XEnv) (p : Hp) (a : Act) (w : World) (Q : ZQ), zcode c = some m → okCode n c = true → XRel w0 B S p w → ER S env.at a.tmps → a.tmps.size = n → a.defers = ds →
    W C mu ext call m env.at p Q → c.wp C.P (XGo w0 B S n ds Q) a w := by
  intro c
  induction c with
  | skip =>
    intro m S env p a w Q hm _ r he hn hd h
    cases hm
    exact wp_skip ⟨.normal, env, p, h, S, St.ext.refl _, r, fun _ => he, hn, hd, trivial⟩
  | label l =>
    intro m S env p a w Q hm _ r he hn hd h
    cases hm
    exact wp_label ⟨.normal, env, p, h, S, St.ext.refl _, r, fun _ => he, hn, hd, trivial⟩
  | region id ops draw =>
    intro m S env p a w Q hm hok r he hn hd h
    cases draw with
    | false =>
      simp only [zcode, cond_false] at hm
      cases hl : lops ops.toList [] ops.toList 0 with
      | none => simp [hl] at hm
      | some l =>
        simp only [hl, Option.some.injEq] at hm
        subst hm
        obtain ⟨e, env', p', h1, h2⟩ := Wo_sound C mu ext call l _ p Q h env rfl
        rw [← xl_eq C _ _ _ _ _ hl] at h1
        refine wp_region ?_
        have := xops_sound C hext hcall (mu := mu) (Q' := XGo w0 B S n ds Q) ops.toList 0 S env p a w rfl (by simpa [okCode] using hok) r he hn hd e env' p' h1 (fun ex a w k => ⟨e, env', p', h2, k⟩)
        simpa [List.range_eq_range'] using this
    | true =>
      simp only [zcode, cond_true] at hm
      cases hs : drawStat ops.toList (ancs ops.toList []) with
      | false => simp [hs] at hm
      | true =>
        rw [hs, cond_true] at hm
        cases hl : dops ops.toList (ancs ops.toList []) ops.toList 0 with
        | none => simp [hl] at hm
        | some l =>
          simp only [hl, Option.some.injEq] at hm
          subst hm
          simp only [W] at h
          have hst := hs
          simp only [drawStat, Bool.and_eq_true] at hst
          obtain ⟨⟨hlow, hch⟩, hcf⟩ := hst
          have hg := Wd_xtr C mu ext call (ops := ops.toList) (A := ancs ops.toList []) (n0 := p.n) (ρ0 := env.at) (Q := Q) ops.toList 0 l [] [] env (layZ C p.n (alsOf ops.toList 0) (p.bump ops.toList.length)) rfl hl (by simp) h
          rw [← layZ_eq] at hg
          have hdp := draw_p C hext hcall (mu := mu) (id := id) (ops := ops) hs (by simpa [okCode] using hok) r he hn hd (t := xtr C mu ext call ops.toList (ancs ops.toList []) p.n ops.toList 0 env (layA C p.n ops.toList 0 ⟨p.n + ops.toList.length, p.t⟩)) rfl
          have hrk := xtr_ok C (mu := mu) (ext := ext) (call := call) (ops := ops.toList) (A := ancs ops.toList []) (n0 := p.n) ops.toList 0 env (layA C p.n ops.toList 0 ⟨p.n + ops.toList.length, p.t⟩)
          have hbump : p.bump ops.toList.length = ⟨p.n + ops.toList.length, p.t⟩ := rfl
          rw [hbump] at hg
          generalize xtr C mu ext call ops.toList (ancs ops.toList []) p.n ops.toList 0 env (layA C p.n ops.toList 0 ⟨p.n + ops.toList.length, p.t⟩) = t at hg hdp hrk
          unfold DrawP at hdp
          cases t with
          | stuck => exact hg.elim
          | done env' es hs' =>
            obtain ⟨⟨q, hq, hQ⟩, hO⟩ := hg
            exact wp_mono (hdp (chkP_of C mu ext call hlow hch hrk.1 hO) q hq) fun ex a w k => ⟨_, _, _, hQ, k⟩
          | pan v q es hs' =>
            obtain ⟨hQ, hO⟩ := hg
            exact wp_mono (hdp (chkP_of C mu ext call hlow hch hrk.1 hO)) fun ex a w k => ⟨_, _, _, hQ, k⟩
  | seq x y ihx ihy =>
    intro m S env p a w Q hm hok r he hn hd h
    simp only [okCode, Bool.and_eq_true] at hok
    simp only [zcode] at hm
    cases hx : zcode x with
    | none => simp [hx] at hm
    | some mx =>
    cases hy : zcode y with
    | none => simp [hx, hy] at hm
    | some my =>
    simp only [hx, hy, Option.some.injEq] at hm
    subst hm
    simp only [W] at h
    refine wp_seq (wp_mono (ihx mx S env p a w _ hx hok.1 r he hn hd h) ?_)
    rintro ex a' w' ⟨e1, env1, p1, hQ, S', k1, k2, k3, k4, k5, k6⟩
    cases e1 with
    | normal =>
      cases ex <;> simp only [XE.ex, ExitR] at k6
      exact xgo_mono C k1 (ihy my S' env1 p1 a' w' Q hy hok.2 k2 (k3 (by simp)) k4 k5 hQ)
    | exit id =>
      cases ex <;> simp only [XE.ex, ExitR] at k6
      exact ⟨.exit id, env1, p1, hQ, S', k1, k2, k3, k4, k5, k6⟩
    | ret =>
      cases ex <;> simp only [XE.ex, ExitR] at k6
      exact ⟨.ret, env1, p1, hQ, S', k1, k2, k3, k4, k5, trivial⟩
    | pan v =>
      cases ex <;> simp only [XE.ex, ExitR] at k6
      exact ⟨.pan v, env1, p1, hQ, S', k1, k2, k3, k4, k5, k6⟩
    | panU v =>
      cases ex <;> simp only [XE.ex, ExitR] at k6
      exact ⟨.panU v, env1, p1, hQ, S', k1, k2, k3, k4, k5, k6⟩
  | cond c x y ihx ihy =>
    intro m S env p a w Q hm hok r he hn hd h
    simp only [okCode, Bool.and_eq_true] at hok
    simp only [zcode] at hm
    cases hx : zcode x with
    | none => simp [hx] at hm
    | some mx =>
    cases hy : zcode y with
    | none => simp [hx, hy] at hm
    | some my =>
    simp only [hx, hy, Option.some.injEq] at hm
    subst hm
    simp only [W, condW] at h
    split at h
    · rename_i t ht
      have hv := he.eval (x := c) (a := a) (by rw [hn]; exact hok.1.1)
      rw [ht] at hv
      refine wp_cond_split (VR_sc.1 hv).1 (fun ht => ?_) (fun ht => ?_)
      · subst ht; exact ihx mx S env p a w Q hx hok.1.2 r he hn hd h
      · subst ht; exact ihy my S env p a w Q hy hok.2 r he hn hd h
    · exact h.elim
  | block id c ih =>
    intro m S env p a w Q hm hok r he hn hd h
    simp only [zcode] at hm
    cases hx : zcode c with
    | none => simp [hx] at hm
    | some mx =>
    simp only [hx, Option.some.injEq] at hm
    subst hm
    simp only [W] at h
    refine wp_block (wp_mono (ih mx S env p a w _ hx hok r he hn hd h) ?_)
    rintro ex a' w' ⟨e1, env1, p1, hQ, S', k1, k2, k3, k4, k5, k6⟩
    cases e1 with
    | exit j =>
      cases ex <;> simp only [XE.ex, ExitR] at k6
      subst k6
      simp only [blkQ] at hQ
      simp only [Exit.inBlock]
      cases hb : Nat.beq j id with
      | true =>
        rw [hb, cond_true] at hQ
        rw [if_pos (Nat.eq_of_beq_eq_true hb)]
        exact ⟨.normal, env1, p1, hQ, S', k1, k2, fun _ => k3 (by simp), k4, k5, trivial⟩
      | false =>
        rw [hb, cond_false] at hQ
        rw [if_neg (Nat.ne_of_beq_eq_false hb)]
        exact ⟨.exit j, env1, p1, hQ, S', k1, k2, k3, k4, k5, rfl⟩
    | normal =>
      cases ex <;> simp only [XE.ex, ExitR] at k6
      exact ⟨.normal, env1, p1, hQ, S', k1, k2, k3, k4, k5, trivial⟩
    | ret =>
      cases ex <;> simp only [XE.ex, ExitR] at k6
      exact ⟨.ret, env1, p1, hQ, S', k1, k2, k3, k4, k5, trivial⟩
    | pan v =>
      cases ex <;> simp only [XE.ex, ExitR] at k6
      exact ⟨.pan v, env1, p1, hQ, S', k1, k2, k3, k4, k5, k6⟩
    | panU v =>
      cases ex <;> simp only [XE.ex, ExitR] at k6
      exact ⟨.panU v, env1, p1, hQ, S', k1, k2, k3, k4, k5, k6⟩
  | loop c ih =>
    intro m S env p a w Q hm hok r he hn hd h
    simp only [zcode] at hm
    cases hx : zcode c with
    | none => simp [hx] at hm
    | some mx =>
    simp only [hx, Option.some.injEq] at hm
    subst hm
    simp only [W] at h
    obtain ⟨f, h⟩ := h
    have key : ∀ (f : Nat) (S : St) (env : XEnv) (p : Hp) (a : Act) (w : World), XRel w0 B S p w → ER S env.at a.tmps → a.tmps.size = n → a.defers = ds → Wn (W C mu ext call mx) f env.at p Q →
        ∀ b k cs, ∃ ex a' w', XGo w0 B S n ds Q ex a' w' ∧ Arrives C.P (lone (b.at a (.code c :: .inLoop c :: k)) cs w) b k cs ex a' w' := by
      intro f
      induction f with
      | zero => intro S env p a w _ _ _ _ h; exact h.elim
      | succ f ihf =>
        intro S env p a w r he hn hd h b k cs
        simp only [Wn] at h
        obtain ⟨ex, a1, w1, ⟨e1, env1, p1, hQ, S', k1, k2, k3, k4, k5, k6⟩, harr⟩ := ih mx S env p a w _ hx hok r he hn hd h b (.inLoop c :: k) cs
        cases e1 with
        | normal =>
          cases ex <;> simp only [XE.ex, ExitR] at k6
          obtain ⟨e2, a2, w2, ⟨e3, env3, p3, hQ3, hq2⟩, harr2⟩ := ihf S' env1 p1 a1 w1 k2 (k3 (by simp)) k4 k5 hQ b k cs
          exact ⟨e2, a2, w2, ⟨e3, env3, p3, hQ3, hq2.mono k1⟩, .of_steps (Steps.trans harr (.one step_inLoop)) harr2⟩
        | exit id =>
          cases ex <;> simp only [XE.ex, ExitR] at k6
          exact ⟨.exit _, a1, w1, ⟨.exit id, env1, p1, hQ, S', k1, k2, k3, k4, k5, k6⟩, .pass (x := .inLoop c) rfl (fun _ _ => .inl (by simp)) harr⟩
        | ret =>
          cases ex <;> simp only [XE.ex, ExitR] at k6
          exact ⟨.ret, a1, w1, ⟨.ret, env1, p1, hQ, S', k1, k2, k3, k4, k5, trivial⟩, .pass (x := .inLoop c) rfl (fun _ _ => .inl (by simp)) harr⟩
        | pan v =>
          cases ex <;> simp only [XE.ex, ExitR] at k6
          exact ⟨.panic _, a1, w1, ⟨.pan v, env1, p1, hQ, S', k1, k2, k3, k4, k5, k6⟩, .pass (x := .inLoop c) rfl (fun _ _ => .inl (by simp)) harr⟩
        | panU v =>
          cases ex <;> simp only [XE.ex, ExitR] at k6
          exact ⟨.panic _, a1, w1, ⟨.panU v, env1, p1, hQ, S', k1, k2, k3, k4, k5, k6⟩, .pass (x := .inLoop c) rfl (fun _ _ => .inl (by simp)) harr⟩
    intro b k cs
    obtain ⟨ex, a', w', hq, harr⟩ := key f S env p a w r he hn hd h b k cs
    exact ⟨ex, a', w', hq, .of_steps (.one step_loop) harr⟩
  | exit id =>
    intro m S env p a w Q hm _ r he hn hd h
    cases hm
    exact wp_exit ⟨.exit id, env, p, h, S, St.ext.refl _, r, fun _ => he, hn, hd, rfl⟩
  | ret =>
    intro m S env p a w Q hm _ r he hn hd h
    cases hm
    exact wp_ret ⟨.ret, env, p, h, S, St.ext.refl _, r, fun _ => he, hn, hd, trivial⟩
  | rangeFunc f ps x y _ _ => intro m S env p a w Q hm; simp [zcode] at hm
  | scope c _ => intro m S env p a w Q hm; simp [zcode] at hm
  | goto l => intro m S env p a w Q hm; simp [zcode] at hm
  | refuse why => intro m S env p a w Q hm; simp [zcode] at hm
theorem ans_walk {f : FuncId} {x : XF} (hf : XFok C f x) (hext : ExtOk C ext) (hT : CallOk C call) {m : ZC} (hm : zcode x.code = some m) {args : List CV} {p : Hp} {r : XRes} (hl : args.length ≤ x.n)
    (h : Fine args p → W C mu ext call m (argE args) p (endQ C x.rs fun r' => ShrR p r' r)) : AnsAt C f args p r := by
  obtain ⟨fn, h1, h2, h3, h4, h5, h6, h7⟩ := hf
  refine ⟨⟨fn, h1, by rw [h2]; rfl, h5⟩, fun w0 B S w vals r0 hV => ?_⟩
  have hW := h (fine_of r0 hV)
  obtain ⟨hvl, _⟩ := VRs_get _ _ hV
  have hsz : (vals.toArray ++ Array.replicate (x.n - vals.toArray.size) undef).size = x.n := by simp; omega
  have he : ER S (putAll 0 args .e).at (vals.toArray ++ Array.replicate (x.n - vals.toArray.size) undef) := by rw [putAll_env]; exact ER_envOf hV _
  have hw := W_sound C mu ext call hext hT (ds := []) x.code m S (putAll 0 args .e) p ⟨vals.toArray ++ Array.replicate (x.n - vals.toArray.size) undef, []⟩ w (endQ C x.rs fun r' => ShrR p r' r) hm h6 r0 he hsz rfl (by rw [argE_eq]; exact hW)
  have fin : ∀ (env' : XEnv) (p' : Hp), finW (zres C env'.at p' x.rs) p' (fun r' => ShrR p r' r) → ∀ (a : Act) (w' : World) (S' : St), S.ext S' → XRel w0 B S' p' w' → ER S' env'.at a.tmps → a.tmps.size = x.n → a.defers = [] → a.defers = [] ∧ ∃ v, (results fn a.tmps).run C.P w' = .ok v w' ∧ ∃ u q, r = .ret u q ∧ ∃ S' y, S.ext S' ∧ XRel w0 B S' q w' ∧ VR S' u y ∧ Ending.returned v = .returned y := by
    intro env' p' hfin a w' S' k1 k2 k3 k4 k5
    cases hz : zres C env'.at p' x.rs with
    | none => rw [hz] at hfin; exact hfin.elim
    | some l =>
      rw [hz] at hfin
      cases r with
      | stuck => exact hfin.elim
      | pan v q => exact hfin.elim
      | ret u q =>
        obtain ⟨σ, hs, hv⟩ := hfin
        obtain ⟨S'', g1, g2, g3⟩ := XRel.shr r0 k1 k2 hs
        rw [← zres_eq] at hz
        obtain ⟨vs, hvs, hV'⟩ := results_sound C k2.r k3 x.rs l (by rw [k4]; exact h7) (xres_spec C k2.good _ _ hz)
        exact ⟨k5, _, results_run (by rw [h3]; exact hvs), u, q, rfl, S'', _, g1, g2, VR.weak g3 hv (VR_pack hV'), rfl⟩
  have pan : ∀ (v : CV) (p' : Hp), ShrR p (.pan v p') r → ∀ (w' : World) (S' : St) (y : Value), S.ext S' → XRel w0 B S' p' w' → VR S' v y → ∃ u q, r = .pan u q ∧ ∃ S' x, S.ext S' ∧ XRel w0 B S' q w' ∧ VR S' u x ∧ x = y := by
    intro v p' hs w' S' y k1 k2 k3
    cases r with
    | stuck => exact hs.elim
    | ret u q => exact hs.elim
    | pan u q =>
      obtain ⟨σ, hs, hv⟩ := hs
      obtain ⟨S'', g1, g2, g3⟩ := XRel.shr r0 k1 k2 hs
      exact ⟨u, q, rfl, S'', y, g1, g2, VR.weak g3 hv k3, rfl⟩
  cases r with
  | stuck => trivial
  | ret u q =>
    refine calls_of_wp h1 h2 ?_
    rw [h4]
    refine wp_mono hw ?_
    rintro ex a w' ⟨e, env', p', hQ, S', k1, k2, k3, k4, k5, k6⟩
    cases e with
    | normal =>
      cases ex <;> simp only [XE.ex, ExitR] at k6
      obtain ⟨a1, v, a2, u', q', a3, a4⟩ := fin env' p' hQ a w' S' k1 k2 (k3 (by simp)) k4 k5
      cases a3
      exact ⟨a1, v, a2, a4⟩
    | ret =>
      cases ex <;> simp only [XE.ex, ExitR] at k6
      obtain ⟨a1, v, a2, u', q', a3, a4⟩ := fin env' p' hQ a w' S' k1 k2 (k3 (by simp)) k4 k5
      cases a3
      exact ⟨a1, v, a2, a4⟩
    | pan v => exact hQ.elim
    | panU v => exact hQ.elim
    | exit i => exact hQ.elim
  | pan u q =>
    refine calls_of_wp h1 h2 ?_
    rw [h4]
    refine wp_mono hw ?_
    rintro ex a w' ⟨e, env', p', hQ, S', k1, k2, k3, k4, k5, k6⟩
    have nofin : ¬ finW (zres C env'.at p' x.rs) p' (fun r' => ShrR p r' (.pan u q)) := by
      intro h
      unfold finW at h
      split at h
      · exact h
      · exact h
    cases e with
    | normal => exact (nofin hQ).elim
    | ret => exact (nofin hQ).elim
    | pan v =>
      cases ex <;> simp only [XE.ex, ExitR] at k6
      obtain ⟨y, rfl, hy⟩ := k6
      obtain ⟨u', q', a3, S'', x', g1, g2, g3, rfl⟩ := pan v p' hQ w' S' y k1 k2 hy
      cases a3
      exact ⟨k5, S'', _, g1, g2, g3, rfl⟩
    | panU v =>
      cases ex <;> simp only [XE.ex, ExitR] at k6
      obtain ⟨y, rfl, hy⟩ := k6
      obtain ⟨u', q', a3, S'', x', g1, g2, g3, rfl⟩ := pan v p' hQ w' S' y k1 k2 hy
      cases a3
      exact ⟨k5, S'', _, g1, g2, g3, rfl⟩
    | exit i => exact hQ.elim
end
end Go.Cl
end
section
namespace Go.Cl
open Go.RowKit
theorem nd {α : Sort _} {a b : α} (h : a = b) : a = b := h
abbrev I (n : Int) : CV := .sc (.int .i64 n)
abbrev U (n : Int) : CV := .sc (.int .u64 n)
abbrev Bo (b : Bool) : CV := .sc (.bool b)
def nth {α : Type} [Inhabited α] (l : List α) (k : Nat) : α := (l[k]?).getD default
theorem nth_lt {α : Type} [Inhabited α] {l : List α} {k : Nat} (h : k < l.length) : l[k]? = some (nth l k) := by simp [nth, h]
theorem nth_get {α : Type} [Inhabited α] {l : List α} {k : Nat} (h : k < l.length) : nth l k = l[k] := by simp [nth, h]
theorem nth_ext {α : Type} [Inhabited α] {l m : List α} (h : l.length = m.length) (e : ∀ j, j < l.length → nth l j = nth m j) : l = m := by
  apply List.ext_getElem? 
  intro j
  by_cases hj : j < l.length
  · rw [nth_lt hj, nth_lt (by omega), e j hj]
  · rw [List.getElem?_eq_none (by omega), List.getElem?_eq_none (by omega)]
structure Lst (α : Type) where
  tl : Tail
  l : List α
  ok : tl = .nil → l = []
instance {α : Type} : Inhabited (Lst α) := ⟨⟨.nil, [], fun _ => rfl⟩⟩
def Lst.cv {α : Type} (f : α → CV) (s : Lst α) : CV := .lst s.tl (s.l.map f)
section values
variable {α : Type}
set_option linter.constructorNameAsVariable false
theorem at_nil (v : CV) : v.at [] = some v := by cases v <;> rfl
theorem set_nil (v x : CV) : v.set [] x = x := by cases v <;> rfl
theorem arr_at [Inhabited α] (f : α → CV) {l : List α} {k : Nat} (h : k < l.length) (q : List Nat) : CV.at (.agg (l.map f)) (k :: q) = (f (nth l k)).at q := by
  simp [CV.at, nth_get h, h]
theorem arr_set [Inhabited α] (f : α → CV) {l : List α} {k : Nat} (h : k < l.length) (q : List Nat) (v : CV) : CV.set (.agg (l.map f)) (k :: q) v = .agg ((l.map f).set k ((f (nth l k)).set q v)) := by
  simp [CV.set, nth_get h, h]
theorem shapes_map {f : α → CV} {s : Shape} (h : ∀ x, (f x).shape = s) : ∀ l : List α, CV.shapes (l.map f) = List.replicate l.length s
  | [] => rfl
  | x :: l => by simp [CV.shapes, h, shapes_map h l, List.replicate_succ]
theorem Lst.shape (f : α → CV) (s : Lst α) : (s.cv f).shape = .s := nd rfl
theorem Lst.has (f : α → CV) (h : ∀ x j, ¬ (f x).has j) (s : Lst α) (j : Nat) : (s.cv f).has j ↔ s.tl = .own j := by
  simp only [Lst.cv, CV.has, CV.hasL_iff]
  constructor
  · rintro (h1 | ⟨v, hv, hj⟩)
    · exact h1
    · obtain ⟨x, _, rfl⟩ := List.mem_map.1 hv
      exact (h x j hj).elim
  · exact .inl
theorem map_inj {f : α → CV} (h : ∀ x y, f x = f y → x = y) : ∀ {l m : List α}, l.map f = m.map f → l = m
  | [], [], _ => rfl
  | [], _ :: _, e => by simp at e
  | _ :: _, [], e => by simp at e
  | x :: l, y :: m, e => by
    simp only [List.map_cons, List.cons.injEq] at e
    rw [h x y e.1, map_inj h e.2]
theorem Lst.inj {f : α → CV} (h : ∀ x y, f x = f y → x = y) {s t : Lst α} (e : s.cv f = t.cv f) : s = t := by
  obtain ⟨tl, l, o⟩ := s
  obtain ⟨ul, m, o'⟩ := t
  simp only [Lst.cv, CV.lst.injEq] at e
  obtain ⟨rfl, e⟩ := e
  have := map_inj h e
  subst this
  rfl
theorem Lst.injF {f : α → CV} (h : ∀ x y, f x = f y → x = y) (s t : Lst α) (e : s.cv f = t.cv f) : s = t := Lst.inj h e
theorem hasL_map {f : α → CV} (h : ∀ x j, ¬ (f x).has j) (l : List α) (j : Nat) : ¬ CV.hasL j (l.map f) := by
  rw [CV.hasL_iff]
  rintro ⟨v, hv, hj⟩
  obtain ⟨x, _, rfl⟩ := List.mem_map.1 hv
  exact h x j hj
theorem I_has (n : Int) (j : Nat) : ¬ (I n).has j := fun h => by simp [CV.has] at h
theorem I_inj (a b : Int) (h : I a = I b) : a = b := by injection h with h; injection h
theorem U_inj (a b : Int) (h : U a = U b) : a = b := by injection h with h; injection h
theorem Bo_has (n : Bool) (j : Nat) : ¬ (Bo n).has j := fun h => by simp [CV.has] at h
end values
section eqs
theorem cond_pos {α : Type} {P : Prop} [Decidable P] (h : P) (a b : α) : cond (decide P) a b = a := by simp [h]
theorem cond_neg {α : Type} {P : Prop} [Decidable P] (h : ¬ P) (a b : α) : cond (decide P) a b = b := by simp [h]
theorem inR_dec (n : Int) (k : Nat) : inR n k = decide (0 ≤ n ∧ n < k) := by
  cases h : inR n k with
  | true => obtain ⟨h1, h2, _⟩ := inR_spec h; simp [h1, h2]
  | false =>
    unfold inR at h
    cases n with
    | ofNat m =>
      simp only [bltn_dec] at h
      simp at h ⊢; omega
    | negSucc m =>
      have : ¬ (0 ≤ Int.negSucc m) := by omega
      simp [this]
theorem Hp.get_set_self (p : Hp) (i : Nat) (o : Option XObj) : (p.set i o).t.get i = o := by rw [Hp.get_set, if_pos rfl]
theorem Hp.get_set_ne (p : Hp) (i : Nat) (o : Option XObj) {j : Nat} (h : j ≠ i) : (p.set i o).t.get j = p.t.get j := by rw [Hp.get_set, if_neg h]
theorem Hp.get_new_self (p : Hp) (o : XObj) : (p.new o).t.get p.n = some o := by rw [Hp.get_new, if_pos rfl]
theorem Hp.get_new_ne (p : Hp) (o : XObj) {j : Nat} (h : j ≠ p.n) : (p.new o).t.get j = p.t.get j := by rw [Hp.get_new, if_neg h]
theorem Hp.znew_n (p : Hp) (o : XObj) : (p.new o).n = p.n + 1 := nd rfl
theorem Hp.zset_n (p : Hp) (i : Nat) (o : Option XObj) : (p.set i o).n = p.n := nd rfl
theorem Hp.get_new_eq (p : Hp) (o : XObj) {j : Nat} (h : j = p.n) : (p.new o).t.get j = some o := by rw [Hp.get_new, if_pos h]
theorem Hp.bump_get (p : Hp) (n j : Nat) : (p.bump n).t.get j = p.t.get j := nd rfl
theorem Hp.bump_n (p : Hp) (n : Nat) : (p.bump n).n = p.n + n := nd rfl
theorem ofConst_str (b : ByteArray) : ofConst (.string b) = .sc (.string b) := nd rfl
theorem ofConst_nilslice : ofConst (.slice none 0 0) = .lst .nil [] := nd rfl
theorem ofConst_nilptr : ofConst (.pointer none) = .sc (.pointer none) := nd rfl
theorem ofConst_nilfunc : ofConst .nilFunc = .sc .nilFunc := nd rfl
theorem ofConst_nilif : ofConst .nilIface = .sc .nilIface := nd rfl
theorem ofConst_nilmap : ofConst (.map none) = .sc (.map none) := nd rfl
theorem put_at (ρ : Env) (d : Tmp) (v : CV) (t : Nat) : put ρ (some d) v t = if t = d then v else ρ t := nd rfl
theorem zev_tmp (ρ : Env) (t : Tmp) : ev ρ (.tmp t) = ρ t := nd rfl
theorem zev_const (ρ : Env) (v : Value) : ev ρ (.const v) = ofConst v := nd rfl
theorem zev_func (ρ : Env) (f : FuncId) : ev ρ (.func f) = .fn f [] [] := nd rfl
theorem zofConst_int (k : IntKind) (n : Int) : ofConst (.int k n) = .sc (.int k n) := nd rfl
theorem zofConst_bool (b : Bool) : ofConst (.bool b) = .sc (.bool b) := nd rfl
theorem zofConst_float (k : FloatKind) (b : Nat) : ofConst (.float k b) = .sc (.float k b) := nd rfl
theorem zput_none (ρ : Env) (v : CV) : put ρ none v = ρ := nd rfl
theorem argE_0 (a : CV) (l : List CV) : argE (a :: l) 0 = a := nd rfl
theorem argE_s (a : CV) (l : List CV) (t : Nat) : argE (a :: l) (t + 1) = argE l t := by simp [argE]
theorem seqQ_n (k : Env → Hp → ZQ → Prop) (Q : ZQ) (ρ : Env) (p : Hp) : seqQ k Q .normal ρ p = k ρ p Q := nd rfl
theorem seqQ_e (k : Env → Hp → ZQ → Prop) (Q : ZQ) (i : Nat) (ρ : Env) (p : Hp) : seqQ k Q (.exit i) ρ p = Q (.exit i) ρ p := nd rfl
theorem seqQ_r (k : Env → Hp → ZQ → Prop) (Q : ZQ) (ρ : Env) (p : Hp) : seqQ k Q .ret ρ p = Q .ret ρ p := nd rfl
theorem seqQ_p (k : Env → Hp → ZQ → Prop) (Q : ZQ) (v : CV) (ρ : Env) (p : Hp) : seqQ k Q (.pan v) ρ p = Q (.pan v) ρ p := nd rfl
theorem seqQ_u (k : Env → Hp → ZQ → Prop) (Q : ZQ) (v : CV) (ρ : Env) (p : Hp) : seqQ k Q (.panU v) ρ p = Q (.panU v) ρ p := nd rfl
theorem blkQ_n (id : Nat) (Q : ZQ) (ρ : Env) (p : Hp) : blkQ id Q .normal ρ p = Q .normal ρ p := nd rfl
theorem blkQ_e (id : Nat) (Q : ZQ) (i : Nat) (ρ : Env) (p : Hp) : blkQ id Q (.exit i) ρ p = if i = id then Q .normal ρ p else Q (.exit i) ρ p := by
  show (bif Nat.beq i id then Q .normal ρ p else Q (.exit i) ρ p) = _
  cases h : Nat.beq i id with
  | true => rw [if_pos (Nat.eq_of_beq_eq_true h)]; rfl
  | false => rw [if_neg (Nat.ne_of_beq_eq_false h)]; rfl
theorem blkQ_r (id : Nat) (Q : ZQ) (ρ : Env) (p : Hp) : blkQ id Q .ret ρ p = Q .ret ρ p := nd rfl
theorem blkQ_p (id : Nat) (Q : ZQ) (v : CV) (ρ : Env) (p : Hp) : blkQ id Q (.pan v) ρ p = Q (.pan v) ρ p := nd rfl
theorem blkQ_u (id : Nat) (Q : ZQ) (v : CV) (ρ : Env) (p : Hp) : blkQ id Q (.panU v) ρ p = Q (.panU v) ρ p := nd rfl
theorem condW_t (a b : Env → Hp → ZQ → Prop) (ρ : Env) (p : Hp) (Q : ZQ) : condW (.sc (.bool true)) a b ρ p Q = a ρ p Q := nd rfl
theorem condW_f (a b : Env → Hp → ZQ → Prop) (ρ : Env) (p : Hp) (Q : ZQ) : condW (.sc (.bool false)) a b ρ p Q = b ρ p Q := nd rfl
theorem condW_not (t : Bool) (a b : Env → Hp → ZQ → Prop) (ρ : Env) (p : Hp) (Q : ZQ) : condW (.sc (.bool (!t))) a b ρ p Q = condW (.sc (.bool t)) b a ρ p Q := by cases t <;> rfl
theorem condW_b {t : Bool} {a b : Env → Hp → ZQ → Prop} {ρ : Env} {p : Hp} {Q : ZQ} (h1 : t = true → a ρ p Q) (h2 : t = false → b ρ p Q) : condW (.sc (.bool t)) a b ρ p Q := by
  cases t with
  | true => exact h1 rfl
  | false => exact h2 rfl
end eqs
section steps
variable (C : Ctx) (mu : Bool) (ext : FuncId → List CV → Option CV) (call : XCall)
def bindO (r : XRes) (d : Option Tmp) (k : Env → Hp → ZQ → Prop) (ρ : Env) (Q : ZQ) : Prop :=
  match r with
  | .ret v q => k (put ρ d v) q Q
  | .pan v q => Q (.pan v) ρ q
  | .stuck => False
def wantO (w : Option Bool) (r : XRes) (d : Option Tmp) (k : Env → Hp → ZQ → Prop) (ρ : Env) (p : Hp) (Q : ZQ) : Prop :=
  match w with
  | some true => bindO r d k ρ Q
  | some false => k (put ρ d (.tup [])) p Q
  | none => False
theorem Wo_nil (ρ : Env) (p : Hp) (Q : ZQ) : Wo C mu ext call [] ρ p Q = Q .normal ρ p := nd rfl
theorem Wo_on (d : Option Tmp) (o : Op) (f : Bool) (l : List LOp) (ρ : Env) (p : Hp) (Q : ZQ) : Wo C mu ext call (⟨d, o, none, f⟩ :: l) ρ p Q = bindO (zopm C mu ext call ρ p o) d (Wo C mu ext call l) ρ Q := nd rfl
theorem Wo_gd (d : Option Tmp) (o : Op) (t : Tmp) (w : Bool) (f : Bool) (l : List LOp) (ρ : Env) (p : Hp) (Q : ZQ) : Wo C mu ext call (⟨d, o, some (t, w), f⟩ :: l) ρ p Q = wantO (zwanted ρ (some (t, w))) (zopm C mu ext call ρ p o) d (Wo C mu ext call l) ρ p Q := by
  simp only [Wo, wantO, bindO]
  cases zwanted ρ (some (t, w)) with
  | none => rfl
  | some b => cases b <;> rfl
theorem bindO_ret (v : CV) (q : Hp) (d : Option Tmp) (k : Env → Hp → ZQ → Prop) (ρ : Env) (Q : ZQ) : bindO (.ret v q) d k ρ Q = k (put ρ d v) q Q := nd rfl
theorem bindO_ite {c : Prop} [Decidable c] (a b : XRes) (d : Option Tmp) (k : Env → Hp → ZQ → Prop) (ρ : Env) (Q : ZQ) : bindO (if c then a else b) d k ρ Q ↔ ((c → bindO a d k ρ Q) ∧ (¬ c → bindO b d k ρ Q)) := by
  by_cases h : c <;> simp [h]
theorem bindO_i {c : Prop} [Decidable c] {a b : XRes} {d : Option Tmp} {k : Env → Hp → ZQ → Prop} {ρ : Env} {Q : ZQ} (h1 : c → bindO a d k ρ Q) (h2 : ¬ c → bindO b d k ρ Q) : bindO (if c then a else b) d k ρ Q := (bindO_ite a b d k ρ Q).2 ⟨h1, h2⟩
theorem wantO_s {b : Bool} {r : XRes} {d : Option Tmp} {k : Env → Hp → ZQ → Prop} {ρ : Env} {p : Hp} {Q : ZQ} (h1 : b = true → bindO r d k ρ Q) (h2 : b = false → k (put ρ d (.tup [])) p Q) : wantO (some b) r d k ρ p Q := by
  cases b with
  | true => exact h1 rfl
  | false => exact h2 rfl
theorem bindO_pan (v : CV) (q : Hp) (d : Option Tmp) (k : Env → Hp → ZQ → Prop) (ρ : Env) (Q : ZQ) : bindO (.pan v q) d k ρ Q = Q (.pan v) ρ q := nd rfl
theorem wantO_t (r : XRes) (d : Option Tmp) (k : Env → Hp → ZQ → Prop) (ρ : Env) (p : Hp) (Q : ZQ) : wantO (some true) r d k ρ p Q = bindO r d k ρ Q := nd rfl
theorem wantO_f (r : XRes) (d : Option Tmp) (k : Env → Hp → ZQ → Prop) (ρ : Env) (p : Hp) (Q : ZQ) : wantO (some false) r d k ρ p Q = k (put ρ d (.tup [])) p Q := nd rfl
theorem zwanted_b (ρ : Env) (t : Tmp) (w : Bool) : zwanted ρ (some (t, w)) = match ρ t with
    | .sc (.bool b) => some (b == w)
    | .tup [] => some false
    | _ => none := rfl
noncomputable def stepD (k : Kind) (n0 : Nat) (ρ0 : Env) (o : DOp) (l : List DOp) (hist : List (Nat × Hp)) (wt : List Watch) (ρ : Env) (p : Hp) (Q : ZQ) : Prop :=
  match k with
  | .quiet => match zop C mu ext call ρ p o.op with
    | .ret v _ => histP C mu ext call n0 ⟨o.fw, o.ix, ρ, o.op, v⟩ o.bk hist ∧ Wd C mu ext call n0 ρ0 l hist (pushW ⟨o.fw, o.ix, ρ, o.op, v⟩ wt) (put ρ o.dst v) p Q
    | _ => False
  | .alloc => still C mu ext call n0 ⟨o.fw, o.ix, ρ, o.op, allocV o.op (n0 + o.ix)⟩ p ∧ histP C mu ext call n0 ⟨o.fw, o.ix, ρ, o.op, allocV o.op (n0 + o.ix)⟩ o.bk hist ∧ Wd C mu ext call n0 ρ0 l hist (pushW ⟨o.fw, o.ix, ρ, o.op, allocV o.op (n0 + o.ix)⟩ wt) (put ρ o.dst (allocV o.op (n0 + o.ix))) p Q
  | .eff => match zop C mu ext call ρ p o.op with
    | .ret v q => (∀ w ∈ wt, o.ix ∈ w.fw → still C mu ext call n0 w q) ∧ Wd C mu ext call n0 ρ0 l (pushH o.keep (o.ix, p) hist) wt (put ρ o.dst v) q Q
    | .pan v q => o.fin = true ∧ Q (.panU v) ρ0 q
    | .stuck => False
noncomputable def bindQ (r : XRes) (n0 : Nat) (ρ0 : Env) (o : DOp) (l : List DOp) (hist : List (Nat × Hp)) (wt : List Watch) (ρ : Env) (p : Hp) (Q : ZQ) : Prop :=
  match r with
  | .ret v _ => histP C mu ext call n0 ⟨o.fw, o.ix, ρ, o.op, v⟩ o.bk hist ∧ Wd C mu ext call n0 ρ0 l hist (pushW ⟨o.fw, o.ix, ρ, o.op, v⟩ wt) (put ρ o.dst v) p Q
  | _ => False
noncomputable def bindE (r : XRes) (n0 : Nat) (ρ0 : Env) (o : DOp) (l : List DOp) (hist : List (Nat × Hp)) (wt : List Watch) (ρ : Env) (p : Hp) (Q : ZQ) : Prop :=
  match r with
  | .ret v q => (∀ w ∈ wt, o.ix ∈ w.fw → still C mu ext call n0 w q) ∧ Wd C mu ext call n0 ρ0 l (pushH o.keep (o.ix, p) hist) wt (put ρ o.dst v) q Q
  | .pan v q => o.fin = true ∧ Q (.panU v) ρ0 q
  | .stuck => False
theorem Wd_nil (n0 : Nat) (ρ0 : Env) (hist : List (Nat × Hp)) (wt : List Watch) (ρ : Env) (p : Hp) (Q : ZQ) : Wd C mu ext call n0 ρ0 [] hist wt ρ p Q = Q .normal ρ p := nd rfl
theorem Wd_on (n0 : Nat) (ρ0 : Env) (ix : Nat) (d : Option Tmp) (op : Op) (fin : Bool) (bk fw : List Nat) (keep : Bool) (l : List DOp) (hist : List (Nat × Hp)) (wt : List Watch) (ρ : Env) (p : Hp) (Q : ZQ) :
    Wd C mu ext call n0 ρ0 (⟨ix, d, op, none, fin, bk, fw, keep⟩ :: l) hist wt ρ p Q = stepD C mu ext call (kindOf op) n0 ρ0 ⟨ix, d, op, none, fin, bk, fw, keep⟩ l hist wt ρ p Q := by
  simp only [Wd, zwanted, stepD] <;> rfl
noncomputable def wantD (w : Option Bool) (k : Kind) (n0 : Nat) (ρ0 : Env) (o : DOp) (l : List DOp) (hist : List (Nat × Hp)) (wt : List Watch) (ρ : Env) (p : Hp) (Q : ZQ) : Prop :=
  match w with
  | some true => stepD C mu ext call k n0 ρ0 o l hist wt ρ p Q
  | some false => Wd C mu ext call n0 ρ0 l hist wt (put ρ o.dst (.tup [])) p Q
  | none => False
theorem Wd_gd (n0 : Nat) (ρ0 : Env) (ix : Nat) (d : Option Tmp) (op : Op) (t : Tmp) (b : Bool) (fin : Bool) (bk fw : List Nat) (keep : Bool) (l : List DOp) (hist : List (Nat × Hp)) (wt : List Watch) (ρ : Env) (p : Hp) (Q : ZQ) :
    Wd C mu ext call n0 ρ0 (⟨ix, d, op, some (t, b), fin, bk, fw, keep⟩ :: l) hist wt ρ p Q = wantD C mu ext call (zwanted ρ (some (t, b))) (kindOf op) n0 ρ0 ⟨ix, d, op, some (t, b), fin, bk, fw, keep⟩ l hist wt ρ p Q := by
  simp only [Wd, wantD, stepD]
  cases zwanted ρ (some (t, b)) with
  | none => rfl
  | some x =>
    cases x with
    | false => rfl
    | true =>
      first | (simp only; done) | (simp only; cases kindOf op <;> first | rfl | (simp only; cases zop C mu ext call ρ p op <;> rfl))
theorem wantD_t (k : Kind) (n0 : Nat) (ρ0 : Env) (o : DOp) (l : List DOp) (hist : List (Nat × Hp)) (wt : List Watch) (ρ : Env) (p : Hp) (Q : ZQ) : wantD C mu ext call (some true) k n0 ρ0 o l hist wt ρ p Q = stepD C mu ext call k n0 ρ0 o l hist wt ρ p Q := nd rfl
theorem wantD_f (k : Kind) (n0 : Nat) (ρ0 : Env) (ix : Nat) (d : Option Tmp) (op : Op) (g : Option (Tmp × Bool)) (fin : Bool) (bk fw : List Nat) (keep : Bool) (l : List DOp) (hist : List (Nat × Hp)) (wt : List Watch) (ρ : Env) (p : Hp) (Q : ZQ) : wantD C mu ext call (some false) k n0 ρ0 ⟨ix, d, op, g, fin, bk, fw, keep⟩ l hist wt ρ p Q = Wd C mu ext call n0 ρ0 l hist wt (put ρ d (.tup [])) p Q := nd rfl
theorem wantD_s {b : Bool} {k : Kind} {n0 : Nat} {ρ0 : Env} {o : DOp} {l : List DOp} {hist : List (Nat × Hp)} {wt : List Watch} {ρ : Env} {p : Hp} {Q : ZQ} (h1 : b = true → stepD C mu ext call k n0 ρ0 o l hist wt ρ p Q) (h2 : b = false → Wd C mu ext call n0 ρ0 l hist wt (put ρ o.dst (.tup [])) p Q) : wantD C mu ext call (some b) k n0 ρ0 o l hist wt ρ p Q := by
  cases b with
  | true => exact h1 rfl
  | false => exact h2 rfl
theorem bindE_i {c : Prop} [Decidable c] {a b : XRes} {n0 : Nat} {ρ0 : Env} {o : DOp} {l : List DOp} {hist : List (Nat × Hp)} {wt : List Watch} {ρ : Env} {p : Hp} {Q : ZQ} (h1 : c → bindE C mu ext call a n0 ρ0 o l hist wt ρ p Q) (h2 : ¬ c → bindE C mu ext call b n0 ρ0 o l hist wt ρ p Q) : bindE C mu ext call (if c then a else b) n0 ρ0 o l hist wt ρ p Q := by
  by_cases h : c
  · rw [if_pos h]; exact h1 h
  · rw [if_neg h]; exact h2 h
theorem stepD_q (n0 : Nat) (ρ0 : Env) (ix : Nat) (d : Option Tmp) (op : Op) (g : Option (Tmp × Bool)) (fin : Bool) (bk fw : List Nat) (keep : Bool) (l : List DOp) (hist : List (Nat × Hp)) (wt : List Watch) (ρ : Env) (p : Hp) (Q : ZQ) :
    stepD C mu ext call .quiet n0 ρ0 ⟨ix, d, op, g, fin, bk, fw, keep⟩ l hist wt ρ p Q = bindQ C mu ext call (zop C mu ext call ρ p op) n0 ρ0 ⟨ix, d, op, g, fin, bk, fw, keep⟩ l hist wt ρ p Q := nd rfl
theorem stepD_e (n0 : Nat) (ρ0 : Env) (ix : Nat) (d : Option Tmp) (op : Op) (g : Option (Tmp × Bool)) (fin : Bool) (bk fw : List Nat) (keep : Bool) (l : List DOp) (hist : List (Nat × Hp)) (wt : List Watch) (ρ : Env) (p : Hp) (Q : ZQ) :
    stepD C mu ext call .eff n0 ρ0 ⟨ix, d, op, g, fin, bk, fw, keep⟩ l hist wt ρ p Q = bindE C mu ext call (zop C mu ext call ρ p op) n0 ρ0 ⟨ix, d, op, g, fin, bk, fw, keep⟩ l hist wt ρ p Q := by
  simp only [stepD, bindE]
theorem stepD_a (n0 : Nat) (ρ0 : Env) (ix : Nat) (d : Option Tmp) (op : Op) (g : Option (Tmp × Bool)) (fin : Bool) (bk fw : List Nat) (keep : Bool) (l : List DOp) (hist : List (Nat × Hp)) (wt : List Watch) (ρ : Env) (p : Hp) (Q : ZQ) :
    stepD C mu ext call .alloc n0 ρ0 ⟨ix, d, op, g, fin, bk, fw, keep⟩ l hist wt ρ p Q = (still C mu ext call n0 ⟨fw, ix, ρ, op, allocV op (n0 + ix)⟩ p ∧ histP C mu ext call n0 ⟨fw, ix, ρ, op, allocV op (n0 + ix)⟩ bk hist ∧ Wd C mu ext call n0 ρ0 l hist (pushW ⟨fw, ix, ρ, op, allocV op (n0 + ix)⟩ wt) (put ρ d (allocV op (n0 + ix))) p Q) := nd rfl
theorem bindQ_ret (v : CV) (q : Hp) (n0 : Nat) (ρ0 : Env) (ix : Nat) (d : Option Tmp) (op : Op) (g : Option (Tmp × Bool)) (fin : Bool) (bk fw : List Nat) (keep : Bool) (l : List DOp) (hist : List (Nat × Hp)) (wt : List Watch) (ρ : Env) (p : Hp) (Q : ZQ) :
    bindQ C mu ext call (.ret v q) n0 ρ0 ⟨ix, d, op, g, fin, bk, fw, keep⟩ l hist wt ρ p Q = (histP C mu ext call n0 ⟨fw, ix, ρ, op, v⟩ bk hist ∧ Wd C mu ext call n0 ρ0 l hist (pushW ⟨fw, ix, ρ, op, v⟩ wt) (put ρ d v) p Q) := nd rfl
noncomputable def stillK (k : Kind) (n0 : Nat) (ix : Nat) (ρ : Env) (op : Op) (v : CV) (q : Hp) : Prop :=
  match k with
  | .alloc => ∃ ob, q.t.get (n0 + ix) = some ob ∧ allocObj C op = some ob
  | _ => zop C mu ext call ρ q op = .ret v q
theorem still_eq (n0 : Nat) (fw : List Nat) (ix : Nat) (ρ : Env) (op : Op) (v : CV) (q : Hp) : still C mu ext call n0 ⟨fw, ix, ρ, op, v⟩ q = stillK C mu ext call (kindOf op) n0 ix ρ op v q := nd rfl
theorem stillK_q (n0 : Nat) (ix : Nat) (ρ : Env) (op : Op) (v : CV) (q : Hp) : stillK C mu ext call .quiet n0 ix ρ op v q = (zop C mu ext call ρ q op = .ret v q) := nd rfl
theorem stillK_a (n0 : Nat) (ix : Nat) (ρ : Env) (op : Op) (v : CV) (q : Hp) : stillK C mu ext call .alloc n0 ix ρ op v q = (∃ ob, q.t.get (n0 + ix) = some ob ∧ allocObj C op = some ob) := nd rfl
def memN : List Nat → Nat → Bool
  | [], _ => false
  | a :: l, i => bif Nat.beq a i then true else memN l i
theorem memN_iff (i : Nat) : ∀ l, memN l i = true ↔ i ∈ l
  | [] => by simp [memN]
  | a :: l => by
    simp only [memN, List.mem_cons]
    cases h : Nat.beq a i with
    | true => simp [(Nat.eq_of_beq_eq_true h).symm]
    | false => simp [memN_iff i l, Ne.symm (Nat.ne_of_beq_eq_false h)]
theorem memN_nil (i : Nat) : memN [] i = false := nd rfl
theorem memN_cons (a : Nat) (l : List Nat) (i : Nat) : memN (a :: l) i = if a = i then true else memN l i := by
  simp only [memN]
  cases h : Nat.beq a i with
  | true => rw [if_pos (Nat.eq_of_beq_eq_true h)]; rfl
  | false => rw [if_neg (Nat.ne_of_beq_eq_false h)]; rfl
noncomputable def allW (n0 : Nat) (ix : Nat) (q : Hp) : List Watch → Prop
  | [] => True
  | w :: wt => (bif memN w.fw ix then still C mu ext call n0 w q else True) ∧ allW n0 ix q wt
theorem allW_iff (n0 : Nat) (ix : Nat) (q : Hp) : ∀ wt, (∀ w ∈ wt, ix ∈ w.fw → still C mu ext call n0 w q) ↔ allW C mu ext call n0 ix q wt
  | [] => by simp [allW]
  | w :: wt => by
    simp only [allW, List.mem_cons, forall_eq_or_imp, allW_iff n0 ix q wt]
    cases h : memN w.fw ix with
    | true => simp [(memN_iff ix w.fw).1 h]
    | false =>
      have : ¬ ix ∈ w.fw := fun k => by rw [(memN_iff ix w.fw).2 k] at h; cases h
      simp [this]
theorem allW_nil (n0 : Nat) (ix : Nat) (q : Hp) : allW C mu ext call n0 ix q [] = True := nd rfl
theorem allW_cons (n0 : Nat) (ix : Nat) (q : Hp) (fw : List Nat) (jx : Nat) (ρ : Env) (op : Op) (v : CV) (wt : List Watch) : allW C mu ext call n0 ix q (⟨fw, jx, ρ, op, v⟩ :: wt) = ((bif memN fw ix then stillK C mu ext call (kindOf op) n0 jx ρ op v q else True) ∧ allW C mu ext call n0 ix q wt) := nd rfl
noncomputable def histA (n0 : Nat) (w : Watch) (bk : List Nat) : List (Nat × Hp) → Prop
  | [] => True
  | x :: hist => (bif memN bk x.1 then still C mu ext call n0 w x.2 else True) ∧ histA n0 w bk hist
theorem histA_iff (n0 : Nat) (w : Watch) (bk : List Nat) : ∀ hist, (∀ x ∈ hist, x.1 ∈ bk → still C mu ext call n0 w x.2) ↔ histA C mu ext call n0 w bk hist
  | [] => by simp [histA]
  | x :: hist => by
    simp only [histA, List.mem_cons, forall_eq_or_imp, histA_iff n0 w bk hist]
    cases h : memN bk x.1 with
    | true => simp [(memN_iff x.1 bk).1 h]
    | false =>
      have : ¬ x.1 ∈ bk := fun k => by rw [(memN_iff x.1 bk).2 k] at h; cases h
      simp [this]
theorem histA_nil (n0 : Nat) (w : Watch) (bk : List Nat) : histA C mu ext call n0 w bk [] = True := nd rfl
theorem histA_cons (n0 : Nat) (fw : List Nat) (jx : Nat) (ρ : Env) (op : Op) (v : CV) (bk : List Nat) (i : Nat) (h : Hp) (hist : List (Nat × Hp)) : histA C mu ext call n0 ⟨fw, jx, ρ, op, v⟩ bk ((i, h) :: hist) = ((bif memN bk i then stillK C mu ext call (kindOf op) n0 jx ρ op v h else True) ∧ histA C mu ext call n0 ⟨fw, jx, ρ, op, v⟩ bk hist) := nd rfl
theorem bindE_ret (v : CV) (q : Hp) (n0 : Nat) (ρ0 : Env) (ix : Nat) (d : Option Tmp) (op : Op) (g : Option (Tmp × Bool)) (fin : Bool) (bk fw : List Nat) (keep : Bool) (l : List DOp) (hist : List (Nat × Hp)) (wt : List Watch) (ρ : Env) (p : Hp) (Q : ZQ) :
    bindE C mu ext call (.ret v q) n0 ρ0 ⟨ix, d, op, g, fin, bk, fw, keep⟩ l hist wt ρ p Q = (allW C mu ext call n0 ix q wt ∧ Wd C mu ext call n0 ρ0 l (pushH keep (ix, p) hist) wt (put ρ d v) q Q) := by
  rw [← allW_iff]; rfl
theorem bindE_pan (v : CV) (q : Hp) (n0 : Nat) (ρ0 : Env) (ix : Nat) (d : Option Tmp) (op : Op) (g : Option (Tmp × Bool)) (fin : Bool) (bk fw : List Nat) (keep : Bool) (l : List DOp) (hist : List (Nat × Hp)) (wt : List Watch) (ρ : Env) (p : Hp) (Q : ZQ) :
    bindE C mu ext call (.pan v q) n0 ρ0 ⟨ix, d, op, g, fin, bk, fw, keep⟩ l hist wt ρ p Q = (fin = true ∧ Q (.panU v) ρ0 q) := nd rfl
theorem histP_nil (n0 : Nat) (w : Watch) (hist : List (Nat × Hp)) : histP C mu ext call n0 w [] hist = True := nd rfl
theorem histP_cons (n0 : Nat) (w : Watch) (b : Nat) (bk : List Nat) (hist : List (Nat × Hp)) : histP C mu ext call n0 w (b :: bk) hist = histA C mu ext call n0 w (b :: bk) hist := by
  rw [← histA_iff]; rfl
theorem pushW_nil (ix : Nat) (ρ : Env) (op : Op) (v : CV) (wt : List Watch) : pushW ⟨[], ix, ρ, op, v⟩ wt = wt := nd rfl
theorem pushW_cons (f : Nat) (fw : List Nat) (ix : Nat) (ρ : Env) (op : Op) (v : CV) (wt : List Watch) : pushW ⟨f :: fw, ix, ρ, op, v⟩ wt = ⟨f :: fw, ix, ρ, op, v⟩ :: wt := nd rfl
theorem pushH_t (x : Nat × Hp) (hist : List (Nat × Hp)) : pushH true x hist = x :: hist := nd rfl
theorem pushH_f (x : Nat × Hp) (hist : List (Nat × Hp)) : pushH false x hist = hist := nd rfl
theorem W_skip (ρ : Env) (p : Hp) (Q : ZQ) : W C mu ext call .skip ρ p Q = Q .normal ρ p := nd rfl
theorem W_reg (l : List LOp) (ρ : Env) (p : Hp) (Q : ZQ) : W C mu ext call (.reg l) ρ p Q = Wo C mu ext call l ρ p Q := nd rfl
theorem W_draw (n : Nat) (als : List (Nat × Op)) (l : List DOp) (ρ : Env) (p : Hp) (Q : ZQ) : W C mu ext call (.draw n als l) ρ p Q = Wd C mu ext call p.n ρ l [] [] ρ (layZ C p.n als (p.bump n)) Q := nd rfl
theorem W_seq (a b : ZC) (ρ : Env) (p : Hp) (Q : ZQ) : W C mu ext call (.seq a b) ρ p Q = W C mu ext call a ρ p (seqQ (W C mu ext call b) Q) := nd rfl
theorem W_cond (x : Operand) (a b : ZC) (ρ : Env) (p : Hp) (Q : ZQ) : W C mu ext call (.cond x a b) ρ p Q = condW (ev ρ x) (W C mu ext call a) (W C mu ext call b) ρ p Q := nd rfl
theorem W_block (id : Nat) (c : ZC) (ρ : Env) (p : Hp) (Q : ZQ) : W C mu ext call (.block id c) ρ p Q = W C mu ext call c ρ p (blkQ id Q) := nd rfl
theorem W_exit (i : Nat) (ρ : Env) (p : Hp) (Q : ZQ) : W C mu ext call (.exit i) ρ p Q = Q (.exit i) ρ p := nd rfl
theorem W_ret (ρ : Env) (p : Hp) (Q : ZQ) : W C mu ext call .ret ρ p Q = Q .ret ρ p := nd rfl
theorem layZ_nil (n0 : Nat) (p : Hp) : layZ C n0 [] p = p := nd rfl
theorem layZ_cons (n0 i : Nat) (o : Op) (l : List (Nat × Op)) (p : Hp) : layZ C n0 ((i, o) :: l) p = layZ C n0 l (match allocObj C o with
    | some ob => p.set (n0 + i) (some ob)
    | none => p) := rfl
theorem endQ_n (rs : List ResultVar) (K : XRes → Prop) (ρ : Env) (p : Hp) : endQ C rs K .normal ρ p = finW (zres C ρ p rs) p K := nd rfl
theorem endQ_r (rs : List ResultVar) (K : XRes → Prop) (ρ : Env) (p : Hp) : endQ C rs K .ret ρ p = finW (zres C ρ p rs) p K := nd rfl
theorem endQ_p (rs : List ResultVar) (K : XRes → Prop) (v : CV) (ρ : Env) (p : Hp) : endQ C rs K (.pan v) ρ p = K (.pan v p) := nd rfl
theorem endQ_u (rs : List ResultVar) (K : XRes → Prop) (v : CV) (ρ : Env) (p : Hp) : endQ C rs K (.panU v) ρ p = K (.pan v p) := nd rfl
theorem finW_some (l : List CV) (p : Hp) (K : XRes → Prop) : finW (some l) p K = K (.ret (pack l) p) := nd rfl
theorem zres_nil (ρ : Env) (p : Hp) : zres C ρ p [] = some [] := nd rfl
theorem zres_tmp (ρ : Env) (p : Hp) (t : Tmp) (l : List ResultVar) : zres C ρ p (.tmp t :: l) = match zres C ρ p l with
    | some vs => some (ρ t :: vs)
    | none => none := rfl
theorem zres_cell (ρ : Env) (p : Hp) (a : Tmp) (t : TypeId) (l : List ResultVar) : zres C ρ p (.cell a t :: l) = match xload C p t (ρ a), zres C ρ p l with
    | some v, some vs => some (v :: vs)
    | _, _ => none := rfl
theorem pack_1 (v : CV) : pack [v] = v := nd rfl
theorem pack_0 : pack [] = .tup [] := nd rfl
theorem pack_2 (a b : CV) (l : List CV) : pack (a :: b :: l) = .tup (a :: b :: l) := nd rfl
theorem seqQ_mono {k k' : Env → Hp → ZQ → Prop} {Q Q' : ZQ} (hk : ∀ ρ p, k ρ p Q → k' ρ p Q') (hQ : ∀ e ρ p, Q e ρ p → Q' e ρ p) : ∀ e ρ p, seqQ k Q e ρ p → seqQ k' Q' e ρ p := by
  intro e ρ p h
  cases e with
  | normal => exact hk _ _ h
  | exit i => exact hQ _ _ _ h
  | ret => exact hQ _ _ _ h
  | pan v => exact hQ _ _ _ h
  | panU v => exact hQ _ _ _ h
theorem blkQ_mono {id : Nat} {Q Q' : ZQ} (hQ : ∀ e ρ p, Q e ρ p → Q' e ρ p) : ∀ e ρ p, blkQ id Q e ρ p → blkQ id Q' e ρ p := by
  intro e ρ p h
  cases e with
  | normal => exact hQ _ _ _ h
  | exit i => rw [blkQ_e] at h ⊢; split at h <;> simp_all
  | ret => exact hQ _ _ _ h
  | pan v => exact hQ _ _ _ h
  | panU v => exact hQ _ _ _ h
theorem Wo_mono {Q Q' : ZQ} (hQ : ∀ e ρ p, Q e ρ p → Q' e ρ p) : ∀ (l : List LOp) (ρ : Env) (p : Hp), Wo C mu ext call l ρ p Q → Wo C mu ext call l ρ p Q'
  | [], ρ, p, h => hQ _ _ _ h
  | o :: l, ρ, p, h => by
    simp only [Wo] at h ⊢
    split at h
    · exact h.elim
    · exact Wo_mono hQ l _ _ h
    · split at h
      · exact Wo_mono hQ l _ _ h
      · exact hQ _ _ _ h
      · exact h.elim
theorem Wd_mono {n0 : Nat} {ρ0 : Env} {Q Q' : ZQ} (hQ : ∀ e ρ p, Q e ρ p → Q' e ρ p) : ∀ (l : List DOp) (hist : List (Nat × Hp)) (wt : List Watch) (ρ : Env) (p : Hp), Wd C mu ext call n0 ρ0 l hist wt ρ p Q → Wd C mu ext call n0 ρ0 l hist wt ρ p Q'
  | [], _, _, ρ, p, h => hQ _ _ _ h
  | o :: l, hist, wt, ρ, p, h => by
    simp only [Wd] at h ⊢
    split at h
    · exact h.elim
    · exact Wd_mono hQ l _ _ _ _ h
    · cases hk : kindOf o.op with
      | quiet =>
        rw [hk] at h
        simp only at h ⊢
        split at h
        · exact ⟨h.1, Wd_mono hQ l _ _ _ _ h.2⟩
        · exact h.elim
      | alloc => rw [hk] at h; exact ⟨h.1, h.2.1, Wd_mono hQ l _ _ _ _ h.2.2⟩
      | eff =>
        rw [hk] at h
        simp only at h ⊢
        split at h
        · exact ⟨h.1, Wd_mono hQ l _ _ _ _ h.2⟩
        · exact ⟨h.1, hQ _ _ _ h.2⟩
        · exact h.elim
theorem Wn_mono {b : Env → Hp → ZQ → Prop} (hb : ∀ (Q Q' : ZQ), (∀ e ρ p, Q e ρ p → Q' e ρ p) → ∀ ρ p, b ρ p Q → b ρ p Q') : ∀ (n m : Nat), n ≤ m → ∀ (Q Q' : ZQ), (∀ e ρ p, Q e ρ p → Q' e ρ p) → ∀ ρ p, Wn b n ρ p Q → Wn b m ρ p Q'
  | 0, _, _, _, _, _, _, _, h => h.elim
  | n + 1, 0, h, _, _, _, _, _, _ => by omega
  | n + 1, m + 1, h, Q, Q', hQ, ρ, p, hw => hb _ _ (seqQ_mono (fun ρ p h' => Wn_mono hb n m (by omega) Q Q' hQ ρ p h') hQ) ρ p hw
theorem W_mono : ∀ (c : ZC) (Q Q' : ZQ), (∀ e ρ p, Q e ρ p → Q' e ρ p) → ∀ (ρ : Env) (p : Hp), W C mu ext call c ρ p Q → W C mu ext call c ρ p Q' := by
  intro c
  induction c with
  | skip => intro Q Q' hQ ρ p h; exact hQ _ _ _ h
  | reg l => intro Q Q' hQ ρ p h; exact Wo_mono C mu ext call hQ l ρ p h
  | draw n als l => intro Q Q' hQ ρ p h; exact Wd_mono C mu ext call hQ l _ _ _ _ h
  | exit i => intro Q Q' hQ ρ p h; exact hQ _ _ _ h
  | ret => intro Q Q' hQ ρ p h; exact hQ _ _ _ h
  | seq a b iha ihb => intro Q Q' hQ ρ p h; exact iha _ _ (seqQ_mono (fun ρ p h' => ihb Q Q' hQ ρ p h') hQ) ρ p h
  | cond x a b iha ihb =>
    intro Q Q' hQ ρ p h
    simp only [W, condW] at h ⊢
    split at h
    · rename_i t ht
      cases t with
      | true => exact iha Q Q' hQ ρ p h
      | false => exact ihb Q Q' hQ ρ p h
    · exact h.elim
  | block id c ih => intro Q Q' hQ ρ p h; exact ih _ _ (blkQ_mono hQ) ρ p h
  | loop c ih => intro Q Q' hQ ρ p ⟨n, h⟩; exact ⟨n, Wn_mono ih n n (Nat.le_refl _) Q Q' hQ ρ p h⟩
theorem Wn_succ (b : Env → Hp → ZQ → Prop) (n : Nat) (ρ : Env) (p : Hp) (Q : ZQ) : Wn b (n + 1) ρ p Q = b ρ p (seqQ (Wn b n) Q) := nd rfl
theorem W_loop (c : ZC) (ρ : Env) (p : Hp) (Q : ZQ) (J : Nat → Env → Hp → Prop) (n : Nat) (h0 : J n ρ p)
    (h : ∀ n ρ p, J n ρ p → W C mu ext call c ρ p (seqQ (fun ρ p _ => ∃ m, m < n ∧ J m ρ p) Q)) : W C mu ext call (.loop c) ρ p Q := by
  have key : ∀ n ρ p, J n ρ p → Wn (W C mu ext call c) (n + 1) ρ p Q := by
    intro n
    induction n using Nat.strongRecOn with
    | _ n ih =>
      intro ρ p hJ
      refine W_mono C mu ext call c _ _ (seqQ_mono (fun ρ p ⟨m, hm, hJ'⟩ => ?_) (fun _ _ _ h => h)) ρ p (h n ρ p hJ)
      exact Wn_mono (W_mono C mu ext call c) (m + 1) n hm Q Q (fun _ _ _ h => h) ρ p (ih m hm ρ p hJ')
  exact ⟨n + 1, key n ρ p h0⟩
theorem W_cut (c : ZC) (ρ : Env) (p : Hp) (Q : ZQ) (J : Env → Hp → Prop) (h : W C mu ext call c ρ p (fun e ρ p => match e with | .normal => J ρ p | e => Q e ρ p)) (h' : ∀ ρ p, J ρ p → Q .normal ρ p) : W C mu ext call c ρ p Q :=
  W_mono C mu ext call c _ _ (fun e ρ p k => by cases e <;> first | exact h' _ _ k | exact k) ρ p h
end steps
theorem shr_id {p0 p q : Hp} {v u : CV} (hn : p0.n ≤ q.n) (ho : ∀ k o, q.t.get k = some o → k < q.n ∧ ((k < p0.n ∧ p0.t.get k = some o ∧ p.t.get k = some o) ∨ ∃ o', p.t.get k = some o' ∧ XObj.weak (fun k => k) q.n o' o)) (hv : CV.weak (fun k => k) q.n v u) : ShrR p0 (.ret v p) (.ret u q) :=
  ⟨fun k => k, ⟨hn, fun _ _ => rfl, fun _ _ _ _ _ _ e => e, ho⟩, hv⟩
theorem shr_idP {p0 p q : Hp} {v u : CV} (hn : p0.n ≤ q.n) (ho : ∀ k o, q.t.get k = some o → k < q.n ∧ ((k < p0.n ∧ p0.t.get k = some o ∧ p.t.get k = some o) ∨ ∃ o', p.t.get k = some o' ∧ XObj.weak (fun k => k) q.n o' o)) (hv : CV.weak (fun k => k) q.n v u) : ShrR p0 (.pan v p) (.pan u q) :=
  ⟨fun k => k, ⟨hn, fun _ _ => rfl, fun _ _ _ _ _ _ e => e, ho⟩, hv⟩
def HpLe (p q : Hp) : Prop := ∀ k o, p.t.get k = some o → q.t.get k = some o
theorem shr_keep {args : List CV} {p p' : Hp} {v u : CV} (hF : Fine args p) (hle : HpLe p p') (hv : CV.weak (fun k => k) p.n v u) : ShrR p (.ret v p') (.ret u p) :=
  shr_id (Nat.le_refl _) (fun k o h => ⟨hF.dom k o h, .inl ⟨hF.dom k o h, h, hle k o h⟩⟩) hv
theorem shr_keepP {args : List CV} {p p' : Hp} {v u : CV} (hF : Fine args p) (hle : HpLe p p') (hv : CV.weak (fun k => k) p.n v u) : ShrR p (.pan v p') (.pan u p) :=
  shr_idP (Nat.le_refl _) (fun k o h => ⟨hF.dom k o h, .inl ⟨hF.dom k o h, h, hle k o h⟩⟩) hv
theorem shr_set {args : List CV} {p p' : Hp} {v u : CV} {i : Nat} {o : XObj} (hF : Fine args p) (hi : i < p.n) (hle : ∀ k o, k ≠ i → p.t.get k = some o → p'.t.get k = some o) (ho : ∃ o', p'.t.get i = some o' ∧ XObj.weak (fun k => k) p.n o' o) (hv : CV.weak (fun k => k) p.n v u) : ShrR p (.ret v p') (.ret u (p.set i (some o))) :=
  shr_id (Nat.le_refl _) (fun k ob h => by
    by_cases hk : k = i
    · subst hk
      rw [Hp.get_set_self] at h; cases h
      exact ⟨hi, .inr ho⟩
    · rw [Hp.get_set_ne _ _ _ hk] at h
      exact ⟨hF.dom k ob h, .inl ⟨hF.dom k ob h, h, hle k ob hk h⟩⟩) hv
theorem shr_drop {args : List CV} {p p' : Hp} {v u : CV} {i : Nat} (hF : Fine args p) (hle : ∀ k o, k ≠ i → p.t.get k = some o → p'.t.get k = some o) (hv : CV.weak (fun k => k) p.n v u) : ShrR p (.ret v p') (.ret u (p.set i none)) :=
  shr_id (Nat.le_refl _) (fun k ob h => by
    by_cases hk : k = i
    · subst hk
      rw [Hp.get_set_self] at h; cases h
    · rw [Hp.get_set_ne _ _ _ hk] at h
      exact ⟨hF.dom k ob h, .inl ⟨hF.dom k ob h, h, hle k ob hk h⟩⟩) hv
theorem shr_dropP {args : List CV} {p p' : Hp} {v u : CV} {i : Nat} (hF : Fine args p) (hle : ∀ k o, k ≠ i → p.t.get k = some o → p'.t.get k = some o) (hv : CV.weak (fun k => k) p.n v u) : ShrR p (.pan v p') (.pan u (p.set i none)) :=
  shr_idP (Nat.le_refl _) (fun k ob h => by
    by_cases hk : k = i
    · subst hk
      rw [Hp.get_set_self] at h; cases h
    · rw [Hp.get_set_ne _ _ _ hk] at h
      exact ⟨hF.dom k ob h, .inl ⟨hF.dom k ob h, h, hle k ob hk h⟩⟩) hv
theorem weak_I (n : Nat) (x : Int) : CV.weak (fun k => k) n (I x) (I x) := by simp [CV.weak]
theorem weak_self {n : Nat} {v : CV} (h : v.lt n) : CV.weak (fun k => k) n v v := CV.weak_refl v fun j hj => ⟨rfl, h j hj⟩
theorem oweak_self {n : Nat} {o : XObj} (h : o.lt n) : XObj.weak (fun k => k) n o o := XObj.weak_refl fun j hj => ⟨rfl, h j hj⟩
theorem weak_of_eq {n : Nat} {v u : CV} (h : v = u) (hl : u.lt n) : CV.weak (fun k => k) n v u := by subst h; exact weak_self hl
theorem oweak_of_eq {n : Nat} {v u : XObj} (h : v = u) (hl : u.lt n) : XObj.weak (fun k => k) n v u := by subst h; exact oweak_self hl
theorem lt_of_no {n : Nat} {v : CV} (h : ∀ j, ¬ v.has j) : v.lt n := fun j hj => (h j hj).elim
theorem qmin2 (k k' : IntKind) (a b : Int) : qminmax false [.sc (.int k a), .sc (.int k' b)] = some (.sc (.int k (min a b))) := by
  have : (if b < a then b else a) = min a b := by split <;> omega
  simp only [qminmax, Bool.false_eq_true, if_false, this]
theorem qmax2 (k k' : IntKind) (a b : Int) : qminmax true [.sc (.int k a), .sc (.int k' b)] = some (.sc (.int k (max a b))) := by
  have : (if b > a then b else a) = max a b := by split <;> omega
  simp only [qminmax, if_true, this]
theorem beqT (b : Bool) : (b == true) = b := by cases b <;> rfl
theorem beqF (b : Bool) : (b == false) = !b := by cases b <;> rfl
theorem subEq_self (z : Shape) : subEq z [] z = true := by
  have : z.sub [] = some z := by cases z <;> rfl
  simp [subEq, this]
theorem shOk_sc (v : Value) : shOk (.sc v) .s = true := nd rfl
theorem shOk_lst {α : Type} (f : α → CV) (x : Lst α) : shOk (x.cv f) .s = true := nd rfl
theorem shOk_lst' (t : Tail) (l : List CV) : shOk (.lst t l) .s = true := nd rfl
theorem shOk_ptr (i : Nat) (q : List Nat) : shOk (.ptr i q) .s = true := nd rfl
theorem shOk_slc (i : Nat) (q : List Nat) (a b : Nat) : shOk (.slc i q a b) .s = true := nd rfl
theorem shOk_fn (f : FuncId) (a b : List CV) : shOk (.fn f a b) .s = true := nd rfl
theorem shOk_ifc (t : TypeId) (v : CV) : shOk (.ifc t v) .s = true := nd rfl
theorem eqList_c {f : TypeId → CV → CV → Option Bool} {t : TypeId} {ts : List TypeId} {x y : CV} {l m : List CV} {a b : Bool} (h1 : f t x y = some a) (h2 : eqList f ts l m = some b) : eqList f (t :: ts) (x :: l) (y :: m) = some (a && b) := by
  simp only [eqList, h1, h2]
theorem eqList_rep {α : Type} [DecidableEq α] {f : TypeId → CV → CV → Option Bool} {e : TypeId} {g : α → CV} (h : ∀ x y, f e (g x) (g y) = some (decide (x = y))) : ∀ (n : Nat) (l m : List α), l.length = n → m.length = n → eqList f (List.replicate n e) (l.map g) (m.map g) = some (decide (l = m))
  | 0, [], [], _, _ => rfl
  | 0, _ :: _, _, h, _ => by simp at h
  | 0, [], _ :: _, _, h => by simp at h
  | n + 1, [], _, h, _ => by simp at h
  | n + 1, _ :: _, [], _, h => by simp at h
  | n + 1, x :: l, y :: m, h1, h2 => by
    have := eqList_rep h n l m (by simpa using h1) (by simpa using h2)
    simp only [List.replicate_succ, List.map_cons, eqList_c (h x y) this]
    by_cases e1 : x = y <;> by_cases e2 : l = m <;> simp [e1, e2]
theorem eqCV_st (C : Ctx) {t : TypeId} {fs : List (Nat × Nat × TypeId)} {sh : Shape} {b : Nat} {z : CV} {l m : List CV} {d : Nat} {r : Bool} (ht : C.tt t = some ⟨.st fs, sh, b, z⟩) (h1 : (CV.agg l).shape = sh) (h2 : (CV.agg m).shape = sh) (h : eqList (eqCV C d) (fs.map (·.2.2)) l m = some r) : eqCV C (d + 1) t (.agg l) (.agg m) = some r := by
  simp only [eqCV, ht, h1, h2, and_self, if_true, h]
theorem eqCV_ar (C : Ctx) {α : Type} [DecidableEq α] {g : α → CV} {t n b1 e : Nat} {sh s : Shape} {b : Nat} {z : CV} {l m : List α} {d : Nat} (ht : C.tt t = some ⟨.ar n b1 e, sh, b, z⟩) (hs : sh = .n (List.replicate n s)) (hg : ∀ x, (g x).shape = s) (h1 : l.length = n) (h2 : m.length = n) (h : ∀ x y, eqCV C d e (g x) (g y) = some (decide (x = y))) : eqCV C (d + 1) t (.agg (l.map g)) (.agg (m.map g)) = some (decide (l = m)) := by
  have k1 : (CV.agg (l.map g)).shape = sh := by simp only [CV.shape, shapes_map hg, h1, hs]
  have k2 : (CV.agg (m.map g)).shape = sh := by simp only [CV.shape, shapes_map hg, h2, hs]
  simp only [eqCV, ht, k1, k2, and_self, if_true, eqList_rep h n l m h1 h2]
theorem eqCV_int (C : Ctx) {t : TypeId} {k k' : IntKind} {sh : Shape} {b : Nat} {z : CV} (ht : C.tt t = some ⟨.base (.int k), sh, b, z⟩) (d : Nat) (x y : Int) : eqCV C (d + 1) t (.sc (.int k' x)) (.sc (.int k' y)) = some (decide (x = y)) := by
  simp [eqCV, ht, eqSc]
theorem all_nth4 {f : Int → Bool} {l : List Int} (h : l.length = 4) : l.all f = (f (nth l 0) && (f (nth l 1) && (f (nth l 2) && f (nth l 3)))) := by
  match l, h with
  | [a, b, c, d], _ => simp [nth]
theorem qbin_int (C : Ctx) (op : BinOp) (t : TypeId) (cy : Bool) (k k' : IntKind) (a b : Int) : qbin C op t cy (.sc (.int k a)) (.sc (.int k' b)) = match op with
    | .shl | .shr => qshift op k a b
    | _ => if k = k' then qnum op k a b else none := by
  simp only [qbin]; rfl
theorem qbin_float (C : Ctx) (op : BinOp) (t : TypeId) (cy : Bool) (k k' : FloatKind) (a b : Nat) : qbin C op t cy (.sc (.float k a)) (.sc (.float k' b)) = if k = k' then qfloat op k a b else none := by
  simp only [qbin]
theorem qbin_bool (C : Ctx) (op : BinOp) (t : TypeId) (cy : Bool) (a b : Bool) : qbin C op t cy (.sc (.bool a)) (.sc (.bool b)) = match C.tt t, op with
    | some ⟨.base .bool, _, _, _⟩, .eql => some (.sc (.bool (decide (a = b))))
    | some ⟨.base .bool, _, _, _⟩, .neq => some (.sc (.bool (!decide (a = b))))
    | _, _ => none := by
  simp only [qbin]; rfl
theorem qbin_str (C : Ctx) (op : BinOp) (t : TypeId) (cy : Bool) (a b : ByteArray) : qbin C op t cy (.sc (.string a)) (.sc (.string b)) = match op with
    | .eql => some (.sc (.bool (a.toList == b.toList)))
    | .neq => some (.sc (.bool (!(a.toList == b.toList))))
    | .add => if a.size + b.size ≤ 9223372036854775807 then some (.sc (.string (a ++ b))) else none
    | _ => none := by
  simp only [qbin]; rfl
theorem qindex_of (C : Ctx) {α : Type} [Inhabited α] (f : α → CV) {t N b1 e : Nat} {sh : Shape} {b : Nat} {z : CV} (ht : C.tt t = some ⟨.ar N b1 e, sh, b, z⟩) {te : TI} (hs : sh = .n (List.replicate N te.sh)) (hte : C.tt e = some te) (hsh : ∀ x, (f x).shape = te.sh) (l : List α) (n : Int) (h : l.length = N) (hn : 0 ≤ n ∧ n < N) : qindex C t (.agg (l.map f)) (I n) = some (f (nth l n.toNat)) := by
  have k1 : (CV.agg (l.map f)).shape = sh := by simp only [CV.shape, shapes_map hsh, h, hs]
  have hl : n.toNat < l.length := by omega
  simp only [qindex, ht, hte, k1, hn, and_self, if_true, List.getElem?_map, nth_lt hl, Option.map_some, hsh]
theorem nilness_0 {α : Type} (f : α → CV) (l : List α) (o : _) : nilness (Lst.cv f ⟨.nil, l, o⟩) = some true := nd rfl
theorem nilness_e {α : Type} (f : α → CV) (l : List α) (o : _) : nilness (Lst.cv f ⟨.exact, l, o⟩) = some false := nd rfl
theorem nilness_p {α : Type} (f : α → CV) (l : List α) (o : _) : nilness (Lst.cv f ⟨.part, l, o⟩) = some false := nd rfl
theorem nilness_o {α : Type} (f : α → CV) (j : Nat) (l : List α) (o : _) : nilness (Lst.cv f ⟨.own j, l, o⟩) = some false := nd rfl
theorem nilness_v {α : Type} (f : α → CV) (x : α) (l : List α) (o : _) : nilness (Lst.cv f ⟨.view, x :: l, o⟩) = some false := nd rfl
theorem nilness_n (l : List CV) : nilness (.lst .nil l) = some true := nd rfl
theorem xnil_e (C : Ctx) {t : TypeId} (h : isSliceT C t = true) (v : CV) : xnil C .eql t v = (nilness v).map fun b => Bo b := by simp only [xnil, h, cond_true]
theorem xnil_ne (C : Ctx) {t : TypeId} (h : isSliceT C t = true) (v : CV) : xnil C .neq t v = (nilness v).map fun b => Bo (!b) := by simp only [xnil, h, cond_true]
theorem qbuildSlice_of (C : Ctx) {t e : TypeId} {sh : Shape} {b n : Nat} {z : CV} {te : TI} {parts : List (Nat × CV)} {v : CV} (ht : C.tt t = some ⟨.base (.slice e), sh, b, z⟩) (hte : C.tt e = some te) (h1 : n * te.sh.size ≤ 16777216) (h2 : te.sh.size ≠ 0) (hp : partsOk (List.replicate n te.sh) parts = true) (hv : CV.lst .exact (setAll (List.replicate n te.zero) parts) = v) : qbuildSlice C t n parts = some v := by
  simp only [qbuildSlice, ht, hte, h1, h2, hp, hv, ne_eq, not_false_eq_true, and_self, if_true]
theorem cast_lit (n : Nat) : (Nat.cast (no_index (OfNat.ofNat n)) : Int) = (OfNat.ofNat n : Int) := nd rfl
open Classical in
noncomputable def appT {α : Type} (f : α → CV) (p : Hp) (b s : Lst α) : XRes :=
  if s.l = [] then .ret (b.cv f) p else match b.tl with
    | .nil => .ret (Lst.cv f ⟨.own p.n, b.l ++ s.l, nofun⟩) (p.new (.tail (b.l.length + s.l.length)))
    | .exact => .ret (Lst.cv f ⟨.own p.n, b.l ++ s.l, nofun⟩) (p.new (.tail (b.l.length + s.l.length)))
    | .own j => match p.t.get j with
      | some (.tail k) => if k = b.l.length ∧ 0 < b.l.length then .ret (Lst.cv f ⟨.own p.n, b.l ++ s.l, nofun⟩) ((p.set j none).new (.tail (b.l.length + s.l.length))) else .stuck
      | _ => .stuck
    | _ => .stuck
theorem allSh_map {α : Type} {f : α → CV} {z : Shape} (h : ∀ x, shOk (f x) z = true) (l : List α) : allSh (l.map f) z = true := by
  simp [allSh, h]
theorem xappend_of (C : Ctx) {α : Type} (f : α → CV) {t e : TypeId} {sh : Shape} {by_ : Nat} {z : CV} {te : TI} (ht : C.tt t = some ⟨.base (.slice e), sh, by_, z⟩) (hte : C.tt e = some te) (hsh : ∀ x, shOk (f x) te.sh = true) (p : Hp) (b s : Lst α) (h : (b.l.length + s.l.length) * te.bytes ≤ 140737488355328) (hb : b.l.length + s.l.length ≤ 140737488355328) : xappend C false p t t (b.cv f) (s.cv f) = appT f p b s := by
  obtain ⟨tl, l, o1⟩ := b
  obtain ⟨ul, m, o2⟩ := s
  have h1 : Nat.ble ((l.length + m.length) * te.bytes) 140737488355328 = true := Nat.ble_eq_true_of_le h
  have h2 : Nat.ble (l.length + m.length) 9223372036854775807 = true := Nat.ble_eq_true_of_le (Nat.le_trans hb (by decide))
  simp only [xappend, ht, hte, cond_false, srcOf, Lst.cv, appT]
  simp only [xappI, allSh_map hsh, Bool.and_self, Bool.true_and, List.length_map, h1, h2, cond_true]
  cases m with
  | nil => simp
  | cons x m =>
    simp only [List.map_cons, reduceCtorEq, if_false]
    cases tl with
    | nil => simp
    | exact => simp
    | view => rfl
    | part => rfl
    | own j =>
      simp only
      cases hj : p.t.get j with
      | none => rfl
      | some o =>
        cases o with
        | var _ _ => rfl
        | map _ => rfl
        | tail k =>
          simp only
          by_cases hk : k = l.length ∧ 0 < l.length
          · have e1 : Nat.beq k l.length = true := by rw [hk.1]; exact Nat.beq_refl _
            have e2 : Nat.blt 0 l.length = true := blt_of hk.2
            rw [if_pos hk, e1, e2]; simp
          · rw [if_neg hk]
            have : (Nat.beq k l.length && Nat.blt 0 l.length) = false := by
              rw [Bool.eq_false_iff]
              intro hh
              rw [Bool.and_eq_true] at hh
              exact hk ⟨Nat.eq_of_beq_eq_true hh.1, of_blt hh.2⟩
            rw [this]; rfl
theorem appT_0 {α : Type} (f : α → CV) (p : Hp) (b : Lst α) (u : Tail) (o : _) : appT f p b ⟨u, [], o⟩ = .ret (b.cv f) p := by simp [appT]
theorem appT_n {α : Type} (f : α → CV) (p : Hp) (l : List α) (o : _) (s : Lst α) : appT f p ⟨.nil, l, o⟩ s = if s.l = [] then .ret (Lst.cv f ⟨.nil, l, o⟩) p else .ret (Lst.cv f ⟨.own p.n, l ++ s.l, nofun⟩) (p.new (.tail (l.length + s.l.length))) := by
  unfold appT; split <;> simp_all
theorem appT_e {α : Type} (f : α → CV) (p : Hp) (l : List α) (o : _) (s : Lst α) : appT f p ⟨.exact, l, o⟩ s = if s.l = [] then .ret (Lst.cv f ⟨.exact, l, o⟩) p else .ret (Lst.cv f ⟨.own p.n, l ++ s.l, nofun⟩) (p.new (.tail (l.length + s.l.length))) := by
  unfold appT; split <;> simp_all
theorem appT_c {α : Type} (f : α → CV) (p : Hp) (tl : Tail) (l : List α) (o : _) (u : Tail) (x : α) (m : List α) (o' : _) (h : tl = .nil ∨ tl = .exact) : appT f p ⟨tl, l, o⟩ ⟨u, x :: m, o'⟩ = .ret (Lst.cv f ⟨.own p.n, l ++ x :: m, nofun⟩) (p.new (.tail (l.length + (m.length + 1)))) := by
  unfold appT; rcases h with rfl | rfl <;> simp
theorem appT_o {α : Type} (f : α → CV) (p : Hp) (j : Nat) (l : List α) (o : _) (u : Tail) (x : α) (m : List α) (o' : _) (h : p.t.get j = some (.tail l.length)) (h0 : 0 < l.length) : appT f p ⟨.own j, l, o⟩ ⟨u, x :: m, o'⟩ = .ret (Lst.cv f ⟨.own p.n, l ++ x :: m, nofun⟩) ((p.set j none).new (.tail (l.length + (m.length + 1)))) := by
  unfold appT; simp [h, h0]
theorem xld_p (C : Ctx) (p : Hp) (t : TypeId) (i : Nat) (q : List Nat) : xload C p t (.ptr i q) = match p.t.get i with
    | some (.var sh v) => match C.tt t with
      | some ti => bif subEq sh q ti.sh then v.at q else none
      | none => none
    | _ => none := nd rfl
theorem xld_r (C : Ctx) (p : Hp) (t : TypeId) (v : CV) : xload C p t (.rptr v) = match C.tt t with
    | some ti => bif shOk v ti.sh then some v else none
    | none => none := nd rfl
theorem xfa_p (C : Ctx) (p : Hp) (t : TypeId) (i : Nat) (q : List Nat) (f : Nat) : xfieldAddr C p t (.ptr i q) f = match p.t.get i with
    | some (.var sho _) => match C.tt t with
      | some ⟨.st fs, sh, _, _⟩ => bif subEq sho q sh && Nat.blt f fs.length then some (.ptr i (q ++ [f])) else none
      | _ => none
    | _ => none := nd rfl
theorem xfa_r (C : Ctx) (p : Hp) (t : TypeId) (v : CV) (f : Nat) : xfieldAddr C p t (.rptr v) f = qfieldAddr C p.h t (.rptr v) f := nd rfl
theorem xia_p (C : Ctx) (p : Hp) (t : TypeId) (j : Nat) (q : List Nat) (i : CV) : xindexAddr C p t (.ptr j q) i = match p.t.get j with
    | some (.var sho _) => match C.tt t with
      | some ⟨.ar cnt _ _, sh, _, _⟩ => match i with
        | .sc (.int _ n) => bif inR n cnt && subEq sho q sh then some (.ptr j (q ++ [n.toNat])) else none
        | _ => none
      | _ => none
    | _ => none := nd rfl
theorem xia_r (C : Ctx) (p : Hp) (t : TypeId) (v i : CV) : xindexAddr C p t (.rptr v) i = qindexAddr C p.h t (.rptr v) i := nd rfl
theorem xia_s (C : Ctx) (p : Hp) (t : TypeId) (j : Nat) (q : List Nat) (o n : Nat) (i : CV) : xindexAddr C p t (.slc j q o n) i = qindexAddr C p.h t (.slc j q o n) i := nd rfl
theorem xst_p (C : Ctx) (p : Hp) (t : TypeId) (i : Nat) (q : List Nat) (x : CV) : xstore C p t (.ptr i q) x = match p.t.get i with
    | some (.var sh v) => match C.tt t with
      | some ti => bif subEq sh q ti.sh && shOk x ti.sh then .ret (.tup []) (p.set i (some (.var sh (v.set q x)))) else .stuck
      | none => .stuck
    | _ => .stuck := nd rfl
theorem qbin_fnnil (C : Ctx) (op : BinOp) (t : TypeId) (cy : Bool) (f : FuncId) (a b : List CV) : qbin C op t cy (.fn f a b) (.sc .nilFunc) = match C.tt t with
    | some ⟨.base (.func _ _ _), _, _, _⟩ => eqRes op false
    | _ => none := by
  simp only [qbin]; rfl
theorem qbin_ifcnil (C : Ctx) (op : BinOp) (t : TypeId) (cy : Bool) (s : TypeId) (v : CV) : qbin C op t cy (.ifc s v) (.sc .nilIface) = match C.tt t with
    | some ⟨.base (.interface _), _, _, _⟩ => eqRes op false
    | _ => none := by
  simp only [qbin]; rfl
theorem qbin_nilnil (C : Ctx) (op : BinOp) (t : TypeId) (cy : Bool) : qbin C op t cy (.sc .nilIface) (.sc .nilIface) = match C.tt t, cy with
    | some ⟨.base (.interface _), _, _, _⟩, true => eqRes op true
    | _, _ => none := by
  simp only [qbin]; rfl
theorem iteN {α : Type} {c : Prop} [Decidable c] (h : ¬ c) (v : α) : (if c then none else some v) = some v := if_neg h
theorem iteS {α : Type} {c : Prop} [Decidable c] (h : c) (v : α) : (if c then some v else none) = some v := if_pos h
theorem sub_rep (n k : Nat) (q : List Nat) (s z : Shape) : subEq (.n (List.replicate n s)) (k :: q) z = (decide (k < n) && subEq s q z) := by
  unfold subEq
  by_cases h : k < n
  · simp [Shape.sub, List.getElem?_replicate, h]
  · simp [Shape.sub, List.getElem?_replicate, h]
theorem qbuild_of (C : Ctx) {t : TypeId} {fs : List (Nat × Nat × TypeId)} {shs : List Shape} {b : Nat} {z : List CV} {parts : List (Nat × CV)} {v : CV} (ht : C.tt t = some ⟨.st fs, .n shs, b, .agg z⟩) (hp : partsOk shs parts = true) (hv : .agg (setAll z parts) = v) : qbuild C t parts = some v := by
  simp only [qbuild, ht, hp, if_true, hv]
theorem shOk_n {v : CV} {sh : Shape} {l : List Shape} (h : v.shape = sh) (e : sh = .n l) : shOk v sh = true := by
  subst e
  unfold shOk
  simp [h]
theorem qfield_of (C : Ctx) {t f : Nat} {fs : List (Nat × Nat × TypeId)} {sh : Shape} {b : Nat} {z : CV} (ht : C.tt t = some ⟨.st fs, sh, b, z⟩) {l : List CV} (hsh : (CV.agg l).shape = sh) {d : Nat × Nat × TypeId} (hd : fs[f]? = some d) {tf : TI} (htf : C.tt d.2.2 = some tf) {v : CV} (hv : l[f]? = some v) (ho : shOk v tf.sh = true) : qfield C t (.agg l) f = some v := by
  simp only [qfield, ht, hd, htf, hv, hsh, ho]
  simp
theorem tup0_no (j : Nat) : ¬ (CV.tup []).has j := fun h => by simp [CV.has, CV.hasL] at h
theorem con_of (C : Ctx) {f : FuncId} {R : Rel} (un : ∀ args p r r', R args p r → R args p r' → r = r') (ns : ∀ args p r, R args p r → r ≠ .stuck) (ok : ∀ args p r, R args p r → AnsAt C f args p r) : Con C f R :=
  ⟨un, fun args p r h => ⟨ns args p r h, ok args p r h⟩⟩
theorem xcallv_fn (call : XCall) (p : Hp) (g : FuncId) (a b l : List CV) : xcallv noExt call p (.fn g a b) l = call g (a ++ l ++ b) p := nd rfl
end Go.Cl
end
section
namespace Go.Cl
open Go.RowKit
def ZC.plain : ZC → Bool
  | .skip => true
  | .reg _ => true
  | .draw _ _ _ => false
  | .seq a b => a.plain && b.plain
  | .cond _ a b => a.plain && b.plain
  | .block _ c => c.plain
  | .loop _ => false
  | .exit _ => true
  | .ret => true
section
variable (C : Ctx) (mu : Bool) (ext : FuncId → List CV → Option CV) (call : XCall)
theorem W_run (fuel : Nat) : ∀ (c : Code) (m : ZC) (env : XEnv) (p : Hp) (Q : ZQ), zcode c = some m → m.plain = true → W C mu ext call m env.at p Q → ∃ (e : XE) (env' : XEnv) (p' : Hp), xcode C mu ext call fuel c env p = .ok e env' p' ∧ Q e env'.at p' := by
  intro c
  induction c with
  | skip => intro m env p Q hm _ h; cases hm; exact ⟨.normal, env, p, rfl, h⟩
  | label l => intro m env p Q hm _ h; cases hm; exact ⟨.normal, env, p, rfl, h⟩
  | exit i => intro m env p Q hm _ h; cases hm; exact ⟨.exit i, env, p, rfl, h⟩
  | ret => intro m env p Q hm _ h; cases hm; exact ⟨.ret, env, p, rfl, h⟩
  | region id ops draw =>
    intro m env p Q hm hp h
    cases draw with
    | false =>
      simp only [zcode, cond_false] at hm
      cases hl : lops ops.toList [] ops.toList 0 with
      | none => simp [hl] at hm
      | some l =>
        simp only [hl, Option.some.injEq] at hm
        subst hm
        obtain ⟨e, env', p', h1, h2⟩ := Wo_sound C mu ext call l _ p Q h env rfl
        rw [← xl_eq C _ _ _ _ _ hl] at h1
        exact ⟨e, env', p', h1, h2⟩
    | true =>
      simp only [zcode, cond_true] at hm
      cases hd : drawStat ops.toList (ancs ops.toList []) with
      | false => simp [hd] at hm
      | true =>
        cases hc : dops ops.toList (ancs ops.toList []) ops.toList 0 with
        | none => simp [hd, hc] at hm
        | some l => simp only [hd, hc, cond_true, Option.some.injEq] at hm; subst hm; cases hp
  | seq a b iha ihb =>
    intro m env p Q hm hp h
    simp only [zcode] at hm
    cases hx : zcode a with
    | none => simp [hx] at hm
    | some ma =>
    cases hy : zcode b with
    | none => simp [hx, hy] at hm
    | some mb =>
    simp only [hx, hy, Option.some.injEq] at hm
    subst hm
    simp only [ZC.plain, Bool.and_eq_true] at hp
    obtain ⟨e1, env1, p1, h1, k1⟩ := iha ma env p _ hx hp.1 h
    simp only [xcode, h1]
    cases e1 with
    | normal => exact ihb mb env1 p1 Q hy hp.2 k1
    | exit i => exact ⟨.exit i, env1, p1, rfl, k1⟩
    | ret => exact ⟨.ret, env1, p1, rfl, k1⟩
    | pan v => exact ⟨.pan v, env1, p1, rfl, k1⟩
    | panU v => exact ⟨.panU v, env1, p1, rfl, k1⟩
  | cond x a b iha ihb =>
    intro m env p Q hm hp h
    simp only [zcode] at hm
    cases hx : zcode a with
    | none => simp [hx] at hm
    | some ma =>
    cases hy : zcode b with
    | none => simp [hx, hy] at hm
    | some mb =>
    simp only [hx, hy, Option.some.injEq] at hm
    subst hm
    simp only [ZC.plain, Bool.and_eq_true] at hp
    simp only [W, condW] at h
    split at h
    · rename_i t ht
      have ht' : xev env x = .sc (.bool t) := by rw [xev_eq]; exact ht
      cases t with
      | true =>
        obtain ⟨e, env', p', h1, k1⟩ := iha ma env p Q hx hp.1 h
        exact ⟨e, env', p', by simp only [xcode, ht']; exact h1, k1⟩
      | false =>
        obtain ⟨e, env', p', h1, k1⟩ := ihb mb env p Q hy hp.2 h
        exact ⟨e, env', p', by simp only [xcode, ht']; exact h1, k1⟩
    · exact h.elim
  | block id c ih =>
    intro m env p Q hm hp h
    simp only [zcode] at hm
    cases hx : zcode c with
    | none => simp [hx] at hm
    | some mx =>
    simp only [hx, Option.some.injEq] at hm
    subst hm
    obtain ⟨e1, env1, p1, h1, k1⟩ := ih mx env p _ hx hp h
    cases e1 with
    | exit j =>
      simp only [blkQ] at k1
      cases hb : Nat.beq j id with
      | true => rw [hb] at k1; exact ⟨.normal, env1, p1, by simp only [xcode, h1, hb, cond_true], k1⟩
      | false => rw [hb] at k1; exact ⟨.exit j, env1, p1, by simp only [xcode, h1, hb, cond_false], k1⟩
    | normal => exact ⟨.normal, env1, p1, by simp only [xcode, h1], k1⟩
    | ret => exact ⟨.ret, env1, p1, by simp only [xcode, h1], k1⟩
    | pan v => exact ⟨.pan v, env1, p1, by simp only [xcode, h1], k1⟩
    | panU v => exact ⟨.panU v, env1, p1, by simp only [xcode, h1], k1⟩
  | loop c ih =>
    intro m env p Q hm hp h
    simp only [zcode] at hm
    cases hx : zcode c with
    | none => simp [hx] at hm
    | some mx => simp only [hx, Option.some.injEq] at hm; subst hm; cases hp
  | rangeFunc f ps x y _ _ => intro m env p Q hm; simp [zcode] at hm
  | scope c _ => intro m env p Q hm; simp [zcode] at hm
  | goto l => intro m env p Q hm; simp [zcode] at hm
  | refuse why => intro m env p Q hm; simp [zcode] at hm
noncomputable def qcE (rs : List ResultVar) (ρ3 : Env) (K : XRes → Prop) : ZQ := fun e _ q => match e with
  | .normal => finW (zres C ρ3 q rs) q K
  | .ret => finW (zres C ρ3 q rs) q K
  | _ => False
noncomputable def qcP (mr : ZC) (gd : Tmp) (cv : List CV) (rs : List ResultVar) (K : XRes → Prop) : ZQ := fun e ρ3 p3 => match e with
  | .normal => W C mu ext call mr (put (argE cv) (some gd) (.sc .nilIface)) p3 (qcE C rs ρ3 K)
  | .ret => W C mu ext call mr (put (argE cv) (some gd) (.sc .nilIface)) p3 (qcE C rs ρ3 K)
  | .pan v => W C mu ext call mr (put (argE cv) (some gd) v) p3 (qcE C rs ρ3 K)
  | _ => False
noncomputable def qcB (mp mr : ZC) (x : XC) (K : XRes → Prop) : ZQ := fun e ρ2 p2 => match e with
  | .normal => W C mu ext call mp (put ρ2 (some x.k) (.fn x.g [] (x.caps.map ρ2))) p2 (qcP C mu ext call mr x.gd (x.caps.map ρ2) x.rs K)
  | _ => False
noncomputable def qcA (mb mp mr : ZC) (x : XC) (K : XRes → Prop) : ZQ := fun e ρ1 p1 => match e with
  | .normal => W C mu ext call mb ρ1 p1 (qcB C mu ext call mp mr x K)
  | _ => False
theorem qcA_n (mb mp mr : ZC) (x : XC) (K : XRes → Prop) (ρ : Env) (p : Hp) : qcA C mu ext call mb mp mr x K .normal ρ p = W C mu ext call mb ρ p (qcB C mu ext call mp mr x K) := nd rfl
theorem qcB_n (mp mr : ZC) (x : XC) (K : XRes → Prop) (ρ : Env) (p : Hp) : qcB C mu ext call mp mr x K .normal ρ p = W C mu ext call mp (put ρ (some x.k) (.fn x.g [] (x.caps.map ρ))) p (qcP C mu ext call mr x.gd (x.caps.map ρ) x.rs K) := nd rfl
theorem qcP_n (mr : ZC) (gd : Tmp) (cv : List CV) (rs : List ResultVar) (K : XRes → Prop) (ρ : Env) (p : Hp) : qcP C mu ext call mr gd cv rs K .normal ρ p = W C mu ext call mr (put (argE cv) (some gd) (.sc .nilIface)) p (qcE C rs ρ K) := nd rfl
theorem qcP_r (mr : ZC) (gd : Tmp) (cv : List CV) (rs : List ResultVar) (K : XRes → Prop) (ρ : Env) (p : Hp) : qcP C mu ext call mr gd cv rs K .ret ρ p = W C mu ext call mr (put (argE cv) (some gd) (.sc .nilIface)) p (qcE C rs ρ K) := nd rfl
theorem qcP_p (mr : ZC) (gd : Tmp) (cv : List CV) (rs : List ResultVar) (K : XRes → Prop) (ρ : Env) (p : Hp) (v : CV) : qcP C mu ext call mr gd cv rs K (.pan v) ρ p = W C mu ext call mr (put (argE cv) (some gd) v) p (qcE C rs ρ K) := nd rfl
theorem qcE_n (rs : List ResultVar) (ρ3 : Env) (K : XRes → Prop) (ρ : Env) (q : Hp) : qcE C rs ρ3 K .normal ρ q = finW (zres C ρ3 q rs) q K := nd rfl
theorem qcE_r (rs : List ResultVar) (ρ3 : Env) (K : XRes → Prop) (ρ : Env) (q : Hp) : qcE C rs ρ3 K .ret ρ q = finW (zres C ρ3 q rs) q K := nd rfl
theorem fin_run {env : XEnv} {p : Hp} {rs : List ResultVar} {K : XRes → Prop} (h : finW (zres C env.at p rs) p K) : K (xfin p (xres C env p rs)) := by
  rw [← zres_eq] at h
  cases hx : xres C env p rs with
  | none => simp [hx, finW] at h
  | some l => rw [hx] at h; exact h
theorem ans_catch {f : FuncId} {x : XC} (hf : XCok C f x) (hext : ExtOk C ext) (hT : CallOk C call) {ma mb mp mr : ZC} (ha : zcode x.a = some ma) (hb : zcode x.b = some mb) (hp : zcode x.post = some mp) (hr : zcode x.rest = some mr) (hpl : (ma.plain && mb.plain && mp.plain && mr.plain) = true)
    {args : List CV} {p : Hp} {r : XRes} (hl : args.length ≤ x.n) (hname : ∃ fn, C.P.funcs[f]? = some fn ∧ fn.body.isNone = false ∧ (fn.name == "runtime.NumGoroutine") = false)
    (h : Fine args p → W C mu ext call ma (argE args) p (qcA C mu ext call mb mp mr x fun r' => ShrR p r' r)) : AnsAt C f args p r := by
  refine ⟨hname, fun w0 B S w vals r0 hV => ?_⟩
  have hW := h (fine_of r0 hV)
  simp only [Bool.and_eq_true] at hpl
  obtain ⟨⟨⟨p1, p2⟩, p3⟩, p4⟩ := hpl
  have hs := xcatch_sound C hext hT (mu := mu) (fuel := 0) hf r0 hV
  refine Ans.shr C r0 hs ?_
  unfold xcatch
  rw [Nat.ble_eq_true_of_le hl, cond_true]
  rw [← argE_eq] at hW
  obtain ⟨e1, env1, q1, h1, k1⟩ := W_run C mu ext call 0 x.a ma _ p _ ha p1 hW
  rw [h1]
  cases e1 with
  | normal =>
    simp only
    obtain ⟨e2, env2, q2, h2, k2⟩ := W_run C mu ext call 0 x.b mb _ q1 _ hb p2 k1
    rw [h2]
    cases e2 with
    | normal =>
      simp only
      simp only [qcB] at k2
      rw [← XEnv.at_put] at k2
      obtain ⟨e3, env3, q3, h3, k3⟩ := W_run C mu ext call 0 x.post mp _ q2 _ hp p3 k2
      rw [h3]
      have fin : ∀ rec : CV, W C mu ext call mr (put (argE (x.caps.map env2.at)) (some x.gd) rec) q3 (qcE C x.rs env3.at fun r' => ShrR p r' r) → ShrR p (xcatchEnd C mu ext call 0 x (x.caps.map env2.at) rec env3 q3) r := by
        intro rec hw
        rw [← argE_eq, ← XEnv.at_put] at hw
        obtain ⟨e4, env4, q4, h4, k4⟩ := W_run C mu ext call 0 x.rest mr _ q3 _ hr p4 hw
        unfold xcatchEnd
        rw [h4]
        cases e4 with
        | normal => exact fin_run C (K := fun r' => ShrR p r' r) k4
        | ret => exact fin_run C (K := fun r' => ShrR p r' r) k4
        | exit i => exact k4.elim
        | pan v => exact k4.elim
        | panU v => exact k4.elim
      cases e3 with
      | normal => exact fin _ k3
      | ret => exact fin _ k3
      | pan v => exact fin _ k3
      | exit i => exact k3.elim
      | panU v => exact k3.elim
    | exit i => exact k2.elim
    | ret => exact k2.elim
    | pan v => exact k2.elim
    | panU v => exact k2.elim
  | exit i => exact k1.elim
  | ret => exact k1.elim
  | pan v => exact k1.elim
  | panU v => exact k1.elim
end
end Go.Cl
end
section
namespace Go.Cl
theorem zunf (C : Ctx) {c d : ZC} (h : c = d) (mu : Bool) (ext : FuncId → List CV → Option CV) (call : XCall) (ρ : Env) (p : Hp) (Q : ZQ) : W C mu ext call c ρ p Q = W C mu ext call d ρ p Q := by rw [h]
set_option linter.defProp false in
def zall :=
  And.intro @W_seq <|
  And.intro @W_reg <|
  And.intro @W_draw <|
  And.intro @W_ret <|
  And.intro @W_skip <|
  And.intro @W_cond <|
  And.intro @W_block <|
  And.intro @W_exit <|
  And.intro @Wo_nil <|
  And.intro @Wo_on <|
  And.intro @Wo_gd <|
  And.intro @bindO_ret <|
  And.intro @bindO_pan <|
  And.intro @wantO_t <|
  And.intro @wantO_f <|
  And.intro @seqQ_n <|
  And.intro @seqQ_e <|
  And.intro @seqQ_r <|
  And.intro @seqQ_p <|
  And.intro @seqQ_u <|
  And.intro @blkQ_n <|
  And.intro @blkQ_e <|
  And.intro @blkQ_r <|
  And.intro @blkQ_p <|
  And.intro @blkQ_u <|
  And.intro @condW_t <|
  And.intro @condW_f <|
  And.intro @condW_not <|
  And.intro @zev_tmp <|
  And.intro @zev_const <|
  And.intro @zev_func <|
  And.intro @zofConst_int <|
  And.intro @zofConst_bool <|
  And.intro @ofConst_str <|
  And.intro @zofConst_float <|
  And.intro @ofConst_nilslice <|
  And.intro @ofConst_nilptr <|
  And.intro @ofConst_nilfunc <|
  And.intro @ofConst_nilif <|
  And.intro @ofConst_nilmap <|
  And.intro @put_at <|
  And.intro @zput_none <|
  And.intro @argE_0 <|
  And.intro @argE_s <|
  And.intro @qmin2 <|
  And.intro @qmax2 <|
  And.intro @endQ_r <|
  And.intro @endQ_n <|
  And.intro @endQ_p <|
  And.intro @endQ_u <|
  And.intro @zres_nil <|
  And.intro @zres_tmp <|
  And.intro @zres_cell <|
  And.intro @finW_some <|
  And.intro @pack_0 <|
  And.intro @pack_1 <|
  And.intro @pack_2 <|
  And.intro @qbin_int <|
  And.intro @qbin_float <|
  And.intro @qbin_bool <|
  And.intro @qbin_str <|
  And.intro @qbin_fnnil <|
  And.intro @qbin_ifcnil <|
  And.intro @qbin_nilnil <|
  And.intro @zwanted_b <|
  And.intro @Wd_nil <|
  And.intro @Wd_on <|
  And.intro @Wd_gd <|
  And.intro @wantD_t <|
  And.intro @wantD_f <|
  And.intro @stepD_q <|
  And.intro @stepD_e <|
  And.intro @stepD_a <|
  And.intro @bindQ_ret <|
  And.intro @bindE_ret <|
  And.intro @bindE_pan <|
  And.intro @histP_nil <|
  And.intro @histP_cons <|
  And.intro @histA_nil <|
  And.intro @histA_cons <|
  And.intro @allW_nil <|
  And.intro @allW_cons <|
  And.intro @memN_nil <|
  And.intro @memN_cons <|
  And.intro @pushW_nil <|
  And.intro @pushW_cons <|
  And.intro @pushH_t <|
  And.intro @pushH_f <|
  And.intro @still_eq <|
  And.intro @stillK_q <|
  And.intro @stillK_a <|
  And.intro @layZ_nil <|
  And.intro @layZ_cons <|
  And.intro @xcallv_fn <|
  And.intro @xld_p <|
  And.intro @xld_r <|
  And.intro @xfa_p <|
  And.intro @xfa_r <|
  And.intro @xia_p <|
  And.intro @xia_r <|
  And.intro @xia_s <|
  And.intro @xst_p <|
  And.intro @Hp.bump_get <|
  And.intro @Hp.bump_n <|
  And.intro @Hp.get_set_self <|
  And.intro @Hp.get_set_ne <|
  And.intro @Hp.get_new_self <|
  And.intro @Hp.get_new_eq <|
  And.intro @Hp.get_new_ne <|
  And.intro @Hp.zset_n <|
  And.intro @Hp.znew_n <|
  And.intro @bltn_dec <|
  And.intro @beqT <|
  And.intro @beqF <|
  And.intro @subEq_self <|
  And.intro @cond_pos <|
  And.intro @cond_neg <|
  And.intro @inR_dec <|
  And.intro @at_nil <|
  And.intro @set_nil <|
  And.intro @shOk_sc <|
  And.intro @shOk_lst <|
  And.intro @shOk_lst' <|
  And.intro @shOk_ptr <|
  And.intro @shOk_slc <|
  And.intro @shOk_fn <|
  And.intro @shOk_ifc <|
  And.intro @Wn_succ <|
  And.intro @wrap_i64 <|
  And.intro @cast_lit <|
  And.intro @iteN <|
  And.intro @iteS <|
  And.intro @appT_0 <|
  And.intro @appT_n <|
  And.intro @appT_e <|
  And.intro @appT_c <|
  And.intro @appT_o <|
  And.intro @nilness_0 <|
  And.intro @nilness_e <|
  And.intro @nilness_p <|
  And.intro @nilness_o <|
  And.intro @nilness_v <|
  @nilness_n
set_option linter.defProp false in
def zheap := And.intro @Hp.bump_get <| And.intro @Hp.bump_n <| And.intro @Hp.get_set_self <| And.intro @Hp.get_set_ne <| And.intro @Hp.get_new_self <| And.intro @Hp.get_new_eq <| And.intro @Hp.get_new_ne <| And.intro @Hp.zset_n @Hp.znew_n
end Go.Cl
end
section
namespace Go.Proofs.Ytpchcfkebljopaa
open Go.Cl Go Go.RowKit
set_option maxRecDepth 100000
noncomputable def zn201_1 : ZC := ZC.reg [⟨some 6, .assign (.const (.int .i64 0)), none, true⟩]
noncomputable def zn201_3 : ZC := ZC.reg [⟨some 7, .move (.tmp 1), none, false⟩, ⟨some 8, .move (.tmp 0), none, false⟩, ⟨some 9, .move (.tmp 2), none, false⟩, ⟨some 10, .call ⟨.builtin .min, ⟨[.tmp 8, .tmp 9]⟩, ⟨[3, 3]⟩⟩, none, false⟩, ⟨some 11, .call ⟨.builtin .max, ⟨[.tmp 7, .tmp 10]⟩, ⟨[3, 3]⟩⟩, none, false⟩, ⟨some 6, .assign (.tmp 11), none, true⟩]
noncomputable def zn201_2 : ZC := ZC.seq zn201_3 ZC.ret
noncomputable def zn201_0 : ZC := ZC.seq zn201_1 zn201_2
noncomputable def zc201 : ZC := zn201_0
theorem zc201_ok : zcode (xfOf Try.f201).code = some zc201 := by kernel_rfl
set_option linter.defProp false in
def zw201 := And.intro (zunf C zc201.eq_1) <| And.intro (zunf C zn201_1.eq_1) <| And.intro (zunf C zn201_3.eq_1) <| And.intro (zunf C zn201_2.eq_1) <| (zunf C zn201_0.eq_1)
theorem rs201 : (xfOf Try.f201).rs = [.tmp 6] := by kernel_rfl
theorem xf201 : XFok C 201 (xfOf Try.f201) := ⟨Try.f201, by kernel_rfl, by kernel_rfl, by kernel_rfl, by kernel_rfl, by kernel_rfl, by kernel_rfl, by kernel_rfl⟩
noncomputable def zn84_1 : ZC := ZC.reg [⟨some 6, .assign (.const (.bool false)), none, true⟩]
noncomputable def zn84_3 : ZC := ZC.reg [⟨some 7, .move (.tmp 0), none, false⟩, ⟨some 8, .move (.tmp 1), none, false⟩, ⟨some 9, .binOp .geq 3 (.tmp 7) (.tmp 8) 3, none, false⟩, ⟨some 10, .move (.tmp 9), none, false⟩, ⟨some 11, .move (.tmp 0), some (10, true), false⟩, ⟨some 12, .move (.tmp 2), some (10, true), false⟩, ⟨some 13, .binOp .leq 3 (.tmp 11) (.tmp 12) 3, some (10, true), false⟩, ⟨some 14, .pick (.tmp 10) (.tmp 13) (.const (.bool false)), none, false⟩, ⟨some 6, .assign (.tmp 14), none, true⟩]
noncomputable def zn84_2 : ZC := ZC.seq zn84_3 ZC.ret
noncomputable def zn84_0 : ZC := ZC.seq zn84_1 zn84_2
noncomputable def zc84 : ZC := zn84_0
theorem zc84_ok : zcode (xfOf Try.f84).code = some zc84 := by kernel_rfl
set_option linter.defProp false in
def zw84 := And.intro (zunf C zc84.eq_1) <| And.intro (zunf C zn84_1.eq_1) <| And.intro (zunf C zn84_3.eq_1) <| And.intro (zunf C zn84_2.eq_1) <| (zunf C zn84_0.eq_1)
theorem rs84 : (xfOf Try.f84).rs = [.tmp 6] := by kernel_rfl
theorem xf84 : XFok C 84 (xfOf Try.f84) := ⟨Try.f84, by kernel_rfl, by kernel_rfl, by kernel_rfl, by kernel_rfl, by kernel_rfl, by kernel_rfl, by kernel_rfl⟩
noncomputable def zn150_0 : ZC := ZC.reg [⟨some 6, .move (.tmp 1), none, false⟩, ⟨some 7, .move (.tmp 2), none, false⟩, ⟨some 8, .move (.tmp 0), none, false⟩, ⟨some 9, .nilCheck (.tmp 8), none, false⟩, ⟨some 10, .fieldAddr 131 (.tmp 9) 2, none, false⟩, ⟨some 11, .load 3 (.tmp 10), none, false⟩, ⟨some 12, .call ⟨.value (.func 181), ⟨[.tmp 6, .tmp 7, .tmp 11]⟩, ⟨[4, 3, 3]⟩⟩, none, true⟩]
noncomputable def zc150 : ZC := zn150_0
theorem zc150_ok : zcode (xfOf Try.f150).code = some zc150 := by kernel_rfl
set_option linter.defProp false in
def zw150 := And.intro (zunf C zc150.eq_1) <| (zunf C zn150_0.eq_1)
theorem rs150 : (xfOf Try.f150).rs = [] := by kernel_rfl
theorem xf150 : XFok C 150 (xfOf Try.f150) := ⟨Try.f150, by kernel_rfl, by kernel_rfl, by kernel_rfl, by kernel_rfl, by kernel_rfl, by kernel_rfl, by kernel_rfl⟩
noncomputable def zn183_0 : ZC := ZC.draw 10 [] [⟨0, some 6, .move (.tmp 0), none, false, [], [], false⟩, ⟨1, some 7, .move (.tmp 1), none, false, [], [], false⟩, ⟨2, some 8, .move (.tmp 2), none, false, [], [], false⟩, ⟨3, some 9, .call ⟨.value (.func 201), ⟨[.tmp 8, .const (.int .i64 (-1000000)), .const (.int .i64 1000000)]⟩, ⟨[3, 3, 3]⟩⟩, none, false, [], [], true⟩, ⟨4, some 10, .nilCheck (.tmp 6), none, true, [], [], false⟩, ⟨5, some 11, .fieldAddr 131 (.tmp 10) 0, none, true, [3], [], false⟩, ⟨6, some 12, .fieldAddr 39 (.tmp 11) 0, none, true, [3], [], false⟩, ⟨7, some 13, .fieldAddr 34 (.tmp 12) 7, none, true, [3], [], false⟩, ⟨8, some 14, .indexAddr 32 (.tmp 13) (.tmp 7), none, true, [], [], false⟩, ⟨9, none, .store 3 (.tmp 14) (.tmp 9), none, true, [], [], false⟩]
noncomputable def zc183 : ZC := zn183_0
theorem zc183_ok : zcode (xfOf Try.f183).code = some zc183 := by kernel_rfl
set_option linter.defProp false in
def zw183 := And.intro (zunf C zc183.eq_1) <| (zunf C zn183_0.eq_1)
theorem rs183 : (xfOf Try.f183).rs = [] := by kernel_rfl
theorem xf183 : XFok C 183 (xfOf Try.f183) := ⟨Try.f183, by kernel_rfl, by kernel_rfl, by kernel_rfl, by kernel_rfl, by kernel_rfl, by kernel_rfl, by kernel_rfl⟩
noncomputable def zn186_1 : ZC := ZC.reg [⟨some 4, .assign (.const (.int .i64 0)), none, true⟩]
noncomputable def zn186_3 : ZC := ZC.reg [⟨some 5, .move (.tmp 0), none, false⟩, ⟨some 6, .move (.tmp 1), none, false⟩, ⟨some 7, .nilCheck (.tmp 5), none, false⟩, ⟨some 8, .fieldAddr 131 (.tmp 7) 0, none, false⟩, ⟨some 9, .fieldAddr 39 (.tmp 8) 0, none, false⟩, ⟨some 10, .fieldAddr 34 (.tmp 9) 7, none, false⟩, ⟨some 11, .indexAddr 32 (.tmp 10) (.tmp 6), none, false⟩, ⟨some 12, .load 3 (.tmp 11), none, false⟩, ⟨some 4, .assign (.tmp 12), none, true⟩]
noncomputable def zn186_2 : ZC := ZC.seq zn186_3 ZC.ret
noncomputable def zn186_0 : ZC := ZC.seq zn186_1 zn186_2
noncomputable def zc186 : ZC := zn186_0
theorem zc186_ok : zcode (xfOf Try.f186).code = some zc186 := by kernel_rfl
set_option linter.defProp false in
def zw186 := And.intro (zunf C zc186.eq_1) <| And.intro (zunf C zn186_1.eq_1) <| And.intro (zunf C zn186_3.eq_1) <| And.intro (zunf C zn186_2.eq_1) <| (zunf C zn186_0.eq_1)
theorem rs186 : (xfOf Try.f186).rs = [.tmp 4] := by kernel_rfl
theorem xf186 : XFok C 186 (xfOf Try.f186) := ⟨Try.f186, by kernel_rfl, by kernel_rfl, by kernel_rfl, by kernel_rfl, by kernel_rfl, by kernel_rfl, by kernel_rfl⟩
noncomputable def zn181_1 : ZC := ZC.reg [⟨some 6, .move (.tmp 0), none, false⟩, ⟨some 7, .unOp .not 4 (.tmp 6), none, true⟩]
noncomputable def zn181_3 : ZC := ZC.reg [⟨some 8, .move (.tmp 1), none, false⟩, ⟨some 9, .move (.tmp 2), none, false⟩, ⟨some 10, .call ⟨.value (.func 200), ⟨[.tmp 8, .tmp 9]⟩, ⟨[3, 3]⟩⟩, none, true⟩]
noncomputable def zn181_2 : ZC := ZC.cond (.tmp 7) zn181_3 ZC.skip
noncomputable def zn181_0 : ZC := ZC.seq zn181_1 zn181_2
noncomputable def zc181 : ZC := zn181_0
theorem zc181_ok : zcode (xfOf Try.f181).code = some zc181 := by kernel_rfl
set_option linter.defProp false in
def zw181 := And.intro (zunf C zc181.eq_1) <| And.intro (zunf C zn181_1.eq_1) <| And.intro (zunf C zn181_3.eq_1) <| And.intro (zunf C zn181_2.eq_1) <| (zunf C zn181_0.eq_1)
theorem rs181 : (xfOf Try.f181).rs = [] := by kernel_rfl
theorem xf181 : XFok C 181 (xfOf Try.f181) := ⟨Try.f181, by kernel_rfl, by kernel_rfl, by kernel_rfl, by kernel_rfl, by kernel_rfl, by kernel_rfl, by kernel_rfl⟩
noncomputable def zn200_0 : ZC := ZC.reg [⟨some 4, .move (.tmp 0), none, false⟩, ⟨some 5, .move (.tmp 1), none, false⟩, ⟨some 6, .build 44 ⟨[(0, .tmp 4), (1, .tmp 5)]⟩, none, false⟩, ⟨some 7, .build 194 ⟨[(0, .tmp 6)]⟩, none, false⟩, ⟨some 8, .makeInterface 194 (.tmp 7), none, false⟩, ⟨none, .panic (.tmp 8), none, true⟩]
noncomputable def zc200 : ZC := zn200_0
theorem zc200_ok : zcode (xfOf Try.f200).code = some zc200 := by kernel_rfl
set_option linter.defProp false in
def zw200 := And.intro (zunf C zc200.eq_1) <| (zunf C zn200_0.eq_1)
theorem rs200 : (xfOf Try.f200).rs = [] := by kernel_rfl
theorem xf200 : XFok C 200 (xfOf Try.f200) := ⟨Try.f200, by kernel_rfl, by kernel_rfl, by kernel_rfl, by kernel_rfl, by kernel_rfl, by kernel_rfl, by kernel_rfl⟩
noncomputable def zn187_1 : ZC := ZC.reg [⟨some 4, .assign (.const (.int .i64 0)), none, true⟩]
noncomputable def zn187_3 : ZC := ZC.reg [⟨some 5, .move (.tmp 0), none, false⟩, ⟨some 6, .move (.tmp 1), none, false⟩, ⟨some 7, .move (.tmp 0), none, false⟩, ⟨some 8, .nilCheck (.tmp 7), none, false⟩, ⟨some 9, .fieldAddr 131 (.tmp 8) 1, none, false⟩, ⟨some 10, .load 23 (.tmp 9), none, false⟩, ⟨some 11, .call ⟨.builtin .len, ⟨[.tmp 10]⟩, ⟨[23]⟩⟩, none, false⟩, ⟨some 12, .call ⟨.value (.func 84), ⟨[.tmp 6, .const (.int .i64 0), .tmp 11]⟩, ⟨[3, 3, 3]⟩⟩, none, false⟩, ⟨some 13, .call ⟨.value (.func 150), ⟨[.tmp 5, .tmp 12, .const (.int .i64 4)]⟩, ⟨[129, 4, 3]⟩⟩, none, true⟩]
noncomputable def zn187_5 : ZC := ZC.reg [⟨some 14, .move (.tmp 1), none, false⟩, ⟨some 4, .assign (.tmp 14), none, true⟩]
noncomputable def zn187_4 : ZC := ZC.seq zn187_5 ZC.ret
noncomputable def zn187_2 : ZC := ZC.seq zn187_3 zn187_4
noncomputable def zn187_0 : ZC := ZC.seq zn187_1 zn187_2
noncomputable def zc187 : ZC := zn187_0
theorem zc187_ok : zcode (xfOf Try.f187).code = some zc187 := by kernel_rfl
set_option linter.defProp false in
def zw187 := And.intro (zunf C zc187.eq_1) <| And.intro (zunf C zn187_1.eq_1) <| And.intro (zunf C zn187_3.eq_1) <| And.intro (zunf C zn187_5.eq_1) <| And.intro (zunf C zn187_4.eq_1) <| And.intro (zunf C zn187_2.eq_1) <| (zunf C zn187_0.eq_1)
theorem rs187 : (xfOf Try.f187).rs = [.tmp 4] := by kernel_rfl
theorem xf187 : XFok C 187 (xfOf Try.f187) := ⟨Try.f187, by kernel_rfl, by kernel_rfl, by kernel_rfl, by kernel_rfl, by kernel_rfl, by kernel_rfl, by kernel_rfl⟩
noncomputable def zn71_1 : ZC := ZC.reg [⟨some 6, .assign (.const (.bool false)), none, true⟩]
noncomputable def zn71_3 : ZC := ZC.reg [⟨some 7, .move (.tmp 0), none, false⟩, ⟨some 8, .move (.tmp 1), none, false⟩, ⟨some 9, .binOp .geq 3 (.tmp 7) (.tmp 8) 3, none, false⟩, ⟨some 10, .move (.tmp 9), none, false⟩, ⟨some 11, .move (.tmp 0), some (10, true), false⟩, ⟨some 12, .move (.tmp 2), some (10, true), false⟩, ⟨some 13, .binOp .leq 3 (.tmp 11) (.tmp 12) 3, some (10, true), false⟩, ⟨some 14, .pick (.tmp 10) (.tmp 13) (.const (.bool false)), none, false⟩, ⟨some 6, .assign (.tmp 14), none, true⟩]
noncomputable def zn71_2 : ZC := ZC.seq zn71_3 ZC.ret
noncomputable def zn71_0 : ZC := ZC.seq zn71_1 zn71_2
noncomputable def zc71 : ZC := zn71_0
theorem zc71_ok : zcode (xfOf Try.f71).code = some zc71 := by kernel_rfl
set_option linter.defProp false in
def zw71 := And.intro (zunf C zc71.eq_1) <| And.intro (zunf C zn71_1.eq_1) <| And.intro (zunf C zn71_3.eq_1) <| And.intro (zunf C zn71_2.eq_1) <| (zunf C zn71_0.eq_1)
theorem rs71 : (xfOf Try.f71).rs = [.tmp 6] := by kernel_rfl
theorem xf71 : XFok C 71 (xfOf Try.f71) := ⟨Try.f71, by kernel_rfl, by kernel_rfl, by kernel_rfl, by kernel_rfl, by kernel_rfl, by kernel_rfl, by kernel_rfl⟩
noncomputable def zn140_1 : ZC := ZC.reg [⟨some 6, .assign (.const (.int .i64 0)), none, true⟩]
noncomputable def zn140_3 : ZC := ZC.reg [⟨some 7, .move (.tmp 1), none, false⟩, ⟨some 8, .move (.tmp 0), none, false⟩, ⟨some 9, .move (.tmp 2), none, false⟩, ⟨some 10, .call ⟨.builtin .min, ⟨[.tmp 8, .tmp 9]⟩, ⟨[3, 3]⟩⟩, none, false⟩, ⟨some 11, .call ⟨.builtin .max, ⟨[.tmp 7, .tmp 10]⟩, ⟨[3, 3]⟩⟩, none, false⟩, ⟨some 6, .assign (.tmp 11), none, true⟩]
noncomputable def zn140_2 : ZC := ZC.seq zn140_3 ZC.ret
noncomputable def zn140_0 : ZC := ZC.seq zn140_1 zn140_2
noncomputable def zc140 : ZC := zn140_0
theorem zc140_ok : zcode (xfOf Try.f140).code = some zc140 := by kernel_rfl
set_option linter.defProp false in
def zw140 := And.intro (zunf C zc140.eq_1) <| And.intro (zunf C zn140_1.eq_1) <| And.intro (zunf C zn140_3.eq_1) <| And.intro (zunf C zn140_2.eq_1) <| (zunf C zn140_0.eq_1)
theorem rs140 : (xfOf Try.f140).rs = [.tmp 6] := by kernel_rfl
theorem xf140 : XFok C 140 (xfOf Try.f140) := ⟨Try.f140, by kernel_rfl, by kernel_rfl, by kernel_rfl, by kernel_rfl, by kernel_rfl, by kernel_rfl, by kernel_rfl⟩
noncomputable def zn24_1 : ZC := ZC.reg [⟨some 1, .box 34 (.tmp 0), none, false⟩, ⟨some 2, .assign (.const (.bool false)), none, true⟩]
noncomputable def zn24_4 : ZC := ZC.reg [⟨some 7, .fieldAddr 34 (.tmp 1) 0, none, false⟩, ⟨some 8, .load 3 (.tmp 7), none, false⟩, ⟨some 9, .binOp .eql 3 (.tmp 8) (.const (.int .i64 0)) 3, none, true⟩]
noncomputable def zn24_7 : ZC := ZC.reg [⟨some 10, .load 34 (.tmp 1), none, false⟩, ⟨some 11, .build 34 ⟨[]⟩, none, false⟩, ⟨some 12, .binOp .eql 34 (.tmp 10) (.tmp 11) 34, none, false⟩, ⟨some 2, .assign (.tmp 12), none, true⟩]
noncomputable def zn24_6 : ZC := ZC.seq zn24_7 ZC.ret
noncomputable def zn24_5 : ZC := ZC.cond (.tmp 9) zn24_6 ZC.skip
noncomputable def zn24_3 : ZC := ZC.seq zn24_4 zn24_5
noncomputable def zn24_10 : ZC := ZC.reg [⟨some 13, .fieldAddr 34 (.tmp 1) 7, none, false⟩, ⟨some 14, .load 32 (.tmp 13), none, false⟩, ⟨some 15, .move (.const (.int .i64 0)), none, true⟩]
noncomputable def zn24_14 : ZC := ZC.reg [⟨some 16, .binOp .lss 3 (.tmp 15) (.const (.int .i64 4)) 3, none, true⟩]
noncomputable def zn24_16 : ZC := ZC.cond (.tmp 16) ZC.skip (ZC.exit 0)
noncomputable def zn24_20 : ZC := ZC.reg [⟨some 17, .index 32 (.tmp 14) (.tmp 15), none, false⟩, ⟨some 4, .assign (.tmp 17), none, true⟩]
noncomputable def zn24_22 : ZC := ZC.reg [⟨some 18, .move (.tmp 4), none, false⟩, ⟨some 19, .call ⟨.value (.func 71), ⟨[.tmp 18, .const (.int .i64 (-1000000)), .const (.int .i64 1000000)]⟩, ⟨[3, 3, 3]⟩⟩, none, false⟩, ⟨some 20, .unOp .not 4 (.tmp 19), none, true⟩]
noncomputable def zn24_25 : ZC := ZC.reg [⟨some 2, .assign (.const (.bool false)), none, true⟩]
noncomputable def zn24_24 : ZC := ZC.seq zn24_25 ZC.ret
noncomputable def zn24_23 : ZC := ZC.cond (.tmp 20) zn24_24 ZC.skip
noncomputable def zn24_21 : ZC := ZC.seq zn24_22 zn24_23
noncomputable def zn24_19 : ZC := ZC.seq zn24_20 zn24_21
noncomputable def zn24_18 : ZC := ZC.block 1 zn24_19
noncomputable def zn24_26 : ZC := ZC.reg [⟨some 21, .binOp .add 3 (.tmp 15) (.const (.int .i64 1)) 3, none, false⟩, ⟨some 15, .move (.tmp 21), none, true⟩]
noncomputable def zn24_17 : ZC := ZC.seq zn24_18 zn24_26
noncomputable def zn24_15 : ZC := ZC.seq zn24_16 zn24_17
noncomputable def zn24_13 : ZC := ZC.seq zn24_14 zn24_15
noncomputable def zn24_12 : ZC := ZC.loop zn24_13
noncomputable def zn24_11 : ZC := ZC.block 0 zn24_12
noncomputable def zn24_9 : ZC := ZC.seq zn24_10 zn24_11
noncomputable def zn24_28 : ZC := ZC.reg [⟨some 22, .fieldAddr 34 (.tmp 1) 2, none, false⟩, ⟨some 23, .load 3 (.tmp 22), none, false⟩, ⟨some 24, .call ⟨.value (.func 71), ⟨[.tmp 23, .const (.int .i64 0), .const (.int .i64 4095)]⟩, ⟨[3, 3, 3]⟩⟩, none, false⟩, ⟨some 25, .move (.tmp 24), none, false⟩, ⟨some 26, .fieldAddr 34 (.tmp 1) 3, some (25, true), false⟩, ⟨some 27, .load 3 (.tmp 26), some (25, true), false⟩, ⟨some 28, .call ⟨.value (.func 71), ⟨[.tmp 27, .const (.int .i64 0), .const (.int .i64 4095)]⟩, ⟨[3, 3, 3]⟩⟩, some (25, true), false⟩, ⟨some 29, .pick (.tmp 25) (.tmp 28) (.const (.bool false)), none, false⟩, ⟨some 5, .assign (.tmp 29), none, true⟩]
noncomputable def zn24_30 : ZC := ZC.reg [⟨some 30, .fieldAddr 34 (.tmp 1) 4, none, false⟩, ⟨some 31, .load 3 (.tmp 30), none, false⟩, ⟨some 32, .call ⟨.value (.func 71), ⟨[.tmp 31, .const (.int .i64 (-64)), .const (.int .i64 64)]⟩, ⟨[3, 3, 3]⟩⟩, none, false⟩, ⟨some 33, .move (.tmp 32), none, false⟩, ⟨some 34, .fieldAddr 34 (.tmp 1) 5, some (33, true), false⟩, ⟨some 35, .load 3 (.tmp 34), some (33, true), false⟩, ⟨some 36, .call ⟨.value (.func 71), ⟨[.tmp 35, .const (.int .i64 (-64)), .const (.int .i64 64)]⟩, ⟨[3, 3, 3]⟩⟩, some (33, true), false⟩, ⟨some 37, .pick (.tmp 33) (.tmp 36) (.const (.bool false)), none, false⟩, ⟨some 6, .assign (.tmp 37), none, true⟩]
noncomputable def zn24_32 : ZC := ZC.reg [⟨some 38, .fieldAddr 34 (.tmp 1) 0, none, false⟩, ⟨some 39, .load 3 (.tmp 38), none, false⟩, ⟨some 40, .binOp .eql 3 (.tmp 39) (.const (.int .i64 1)) 3, none, false⟩, ⟨some 41, .move (.tmp 40), none, false⟩, ⟨some 42, .fieldAddr 34 (.tmp 1) 0, some (41, false), false⟩, ⟨some 43, .load 3 (.tmp 42), some (41, false), false⟩, ⟨some 44, .binOp .eql 3 (.tmp 43) (.const (.int .i64 2)) 3, some (41, false), false⟩, ⟨some 45, .pick (.tmp 41) (.const (.bool true)) (.tmp 44), none, false⟩, ⟨some 46, .move (.tmp 45), none, false⟩, ⟨some 47, .fieldAddr 34 (.tmp 1) 1, some (46, true), false⟩, ⟨some 48, .load 3 (.tmp 47), some (46, true), false⟩, ⟨some 49, .call ⟨.value (.func 71), ⟨[.tmp 48, .const (.int .i64 0), .const (.int .i64 7)]⟩, ⟨[3, 3, 3]⟩⟩, some (46, true), false⟩, ⟨some 50, .pick (.tmp 46) (.tmp 49) (.const (.bool false)), none, false⟩, ⟨some 51, .move (.tmp 50), none, false⟩, ⟨some 52, .move (.tmp 5), some (51, true), false⟩, ⟨some 53, .pick (.tmp 51) (.tmp 52) (.const (.bool false)), none, false⟩, ⟨some 54, .move (.tmp 53), none, false⟩, ⟨some 55, .move (.tmp 6), some (54, true), false⟩, ⟨some 56, .pick (.tmp 54) (.tmp 55) (.const (.bool false)), none, false⟩, ⟨some 57, .move (.tmp 56), none, false⟩, ⟨some 58, .fieldAddr 34 (.tmp 1) 6, some (57, true), false⟩, ⟨some 59, .load 3 (.tmp 58), some (57, true), false⟩, ⟨some 60, .call ⟨.value (.func 71), ⟨[.tmp 59, .const (.int .i64 0), .const (.int .i64 600)]⟩, ⟨[3, 3, 3]⟩⟩, some (57, true), false⟩, ⟨some 61, .pick (.tmp 57) (.tmp 60) (.const (.bool false)), none, false⟩, ⟨some 62, .move (.tmp 61), none, false⟩, ⟨some 63, .fieldAddr 34 (.tmp 1) 8, some (62, true), false⟩, ⟨some 64, .load 3 (.tmp 63), some (62, true), false⟩, ⟨some 65, .call ⟨.value (.func 71), ⟨[.tmp 64, .const (.int .i64 0), .const (.int .i64 65535)]⟩, ⟨[3, 3, 3]⟩⟩, some (62, true), false⟩, ⟨some 66, .pick (.tmp 62) (.tmp 65) (.const (.bool false)), none, false⟩, ⟨some 2, .assign (.tmp 66), none, true⟩]
noncomputable def zn24_31 : ZC := ZC.seq zn24_32 ZC.ret
noncomputable def zn24_29 : ZC := ZC.seq zn24_30 zn24_31
noncomputable def zn24_27 : ZC := ZC.seq zn24_28 zn24_29
noncomputable def zn24_8 : ZC := ZC.seq zn24_9 zn24_27
noncomputable def zn24_2 : ZC := ZC.seq zn24_3 zn24_8
noncomputable def zn24_0 : ZC := ZC.seq zn24_1 zn24_2
noncomputable def zc24 : ZC := zn24_0
theorem zc24_ok : zcode (xfOf Try.f24).code = some zc24 := by kernel_rfl
set_option linter.defProp false in
def zw24 := And.intro (zunf C zc24.eq_1) <| And.intro (zunf C zn24_1.eq_1) <| And.intro (zunf C zn24_4.eq_1) <| And.intro (zunf C zn24_7.eq_1) <| And.intro (zunf C zn24_6.eq_1) <| And.intro (zunf C zn24_5.eq_1) <| And.intro (zunf C zn24_3.eq_1) <| And.intro (zunf C zn24_10.eq_1) <| And.intro (zunf C zn24_14.eq_1) <| And.intro (zunf C zn24_16.eq_1) <| And.intro (zunf C zn24_20.eq_1) <| And.intro (zunf C zn24_22.eq_1) <| And.intro (zunf C zn24_25.eq_1) <| And.intro (zunf C zn24_24.eq_1) <| And.intro (zunf C zn24_23.eq_1) <| And.intro (zunf C zn24_21.eq_1) <| And.intro (zunf C zn24_19.eq_1) <| And.intro (zunf C zn24_18.eq_1) <| And.intro (zunf C zn24_26.eq_1) <| And.intro (zunf C zn24_17.eq_1) <| And.intro (zunf C zn24_15.eq_1) <| And.intro (zunf C zn24_13.eq_1) <| And.intro (zunf C zn24_11.eq_1) <| And.intro (zunf C zn24_9.eq_1) <| And.intro (zunf C zn24_28.eq_1) <| And.intro (zunf C zn24_30.eq_1) <| And.intro (zunf C zn24_32.eq_1) <| And.intro (zunf C zn24_31.eq_1) <| And.intro (zunf C zn24_29.eq_1) <| And.intro (zunf C zn24_27.eq_1) <| And.intro (zunf C zn24_8.eq_1) <| And.intro (zunf C zn24_2.eq_1) <| (zunf C zn24_0.eq_1)
theorem rs24 : (xfOf Try.f24).rs = [.tmp 2] := by kernel_rfl
theorem xf24 : XFok C 24 (xfOf Try.f24) := ⟨Try.f24, by kernel_rfl, by kernel_rfl, by kernel_rfl, by kernel_rfl, by kernel_rfl, by kernel_rfl, by kernel_rfl⟩
noncomputable def zn182_1 : ZC := ZC.reg [⟨some 3, .box 29 (.tmp 1), none, true⟩]
noncomputable def zn182_3 : ZC := ZC.reg [⟨some 4, .assign (.const (.bool true)), none, false⟩, ⟨some 5, .assign (.const (.bool true)), none, true⟩]
noncomputable def zn182_6 : ZC := ZC.reg [⟨some 6, .fieldAddr 29 (.tmp 3) 0, none, false⟩, ⟨some 7, .load 3 (.tmp 6), none, true⟩]
noncomputable def zn182_10 : ZC := ZC.reg [⟨some 9, .binOp .eql 3 (.tmp 7) (.const (.int .i64 1)) 3, none, false⟩, ⟨some 8, .assign (.tmp 9), none, true⟩]
noncomputable def zn182_13 : ZC := ZC.reg [⟨some 10, .binOp .eql 3 (.tmp 7) (.const (.int .i64 7)) 3, none, false⟩, ⟨some 8, .assign (.tmp 10), none, true⟩]
noncomputable def zn182_15 : ZC := ZC.reg [⟨some 11, .binOp .eql 3 (.tmp 7) (.const (.int .i64 9)) 3, none, false⟩, ⟨some 8, .assign (.tmp 11), none, true⟩]
noncomputable def zn182_14 : ZC := ZC.cond (.tmp 8) ZC.skip zn182_15
noncomputable def zn182_12 : ZC := ZC.seq zn182_13 zn182_14
noncomputable def zn182_11 : ZC := ZC.cond (.tmp 8) ZC.skip zn182_12
noncomputable def zn182_9 : ZC := ZC.seq zn182_10 zn182_11
noncomputable def zn182_17 : ZC := ZC.reg [⟨some 5, .assign (.const (.bool false)), none, true⟩]
noncomputable def zn182_19 : ZC := ZC.reg [⟨some 13, .binOp .eql 3 (.tmp 7) (.const (.int .i64 8)) 3, none, false⟩, ⟨some 12, .assign (.tmp 13), none, true⟩]
noncomputable def zn182_21 : ZC := ZC.reg [⟨some 4, .assign (.const (.bool false)), none, true⟩]
noncomputable def zn182_24 : ZC := ZC.reg [⟨some 15, .binOp .eql 3 (.tmp 7) (.const (.int .i64 10)) 3, none, false⟩, ⟨some 14, .assign (.tmp 15), none, true⟩]
noncomputable def zn182_26 : ZC := ZC.reg [⟨some 16, .binOp .eql 3 (.tmp 7) (.const (.int .i64 13)) 3, none, false⟩, ⟨some 14, .assign (.tmp 16), none, true⟩]
noncomputable def zn182_25 : ZC := ZC.cond (.tmp 14) ZC.skip zn182_26
noncomputable def zn182_23 : ZC := ZC.seq zn182_24 zn182_25
noncomputable def zn182_28 : ZC := ZC.reg [⟨some 4, .assign (.const (.bool false)), none, false⟩, ⟨some 5, .assign (.const (.bool false)), none, true⟩]
noncomputable def zn182_27 : ZC := ZC.cond (.tmp 14) zn182_28 ZC.skip
noncomputable def zn182_22 : ZC := ZC.seq zn182_23 zn182_27
noncomputable def zn182_20 : ZC := ZC.cond (.tmp 12) zn182_21 zn182_22
noncomputable def zn182_18 : ZC := ZC.seq zn182_19 zn182_20
noncomputable def zn182_16 : ZC := ZC.cond (.tmp 8) zn182_17 zn182_18
noncomputable def zn182_8 : ZC := ZC.seq zn182_9 zn182_16
noncomputable def zn182_7 : ZC := ZC.block 0 zn182_8
noncomputable def zn182_5 : ZC := ZC.seq zn182_6 zn182_7
noncomputable def zn182_30 : ZC := ZC.reg [⟨some 17, .move (.tmp 0), none, false⟩, ⟨some 18, .move (.tmp 4), none, false⟩, ⟨some 19, .unOp .not 4 (.tmp 18), none, false⟩, ⟨some 20, .move (.tmp 19), none, false⟩, ⟨some 21, .fieldAddr 29 (.tmp 3) 1, some (20, false), false⟩, ⟨some 22, .load 3 (.tmp 21), some (20, false), false⟩, ⟨some 23, .call ⟨.value (.func 84), ⟨[.tmp 22, .const (.int .i64 0), .const (.int .i64 3)]⟩, ⟨[3, 3, 3]⟩⟩, some (20, false), false⟩, ⟨some 24, .pick (.tmp 20) (.const (.bool true)) (.tmp 23), none, false⟩, ⟨some 25, .call ⟨.value (.func 150), ⟨[.tmp 17, .tmp 24, .const (.int .i64 2)]⟩, ⟨[129, 4, 3]⟩⟩, none, true⟩]
noncomputable def zn182_31 : ZC := ZC.reg [⟨some 26, .move (.tmp 0), none, false⟩, ⟨some 27, .move (.tmp 5), none, false⟩, ⟨some 28, .unOp .not 4 (.tmp 27), none, false⟩, ⟨some 29, .move (.tmp 28), none, false⟩, ⟨some 30, .fieldAddr 29 (.tmp 3) 2, some (29, false), false⟩, ⟨some 31, .load 3 (.tmp 30), some (29, false), false⟩, ⟨some 32, .call ⟨.value (.func 84), ⟨[.tmp 31, .const (.int .i64 0), .const (.int .i64 3)]⟩, ⟨[3, 3, 3]⟩⟩, some (29, false), false⟩, ⟨some 33, .pick (.tmp 29) (.const (.bool true)) (.tmp 32), none, false⟩, ⟨some 34, .call ⟨.value (.func 150), ⟨[.tmp 26, .tmp 33, .const (.int .i64 2)]⟩, ⟨[129, 4, 3]⟩⟩, none, true⟩]
noncomputable def zn182_29 : ZC := ZC.seq zn182_30 zn182_31
noncomputable def zn182_4 : ZC := ZC.seq zn182_5 zn182_29
noncomputable def zn182_2 : ZC := ZC.seq zn182_3 zn182_4
noncomputable def zn182_0 : ZC := ZC.seq zn182_1 zn182_2
noncomputable def zc182 : ZC := zn182_0
theorem zc182_ok : zcode (xfOf Try.f182).code = some zc182 := by kernel_rfl
set_option linter.defProp false in
def zw182 := And.intro (zunf C zc182.eq_1) <| And.intro (zunf C zn182_1.eq_1) <| And.intro (zunf C zn182_3.eq_1) <| And.intro (zunf C zn182_6.eq_1) <| And.intro (zunf C zn182_10.eq_1) <| And.intro (zunf C zn182_13.eq_1) <| And.intro (zunf C zn182_15.eq_1) <| And.intro (zunf C zn182_14.eq_1) <| And.intro (zunf C zn182_12.eq_1) <| And.intro (zunf C zn182_11.eq_1) <| And.intro (zunf C zn182_9.eq_1) <| And.intro (zunf C zn182_17.eq_1) <| And.intro (zunf C zn182_19.eq_1) <| And.intro (zunf C zn182_21.eq_1) <| And.intro (zunf C zn182_24.eq_1) <| And.intro (zunf C zn182_26.eq_1) <| And.intro (zunf C zn182_25.eq_1) <| And.intro (zunf C zn182_23.eq_1) <| And.intro (zunf C zn182_28.eq_1) <| And.intro (zunf C zn182_27.eq_1) <| And.intro (zunf C zn182_22.eq_1) <| And.intro (zunf C zn182_20.eq_1) <| And.intro (zunf C zn182_18.eq_1) <| And.intro (zunf C zn182_16.eq_1) <| And.intro (zunf C zn182_8.eq_1) <| And.intro (zunf C zn182_7.eq_1) <| And.intro (zunf C zn182_5.eq_1) <| And.intro (zunf C zn182_30.eq_1) <| And.intro (zunf C zn182_31.eq_1) <| And.intro (zunf C zn182_29.eq_1) <| And.intro (zunf C zn182_4.eq_1) <| And.intro (zunf C zn182_2.eq_1) <| (zunf C zn182_0.eq_1)
theorem rs182 : (xfOf Try.f182).rs = [] := by kernel_rfl
theorem xf182 : XFok C 182 (xfOf Try.f182) := ⟨Try.f182, by kernel_rfl, by kernel_rfl, by kernel_rfl, by kernel_rfl, by kernel_rfl, by kernel_rfl, by kernel_rfl⟩
noncomputable def zn184_1 : ZC := ZC.reg [⟨some 4, .assign (.const (.int .i64 0)), none, true⟩]
noncomputable def zn184_3 : ZC := ZC.reg [⟨some 7, .move (.tmp 0), none, false⟩, ⟨some 8, .nilCheck (.tmp 7), none, false⟩, ⟨some 9, .fieldAddr 131 (.tmp 8) 0, none, false⟩, ⟨some 10, .fieldAddr 39 (.tmp 9) 0, none, false⟩, ⟨some 11, .load 34 (.tmp 10), none, false⟩, ⟨some 5, .alloc 34, none, false⟩, ⟨none, .store 34 (.tmp 5) (.tmp 11), none, true⟩]
noncomputable def zn184_5 : ZC := ZC.draw 30 [] [⟨0, some 12, .fieldAddr 34 (.tmp 5) 2, none, false, [], [], false⟩, ⟨1, some 13, .load 3 (.tmp 12), none, false, [], [], false⟩, ⟨2, some 14, .fieldAddr 34 (.tmp 5) 3, none, false, [], [], false⟩, ⟨3, some 15, .load 3 (.tmp 14), none, false, [], [], false⟩, ⟨4, some 16, .fieldAddr 34 (.tmp 5) 4, none, false, [], [], false⟩, ⟨5, some 17, .load 3 (.tmp 16), none, false, [], [], false⟩, ⟨6, some 18, .fieldAddr 34 (.tmp 5) 5, none, false, [], [], false⟩, ⟨7, some 19, .load 3 (.tmp 18), none, false, [], [], false⟩, ⟨8, some 20, .fieldAddr 34 (.tmp 5) 6, none, false, [], [], false⟩, ⟨9, some 21, .load 3 (.tmp 20), none, false, [], [], false⟩, ⟨10, some 22, .move (.tmp 0), none, false, [], [], false⟩, ⟨11, some 23, .nilCheck (.tmp 22), none, false, [], [], false⟩, ⟨12, some 24, .fieldAddr 131 (.tmp 23) 0, none, false, [], [], false⟩, ⟨13, some 25, .fieldAddr 39 (.tmp 24) 1, none, false, [], [], false⟩, ⟨14, some 26, .fieldAddr 36 (.tmp 25) 0, none, false, [], [], false⟩, ⟨15, some 27, .load 3 (.tmp 26), none, false, [], [], false⟩, ⟨16, some 28, .move (.tmp 0), none, false, [], [], false⟩, ⟨17, some 29, .nilCheck (.tmp 28), none, false, [], [], false⟩, ⟨18, some 30, .fieldAddr 131 (.tmp 29) 0, none, false, [], [], false⟩, ⟨19, some 31, .fieldAddr 39 (.tmp 30) 1, none, false, [], [], false⟩, ⟨20, some 32, .fieldAddr 36 (.tmp 31) 1, none, false, [], [], false⟩, ⟨21, some 33, .load 3 (.tmp 32), none, false, [], [], false⟩, ⟨22, some 34, .move (.tmp 0), none, true, [], [], false⟩, ⟨23, some 35, .nilCheck (.tmp 34), none, true, [], [], false⟩, ⟨24, some 36, .fieldAddr 131 (.tmp 35) 0, none, true, [], [], false⟩, ⟨25, some 37, .fieldAddr 39 (.tmp 36) 1, none, true, [], [], false⟩, ⟨26, some 38, .fieldAddr 36 (.tmp 37) 2, none, true, [], [], false⟩, ⟨27, some 39, .load 3 (.tmp 38), none, true, [], [], false⟩, ⟨28, some 40, .buildSlice 24 8 ⟨[(0, .tmp 13), (1, .tmp 15), (2, .tmp 17), (3, .tmp 19), (4, .tmp 21), (5, .tmp 27), (6, .tmp 33), (7, .tmp 39)]⟩, none, true, [], [], false⟩, ⟨29, some 6, .assign (.tmp 40), none, true, [], [], false⟩]
noncomputable def zn184_7 : ZC := ZC.reg [⟨some 41, .move (.tmp 0), none, false⟩, ⟨some 42, .move (.tmp 1), none, false⟩, ⟨some 43, .move (.tmp 6), none, false⟩, ⟨some 44, .call ⟨.builtin .len, ⟨[.tmp 43]⟩, ⟨[24]⟩⟩, none, false⟩, ⟨some 45, .binOp .sub 3 (.tmp 44) (.const (.int .i64 1)) 3, none, false⟩, ⟨some 46, .call ⟨.value (.func 84), ⟨[.tmp 42, .const (.int .i64 0), .tmp 45]⟩, ⟨[3, 3, 3]⟩⟩, none, false⟩, ⟨some 47, .call ⟨.value (.func 150), ⟨[.tmp 41, .tmp 46, .const (.int .i64 3)]⟩, ⟨[129, 4, 3]⟩⟩, none, true⟩]
noncomputable def zn184_9 : ZC := ZC.reg [⟨some 48, .move (.tmp 6), none, false⟩, ⟨some 49, .move (.tmp 1), none, false⟩, ⟨some 50, .indexAddr 24 (.tmp 48) (.tmp 49), none, false⟩, ⟨some 51, .load 3 (.tmp 50), none, false⟩, ⟨some 4, .assign (.tmp 51), none, true⟩]
noncomputable def zn184_8 : ZC := ZC.seq zn184_9 ZC.ret
noncomputable def zn184_6 : ZC := ZC.seq zn184_7 zn184_8
noncomputable def zn184_4 : ZC := ZC.seq zn184_5 zn184_6
noncomputable def zn184_2 : ZC := ZC.seq zn184_3 zn184_4
noncomputable def zn184_0 : ZC := ZC.seq zn184_1 zn184_2
noncomputable def zc184 : ZC := zn184_0
theorem zc184_ok : zcode (xfOf Try.f184).code = some zc184 := by kernel_rfl
set_option linter.defProp false in
def zw184 := And.intro (zunf C zc184.eq_1) <| And.intro (zunf C zn184_1.eq_1) <| And.intro (zunf C zn184_3.eq_1) <| And.intro (zunf C zn184_5.eq_1) <| And.intro (zunf C zn184_7.eq_1) <| And.intro (zunf C zn184_9.eq_1) <| And.intro (zunf C zn184_8.eq_1) <| And.intro (zunf C zn184_6.eq_1) <| And.intro (zunf C zn184_4.eq_1) <| And.intro (zunf C zn184_2.eq_1) <| (zunf C zn184_0.eq_1)
theorem rs184 : (xfOf Try.f184).rs = [.tmp 4] := by kernel_rfl
theorem xf184 : XFok C 184 (xfOf Try.f184) := ⟨Try.f184, by kernel_rfl, by kernel_rfl, by kernel_rfl, by kernel_rfl, by kernel_rfl, by kernel_rfl, by kernel_rfl⟩
noncomputable def zn185_1 : ZC := ZC.reg [⟨some 7, .move (.tmp 0), none, false⟩, ⟨some 8, .nilCheck (.tmp 7), none, false⟩, ⟨some 9, .fieldAddr 131 (.tmp 8) 0, none, false⟩, ⟨some 10, .fieldAddr 39 (.tmp 9) 0, none, false⟩, ⟨some 6, .assign (.tmp 10), none, true⟩]
noncomputable def zn185_3 : ZC := ZC.reg [⟨some 11, .move (.tmp 1), none, true⟩]
noncomputable def zn185_6 : ZC := ZC.reg [⟨some 15, .binOp .eql 3 (.tmp 11) (.const (.int .i64 0)) 3, none, false⟩, ⟨some 14, .assign (.tmp 15), none, true⟩]
noncomputable def zn185_8 : ZC := ZC.reg [⟨some 16, .move (.tmp 6), none, false⟩, ⟨some 17, .move (.tmp 2), none, false⟩, ⟨some 18, .call ⟨.value (.func 201), ⟨[.tmp 17, .const (.int .i64 0), .const (.int .i64 4095)]⟩, ⟨[3, 3, 3]⟩⟩, none, false⟩, ⟨some 19, .nilCheck (.tmp 16), none, false⟩, ⟨some 20, .fieldAddr 34 (.tmp 19) 2, none, false⟩, ⟨none, .store 3 (.tmp 20) (.tmp 18), none, true⟩]
noncomputable def zn185_10 : ZC := ZC.reg [⟨some 22, .binOp .eql 3 (.tmp 11) (.const (.int .i64 1)) 3, none, false⟩, ⟨some 21, .assign (.tmp 22), none, true⟩]
noncomputable def zn185_12 : ZC := ZC.reg [⟨some 23, .move (.tmp 6), none, false⟩, ⟨some 24, .move (.tmp 2), none, false⟩, ⟨some 25, .call ⟨.value (.func 201), ⟨[.tmp 24, .const (.int .i64 0), .const (.int .i64 4095)]⟩, ⟨[3, 3, 3]⟩⟩, none, false⟩, ⟨some 26, .nilCheck (.tmp 23), none, false⟩, ⟨some 27, .fieldAddr 34 (.tmp 26) 3, none, false⟩, ⟨none, .store 3 (.tmp 27) (.tmp 25), none, true⟩]
noncomputable def zn185_14 : ZC := ZC.reg [⟨some 29, .binOp .eql 3 (.tmp 11) (.const (.int .i64 2)) 3, none, false⟩, ⟨some 28, .assign (.tmp 29), none, true⟩]
noncomputable def zn185_16 : ZC := ZC.reg [⟨some 30, .move (.tmp 6), none, false⟩, ⟨some 31, .move (.tmp 2), none, false⟩, ⟨some 32, .call ⟨.value (.func 201), ⟨[.tmp 31, .const (.int .i64 (-64)), .const (.int .i64 64)]⟩, ⟨[3, 3, 3]⟩⟩, none, false⟩, ⟨some 33, .nilCheck (.tmp 30), none, false⟩, ⟨some 34, .fieldAddr 34 (.tmp 33) 4, none, false⟩, ⟨none, .store 3 (.tmp 34) (.tmp 32), none, true⟩]
noncomputable def zn185_18 : ZC := ZC.reg [⟨some 36, .binOp .eql 3 (.tmp 11) (.const (.int .i64 3)) 3, none, false⟩, ⟨some 35, .assign (.tmp 36), none, true⟩]
noncomputable def zn185_20 : ZC := ZC.reg [⟨some 37, .move (.tmp 6), none, false⟩, ⟨some 38, .move (.tmp 2), none, false⟩, ⟨some 39, .call ⟨.value (.func 201), ⟨[.tmp 38, .const (.int .i64 (-64)), .const (.int .i64 64)]⟩, ⟨[3, 3, 3]⟩⟩, none, false⟩, ⟨some 40, .nilCheck (.tmp 37), none, false⟩, ⟨some 41, .fieldAddr 34 (.tmp 40) 5, none, false⟩, ⟨none, .store 3 (.tmp 41) (.tmp 39), none, true⟩]
noncomputable def zn185_21 : ZC := ZC.reg [⟨some 12, .move (.tmp 0), none, false⟩, ⟨some 13, .call ⟨.value (.func 150), ⟨[.tmp 12, .const (.bool false), .const (.int .i64 3)]⟩, ⟨[129, 4, 3]⟩⟩, none, true⟩]
noncomputable def zn185_19 : ZC := ZC.cond (.tmp 35) zn185_20 zn185_21
noncomputable def zn185_17 : ZC := ZC.seq zn185_18 zn185_19
noncomputable def zn185_15 : ZC := ZC.cond (.tmp 28) zn185_16 zn185_17
noncomputable def zn185_13 : ZC := ZC.seq zn185_14 zn185_15
noncomputable def zn185_11 : ZC := ZC.cond (.tmp 21) zn185_12 zn185_13
noncomputable def zn185_9 : ZC := ZC.seq zn185_10 zn185_11
noncomputable def zn185_7 : ZC := ZC.cond (.tmp 14) zn185_8 zn185_9
noncomputable def zn185_5 : ZC := ZC.seq zn185_6 zn185_7
noncomputable def zn185_4 : ZC := ZC.block 0 zn185_5
noncomputable def zn185_2 : ZC := ZC.seq zn185_3 zn185_4
noncomputable def zn185_0 : ZC := ZC.seq zn185_1 zn185_2
noncomputable def zc185 : ZC := zn185_0
theorem zc185_ok : zcode (xfOf Try.f185).code = some zc185 := by kernel_rfl
set_option linter.defProp false in
def zw185 := And.intro (zunf C zc185.eq_1) <| And.intro (zunf C zn185_1.eq_1) <| And.intro (zunf C zn185_3.eq_1) <| And.intro (zunf C zn185_6.eq_1) <| And.intro (zunf C zn185_8.eq_1) <| And.intro (zunf C zn185_10.eq_1) <| And.intro (zunf C zn185_12.eq_1) <| And.intro (zunf C zn185_14.eq_1) <| And.intro (zunf C zn185_16.eq_1) <| And.intro (zunf C zn185_18.eq_1) <| And.intro (zunf C zn185_20.eq_1) <| And.intro (zunf C zn185_21.eq_1) <| And.intro (zunf C zn185_19.eq_1) <| And.intro (zunf C zn185_17.eq_1) <| And.intro (zunf C zn185_15.eq_1) <| And.intro (zunf C zn185_13.eq_1) <| And.intro (zunf C zn185_11.eq_1) <| And.intro (zunf C zn185_9.eq_1) <| And.intro (zunf C zn185_7.eq_1) <| And.intro (zunf C zn185_5.eq_1) <| And.intro (zunf C zn185_4.eq_1) <| And.intro (zunf C zn185_2.eq_1) <| (zunf C zn185_0.eq_1)
theorem rs185 : (xfOf Try.f185).rs = [] := by kernel_rfl
theorem xf185 : XFok C 185 (xfOf Try.f185) := ⟨Try.f185, by kernel_rfl, by kernel_rfl, by kernel_rfl, by kernel_rfl, by kernel_rfl, by kernel_rfl, by kernel_rfl⟩
noncomputable def zn188_1 : ZC := ZC.reg [⟨some 3, .box 29 (.tmp 1), none, true⟩]
noncomputable def zn188_3 : ZC := ZC.draw 10 [] [⟨0, some 8, .move (.tmp 0), none, false, [], [], false⟩, ⟨1, some 9, .fieldAddr 29 (.tmp 3) 1, none, false, [], [], false⟩, ⟨2, some 10, .load 3 (.tmp 9), none, false, [], [], false⟩, ⟨3, some 11, .call ⟨.value (.func 186), ⟨[.tmp 8, .tmp 10]⟩, ⟨[129, 3]⟩⟩, none, false, [], [], true⟩, ⟨4, some 12, .move (.tmp 0), none, false, [], [], false⟩, ⟨5, some 13, .fieldAddr 29 (.tmp 3) 2, none, true, [3], [], false⟩, ⟨6, some 14, .load 3 (.tmp 13), none, true, [3], [], false⟩, ⟨7, some 15, .call ⟨.value (.func 186), ⟨[.tmp 12, .tmp 14]⟩, ⟨[129, 3]⟩⟩, none, true, [], [], false⟩, ⟨8, some 4, .assign (.tmp 11), none, true, [], [], false⟩, ⟨9, some 5, .assign (.tmp 15), none, true, [], [], false⟩]
noncomputable def zn188_5 : ZC := ZC.reg [⟨some 16, .fieldAddr 29 (.tmp 3) 0, none, false⟩, ⟨some 17, .load 3 (.tmp 16), none, true⟩]
noncomputable def zn188_8 : ZC := ZC.reg [⟨some 53, .binOp .eql 3 (.tmp 17) (.const (.int .i64 2)) 3, none, false⟩, ⟨some 52, .assign (.tmp 53), none, true⟩]
noncomputable def zn188_10 : ZC := ZC.reg [⟨some 54, .move (.tmp 0), none, false⟩, ⟨some 55, .fieldAddr 29 (.tmp 3) 1, none, false⟩, ⟨some 56, .load 3 (.tmp 55), none, false⟩, ⟨some 57, .move (.tmp 5), none, false⟩, ⟨some 58, .call ⟨.value (.func 183), ⟨[.tmp 54, .tmp 56, .tmp 57]⟩, ⟨[129, 3, 3]⟩⟩, none, true⟩]
noncomputable def zn188_12 : ZC := ZC.reg [⟨some 60, .binOp .eql 3 (.tmp 17) (.const (.int .i64 3)) 3, none, false⟩, ⟨some 59, .assign (.tmp 60), none, true⟩]
noncomputable def zn188_14 : ZC := ZC.reg [⟨some 61, .move (.tmp 0), none, false⟩, ⟨some 62, .fieldAddr 29 (.tmp 3) 1, none, false⟩, ⟨some 63, .load 3 (.tmp 62), none, false⟩, ⟨some 64, .move (.tmp 4), none, false⟩, ⟨some 65, .move (.tmp 5), none, false⟩, ⟨some 66, .binOp .add 3 (.tmp 64) (.tmp 65) 3, none, false⟩, ⟨some 67, .call ⟨.value (.func 183), ⟨[.tmp 61, .tmp 63, .tmp 66]⟩, ⟨[129, 3, 3]⟩⟩, none, true⟩]
noncomputable def zn188_16 : ZC := ZC.reg [⟨some 69, .binOp .eql 3 (.tmp 17) (.const (.int .i64 4)) 3, none, false⟩, ⟨some 68, .assign (.tmp 69), none, true⟩]
noncomputable def zn188_18 : ZC := ZC.reg [⟨some 70, .move (.tmp 0), none, false⟩, ⟨some 71, .fieldAddr 29 (.tmp 3) 1, none, false⟩, ⟨some 72, .load 3 (.tmp 71), none, false⟩, ⟨some 73, .move (.tmp 4), none, false⟩, ⟨some 74, .move (.tmp 5), none, false⟩, ⟨some 75, .binOp .sub 3 (.tmp 73) (.tmp 74) 3, none, false⟩, ⟨some 76, .call ⟨.value (.func 183), ⟨[.tmp 70, .tmp 72, .tmp 75]⟩, ⟨[129, 3, 3]⟩⟩, none, true⟩]
noncomputable def zn188_20 : ZC := ZC.reg [⟨some 78, .binOp .eql 3 (.tmp 17) (.const (.int .i64 5)) 3, none, false⟩, ⟨some 77, .assign (.tmp 78), none, true⟩]
noncomputable def zn188_22 : ZC := ZC.reg [⟨some 79, .move (.tmp 0), none, false⟩, ⟨some 80, .fieldAddr 29 (.tmp 3) 1, none, false⟩, ⟨some 81, .load 3 (.tmp 80), none, false⟩, ⟨some 82, .move (.tmp 4), none, false⟩, ⟨some 83, .move (.tmp 5), none, false⟩, ⟨some 84, .binOp .mul 3 (.tmp 82) (.tmp 83) 3, none, false⟩, ⟨some 85, .call ⟨.value (.func 183), ⟨[.tmp 79, .tmp 81, .tmp 84]⟩, ⟨[129, 3, 3]⟩⟩, none, true⟩]
noncomputable def zn188_24 : ZC := ZC.reg [⟨some 87, .binOp .eql 3 (.tmp 17) (.const (.int .i64 6)) 3, none, false⟩, ⟨some 86, .assign (.tmp 87), none, true⟩]
noncomputable def zn188_27 : ZC := ZC.reg [⟨some 88, .move (.tmp 0), none, false⟩, ⟨some 89, .move (.tmp 5), none, false⟩, ⟨some 90, .binOp .neq 3 (.tmp 89) (.const (.int .i64 0)) 3, none, false⟩, ⟨some 91, .call ⟨.value (.func 150), ⟨[.tmp 88, .tmp 90, .const (.int .i64 1)]⟩, ⟨[129, 4, 3]⟩⟩, none, true⟩]
noncomputable def zn188_28 : ZC := ZC.draw 7 [] [⟨0, some 92, .move (.tmp 0), none, false, [], [], false⟩, ⟨1, some 93, .fieldAddr 29 (.tmp 3) 1, none, false, [], [], false⟩, ⟨2, some 94, .load 3 (.tmp 93), none, false, [], [], false⟩, ⟨3, some 95, .move (.tmp 4), none, false, [], [], false⟩, ⟨4, some 96, .move (.tmp 5), none, true, [], [], false⟩, ⟨5, some 97, .binOp .quo 3 (.tmp 95) (.tmp 96) 3, none, true, [], [], false⟩, ⟨6, some 98, .call ⟨.value (.func 183), ⟨[.tmp 92, .tmp 94, .tmp 97]⟩, ⟨[129, 3, 3]⟩⟩, none, true, [], [], false⟩]
noncomputable def zn188_26 : ZC := ZC.seq zn188_27 zn188_28
noncomputable def zn188_30 : ZC := ZC.reg [⟨some 100, .binOp .eql 3 (.tmp 17) (.const (.int .i64 11)) 3, none, false⟩, ⟨some 99, .assign (.tmp 100), none, true⟩]
noncomputable def zn188_33 : ZC := ZC.reg [⟨some 101, .move (.tmp 0), none, false⟩, ⟨some 102, .move (.tmp 5), none, false⟩, ⟨some 103, .binOp .geq 3 (.tmp 102) (.const (.int .i64 1)) 3, none, false⟩, ⟨some 104, .call ⟨.value (.func 150), ⟨[.tmp 101, .tmp 103, .const (.int .i64 6)]⟩, ⟨[129, 4, 3]⟩⟩, none, true⟩]
noncomputable def zn188_35 : ZC := ZC.reg [⟨some 106, .move (.tmp 0), none, false⟩, ⟨some 107, .nilCheck (.tmp 106), none, false⟩, ⟨some 108, .fieldAddr 131 (.tmp 107) 0, none, false⟩, ⟨some 109, .fieldAddr 39 (.tmp 108) 2, none, false⟩, ⟨some 110, .load 25 (.tmp 109), none, false⟩, ⟨some 111, .move (.tmp 5), none, false⟩, ⟨some 112, .call ⟨.value (.func 202), ⟨[.tmp 110, .tmp 111]⟩, ⟨[25, 3]⟩⟩, none, false⟩, ⟨some 105, .move (.tmp 112), none, false⟩, ⟨some 113, .extract (.tmp 105) 0, none, false⟩, ⟨some 114, .extract (.tmp 105) 1, none, false⟩, ⟨some 6, .assign (.tmp 113), none, false⟩, ⟨some 7, .assign (.tmp 114), none, true⟩]
noncomputable def zn188_37 : ZC := ZC.reg [⟨some 115, .move (.tmp 0), none, false⟩, ⟨some 116, .move (.tmp 6), none, false⟩, ⟨some 117, .nilCheck (.tmp 115), none, false⟩, ⟨some 118, .fieldAddr 131 (.tmp 117) 0, none, false⟩, ⟨some 119, .fieldAddr 39 (.tmp 118) 2, none, false⟩, ⟨none, .store 25 (.tmp 119) (.tmp 116), none, true⟩]
noncomputable def zn188_38 : ZC := ZC.reg [⟨some 120, .move (.tmp 0), none, false⟩, ⟨some 121, .fieldAddr 29 (.tmp 3) 1, none, false⟩, ⟨some 122, .load 3 (.tmp 121), none, false⟩, ⟨some 123, .move (.tmp 7), none, false⟩, ⟨some 124, .call ⟨.value (.func 183), ⟨[.tmp 120, .tmp 122, .tmp 123]⟩, ⟨[129, 3, 3]⟩⟩, none, true⟩]
noncomputable def zn188_36 : ZC := ZC.seq zn188_37 zn188_38
noncomputable def zn188_34 : ZC := ZC.seq zn188_35 zn188_36
noncomputable def zn188_32 : ZC := ZC.seq zn188_33 zn188_34
noncomputable def zn188_40 : ZC := ZC.draw 14 [] [⟨0, some 18, .move (.tmp 0), none, false, [], [], false⟩, ⟨1, some 19, .move (.tmp 0), none, false, [], [], false⟩, ⟨2, some 20, .nilCheck (.tmp 19), none, false, [], [], false⟩, ⟨3, some 21, .fieldAddr 131 (.tmp 20) 0, none, false, [], [], false⟩, ⟨4, some 22, .fieldAddr 39 (.tmp 21) 4, none, false, [], [], false⟩, ⟨5, some 23, .load 37 (.tmp 22), none, false, [], [], false⟩, ⟨6, some 24, .call ⟨.builtin .len, ⟨[.tmp 23]⟩, ⟨[37]⟩⟩, none, false, [], [], false⟩, ⟨7, some 25, .move (.tmp 0), none, true, [], [], false⟩, ⟨8, some 26, .nilCheck (.tmp 25), none, true, [], [], false⟩, ⟨9, some 27, .fieldAddr 131 (.tmp 26) 0, none, true, [], [], false⟩, ⟨10, some 28, .fieldAddr 39 (.tmp 27) 3, none, true, [], [], false⟩, ⟨11, some 29, .load 3 (.tmp 28), none, true, [], [], false⟩, ⟨12, some 30, .binOp .lss 3 (.tmp 24) (.tmp 29) 3, none, true, [], [], false⟩, ⟨13, some 31, .call ⟨.value (.func 150), ⟨[.tmp 18, .tmp 30, .const (.int .i64 7)]⟩, ⟨[129, 4, 3]⟩⟩, none, true, [], [], false⟩]
noncomputable def zn188_41 : ZC := ZC.draw 21 [] [⟨0, some 32, .move (.tmp 0), none, false, [], [], false⟩, ⟨1, some 33, .move (.tmp 0), none, false, [], [], false⟩, ⟨2, some 34, .nilCheck (.tmp 33), none, false, [], [], false⟩, ⟨3, some 35, .fieldAddr 131 (.tmp 34) 0, none, false, [], [], false⟩, ⟨4, some 36, .fieldAddr 39 (.tmp 35) 4, none, false, [], [], false⟩, ⟨5, some 37, .load 37 (.tmp 36), none, false, [], [], false⟩, ⟨6, some 38, .call ⟨.value (.func 148), ⟨[.tmp 37]⟩, ⟨[37]⟩⟩, none, false, [], [], true⟩, ⟨7, some 39, .move (.tmp 0), none, false, [], [], false⟩, ⟨8, some 40, .nilCheck (.tmp 39), none, false, [], [], false⟩, ⟨9, some 41, .fieldAddr 131 (.tmp 40) 0, none, false, [6], [], false⟩, ⟨10, some 42, .fieldAddr 39 (.tmp 41) 0, none, false, [6], [], false⟩, ⟨11, some 43, .load 34 (.tmp 42), none, false, [6], [], false⟩, ⟨12, some 44, .move (.tmp 4), none, false, [], [], false⟩, ⟨13, some 45, .move (.tmp 5), none, true, [], [], false⟩, ⟨14, some 46, .call ⟨.value (.func 203), ⟨[.tmp 43, .tmp 44, .tmp 45]⟩, ⟨[34, 3, 3]⟩⟩, none, true, [], [], false⟩, ⟨15, some 47, .buildSlice 37 1 ⟨[(0, .tmp 46)]⟩, none, true, [], [], false⟩, ⟨16, some 48, .call ⟨.builtin .append, ⟨[.tmp 38, .tmp 47]⟩, ⟨[37, 37]⟩⟩, none, true, [], [], false⟩, ⟨17, some 49, .nilCheck (.tmp 32), none, true, [], [], false⟩, ⟨18, some 50, .fieldAddr 131 (.tmp 49) 0, none, true, [], [], false⟩, ⟨19, some 51, .fieldAddr 39 (.tmp 50) 4, none, true, [], [], false⟩, ⟨20, none, .store 37 (.tmp 51) (.tmp 48), none, true, [], [], false⟩]
noncomputable def zn188_39 : ZC := ZC.seq zn188_40 zn188_41
noncomputable def zn188_31 : ZC := ZC.cond (.tmp 99) zn188_32 zn188_39
noncomputable def zn188_29 : ZC := ZC.seq zn188_30 zn188_31
noncomputable def zn188_25 : ZC := ZC.cond (.tmp 86) zn188_26 zn188_29
noncomputable def zn188_23 : ZC := ZC.seq zn188_24 zn188_25
noncomputable def zn188_21 : ZC := ZC.cond (.tmp 77) zn188_22 zn188_23
noncomputable def zn188_19 : ZC := ZC.seq zn188_20 zn188_21
noncomputable def zn188_17 : ZC := ZC.cond (.tmp 68) zn188_18 zn188_19
noncomputable def zn188_15 : ZC := ZC.seq zn188_16 zn188_17
noncomputable def zn188_13 : ZC := ZC.cond (.tmp 59) zn188_14 zn188_15
noncomputable def zn188_11 : ZC := ZC.seq zn188_12 zn188_13
noncomputable def zn188_9 : ZC := ZC.cond (.tmp 52) zn188_10 zn188_11
noncomputable def zn188_7 : ZC := ZC.seq zn188_8 zn188_9
noncomputable def zn188_6 : ZC := ZC.block 0 zn188_7
noncomputable def zn188_4 : ZC := ZC.seq zn188_5 zn188_6
noncomputable def zn188_2 : ZC := ZC.seq zn188_3 zn188_4
noncomputable def zn188_0 : ZC := ZC.seq zn188_1 zn188_2
noncomputable def zc188 : ZC := zn188_0
theorem zc188_ok : zcode (xfOf Try.f188).code = some zc188 := by kernel_rfl
set_option linter.defProp false in
def zw188 := And.intro (zunf C zc188.eq_1) <| And.intro (zunf C zn188_1.eq_1) <| And.intro (zunf C zn188_3.eq_1) <| And.intro (zunf C zn188_5.eq_1) <| And.intro (zunf C zn188_8.eq_1) <| And.intro (zunf C zn188_10.eq_1) <| And.intro (zunf C zn188_12.eq_1) <| And.intro (zunf C zn188_14.eq_1) <| And.intro (zunf C zn188_16.eq_1) <| And.intro (zunf C zn188_18.eq_1) <| And.intro (zunf C zn188_20.eq_1) <| And.intro (zunf C zn188_22.eq_1) <| And.intro (zunf C zn188_24.eq_1) <| And.intro (zunf C zn188_27.eq_1) <| And.intro (zunf C zn188_28.eq_1) <| And.intro (zunf C zn188_26.eq_1) <| And.intro (zunf C zn188_30.eq_1) <| And.intro (zunf C zn188_33.eq_1) <| And.intro (zunf C zn188_35.eq_1) <| And.intro (zunf C zn188_37.eq_1) <| And.intro (zunf C zn188_38.eq_1) <| And.intro (zunf C zn188_36.eq_1) <| And.intro (zunf C zn188_34.eq_1) <| And.intro (zunf C zn188_32.eq_1) <| And.intro (zunf C zn188_40.eq_1) <| And.intro (zunf C zn188_41.eq_1) <| And.intro (zunf C zn188_39.eq_1) <| And.intro (zunf C zn188_31.eq_1) <| And.intro (zunf C zn188_29.eq_1) <| And.intro (zunf C zn188_25.eq_1) <| And.intro (zunf C zn188_23.eq_1) <| And.intro (zunf C zn188_21.eq_1) <| And.intro (zunf C zn188_19.eq_1) <| And.intro (zunf C zn188_17.eq_1) <| And.intro (zunf C zn188_15.eq_1) <| And.intro (zunf C zn188_13.eq_1) <| And.intro (zunf C zn188_11.eq_1) <| And.intro (zunf C zn188_9.eq_1) <| And.intro (zunf C zn188_7.eq_1) <| And.intro (zunf C zn188_6.eq_1) <| And.intro (zunf C zn188_4.eq_1) <| And.intro (zunf C zn188_2.eq_1) <| (zunf C zn188_0.eq_1)
theorem rs188 : (xfOf Try.f188).rs = [] := by kernel_rfl
theorem xf188 : XFok C 188 (xfOf Try.f188) := ⟨Try.f188, by kernel_rfl, by kernel_rfl, by kernel_rfl, by kernel_rfl, by kernel_rfl, by kernel_rfl, by kernel_rfl⟩
noncomputable def zn202_1 : ZC := ZC.reg [⟨some 4, .assign (.const (.int .u64 0)), none, false⟩, ⟨some 5, .assign (.const (.int .i64 0)), none, true⟩]
noncomputable def zn202_4 : ZC := ZC.reg [⟨some 7, .move (.tmp 1), none, false⟩, ⟨some 8, .binOp .lss 3 (.tmp 7) (.const (.int .i64 1)) 3, none, true⟩]
noncomputable def zn202_7 : ZC := ZC.reg [⟨some 9, .move (.tmp 0), none, false⟩, ⟨some 4, .assign (.tmp 9), none, false⟩, ⟨some 5, .assign (.const (.int .i64 0)), none, true⟩]
noncomputable def zn202_6 : ZC := ZC.seq zn202_7 ZC.ret
noncomputable def zn202_5 : ZC := ZC.cond (.tmp 8) zn202_6 ZC.skip
noncomputable def zn202_3 : ZC := ZC.seq zn202_4 zn202_5
noncomputable def zn202_9 : ZC := ZC.reg [⟨some 11, .move (.tmp 0), none, false⟩, ⟨some 12, .call ⟨.value (.func 207), ⟨[.tmp 11]⟩, ⟨[25]⟩⟩, none, false⟩, ⟨some 10, .move (.tmp 12), none, false⟩, ⟨some 13, .extract (.tmp 10) 0, none, false⟩, ⟨some 14, .extract (.tmp 10) 1, none, false⟩, ⟨some 0, .assign (.tmp 13), none, false⟩, ⟨some 6, .assign (.tmp 14), none, true⟩]
noncomputable def zn202_11 : ZC := ZC.draw 6 [] [⟨0, some 15, .move (.tmp 0), none, false, [], [], false⟩, ⟨1, some 16, .move (.tmp 6), none, false, [], [], false⟩, ⟨2, some 17, .move (.tmp 1), none, false, [], [], false⟩, ⟨3, some 18, .binOp .rem 3 (.tmp 16) (.tmp 17) 3, none, false, [], [], false⟩, ⟨4, some 4, .assign (.tmp 15), none, true, [], [], false⟩, ⟨5, some 5, .assign (.tmp 18), none, true, [], [], false⟩]
noncomputable def zn202_10 : ZC := ZC.seq zn202_11 ZC.ret
noncomputable def zn202_8 : ZC := ZC.seq zn202_9 zn202_10
noncomputable def zn202_2 : ZC := ZC.seq zn202_3 zn202_8
noncomputable def zn202_0 : ZC := ZC.seq zn202_1 zn202_2
noncomputable def zc202 : ZC := zn202_0
theorem zc202_ok : zcode (xfOf Try.f202).code = some zc202 := by kernel_rfl
set_option linter.defProp false in
def zw202 := And.intro (zunf C zc202.eq_1) <| And.intro (zunf C zn202_1.eq_1) <| And.intro (zunf C zn202_4.eq_1) <| And.intro (zunf C zn202_7.eq_1) <| And.intro (zunf C zn202_6.eq_1) <| And.intro (zunf C zn202_5.eq_1) <| And.intro (zunf C zn202_3.eq_1) <| And.intro (zunf C zn202_9.eq_1) <| And.intro (zunf C zn202_11.eq_1) <| And.intro (zunf C zn202_10.eq_1) <| And.intro (zunf C zn202_8.eq_1) <| And.intro (zunf C zn202_2.eq_1) <| (zunf C zn202_0.eq_1)
theorem rs202 : (xfOf Try.f202).rs = [.tmp 4, .tmp 5] := by kernel_rfl
theorem xf202 : XFok C 202 (xfOf Try.f202) := ⟨Try.f202, by kernel_rfl, by kernel_rfl, by kernel_rfl, by kernel_rfl, by kernel_rfl, by kernel_rfl, by kernel_rfl⟩
noncomputable def zn207_1 : ZC := ZC.reg [⟨some 2, .assign (.const (.int .u64 0)), none, false⟩, ⟨some 3, .assign (.const (.int .i64 0)), none, true⟩]
noncomputable def zn207_3 : ZC := ZC.reg [⟨some 4, .move (.tmp 0), none, false⟩, ⟨some 5, .binOp .mul 25 (.tmp 4) (.const (.int .u64 6364136223846793005)) 25, none, false⟩, ⟨some 6, .binOp .add 25 (.tmp 5) (.const (.int .u64 1442695040888963407)) 25, none, false⟩, ⟨some 0, .assign (.tmp 6), none, true⟩]
noncomputable def zn207_5 : ZC := ZC.reg [⟨some 7, .move (.tmp 0), none, false⟩, ⟨some 8, .move (.tmp 0), none, false⟩, ⟨some 9, .binOp .shr 25 (.tmp 8) (.const (.int .u64 33)) 178, none, false⟩, ⟨some 10, .convert 25 3 (.tmp 9), none, false⟩, ⟨some 2, .assign (.tmp 7), none, false⟩, ⟨some 3, .assign (.tmp 10), none, true⟩]
noncomputable def zn207_4 : ZC := ZC.seq zn207_5 ZC.ret
noncomputable def zn207_2 : ZC := ZC.seq zn207_3 zn207_4
noncomputable def zn207_0 : ZC := ZC.seq zn207_1 zn207_2
noncomputable def zc207 : ZC := zn207_0
theorem zc207_ok : zcode (xfOf Try.f207).code = some zc207 := by kernel_rfl
set_option linter.defProp false in
def zw207 := And.intro (zunf C zc207.eq_1) <| And.intro (zunf C zn207_1.eq_1) <| And.intro (zunf C zn207_3.eq_1) <| And.intro (zunf C zn207_5.eq_1) <| And.intro (zunf C zn207_4.eq_1) <| And.intro (zunf C zn207_2.eq_1) <| (zunf C zn207_0.eq_1)
theorem rs207 : (xfOf Try.f207).rs = [.tmp 2, .tmp 3] := by kernel_rfl
theorem xf207 : XFok C 207 (xfOf Try.f207) := ⟨Try.f207, by kernel_rfl, by kernel_rfl, by kernel_rfl, by kernel_rfl, by kernel_rfl, by kernel_rfl, by kernel_rfl⟩
noncomputable def zn203_1 : ZC := ZC.reg [⟨some 3, .box 34 (.tmp 0), none, false⟩, ⟨some 6, .alloc 34, none, true⟩]
noncomputable def zn203_4 : ZC := ZC.reg [⟨some 7, .load 34 (.tmp 3), none, false⟩, ⟨some 8, .call ⟨.value (.func 24), ⟨[.tmp 7]⟩, ⟨[34]⟩⟩, none, false⟩, ⟨some 9, .unOp .not 4 (.tmp 8), none, false⟩, ⟨some 10, .move (.tmp 9), none, false⟩, ⟨some 11, .fieldAddr 34 (.tmp 3) 0, some (10, false), false⟩, ⟨some 12, .load 3 (.tmp 11), some (10, false), false⟩, ⟨some 13, .binOp .eql 3 (.tmp 12) (.const (.int .i64 0)) 3, some (10, false), false⟩, ⟨some 14, .pick (.tmp 10) (.const (.bool true)) (.tmp 13), none, true⟩]
noncomputable def zn203_7 : ZC := ZC.reg [⟨some 15, .build 34 ⟨[]⟩, none, false⟩, ⟨none, .store 34 (.tmp 6) (.tmp 15), none, true⟩]
noncomputable def zn203_6 : ZC := ZC.seq zn203_7 ZC.ret
noncomputable def zn203_5 : ZC := ZC.cond (.tmp 14) zn203_6 ZC.skip
noncomputable def zn203_3 : ZC := ZC.seq zn203_4 zn203_5
noncomputable def zn203_9 : ZC := ZC.draw 12 [] [⟨0, some 16, .fieldAddr 34 (.tmp 3) 1, none, false, [], [7, 9], false⟩, ⟨1, some 17, .load 3 (.tmp 16), none, false, [], [7, 9], false⟩, ⟨2, some 18, .fieldAddr 34 (.tmp 3) 2, none, false, [], [7, 9], false⟩, ⟨3, some 19, .load 3 (.tmp 18), none, false, [], [7, 9], false⟩, ⟨4, some 20, .fieldAddr 34 (.tmp 3) 3, none, false, [], [7, 9], false⟩, ⟨5, some 21, .load 3 (.tmp 20), none, false, [], [7, 9], false⟩, ⟨6, some 22, .move (.tmp 1), none, false, [], [], false⟩, ⟨7, some 23, .call ⟨.value (.func 140), ⟨[.tmp 22, .const (.int .i64 (-64)), .const (.int .i64 64)]⟩, ⟨[3, 3, 3]⟩⟩, none, false, [], [], false⟩, ⟨8, some 24, .move (.tmp 2), none, true, [], [], false⟩, ⟨9, some 25, .call ⟨.value (.func 140), ⟨[.tmp 24, .const (.int .i64 (-64)), .const (.int .i64 64)]⟩, ⟨[3, 3, 3]⟩⟩, none, true, [], [], false⟩, ⟨10, some 26, .build 34 ⟨[(0, .const (.int .i64 2)), (1, .tmp 17), (2, .tmp 19), (3, .tmp 21), (4, .tmp 23), (5, .tmp 25)]⟩, none, true, [], [], false⟩, ⟨11, none, .store 34 (.tmp 6) (.tmp 26), none, true, [], [], false⟩]
noncomputable def zn203_8 : ZC := ZC.seq zn203_9 ZC.ret
noncomputable def zn203_2 : ZC := ZC.seq zn203_3 zn203_8
noncomputable def zn203_0 : ZC := ZC.seq zn203_1 zn203_2
noncomputable def zc203 : ZC := zn203_0
theorem zc203_ok : zcode (xfOf Try.f203).code = some zc203 := by kernel_rfl
set_option linter.defProp false in
def zw203 := And.intro (zunf C zc203.eq_1) <| And.intro (zunf C zn203_1.eq_1) <| And.intro (zunf C zn203_4.eq_1) <| And.intro (zunf C zn203_7.eq_1) <| And.intro (zunf C zn203_6.eq_1) <| And.intro (zunf C zn203_5.eq_1) <| And.intro (zunf C zn203_3.eq_1) <| And.intro (zunf C zn203_9.eq_1) <| And.intro (zunf C zn203_8.eq_1) <| And.intro (zunf C zn203_2.eq_1) <| (zunf C zn203_0.eq_1)
theorem rs203 : (xfOf Try.f203).rs = [.cell 6 34] := by kernel_rfl
theorem xf203 : XFok C 203 (xfOf Try.f203) := ⟨Try.f203, by kernel_rfl, by kernel_rfl, by kernel_rfl, by kernel_rfl, by kernel_rfl, by kernel_rfl, by kernel_rfl⟩
noncomputable def zn25_1 : ZC := ZC.reg [⟨some 3, .box 39 (.tmp 1), none, false⟩, ⟨some 4, .alloc 39, none, false⟩, ⟨some 5, .alloc 44, none, false⟩, ⟨some 6, .assign (.const (.bool false)), none, true⟩]
noncomputable def zn25_4 : ZC := ZC.reg [⟨some 10, .fieldAddr 39 (.tmp 3) 0, none, false⟩, ⟨some 11, .load 34 (.tmp 10), none, false⟩, ⟨some 12, .call ⟨.value (.func 24), ⟨[.tmp 11]⟩, ⟨[34]⟩⟩, none, false⟩, ⟨some 13, .unOp .not 4 (.tmp 12), none, false⟩, ⟨some 14, .move (.tmp 13), none, false⟩, ⟨some 15, .fieldAddr 39 (.tmp 3) 0, some (14, false), false⟩, ⟨some 16, .fieldAddr 34 (.tmp 15) 0, some (14, false), false⟩, ⟨some 17, .load 3 (.tmp 16), some (14, false), false⟩, ⟨some 18, .binOp .eql 3 (.tmp 17) (.const (.int .i64 0)) 3, some (14, false), false⟩, ⟨some 19, .pick (.tmp 14) (.const (.bool true)) (.tmp 18), none, true⟩]
noncomputable def zn25_7 : ZC := ZC.reg [⟨some 20, .load 39 (.tmp 3), none, false⟩, ⟨some 21, .call ⟨.value (.func 72), ⟨[.tmp 20]⟩, ⟨[39]⟩⟩, none, false⟩, ⟨some 22, .build 44 ⟨[]⟩, none, false⟩, ⟨none, .store 39 (.tmp 4) (.tmp 21), none, false⟩, ⟨none, .store 44 (.tmp 5) (.tmp 22), none, false⟩, ⟨some 6, .assign (.const (.bool false)), none, true⟩]
noncomputable def zn25_6 : ZC := ZC.seq zn25_7 ZC.ret
noncomputable def zn25_5 : ZC := ZC.cond (.tmp 19) zn25_6 ZC.skip
noncomputable def zn25_3 : ZC := ZC.seq zn25_4 zn25_5
noncomputable def zn25_9 : ZC := ZC.reg [⟨some 23, .load 39 (.tmp 3), none, false⟩, ⟨some 24, .call ⟨.value (.func 72), ⟨[.tmp 23]⟩, ⟨[39]⟩⟩, none, false⟩, ⟨some 25, .move (.tmp 0), none, false⟩, ⟨some 26, .build 131 ⟨[(0, .tmp 24), (1, .tmp 25)]⟩, none, false⟩, ⟨some 27, .box 131 (.tmp 26), none, false⟩, ⟨some 7, .assign (.tmp 27), none, true⟩]
noncomputable def zn25_12 : ZC := ZC.reg [⟨some 29, .move (.tmp 7), none, false⟩, ⟨some 30, .makeFunc (.func 74) ⟨[.tmp 29]⟩ ⟨[]⟩, none, false⟩, ⟨some 31, .call ⟨.value (.func 73), ⟨[.tmp 30]⟩, ⟨[1]⟩⟩, none, false⟩, ⟨some 28, .move (.tmp 31), none, false⟩, ⟨some 32, .extract (.tmp 28) 0, none, false⟩, ⟨some 33, .extract (.tmp 28) 1, none, false⟩, ⟨some 8, .alloc 44, none, false⟩, ⟨none, .store 44 (.tmp 8) (.tmp 32), none, false⟩, ⟨some 9, .assign (.tmp 33), none, true⟩]
noncomputable def zn25_14 : ZC := ZC.reg [⟨some 34, .move (.tmp 9), none, true⟩]
noncomputable def zn25_17 : ZC := ZC.draw 6 [] [⟨0, some 35, .load 39 (.tmp 3), none, false, [], [], false⟩, ⟨1, some 36, .call ⟨.value (.func 72), ⟨[.tmp 35]⟩, ⟨[39]⟩⟩, none, false, [], [], true⟩, ⟨2, some 37, .load 44 (.tmp 8), none, false, [1], [3], false⟩, ⟨3, none, .store 39 (.tmp 4) (.tmp 36), none, true, [], [], false⟩, ⟨4, none, .store 44 (.tmp 5) (.tmp 37), none, true, [], [], false⟩, ⟨5, some 6, .assign (.const (.bool false)), none, true, [], [], false⟩]
noncomputable def zn25_16 : ZC := ZC.seq zn25_17 ZC.ret
noncomputable def zn25_15 : ZC := ZC.cond (.tmp 34) zn25_16 ZC.skip
noncomputable def zn25_13 : ZC := ZC.seq zn25_14 zn25_15
noncomputable def zn25_11 : ZC := ZC.seq zn25_12 zn25_13
noncomputable def zn25_19 : ZC := ZC.reg [⟨some 38, .move (.tmp 7), none, false⟩, ⟨some 39, .nilCheck (.tmp 38), none, false⟩, ⟨some 40, .fieldAddr 131 (.tmp 39) 0, none, false⟩, ⟨some 41, .load 39 (.tmp 40), none, false⟩, ⟨some 42, .build 44 ⟨[]⟩, none, false⟩, ⟨none, .store 39 (.tmp 4) (.tmp 41), none, false⟩, ⟨none, .store 44 (.tmp 5) (.tmp 42), none, false⟩, ⟨some 6, .assign (.const (.bool true)), none, true⟩]
noncomputable def zn25_18 : ZC := ZC.seq zn25_19 ZC.ret
noncomputable def zn25_10 : ZC := ZC.seq zn25_11 zn25_18
noncomputable def zn25_8 : ZC := ZC.seq zn25_9 zn25_10
noncomputable def zn25_2 : ZC := ZC.seq zn25_3 zn25_8
noncomputable def zn25_0 : ZC := ZC.seq zn25_1 zn25_2
noncomputable def zc25 : ZC := zn25_0
theorem zc25_ok : zcode (xfOf Try.f25).code = some zc25 := by kernel_rfl
set_option linter.defProp false in
def zw25 := And.intro (zunf C zc25.eq_1) <| And.intro (zunf C zn25_1.eq_1) <| And.intro (zunf C zn25_4.eq_1) <| And.intro (zunf C zn25_7.eq_1) <| And.intro (zunf C zn25_6.eq_1) <| And.intro (zunf C zn25_5.eq_1) <| And.intro (zunf C zn25_3.eq_1) <| And.intro (zunf C zn25_9.eq_1) <| And.intro (zunf C zn25_12.eq_1) <| And.intro (zunf C zn25_14.eq_1) <| And.intro (zunf C zn25_17.eq_1) <| And.intro (zunf C zn25_16.eq_1) <| And.intro (zunf C zn25_15.eq_1) <| And.intro (zunf C zn25_13.eq_1) <| And.intro (zunf C zn25_11.eq_1) <| And.intro (zunf C zn25_19.eq_1) <| And.intro (zunf C zn25_18.eq_1) <| And.intro (zunf C zn25_10.eq_1) <| And.intro (zunf C zn25_8.eq_1) <| And.intro (zunf C zn25_2.eq_1) <| (zunf C zn25_0.eq_1)
theorem rs25 : (xfOf Try.f25).rs = [.cell 4 39, .cell 5 44, .tmp 6] := by kernel_rfl
theorem xf25 : XFok C 25 (xfOf Try.f25) := ⟨Try.f25, by kernel_rfl, by kernel_rfl, by kernel_rfl, by kernel_rfl, by kernel_rfl, by kernel_rfl, by kernel_rfl⟩
noncomputable def zn72_1 : ZC := ZC.reg [⟨some 1, .box 39 (.tmp 0), none, false⟩, ⟨some 2, .alloc 39, none, true⟩]
noncomputable def zn72_3 : ZC := ZC.reg [⟨some 3, .fieldAddr 39 (.tmp 1) 4, none, false⟩, ⟨some 4, .load 37 (.tmp 3), none, false⟩, ⟨some 5, .call ⟨.value (.func 148), ⟨[.tmp 4]⟩, ⟨[37]⟩⟩, none, false⟩, ⟨some 6, .fieldAddr 39 (.tmp 1) 4, none, false⟩, ⟨none, .store 37 (.tmp 6) (.tmp 5), none, true⟩]
noncomputable def zn72_5 : ZC := ZC.reg [⟨some 7, .load 39 (.tmp 1), none, false⟩, ⟨none, .store 39 (.tmp 2) (.tmp 7), none, true⟩]
noncomputable def zn72_4 : ZC := ZC.seq zn72_5 ZC.ret
noncomputable def zn72_2 : ZC := ZC.seq zn72_3 zn72_4
noncomputable def zn72_0 : ZC := ZC.seq zn72_1 zn72_2
noncomputable def zc72 : ZC := zn72_0
theorem zc72_ok : zcode (xfOf Try.f72).code = some zc72 := by kernel_rfl
set_option linter.defProp false in
def zw72 := And.intro (zunf C zc72.eq_1) <| And.intro (zunf C zn72_1.eq_1) <| And.intro (zunf C zn72_3.eq_1) <| And.intro (zunf C zn72_5.eq_1) <| And.intro (zunf C zn72_4.eq_1) <| And.intro (zunf C zn72_2.eq_1) <| (zunf C zn72_0.eq_1)
theorem rs72 : (xfOf Try.f72).rs = [.cell 2 39] := by kernel_rfl
theorem xf72 : XFok C 72 (xfOf Try.f72) := ⟨Try.f72, by kernel_rfl, by kernel_rfl, by kernel_rfl, by kernel_rfl, by kernel_rfl, by kernel_rfl, by kernel_rfl⟩
noncomputable def zn74_1 : ZC := ZC.reg [⟨some 2, .assign (.const (.int .i64 0)), none, true⟩]
noncomputable def zn74_6 : ZC := ZC.draw 10 [] [⟨0, some 3, .move (.tmp 0), none, false, [], [], false⟩, ⟨1, some 4, .nilCheck (.tmp 3), none, false, [], [], false⟩, ⟨2, some 5, .fieldAddr 131 (.tmp 4) 2, none, false, [], [], false⟩, ⟨3, some 6, .load 3 (.tmp 5), none, false, [], [], false⟩, ⟨4, some 7, .move (.tmp 0), none, true, [], [], false⟩, ⟨5, some 8, .nilCheck (.tmp 7), none, true, [], [], false⟩, ⟨6, some 9, .fieldAddr 131 (.tmp 8) 1, none, true, [], [], false⟩, ⟨7, some 10, .load 23 (.tmp 9), none, true, [], [], false⟩, ⟨8, some 11, .call ⟨.builtin .len, ⟨[.tmp 10]⟩, ⟨[23]⟩⟩, none, true, [], [], false⟩, ⟨9, some 12, .binOp .lss 3 (.tmp 6) (.tmp 11) 3, none, true, [], [], false⟩]
noncomputable def zn74_7 : ZC := ZC.cond (.tmp 12) ZC.skip (ZC.exit 0)
noncomputable def zn74_5 : ZC := ZC.seq zn74_6 zn74_7
noncomputable def zn74_11 : ZC := ZC.reg [⟨some 15, .move (.tmp 0), none, false⟩, ⟨some 16, .move (.tmp 2), none, false⟩, ⟨some 17, .binOp .lss 3 (.tmp 16) (.const (.int .i64 64)) 3, none, false⟩, ⟨some 18, .call ⟨.value (.func 150), ⟨[.tmp 15, .tmp 17, .const (.int .i64 5)]⟩, ⟨[129, 4, 3]⟩⟩, none, true⟩]
noncomputable def zn74_12 : ZC := ZC.draw 16 [] [⟨0, some 19, .move (.tmp 0), none, false, [], [], false⟩, ⟨1, some 20, .move (.tmp 0), none, false, [], [], false⟩, ⟨2, some 21, .move (.tmp 0), none, false, [], [], false⟩, ⟨3, some 22, .nilCheck (.tmp 21), none, false, [], [], false⟩, ⟨4, some 23, .fieldAddr 131 (.tmp 22) 1, none, false, [], [], false⟩, ⟨5, some 24, .load 23 (.tmp 23), none, false, [], [], false⟩, ⟨6, some 25, .move (.tmp 0), none, true, [], [], false⟩, ⟨7, some 26, .nilCheck (.tmp 25), none, true, [], [], false⟩, ⟨8, some 27, .fieldAddr 131 (.tmp 26) 2, none, true, [], [], false⟩, ⟨9, some 28, .load 3 (.tmp 27), none, true, [], [], false⟩, ⟨10, some 29, .indexAddr 23 (.tmp 24) (.tmp 28), none, true, [], [], false⟩, ⟨11, some 30, .load 29 (.tmp 29), none, true, [], [], false⟩, ⟨12, some 31, .call ⟨.value (.func 151), ⟨[.tmp 20, .tmp 30]⟩, ⟨[129, 29]⟩⟩, none, true, [], [], false⟩, ⟨13, some 32, .nilCheck (.tmp 19), none, true, [], [], false⟩, ⟨14, some 33, .fieldAddr 131 (.tmp 32) 2, none, true, [], [], false⟩, ⟨15, none, .store 3 (.tmp 33) (.tmp 31), none, true, [], [], false⟩]
noncomputable def zn74_10 : ZC := ZC.seq zn74_11 zn74_12
noncomputable def zn74_9 : ZC := ZC.block 1 zn74_10
noncomputable def zn74_13 : ZC := ZC.reg [⟨some 13, .move (.tmp 2), none, false⟩, ⟨some 14, .binOp .add 3 (.tmp 13) (.const (.int .i64 1)) 3, none, false⟩, ⟨some 2, .assign (.tmp 14), none, true⟩]
noncomputable def zn74_8 : ZC := ZC.seq zn74_9 zn74_13
noncomputable def zn74_4 : ZC := ZC.seq zn74_5 zn74_8
noncomputable def zn74_3 : ZC := ZC.loop zn74_4
noncomputable def zn74_2 : ZC := ZC.block 0 zn74_3
noncomputable def zn74_0 : ZC := ZC.seq zn74_1 zn74_2
noncomputable def zc74 : ZC := zn74_0
theorem zc74_ok : zcode (xfOf Try.f74).code = some zc74 := by kernel_rfl
set_option linter.defProp false in
def zw74 := And.intro (zunf C zc74.eq_1) <| And.intro (zunf C zn74_1.eq_1) <| And.intro (zunf C zn74_6.eq_1) <| And.intro (zunf C zn74_7.eq_1) <| And.intro (zunf C zn74_5.eq_1) <| And.intro (zunf C zn74_11.eq_1) <| And.intro (zunf C zn74_12.eq_1) <| And.intro (zunf C zn74_10.eq_1) <| And.intro (zunf C zn74_9.eq_1) <| And.intro (zunf C zn74_13.eq_1) <| And.intro (zunf C zn74_8.eq_1) <| And.intro (zunf C zn74_4.eq_1) <| And.intro (zunf C zn74_2.eq_1) <| (zunf C zn74_0.eq_1)
theorem rs74 : (xfOf Try.f74).rs = [] := by kernel_rfl
theorem xf74 : XFok C 74 (xfOf Try.f74) := ⟨Try.f74, by kernel_rfl, by kernel_rfl, by kernel_rfl, by kernel_rfl, by kernel_rfl, by kernel_rfl, by kernel_rfl⟩
noncomputable def zn151_1 : ZC := ZC.reg [⟨some 3, .box 29 (.tmp 1), none, false⟩, ⟨some 4, .assign (.const (.int .i64 0)), none, true⟩]
noncomputable def zn151_3 : ZC := ZC.reg [⟨some 5, .move (.tmp 0), none, false⟩, ⟨some 6, .fieldAddr 29 (.tmp 3) 0, none, false⟩, ⟨some 7, .load 3 (.tmp 6), none, false⟩, ⟨some 8, .call ⟨.value (.func 84), ⟨[.tmp 7, .const (.int .i64 1), .const (.int .i64 13)]⟩, ⟨[3, 3, 3]⟩⟩, none, false⟩, ⟨some 9, .call ⟨.value (.func 150), ⟨[.tmp 5, .tmp 8, .const (.int .i64 4)]⟩, ⟨[129, 4, 3]⟩⟩, none, true⟩]
noncomputable def zn151_5 : ZC := ZC.reg [⟨some 10, .move (.tmp 0), none, false⟩, ⟨some 11, .load 29 (.tmp 3), none, false⟩, ⟨some 12, .call ⟨.value (.func 182), ⟨[.tmp 10, .tmp 11]⟩, ⟨[129, 29]⟩⟩, none, true⟩]
noncomputable def zn151_8 : ZC := ZC.reg [⟨some 13, .fieldAddr 29 (.tmp 3) 0, none, false⟩, ⟨some 14, .load 3 (.tmp 13), none, true⟩]
noncomputable def zn151_11 : ZC := ZC.reg [⟨some 19, .binOp .eql 3 (.tmp 14) (.const (.int .i64 1)) 3, none, false⟩, ⟨some 18, .assign (.tmp 19), none, true⟩]
noncomputable def zn151_13 : ZC := ZC.reg [⟨some 20, .move (.tmp 0), none, false⟩, ⟨some 21, .fieldAddr 29 (.tmp 3) 1, none, false⟩, ⟨some 22, .load 3 (.tmp 21), none, false⟩, ⟨some 23, .fieldAddr 29 (.tmp 3) 2, none, false⟩, ⟨some 24, .load 3 (.tmp 23), none, false⟩, ⟨some 25, .call ⟨.value (.func 183), ⟨[.tmp 20, .tmp 22, .tmp 24]⟩, ⟨[129, 3, 3]⟩⟩, none, true⟩]
noncomputable def zn151_15 : ZC := ZC.reg [⟨some 27, .binOp .eql 3 (.tmp 14) (.const (.int .i64 7)) 3, none, false⟩, ⟨some 26, .assign (.tmp 27), none, true⟩]
noncomputable def zn151_17 : ZC := ZC.draw 8 [] [⟨0, some 28, .move (.tmp 0), none, false, [], [], false⟩, ⟨1, some 29, .fieldAddr 29 (.tmp 3) 1, none, false, [], [6], false⟩, ⟨2, some 30, .load 3 (.tmp 29), none, false, [], [6], false⟩, ⟨3, some 31, .move (.tmp 0), none, false, [], [], false⟩, ⟨4, some 32, .fieldAddr 29 (.tmp 3) 2, none, true, [], [], false⟩, ⟨5, some 33, .load 3 (.tmp 32), none, true, [], [], false⟩, ⟨6, some 34, .call ⟨.value (.func 184), ⟨[.tmp 31, .tmp 33]⟩, ⟨[129, 3]⟩⟩, none, true, [], [], false⟩, ⟨7, some 35, .call ⟨.value (.func 183), ⟨[.tmp 28, .tmp 30, .tmp 34]⟩, ⟨[129, 3, 3]⟩⟩, none, true, [], [], false⟩]
noncomputable def zn151_19 : ZC := ZC.reg [⟨some 37, .binOp .eql 3 (.tmp 14) (.const (.int .i64 8)) 3, none, false⟩, ⟨some 36, .assign (.tmp 37), none, true⟩]
noncomputable def zn151_21 : ZC := ZC.draw 8 [] [⟨0, some 38, .move (.tmp 0), none, false, [], [], false⟩, ⟨1, some 39, .fieldAddr 29 (.tmp 3) 1, none, false, [], [6], false⟩, ⟨2, some 40, .load 3 (.tmp 39), none, false, [], [6], false⟩, ⟨3, some 41, .move (.tmp 0), none, false, [], [], false⟩, ⟨4, some 42, .fieldAddr 29 (.tmp 3) 2, none, true, [], [], false⟩, ⟨5, some 43, .load 3 (.tmp 42), none, true, [], [], false⟩, ⟨6, some 44, .call ⟨.value (.func 186), ⟨[.tmp 41, .tmp 43]⟩, ⟨[129, 3]⟩⟩, none, true, [], [], false⟩, ⟨7, some 45, .call ⟨.value (.func 185), ⟨[.tmp 38, .tmp 40, .tmp 44]⟩, ⟨[129, 3, 3]⟩⟩, none, true, [], [], false⟩]
noncomputable def zn151_23 : ZC := ZC.reg [⟨some 47, .binOp .eql 3 (.tmp 14) (.const (.int .i64 9)) 3, none, false⟩, ⟨some 46, .assign (.tmp 47), none, true⟩]
noncomputable def zn151_26 : ZC := ZC.reg [⟨some 48, .move (.tmp 0), none, false⟩, ⟨some 49, .fieldAddr 29 (.tmp 3) 1, none, false⟩, ⟨some 50, .load 3 (.tmp 49), none, false⟩, ⟨some 51, .call ⟨.value (.func 186), ⟨[.tmp 48, .tmp 50]⟩, ⟨[129, 3]⟩⟩, none, false⟩, ⟨some 52, .binOp .eql 3 (.tmp 51) (.const (.int .i64 0)) 3, none, true⟩]
noncomputable def zn151_29 : ZC := ZC.reg [⟨some 53, .move (.tmp 0), none, false⟩, ⟨some 54, .fieldAddr 29 (.tmp 3) 2, none, false⟩, ⟨some 55, .load 3 (.tmp 54), none, false⟩, ⟨some 56, .call ⟨.value (.func 187), ⟨[.tmp 53, .tmp 55]⟩, ⟨[129, 3]⟩⟩, none, false⟩, ⟨some 4, .assign (.tmp 56), none, true⟩]
noncomputable def zn151_28 : ZC := ZC.seq zn151_29 ZC.ret
noncomputable def zn151_27 : ZC := ZC.cond (.tmp 52) zn151_28 ZC.skip
noncomputable def zn151_25 : ZC := ZC.seq zn151_26 zn151_27
noncomputable def zn151_31 : ZC := ZC.reg [⟨some 58, .binOp .eql 3 (.tmp 14) (.const (.int .i64 10)) 3, none, false⟩, ⟨some 57, .assign (.tmp 58), none, true⟩]
noncomputable def zn151_34 : ZC := ZC.reg [⟨some 59, .move (.tmp 0), none, false⟩, ⟨some 60, .fieldAddr 29 (.tmp 3) 2, none, false⟩, ⟨some 61, .load 3 (.tmp 60), none, false⟩, ⟨some 62, .call ⟨.value (.func 187), ⟨[.tmp 59, .tmp 61]⟩, ⟨[129, 3]⟩⟩, none, false⟩, ⟨some 4, .assign (.tmp 62), none, true⟩]
noncomputable def zn151_33 : ZC := ZC.seq zn151_34 ZC.ret
noncomputable def zn151_36 : ZC := ZC.reg [⟨some 64, .binOp .eql 3 (.tmp 14) (.const (.int .i64 13)) 3, none, false⟩, ⟨some 63, .assign (.tmp 64), none, true⟩]
noncomputable def zn151_39 : ZC := ZC.reg [⟨some 65, .move (.tmp 0), none, false⟩, ⟨some 66, .nilCheck (.tmp 65), none, false⟩, ⟨some 67, .fieldAddr 131 (.tmp 66) 1, none, false⟩, ⟨some 68, .load 23 (.tmp 67), none, false⟩, ⟨some 69, .call ⟨.builtin .len, ⟨[.tmp 68]⟩, ⟨[23]⟩⟩, none, false⟩, ⟨some 4, .assign (.tmp 69), none, true⟩]
noncomputable def zn151_38 : ZC := ZC.seq zn151_39 ZC.ret
noncomputable def zn151_40 : ZC := ZC.reg [⟨some 15, .move (.tmp 0), none, false⟩, ⟨some 16, .load 29 (.tmp 3), none, false⟩, ⟨some 17, .call ⟨.value (.func 188), ⟨[.tmp 15, .tmp 16]⟩, ⟨[129, 29]⟩⟩, none, true⟩]
noncomputable def zn151_37 : ZC := ZC.cond (.tmp 63) zn151_38 zn151_40
noncomputable def zn151_35 : ZC := ZC.seq zn151_36 zn151_37
noncomputable def zn151_32 : ZC := ZC.cond (.tmp 57) zn151_33 zn151_35
noncomputable def zn151_30 : ZC := ZC.seq zn151_31 zn151_32
noncomputable def zn151_24 : ZC := ZC.cond (.tmp 46) zn151_25 zn151_30
noncomputable def zn151_22 : ZC := ZC.seq zn151_23 zn151_24
noncomputable def zn151_20 : ZC := ZC.cond (.tmp 36) zn151_21 zn151_22
noncomputable def zn151_18 : ZC := ZC.seq zn151_19 zn151_20
noncomputable def zn151_16 : ZC := ZC.cond (.tmp 26) zn151_17 zn151_18
noncomputable def zn151_14 : ZC := ZC.seq zn151_15 zn151_16
noncomputable def zn151_12 : ZC := ZC.cond (.tmp 18) zn151_13 zn151_14
noncomputable def zn151_10 : ZC := ZC.seq zn151_11 zn151_12
noncomputable def zn151_9 : ZC := ZC.block 0 zn151_10
noncomputable def zn151_7 : ZC := ZC.seq zn151_8 zn151_9
noncomputable def zn151_42 : ZC := ZC.reg [⟨some 70, .move (.tmp 0), none, false⟩, ⟨some 71, .nilCheck (.tmp 70), none, false⟩, ⟨some 72, .fieldAddr 131 (.tmp 71) 2, none, false⟩, ⟨some 73, .load 3 (.tmp 72), none, false⟩, ⟨some 74, .binOp .add 3 (.tmp 73) (.const (.int .i64 1)) 3, none, false⟩, ⟨some 4, .assign (.tmp 74), none, true⟩]
noncomputable def zn151_41 : ZC := ZC.seq zn151_42 ZC.ret
noncomputable def zn151_6 : ZC := ZC.seq zn151_7 zn151_41
noncomputable def zn151_4 : ZC := ZC.seq zn151_5 zn151_6
noncomputable def zn151_2 : ZC := ZC.seq zn151_3 zn151_4
noncomputable def zn151_0 : ZC := ZC.seq zn151_1 zn151_2
noncomputable def zc151 : ZC := zn151_0
theorem zc151_ok : zcode (xfOf Try.f151).code = some zc151 := by kernel_rfl
set_option linter.defProp false in
def zw151 := And.intro (zunf C zc151.eq_1) <| And.intro (zunf C zn151_1.eq_1) <| And.intro (zunf C zn151_3.eq_1) <| And.intro (zunf C zn151_5.eq_1) <| And.intro (zunf C zn151_8.eq_1) <| And.intro (zunf C zn151_11.eq_1) <| And.intro (zunf C zn151_13.eq_1) <| And.intro (zunf C zn151_15.eq_1) <| And.intro (zunf C zn151_17.eq_1) <| And.intro (zunf C zn151_19.eq_1) <| And.intro (zunf C zn151_21.eq_1) <| And.intro (zunf C zn151_23.eq_1) <| And.intro (zunf C zn151_26.eq_1) <| And.intro (zunf C zn151_29.eq_1) <| And.intro (zunf C zn151_28.eq_1) <| And.intro (zunf C zn151_27.eq_1) <| And.intro (zunf C zn151_25.eq_1) <| And.intro (zunf C zn151_31.eq_1) <| And.intro (zunf C zn151_34.eq_1) <| And.intro (zunf C zn151_33.eq_1) <| And.intro (zunf C zn151_36.eq_1) <| And.intro (zunf C zn151_39.eq_1) <| And.intro (zunf C zn151_38.eq_1) <| And.intro (zunf C zn151_40.eq_1) <| And.intro (zunf C zn151_37.eq_1) <| And.intro (zunf C zn151_35.eq_1) <| And.intro (zunf C zn151_32.eq_1) <| And.intro (zunf C zn151_30.eq_1) <| And.intro (zunf C zn151_24.eq_1) <| And.intro (zunf C zn151_22.eq_1) <| And.intro (zunf C zn151_20.eq_1) <| And.intro (zunf C zn151_18.eq_1) <| And.intro (zunf C zn151_16.eq_1) <| And.intro (zunf C zn151_14.eq_1) <| And.intro (zunf C zn151_12.eq_1) <| And.intro (zunf C zn151_10.eq_1) <| And.intro (zunf C zn151_9.eq_1) <| And.intro (zunf C zn151_7.eq_1) <| And.intro (zunf C zn151_42.eq_1) <| And.intro (zunf C zn151_41.eq_1) <| And.intro (zunf C zn151_6.eq_1) <| And.intro (zunf C zn151_4.eq_1) <| And.intro (zunf C zn151_2.eq_1) <| (zunf C zn151_0.eq_1)
theorem rs151 : (xfOf Try.f151).rs = [.tmp 4] := by kernel_rfl
theorem xf151 : XFok C 151 (xfOf Try.f151) := ⟨Try.f151, by kernel_rfl, by kernel_rfl, by kernel_rfl, by kernel_rfl, by kernel_rfl, by kernel_rfl, by kernel_rfl⟩
noncomputable def zn148_1 : ZC := ZC.reg [⟨some 2, .assign (.const (.slice none 0 0)), none, true⟩]
noncomputable def zn148_4 : ZC := ZC.reg [⟨some 3, .move (.tmp 0), none, false⟩, ⟨some 4, .binOp .eql 37 (.tmp 3) (.const (.slice none 0 0)) 37, none, true⟩]
noncomputable def zn148_7 : ZC := ZC.reg [⟨some 2, .assign (.const (.slice none 0 0)), none, true⟩]
noncomputable def zn148_6 : ZC := ZC.seq zn148_7 ZC.ret
noncomputable def zn148_5 : ZC := ZC.cond (.tmp 4) zn148_6 ZC.skip
noncomputable def zn148_3 : ZC := ZC.seq zn148_4 zn148_5
noncomputable def zn148_9 : ZC := ZC.reg [⟨some 5, .buildSlice 37 0 ⟨[]⟩, none, false⟩, ⟨some 6, .move (.tmp 0), none, false⟩, ⟨some 7, .call ⟨.builtin .append, ⟨[.tmp 5, .tmp 6]⟩, ⟨[37, 37]⟩⟩, none, false⟩, ⟨some 2, .assign (.tmp 7), none, true⟩]
noncomputable def zn148_8 : ZC := ZC.seq zn148_9 ZC.ret
noncomputable def zn148_2 : ZC := ZC.seq zn148_3 zn148_8
noncomputable def zn148_0 : ZC := ZC.seq zn148_1 zn148_2
noncomputable def zc148 : ZC := zn148_0
theorem zc148_ok : zcode (xfOf Try.f148).code = some zc148 := by kernel_rfl
set_option linter.defProp false in
def zw148 := And.intro (zunf C zc148.eq_1) <| And.intro (zunf C zn148_1.eq_1) <| And.intro (zunf C zn148_4.eq_1) <| And.intro (zunf C zn148_7.eq_1) <| And.intro (zunf C zn148_6.eq_1) <| And.intro (zunf C zn148_5.eq_1) <| And.intro (zunf C zn148_3.eq_1) <| And.intro (zunf C zn148_9.eq_1) <| And.intro (zunf C zn148_8.eq_1) <| And.intro (zunf C zn148_2.eq_1) <| (zunf C zn148_0.eq_1)
theorem rs148 : (xfOf Try.f148).rs = [.tmp 2] := by kernel_rfl
theorem xf148 : XFok C 148 (xfOf Try.f148) := ⟨Try.f148, by kernel_rfl, by kernel_rfl, by kernel_rfl, by kernel_rfl, by kernel_rfl, by kernel_rfl, by kernel_rfl⟩
noncomputable def zn22_1 : ZC := ZC.reg [⟨some 1, .box 27 (.tmp 0), none, false⟩, ⟨some 2, .alloc 39, none, true⟩]
noncomputable def zn22_3 : ZC := ZC.draw 17 [(15, .alloc 39)] [⟨0, some 5, .fieldAddr 27 (.tmp 1) 0, none, false, [], [], false⟩, ⟨1, some 6, .load 3 (.tmp 5), none, false, [], [], false⟩, ⟨2, some 7, .call ⟨.value (.func 37), ⟨[.tmp 6, .const (.int .i64 4)]⟩, ⟨[3, 3]⟩⟩, none, false, [], [], true⟩, ⟨3, some 8, .call ⟨.value (.func 64), ⟨[.tmp 7, .const (.int .i64 4)]⟩, ⟨[3, 3]⟩⟩, none, false, [], [], true⟩, ⟨4, some 9, .fieldAddr 27 (.tmp 1) 3, none, false, [2, 3], [], false⟩, ⟨5, some 10, .load 3 (.tmp 9), none, false, [2, 3], [], false⟩, ⟨6, some 11, .fieldAddr 27 (.tmp 1) 4, none, false, [2, 3], [], false⟩, ⟨7, some 12, .load 3 (.tmp 11), none, false, [2, 3], [], false⟩, ⟨8, some 13, .call ⟨.value (.func 69), ⟨[.tmp 10, .tmp 12]⟩, ⟨[3, 3]⟩⟩, none, false, [], [], true⟩, ⟨9, some 14, .fieldAddr 27 (.tmp 1) 7, none, false, [2, 3, 8], [13], false⟩, ⟨10, some 15, .load 25 (.tmp 14), none, false, [2, 3, 8], [13], false⟩, ⟨11, some 16, .fieldAddr 27 (.tmp 1) 5, none, false, [2, 3, 8], [], false⟩, ⟨12, some 17, .load 3 (.tmp 16), none, false, [2, 3, 8], [], false⟩, ⟨13, some 18, .call ⟨.value (.func 37), ⟨[.tmp 17, .const (.int .i64 8)]⟩, ⟨[3, 3]⟩⟩, none, false, [], [], true⟩, ⟨14, some 19, .build 39 ⟨[(0, .tmp 8), (1, .tmp 13), (2, .tmp 15), (3, .tmp 18)]⟩, none, false, [], [], false⟩, ⟨15, some 3, .alloc 39, none, true, [2, 3, 8, 13], [], false⟩, ⟨16, none, .store 39 (.tmp 3) (.tmp 19), none, true, [], [], false⟩]
noncomputable def zn22_5 : ZC := ZC.reg [⟨some 20, .fieldAddr 27 (.tmp 1) 0, none, false⟩, ⟨some 21, .load 3 (.tmp 20), none, false⟩, ⟨some 22, .call ⟨.value (.func 37), ⟨[.tmp 21, .const (.int .i64 4096)]⟩, ⟨[3, 3]⟩⟩, none, false⟩, ⟨some 23, .fieldAddr 39 (.tmp 3) 0, none, false⟩, ⟨some 24, .fieldAddr 34 (.tmp 23) 2, none, false⟩, ⟨none, .store 3 (.tmp 24) (.tmp 22), none, true⟩]
noncomputable def zn22_7 : ZC := ZC.reg [⟨some 25, .fieldAddr 27 (.tmp 1) 1, none, false⟩, ⟨some 26, .load 3 (.tmp 25), none, false⟩, ⟨some 27, .call ⟨.value (.func 37), ⟨[.tmp 26, .const (.int .i64 4096)]⟩, ⟨[3, 3]⟩⟩, none, false⟩, ⟨some 28, .fieldAddr 39 (.tmp 3) 0, none, false⟩, ⟨some 29, .fieldAddr 34 (.tmp 28) 3, none, false⟩, ⟨none, .store 3 (.tmp 29) (.tmp 27), none, true⟩]
noncomputable def zn22_9 : ZC := ZC.reg [⟨some 30, .fieldAddr 27 (.tmp 1) 2, none, false⟩, ⟨some 31, .load 3 (.tmp 30), none, false⟩, ⟨some 32, .call ⟨.value (.func 37), ⟨[.tmp 31, .const (.int .i64 129)]⟩, ⟨[3, 3]⟩⟩, none, false⟩, ⟨some 33, .binOp .sub 3 (.tmp 32) (.const (.int .i64 64)) 3, none, false⟩, ⟨some 34, .fieldAddr 39 (.tmp 3) 0, none, false⟩, ⟨some 35, .fieldAddr 34 (.tmp 34) 4, none, false⟩, ⟨none, .store 3 (.tmp 35) (.tmp 33), none, true⟩]
noncomputable def zn22_12 : ZC := ZC.reg [⟨some 4, .assign (.const (.int .i64 0)), none, true⟩]
noncomputable def zn22_17 : ZC := ZC.reg [⟨some 36, .move (.tmp 4), none, false⟩, ⟨some 37, .fieldAddr 27 (.tmp 1) 6, none, false⟩, ⟨some 38, .load 24 (.tmp 37), none, false⟩, ⟨some 39, .call ⟨.builtin .len, ⟨[.tmp 38]⟩, ⟨[24]⟩⟩, none, false⟩, ⟨some 40, .binOp .lss 3 (.tmp 36) (.tmp 39) 3, none, false⟩, ⟨some 41, .move (.tmp 40), none, false⟩, ⟨some 42, .move (.tmp 4), some (41, true), false⟩, ⟨some 43, .binOp .lss 3 (.tmp 42) (.const (.int .i64 4)) 3, some (41, true), false⟩, ⟨some 44, .pick (.tmp 41) (.tmp 43) (.const (.bool false)), none, true⟩]
noncomputable def zn22_18 : ZC := ZC.cond (.tmp 44) ZC.skip (ZC.exit 0)
noncomputable def zn22_16 : ZC := ZC.seq zn22_17 zn22_18
noncomputable def zn22_22 : ZC := ZC.reg [⟨some 47, .move (.tmp 4), none, false⟩, ⟨some 48, .fieldAddr 27 (.tmp 1) 6, none, false⟩, ⟨some 49, .load 24 (.tmp 48), none, false⟩, ⟨some 50, .move (.tmp 4), none, false⟩, ⟨some 51, .indexAddr 24 (.tmp 49) (.tmp 50), none, false⟩, ⟨some 52, .load 3 (.tmp 51), none, false⟩, ⟨some 53, .call ⟨.value (.func 37), ⟨[.tmp 52, .const (.int .i64 41)]⟩, ⟨[3, 3]⟩⟩, none, false⟩, ⟨some 54, .binOp .sub 3 (.tmp 53) (.const (.int .i64 20)) 3, none, false⟩, ⟨some 55, .fieldAddr 39 (.tmp 3) 0, none, false⟩, ⟨some 56, .fieldAddr 34 (.tmp 55) 7, none, false⟩, ⟨some 57, .indexAddr 32 (.tmp 56) (.tmp 47), none, false⟩, ⟨none, .store 3 (.tmp 57) (.tmp 54), none, true⟩]
noncomputable def zn22_24 : ZC := ZC.reg [⟨some 58, .fieldAddr 27 (.tmp 1) 6, none, false⟩, ⟨some 59, .load 24 (.tmp 58), none, false⟩, ⟨some 60, .move (.tmp 4), none, false⟩, ⟨some 61, .indexAddr 24 (.tmp 59) (.tmp 60), none, false⟩, ⟨some 62, .load 3 (.tmp 61), none, false⟩, ⟨some 63, .binOp .rem 3 (.tmp 62) (.const (.int .i64 9)) 3, none, false⟩, ⟨some 64, .binOp .eql 3 (.tmp 63) (.const (.int .i64 8)) 3, none, true⟩]
noncomputable def zn22_26 : ZC := ZC.reg [⟨some 65, .move (.tmp 4), none, false⟩, ⟨some 66, .fieldAddr 27 (.tmp 1) 6, none, false⟩, ⟨some 67, .load 24 (.tmp 66), none, false⟩, ⟨some 68, .move (.tmp 4), none, false⟩, ⟨some 69, .indexAddr 24 (.tmp 67) (.tmp 68), none, false⟩, ⟨some 70, .load 3 (.tmp 69), none, false⟩, ⟨some 71, .call ⟨.value (.func 37), ⟨[.tmp 70, .const (.int .i64 2000001)]⟩, ⟨[3, 3]⟩⟩, none, false⟩, ⟨some 72, .binOp .sub 3 (.tmp 71) (.const (.int .i64 1000000)) 3, none, false⟩, ⟨some 73, .fieldAddr 39 (.tmp 3) 0, none, false⟩, ⟨some 74, .fieldAddr 34 (.tmp 73) 7, none, false⟩, ⟨some 75, .indexAddr 32 (.tmp 74) (.tmp 65), none, false⟩, ⟨none, .store 3 (.tmp 75) (.tmp 72), none, true⟩]
noncomputable def zn22_25 : ZC := ZC.cond (.tmp 64) zn22_26 ZC.skip
noncomputable def zn22_23 : ZC := ZC.seq zn22_24 zn22_25
noncomputable def zn22_21 : ZC := ZC.seq zn22_22 zn22_23
noncomputable def zn22_20 : ZC := ZC.block 1 zn22_21
noncomputable def zn22_27 : ZC := ZC.reg [⟨some 45, .move (.tmp 4), none, false⟩, ⟨some 46, .binOp .add 3 (.tmp 45) (.const (.int .i64 1)) 3, none, false⟩, ⟨some 4, .assign (.tmp 46), none, true⟩]
noncomputable def zn22_19 : ZC := ZC.seq zn22_20 zn22_27
noncomputable def zn22_15 : ZC := ZC.seq zn22_16 zn22_19
noncomputable def zn22_14 : ZC := ZC.loop zn22_15
noncomputable def zn22_13 : ZC := ZC.block 0 zn22_14
noncomputable def zn22_11 : ZC := ZC.seq zn22_12 zn22_13
noncomputable def zn22_30 : ZC := ZC.reg [⟨some 76, .fieldAddr 27 (.tmp 1) 8, none, false⟩, ⟨some 77, .load 3 (.tmp 76), none, false⟩, ⟨some 78, .binOp .rem 3 (.tmp 77) (.const (.int .i64 23)) 3, none, false⟩, ⟨some 79, .binOp .eql 3 (.tmp 78) (.const (.int .i64 22)) 3, none, true⟩]
noncomputable def zn22_32 : ZC := ZC.reg [⟨some 80, .fieldAddr 27 (.tmp 1) 1, none, false⟩, ⟨some 81, .load 3 (.tmp 80), none, false⟩, ⟨some 82, .fieldAddr 39 (.tmp 3) 0, none, false⟩, ⟨some 83, .fieldAddr 34 (.tmp 82) 3, none, false⟩, ⟨none, .store 3 (.tmp 83) (.tmp 81), none, true⟩]
noncomputable def zn22_31 : ZC := ZC.cond (.tmp 79) zn22_32 ZC.skip
noncomputable def zn22_29 : ZC := ZC.seq zn22_30 zn22_31
noncomputable def zn22_34 : ZC := ZC.reg [⟨some 84, .load 39 (.tmp 3), none, false⟩, ⟨none, .store 39 (.tmp 2) (.tmp 84), none, true⟩]
noncomputable def zn22_33 : ZC := ZC.seq zn22_34 ZC.ret
noncomputable def zn22_28 : ZC := ZC.seq zn22_29 zn22_33
noncomputable def zn22_10 : ZC := ZC.seq zn22_11 zn22_28
noncomputable def zn22_8 : ZC := ZC.seq zn22_9 zn22_10
noncomputable def zn22_6 : ZC := ZC.seq zn22_7 zn22_8
noncomputable def zn22_4 : ZC := ZC.seq zn22_5 zn22_6
noncomputable def zn22_2 : ZC := ZC.seq zn22_3 zn22_4
noncomputable def zn22_0 : ZC := ZC.seq zn22_1 zn22_2
noncomputable def zc22 : ZC := zn22_0
theorem zc22_ok : zcode (xfOf Try.f22).code = some zc22 := by kernel_rfl
set_option linter.defProp false in
def zw22 := And.intro (zunf C zc22.eq_1) <| And.intro (zunf C zn22_1.eq_1) <| And.intro (zunf C zn22_3.eq_1) <| And.intro (zunf C zn22_5.eq_1) <| And.intro (zunf C zn22_7.eq_1) <| And.intro (zunf C zn22_9.eq_1) <| And.intro (zunf C zn22_12.eq_1) <| And.intro (zunf C zn22_17.eq_1) <| And.intro (zunf C zn22_18.eq_1) <| And.intro (zunf C zn22_16.eq_1) <| And.intro (zunf C zn22_22.eq_1) <| And.intro (zunf C zn22_24.eq_1) <| And.intro (zunf C zn22_26.eq_1) <| And.intro (zunf C zn22_25.eq_1) <| And.intro (zunf C zn22_23.eq_1) <| And.intro (zunf C zn22_21.eq_1) <| And.intro (zunf C zn22_20.eq_1) <| And.intro (zunf C zn22_27.eq_1) <| And.intro (zunf C zn22_19.eq_1) <| And.intro (zunf C zn22_15.eq_1) <| And.intro (zunf C zn22_13.eq_1) <| And.intro (zunf C zn22_11.eq_1) <| And.intro (zunf C zn22_30.eq_1) <| And.intro (zunf C zn22_32.eq_1) <| And.intro (zunf C zn22_31.eq_1) <| And.intro (zunf C zn22_29.eq_1) <| And.intro (zunf C zn22_34.eq_1) <| And.intro (zunf C zn22_33.eq_1) <| And.intro (zunf C zn22_28.eq_1) <| And.intro (zunf C zn22_10.eq_1) <| And.intro (zunf C zn22_8.eq_1) <| And.intro (zunf C zn22_6.eq_1) <| And.intro (zunf C zn22_4.eq_1) <| And.intro (zunf C zn22_2.eq_1) <| (zunf C zn22_0.eq_1)
theorem rs22 : (xfOf Try.f22).rs = [.cell 2 39] := by kernel_rfl
theorem xf22 : XFok C 22 (xfOf Try.f22) := ⟨Try.f22, by kernel_rfl, by kernel_rfl, by kernel_rfl, by kernel_rfl, by kernel_rfl, by kernel_rfl, by kernel_rfl⟩
noncomputable def zn37_1 : ZC := ZC.reg [⟨some 4, .assign (.const (.int .i64 0)), none, true⟩]
noncomputable def zn37_3 : ZC := ZC.reg [⟨some 5, .move (.tmp 0), none, false⟩, ⟨some 6, .move (.tmp 1), none, false⟩, ⟨some 7, .binOp .rem 3 (.tmp 5) (.tmp 6) 3, none, false⟩, ⟨some 0, .assign (.tmp 7), none, true⟩]
noncomputable def zn37_6 : ZC := ZC.reg [⟨some 8, .move (.tmp 0), none, false⟩, ⟨some 9, .binOp .lss 3 (.tmp 8) (.const (.int .i64 0)) 3, none, true⟩]
noncomputable def zn37_8 : ZC := ZC.reg [⟨some 10, .move (.tmp 0), none, false⟩, ⟨some 11, .move (.tmp 1), none, false⟩, ⟨some 12, .binOp .add 3 (.tmp 10) (.tmp 11) 3, none, false⟩, ⟨some 0, .assign (.tmp 12), none, true⟩]
noncomputable def zn37_7 : ZC := ZC.cond (.tmp 9) zn37_8 ZC.skip
noncomputable def zn37_5 : ZC := ZC.seq zn37_6 zn37_7
noncomputable def zn37_10 : ZC := ZC.reg [⟨some 13, .move (.tmp 0), none, false⟩, ⟨some 4, .assign (.tmp 13), none, true⟩]
noncomputable def zn37_9 : ZC := ZC.seq zn37_10 ZC.ret
noncomputable def zn37_4 : ZC := ZC.seq zn37_5 zn37_9
noncomputable def zn37_2 : ZC := ZC.seq zn37_3 zn37_4
noncomputable def zn37_0 : ZC := ZC.seq zn37_1 zn37_2
noncomputable def zc37 : ZC := zn37_0
theorem zc37_ok : zcode (xfOf Try.f37).code = some zc37 := by kernel_rfl
set_option linter.defProp false in
def zw37 := And.intro (zunf C zc37.eq_1) <| And.intro (zunf C zn37_1.eq_1) <| And.intro (zunf C zn37_3.eq_1) <| And.intro (zunf C zn37_6.eq_1) <| And.intro (zunf C zn37_8.eq_1) <| And.intro (zunf C zn37_7.eq_1) <| And.intro (zunf C zn37_5.eq_1) <| And.intro (zunf C zn37_10.eq_1) <| And.intro (zunf C zn37_9.eq_1) <| And.intro (zunf C zn37_4.eq_1) <| And.intro (zunf C zn37_2.eq_1) <| (zunf C zn37_0.eq_1)
theorem rs37 : (xfOf Try.f37).rs = [.tmp 4] := by kernel_rfl
theorem xf37 : XFok C 37 (xfOf Try.f37) := ⟨Try.f37, by kernel_rfl, by kernel_rfl, by kernel_rfl, by kernel_rfl, by kernel_rfl, by kernel_rfl, by kernel_rfl⟩
noncomputable def zn64_1 : ZC := ZC.reg [⟨some 4, .alloc 34, none, true⟩]
noncomputable def zn64_3 : ZC := ZC.reg [⟨some 5, .move (.tmp 1), none, false⟩, ⟨some 6, .call ⟨.value (.func 140), ⟨[.tmp 5, .const (.int .i64 1), .const (.int .i64 8)]⟩, ⟨[3, 3, 3]⟩⟩, none, false⟩, ⟨some 1, .assign (.tmp 6), none, true⟩]
noncomputable def zn64_5 : ZC := ZC.reg [⟨some 7, .move (.tmp 0), none, false⟩, ⟨some 8, .move (.tmp 1), none, false⟩, ⟨some 9, .binOp .sub 3 (.tmp 8) (.const (.int .i64 1)) 3, none, false⟩, ⟨some 10, .call ⟨.value (.func 140), ⟨[.tmp 7, .const (.int .i64 0), .tmp 9]⟩, ⟨[3, 3, 3]⟩⟩, none, false⟩, ⟨some 0, .assign (.tmp 10), none, true⟩]
noncomputable def zn64_7 : ZC := ZC.reg [⟨some 11, .move (.tmp 0), none, false⟩, ⟨some 12, .move (.tmp 0), none, false⟩, ⟨some 13, .binOp .mul 3 (.const (.int .i64 2)) (.tmp 12) 3, none, false⟩, ⟨some 14, .binOp .add 3 (.tmp 13) (.const (.int .i64 1)) 3, none, false⟩, ⟨some 15, .binOp .mul 3 (.tmp 14) (.const (.int .i64 4096)) 3, none, false⟩, ⟨some 16, .move (.tmp 1), none, false⟩, ⟨some 17, .binOp .mul 3 (.const (.int .i64 2)) (.tmp 16) 3, none, false⟩, ⟨some 18, .binOp .quo 3 (.tmp 15) (.tmp 17) 3, none, false⟩, ⟨some 19, .build 34 ⟨[(0, .const (.int .i64 1)), (1, .tmp 11), (2, .tmp 18), (3, .const (.int .i64 2048))]⟩, none, false⟩, ⟨none, .store 34 (.tmp 4) (.tmp 19), none, true⟩]
noncomputable def zn64_6 : ZC := ZC.seq zn64_7 ZC.ret
noncomputable def zn64_4 : ZC := ZC.seq zn64_5 zn64_6
noncomputable def zn64_2 : ZC := ZC.seq zn64_3 zn64_4
noncomputable def zn64_0 : ZC := ZC.seq zn64_1 zn64_2
noncomputable def zc64 : ZC := zn64_0
theorem zc64_ok : zcode (xfOf Try.f64).code = some zc64 := by kernel_rfl
set_option linter.defProp false in
def zw64 := And.intro (zunf C zc64.eq_1) <| And.intro (zunf C zn64_1.eq_1) <| And.intro (zunf C zn64_3.eq_1) <| And.intro (zunf C zn64_5.eq_1) <| And.intro (zunf C zn64_7.eq_1) <| And.intro (zunf C zn64_6.eq_1) <| And.intro (zunf C zn64_4.eq_1) <| And.intro (zunf C zn64_2.eq_1) <| (zunf C zn64_0.eq_1)
theorem rs64 : (xfOf Try.f64).rs = [.cell 4 34] := by kernel_rfl
theorem xf64 : XFok C 64 (xfOf Try.f64) := ⟨Try.f64, by kernel_rfl, by kernel_rfl, by kernel_rfl, by kernel_rfl, by kernel_rfl, by kernel_rfl, by kernel_rfl⟩
noncomputable def zn69_1 : ZC := ZC.reg [⟨some 4, .alloc 36, none, true⟩]
noncomputable def zn69_3 : ZC := ZC.reg [⟨some 5, .move (.tmp 0), none, false⟩, ⟨some 6, .call ⟨.value (.func 37), ⟨[.tmp 5, .const (.int .i64 256)]⟩, ⟨[3, 3]⟩⟩, none, false⟩, ⟨some 7, .move (.tmp 1), none, false⟩, ⟨some 8, .call ⟨.value (.func 37), ⟨[.tmp 7, .const (.int .i64 129)]⟩, ⟨[3, 3]⟩⟩, none, false⟩, ⟨some 9, .binOp .sub 3 (.tmp 8) (.const (.int .i64 64)) 3, none, false⟩, ⟨some 10, .move (.tmp 1), none, false⟩, ⟨some 11, .binOp .quo 3 (.tmp 10) (.const (.int .i64 129)) 3, none, false⟩, ⟨some 12, .call ⟨.value (.func 37), ⟨[.tmp 11, .const (.int .i64 129)]⟩, ⟨[3, 3]⟩⟩, none, false⟩, ⟨some 13, .binOp .sub 3 (.tmp 12) (.const (.int .i64 64)) 3, none, false⟩, ⟨some 14, .build 36 ⟨[(0, .tmp 6), (1, .tmp 9), (2, .tmp 13)]⟩, none, false⟩, ⟨none, .store 36 (.tmp 4) (.tmp 14), none, true⟩]
noncomputable def zn69_2 : ZC := ZC.seq zn69_3 ZC.ret
noncomputable def zn69_0 : ZC := ZC.seq zn69_1 zn69_2
noncomputable def zc69 : ZC := zn69_0
theorem zc69_ok : zcode (xfOf Try.f69).code = some zc69 := by kernel_rfl
set_option linter.defProp false in
def zw69 := And.intro (zunf C zc69.eq_1) <| And.intro (zunf C zn69_1.eq_1) <| And.intro (zunf C zn69_3.eq_1) <| And.intro (zunf C zn69_2.eq_1) <| (zunf C zn69_0.eq_1)
theorem rs69 : (xfOf Try.f69).rs = [.cell 4 36] := by kernel_rfl
theorem xf69 : XFok C 69 (xfOf Try.f69) := ⟨Try.f69, by kernel_rfl, by kernel_rfl, by kernel_rfl, by kernel_rfl, by kernel_rfl, by kernel_rfl, by kernel_rfl⟩
noncomputable def zn21_1 : ZC := ZC.reg [⟨some 1, .box 31 (.tmp 0), none, false⟩, ⟨some 2, .alloc 29, none, true⟩]
noncomputable def zn21_3 : ZC := ZC.draw 13 [(11, .alloc 29)] [⟨0, some 4, .fieldAddr 31 (.tmp 1) 0, none, false, [], [], false⟩, ⟨1, some 5, .load 3 (.tmp 4), none, false, [], [], false⟩, ⟨2, some 6, .call ⟨.value (.func 37), ⟨[.tmp 5, .const (.int .i64 13)]⟩, ⟨[3, 3]⟩⟩, none, false, [], [], true⟩, ⟨3, some 7, .binOp .add 3 (.const (.int .i64 1)) (.tmp 6) 3, none, false, [], [], false⟩, ⟨4, some 8, .fieldAddr 31 (.tmp 1) 1, none, false, [2], [], false⟩, ⟨5, some 9, .load 3 (.tmp 8), none, false, [2], [], false⟩, ⟨6, some 10, .call ⟨.value (.func 37), ⟨[.tmp 9, .const (.int .i64 4)]⟩, ⟨[3, 3]⟩⟩, none, false, [], [], true⟩, ⟨7, some 11, .fieldAddr 31 (.tmp 1) 2, none, false, [2, 6], [], false⟩, ⟨8, some 12, .load 3 (.tmp 11), none, false, [2, 6], [], false⟩, ⟨9, some 13, .call ⟨.value (.func 37), ⟨[.tmp 12, .const (.int .i64 4)]⟩, ⟨[3, 3]⟩⟩, none, false, [], [], true⟩, ⟨10, some 14, .build 29 ⟨[(0, .tmp 7), (1, .tmp 10), (2, .tmp 13)]⟩, none, false, [], [], false⟩, ⟨11, some 3, .alloc 29, none, true, [2, 6, 9], [], false⟩, ⟨12, none, .store 29 (.tmp 3) (.tmp 14), none, true, [], [], false⟩]
noncomputable def zn21_6 : ZC := ZC.reg [⟨some 15, .fieldAddr 29 (.tmp 3) 0, none, false⟩, ⟨some 16, .load 3 (.tmp 15), none, true⟩]
noncomputable def zn21_9 : ZC := ZC.reg [⟨some 18, .binOp .eql 3 (.tmp 16) (.const (.int .i64 1)) 3, none, false⟩, ⟨some 17, .assign (.tmp 18), none, true⟩]
noncomputable def zn21_11 : ZC := ZC.reg [⟨some 19, .fieldAddr 31 (.tmp 1) 2, none, false⟩, ⟨some 20, .load 3 (.tmp 19), none, false⟩, ⟨some 21, .call ⟨.value (.func 37), ⟨[.tmp 20, .const (.int .i64 90)]⟩, ⟨[3, 3]⟩⟩, none, false⟩, ⟨some 22, .binOp .sub 3 (.tmp 21) (.const (.int .i64 30)) 3, none, false⟩, ⟨some 23, .fieldAddr 29 (.tmp 3) 2, none, false⟩, ⟨none, .store 3 (.tmp 23) (.tmp 22), none, true⟩]
noncomputable def zn21_13 : ZC := ZC.reg [⟨some 25, .binOp .eql 3 (.tmp 16) (.const (.int .i64 7)) 3, none, false⟩, ⟨some 24, .assign (.tmp 25), none, true⟩]
noncomputable def zn21_15 : ZC := ZC.reg [⟨some 26, .fieldAddr 31 (.tmp 1) 2, none, false⟩, ⟨some 27, .load 3 (.tmp 26), none, false⟩, ⟨some 28, .call ⟨.value (.func 37), ⟨[.tmp 27, .const (.int .i64 8)]⟩, ⟨[3, 3]⟩⟩, none, false⟩, ⟨some 29, .fieldAddr 29 (.tmp 3) 2, none, false⟩, ⟨none, .store 3 (.tmp 29) (.tmp 28), none, true⟩]
noncomputable def zn21_18 : ZC := ZC.reg [⟨some 31, .binOp .eql 3 (.tmp 16) (.const (.int .i64 9)) 3, none, false⟩, ⟨some 30, .assign (.tmp 31), none, true⟩]
noncomputable def zn21_20 : ZC := ZC.reg [⟨some 32, .binOp .eql 3 (.tmp 16) (.const (.int .i64 10)) 3, none, false⟩, ⟨some 30, .assign (.tmp 32), none, true⟩]
noncomputable def zn21_19 : ZC := ZC.cond (.tmp 30) ZC.skip zn21_20
noncomputable def zn21_17 : ZC := ZC.seq zn21_18 zn21_19
noncomputable def zn21_22 : ZC := ZC.reg [⟨some 33, .fieldAddr 31 (.tmp 1) 2, none, false⟩, ⟨some 34, .load 3 (.tmp 33), none, false⟩, ⟨some 35, .call ⟨.value (.func 37), ⟨[.tmp 34, .const (.int .i64 9)]⟩, ⟨[3, 3]⟩⟩, none, false⟩, ⟨some 36, .fieldAddr 29 (.tmp 3) 2, none, false⟩, ⟨none, .store 3 (.tmp 36) (.tmp 35), none, true⟩]
noncomputable def zn21_21 : ZC := ZC.cond (.tmp 30) zn21_22 ZC.skip
noncomputable def zn21_16 : ZC := ZC.seq zn21_17 zn21_21
noncomputable def zn21_14 : ZC := ZC.cond (.tmp 24) zn21_15 zn21_16
noncomputable def zn21_12 : ZC := ZC.seq zn21_13 zn21_14
noncomputable def zn21_10 : ZC := ZC.cond (.tmp 17) zn21_11 zn21_12
noncomputable def zn21_8 : ZC := ZC.seq zn21_9 zn21_10
noncomputable def zn21_7 : ZC := ZC.block 0 zn21_8
noncomputable def zn21_5 : ZC := ZC.seq zn21_6 zn21_7
noncomputable def zn21_25 : ZC := ZC.reg [⟨some 37, .fieldAddr 31 (.tmp 1) 0, none, false⟩, ⟨some 38, .load 3 (.tmp 37), none, false⟩, ⟨some 39, .call ⟨.value (.func 37), ⟨[.tmp 38, .const (.int .i64 101)]⟩, ⟨[3, 3]⟩⟩, none, true⟩]
noncomputable def zn21_28 : ZC := ZC.reg [⟨some 41, .binOp .eql 3 (.tmp 39) (.const (.int .i64 97)) 3, none, false⟩, ⟨some 40, .assign (.tmp 41), none, true⟩]
noncomputable def zn21_30 : ZC := ZC.reg [⟨some 42, .fieldAddr 31 (.tmp 1) 1, none, false⟩, ⟨some 43, .load 3 (.tmp 42), none, false⟩, ⟨some 44, .fieldAddr 29 (.tmp 3) 1, none, false⟩, ⟨none, .store 3 (.tmp 44) (.tmp 43), none, true⟩]
noncomputable def zn21_32 : ZC := ZC.reg [⟨some 46, .binOp .eql 3 (.tmp 39) (.const (.int .i64 98)) 3, none, false⟩, ⟨some 45, .assign (.tmp 46), none, true⟩]
noncomputable def zn21_34 : ZC := ZC.reg [⟨some 47, .fieldAddr 31 (.tmp 1) 2, none, false⟩, ⟨some 48, .load 3 (.tmp 47), none, false⟩, ⟨some 49, .fieldAddr 29 (.tmp 3) 2, none, false⟩, ⟨none, .store 3 (.tmp 49) (.tmp 48), none, true⟩]
noncomputable def zn21_36 : ZC := ZC.reg [⟨some 51, .binOp .eql 3 (.tmp 39) (.const (.int .i64 99)) 3, none, false⟩, ⟨some 50, .assign (.tmp 51), none, true⟩]
noncomputable def zn21_38 : ZC := ZC.reg [⟨some 52, .fieldAddr 31 (.tmp 1) 2, none, false⟩, ⟨some 53, .load 3 (.tmp 52), none, false⟩, ⟨some 54, .fieldAddr 29 (.tmp 3) 0, none, false⟩, ⟨none, .store 3 (.tmp 54) (.tmp 53), none, true⟩]
noncomputable def zn21_40 : ZC := ZC.reg [⟨some 56, .binOp .eql 3 (.tmp 39) (.const (.int .i64 100)) 3, none, false⟩, ⟨some 55, .assign (.tmp 56), none, true⟩]
noncomputable def zn21_42 : ZC := ZC.reg [⟨some 57, .fieldAddr 31 (.tmp 1) 1, none, false⟩, ⟨some 58, .load 3 (.tmp 57), none, false⟩, ⟨some 59, .call ⟨.value (.func 37), ⟨[.tmp 58, .const (.int .i64 9)]⟩, ⟨[3, 3]⟩⟩, none, false⟩, ⟨some 60, .fieldAddr 29 (.tmp 3) 1, none, false⟩, ⟨none, .store 3 (.tmp 60) (.tmp 59), none, true⟩]
noncomputable def zn21_41 : ZC := ZC.cond (.tmp 55) zn21_42 ZC.skip
noncomputable def zn21_39 : ZC := ZC.seq zn21_40 zn21_41
noncomputable def zn21_37 : ZC := ZC.cond (.tmp 50) zn21_38 zn21_39
noncomputable def zn21_35 : ZC := ZC.seq zn21_36 zn21_37
noncomputable def zn21_33 : ZC := ZC.cond (.tmp 45) zn21_34 zn21_35
noncomputable def zn21_31 : ZC := ZC.seq zn21_32 zn21_33
noncomputable def zn21_29 : ZC := ZC.cond (.tmp 40) zn21_30 zn21_31
noncomputable def zn21_27 : ZC := ZC.seq zn21_28 zn21_29
noncomputable def zn21_26 : ZC := ZC.block 1 zn21_27
noncomputable def zn21_24 : ZC := ZC.seq zn21_25 zn21_26
noncomputable def zn21_44 : ZC := ZC.reg [⟨some 61, .load 29 (.tmp 3), none, false⟩, ⟨none, .store 29 (.tmp 2) (.tmp 61), none, true⟩]
noncomputable def zn21_43 : ZC := ZC.seq zn21_44 ZC.ret
noncomputable def zn21_23 : ZC := ZC.seq zn21_24 zn21_43
noncomputable def zn21_4 : ZC := ZC.seq zn21_5 zn21_23
noncomputable def zn21_2 : ZC := ZC.seq zn21_3 zn21_4
noncomputable def zn21_0 : ZC := ZC.seq zn21_1 zn21_2
noncomputable def zc21 : ZC := zn21_0
theorem zc21_ok : zcode (xfOf Try.f21).code = some zc21 := by kernel_rfl
set_option linter.defProp false in
def zw21 := And.intro (zunf C zc21.eq_1) <| And.intro (zunf C zn21_1.eq_1) <| And.intro (zunf C zn21_3.eq_1) <| And.intro (zunf C zn21_6.eq_1) <| And.intro (zunf C zn21_9.eq_1) <| And.intro (zunf C zn21_11.eq_1) <| And.intro (zunf C zn21_13.eq_1) <| And.intro (zunf C zn21_15.eq_1) <| And.intro (zunf C zn21_18.eq_1) <| And.intro (zunf C zn21_20.eq_1) <| And.intro (zunf C zn21_19.eq_1) <| And.intro (zunf C zn21_17.eq_1) <| And.intro (zunf C zn21_22.eq_1) <| And.intro (zunf C zn21_21.eq_1) <| And.intro (zunf C zn21_16.eq_1) <| And.intro (zunf C zn21_14.eq_1) <| And.intro (zunf C zn21_12.eq_1) <| And.intro (zunf C zn21_10.eq_1) <| And.intro (zunf C zn21_8.eq_1) <| And.intro (zunf C zn21_7.eq_1) <| And.intro (zunf C zn21_5.eq_1) <| And.intro (zunf C zn21_25.eq_1) <| And.intro (zunf C zn21_28.eq_1) <| And.intro (zunf C zn21_30.eq_1) <| And.intro (zunf C zn21_32.eq_1) <| And.intro (zunf C zn21_34.eq_1) <| And.intro (zunf C zn21_36.eq_1) <| And.intro (zunf C zn21_38.eq_1) <| And.intro (zunf C zn21_40.eq_1) <| And.intro (zunf C zn21_42.eq_1) <| And.intro (zunf C zn21_41.eq_1) <| And.intro (zunf C zn21_39.eq_1) <| And.intro (zunf C zn21_37.eq_1) <| And.intro (zunf C zn21_35.eq_1) <| And.intro (zunf C zn21_33.eq_1) <| And.intro (zunf C zn21_31.eq_1) <| And.intro (zunf C zn21_29.eq_1) <| And.intro (zunf C zn21_27.eq_1) <| And.intro (zunf C zn21_26.eq_1) <| And.intro (zunf C zn21_24.eq_1) <| And.intro (zunf C zn21_44.eq_1) <| And.intro (zunf C zn21_43.eq_1) <| And.intro (zunf C zn21_23.eq_1) <| And.intro (zunf C zn21_4.eq_1) <| And.intro (zunf C zn21_2.eq_1) <| (zunf C zn21_0.eq_1)
theorem rs21 : (xfOf Try.f21).rs = [.cell 2 29] := by kernel_rfl
theorem xf21 : XFok C 21 (xfOf Try.f21) := ⟨Try.f21, by kernel_rfl, by kernel_rfl, by kernel_rfl, by kernel_rfl, by kernel_rfl, by kernel_rfl, by kernel_rfl⟩
noncomputable def zn26_1 : ZC := ZC.reg [⟨some 2, .box 39 (.tmp 0), none, false⟩, ⟨some 3, .box 39 (.tmp 1), none, false⟩, ⟨some 4, .assign (.const (.bool false)), none, true⟩]
noncomputable def zn26_4 : ZC := ZC.reg [⟨some 6, .fieldAddr 39 (.tmp 2) 0, none, false⟩, ⟨some 7, .load 34 (.tmp 6), none, false⟩, ⟨some 8, .fieldAddr 39 (.tmp 3) 0, none, false⟩, ⟨some 9, .load 34 (.tmp 8), none, false⟩, ⟨some 10, .binOp .neq 34 (.tmp 7) (.tmp 9) 34, none, false⟩, ⟨some 11, .move (.tmp 10), none, false⟩, ⟨some 12, .fieldAddr 39 (.tmp 2) 1, some (11, false), false⟩, ⟨some 13, .load 36 (.tmp 12), some (11, false), false⟩, ⟨some 14, .fieldAddr 39 (.tmp 3) 1, some (11, false), false⟩, ⟨some 15, .load 36 (.tmp 14), some (11, false), false⟩, ⟨some 16, .binOp .neq 36 (.tmp 13) (.tmp 15) 36, some (11, false), false⟩, ⟨some 17, .pick (.tmp 11) (.const (.bool true)) (.tmp 16), none, false⟩, ⟨some 18, .move (.tmp 17), none, false⟩, ⟨some 19, .fieldAddr 39 (.tmp 2) 2, some (18, false), false⟩, ⟨some 20, .load 25 (.tmp 19), some (18, false), false⟩, ⟨some 21, .fieldAddr 39 (.tmp 3) 2, some (18, false), false⟩, ⟨some 22, .load 25 (.tmp 21), some (18, false), false⟩, ⟨some 23, .binOp .neq 25 (.tmp 20) (.tmp 22) 25, some (18, false), false⟩, ⟨some 24, .pick (.tmp 18) (.const (.bool true)) (.tmp 23), none, false⟩, ⟨some 25, .move (.tmp 24), none, false⟩, ⟨some 26, .fieldAddr 39 (.tmp 2) 3, some (25, false), false⟩, ⟨some 27, .load 3 (.tmp 26), some (25, false), false⟩, ⟨some 28, .fieldAddr 39 (.tmp 3) 3, some (25, false), false⟩, ⟨some 29, .load 3 (.tmp 28), some (25, false), false⟩, ⟨some 30, .binOp .neq 3 (.tmp 27) (.tmp 29) 3, some (25, false), false⟩, ⟨some 31, .pick (.tmp 25) (.const (.bool true)) (.tmp 30), none, false⟩, ⟨some 32, .move (.tmp 31), none, false⟩, ⟨some 33, .fieldAddr 39 (.tmp 2) 4, some (32, false), false⟩, ⟨some 34, .load 37 (.tmp 33), some (32, false), false⟩, ⟨some 35, .call ⟨.builtin .len, ⟨[.tmp 34]⟩, ⟨[37]⟩⟩, some (32, false), false⟩, ⟨some 36, .fieldAddr 39 (.tmp 3) 4, some (32, false), false⟩, ⟨some 37, .load 37 (.tmp 36), some (32, false), false⟩, ⟨some 38, .call ⟨.builtin .len, ⟨[.tmp 37]⟩, ⟨[37]⟩⟩, some (32, false), false⟩, ⟨some 39, .binOp .neq 3 (.tmp 35) (.tmp 38) 3, some (32, false), false⟩, ⟨some 40, .pick (.tmp 32) (.const (.bool true)) (.tmp 39), none, true⟩]
noncomputable def zn26_7 : ZC := ZC.reg [⟨some 4, .assign (.const (.bool false)), none, true⟩]
noncomputable def zn26_6 : ZC := ZC.seq zn26_7 ZC.ret
noncomputable def zn26_5 : ZC := ZC.cond (.tmp 40) zn26_6 ZC.skip
noncomputable def zn26_3 : ZC := ZC.seq zn26_4 zn26_5
noncomputable def zn26_10 : ZC := ZC.reg [⟨some 41, .fieldAddr 39 (.tmp 2) 4, none, false⟩, ⟨some 42, .load 37 (.tmp 41), none, false⟩, ⟨some 43, .call ⟨.builtin .len, ⟨[.tmp 42]⟩, ⟨[37]⟩⟩, none, false⟩, ⟨some 44, .move (.const (.int .i64 0)), none, true⟩]
noncomputable def zn26_14 : ZC := ZC.reg [⟨some 45, .binOp .lss 3 (.tmp 44) (.tmp 43) 3, none, true⟩]
noncomputable def zn26_16 : ZC := ZC.cond (.tmp 45) ZC.skip (ZC.exit 0)
noncomputable def zn26_20 : ZC := ZC.reg [⟨some 46, .move (.tmp 44), none, false⟩, ⟨some 5, .assign (.tmp 46), none, true⟩]
noncomputable def zn26_22 : ZC := ZC.draw 11 [] [⟨0, some 47, .fieldAddr 39 (.tmp 2) 4, none, false, [], [], false⟩, ⟨1, some 48, .load 37 (.tmp 47), none, false, [], [], false⟩, ⟨2, some 49, .move (.tmp 5), none, false, [], [], false⟩, ⟨3, some 50, .indexAddr 37 (.tmp 48) (.tmp 49), none, false, [], [], false⟩, ⟨4, some 51, .load 34 (.tmp 50), none, false, [], [], false⟩, ⟨5, some 52, .fieldAddr 39 (.tmp 3) 4, none, false, [], [], false⟩, ⟨6, some 53, .load 37 (.tmp 52), none, false, [], [], false⟩, ⟨7, some 54, .move (.tmp 5), none, true, [], [], false⟩, ⟨8, some 55, .indexAddr 37 (.tmp 53) (.tmp 54), none, true, [], [], false⟩, ⟨9, some 56, .load 34 (.tmp 55), none, true, [], [], false⟩, ⟨10, some 57, .binOp .neq 34 (.tmp 51) (.tmp 56) 34, none, true, [], [], false⟩]
noncomputable def zn26_25 : ZC := ZC.reg [⟨some 4, .assign (.const (.bool false)), none, true⟩]
noncomputable def zn26_24 : ZC := ZC.seq zn26_25 ZC.ret
noncomputable def zn26_23 : ZC := ZC.cond (.tmp 57) zn26_24 ZC.skip
noncomputable def zn26_21 : ZC := ZC.seq zn26_22 zn26_23
noncomputable def zn26_19 : ZC := ZC.seq zn26_20 zn26_21
noncomputable def zn26_18 : ZC := ZC.block 1 zn26_19
noncomputable def zn26_26 : ZC := ZC.reg [⟨some 58, .binOp .add 3 (.tmp 44) (.const (.int .i64 1)) 3, none, false⟩, ⟨some 44, .move (.tmp 58), none, true⟩]
noncomputable def zn26_17 : ZC := ZC.seq zn26_18 zn26_26
noncomputable def zn26_15 : ZC := ZC.seq zn26_16 zn26_17
noncomputable def zn26_13 : ZC := ZC.seq zn26_14 zn26_15
noncomputable def zn26_12 : ZC := ZC.loop zn26_13
noncomputable def zn26_11 : ZC := ZC.block 0 zn26_12
noncomputable def zn26_9 : ZC := ZC.seq zn26_10 zn26_11
noncomputable def zn26_28 : ZC := ZC.reg [⟨some 4, .assign (.const (.bool true)), none, true⟩]
noncomputable def zn26_27 : ZC := ZC.seq zn26_28 ZC.ret
noncomputable def zn26_8 : ZC := ZC.seq zn26_9 zn26_27
noncomputable def zn26_2 : ZC := ZC.seq zn26_3 zn26_8
noncomputable def zn26_0 : ZC := ZC.seq zn26_1 zn26_2
noncomputable def zc26 : ZC := zn26_0
theorem zc26_ok : zcode (xfOf Try.f26).code = some zc26 := by kernel_rfl
set_option linter.defProp false in
def zw26 := And.intro (zunf C zc26.eq_1) <| And.intro (zunf C zn26_1.eq_1) <| And.intro (zunf C zn26_4.eq_1) <| And.intro (zunf C zn26_7.eq_1) <| And.intro (zunf C zn26_6.eq_1) <| And.intro (zunf C zn26_5.eq_1) <| And.intro (zunf C zn26_3.eq_1) <| And.intro (zunf C zn26_10.eq_1) <| And.intro (zunf C zn26_14.eq_1) <| And.intro (zunf C zn26_16.eq_1) <| And.intro (zunf C zn26_20.eq_1) <| And.intro (zunf C zn26_22.eq_1) <| And.intro (zunf C zn26_25.eq_1) <| And.intro (zunf C zn26_24.eq_1) <| And.intro (zunf C zn26_23.eq_1) <| And.intro (zunf C zn26_21.eq_1) <| And.intro (zunf C zn26_19.eq_1) <| And.intro (zunf C zn26_18.eq_1) <| And.intro (zunf C zn26_26.eq_1) <| And.intro (zunf C zn26_17.eq_1) <| And.intro (zunf C zn26_15.eq_1) <| And.intro (zunf C zn26_13.eq_1) <| And.intro (zunf C zn26_11.eq_1) <| And.intro (zunf C zn26_9.eq_1) <| And.intro (zunf C zn26_28.eq_1) <| And.intro (zunf C zn26_27.eq_1) <| And.intro (zunf C zn26_8.eq_1) <| And.intro (zunf C zn26_2.eq_1) <| (zunf C zn26_0.eq_1)
theorem rs26 : (xfOf Try.f26).rs = [.tmp 4] := by kernel_rfl
theorem xf26 : XFok C 26 (xfOf Try.f26) := ⟨Try.f26, by kernel_rfl, by kernel_rfl, by kernel_rfl, by kernel_rfl, by kernel_rfl, by kernel_rfl, by kernel_rfl⟩
noncomputable def zn4_1 : ZC := ZC.reg [⟨some 5, .box 27 (.tmp 2), none, false⟩, ⟨some 6, .assign (.const (.bool false)), none, true⟩]
noncomputable def zn4_4 : ZC := ZC.reg [⟨some 23, .call ⟨.value (.func 23), ⟨[]⟩, ⟨[]⟩⟩, none, false⟩, ⟨some 24, .unOp .not 4 (.tmp 23), none, true⟩]
noncomputable def zn4_7 : ZC := ZC.reg [⟨some 6, .assign (.const (.bool false)), none, true⟩]
noncomputable def zn4_6 : ZC := ZC.seq zn4_7 ZC.ret
noncomputable def zn4_5 : ZC := ZC.cond (.tmp 24) zn4_6 ZC.skip
noncomputable def zn4_3 : ZC := ZC.seq zn4_4 zn4_5
noncomputable def zn4_9 : ZC := ZC.reg [⟨some 7, .assign (.func 27), none, true⟩]
noncomputable def zn4_11 : ZC := ZC.reg [⟨some 25, .move (.tmp 7), none, false⟩, ⟨some 26, .move (.tmp 0), none, false⟩, ⟨some 27, .call ⟨.value (.tmp 25), ⟨[.tmp 26]⟩, ⟨[22]⟩⟩, none, false⟩, ⟨some 8, .assign (.tmp 27), none, true⟩]
noncomputable def zn4_13 : ZC := ZC.reg [⟨some 28, .move (.tmp 7), none, false⟩, ⟨some 29, .move (.tmp 1), none, false⟩, ⟨some 30, .call ⟨.value (.tmp 28), ⟨[.tmp 29]⟩, ⟨[22]⟩⟩, none, false⟩, ⟨some 9, .assign (.tmp 30), none, true⟩]
noncomputable def zn4_15 : ZC := ZC.reg [⟨some 31, .load 27 (.tmp 5), none, false⟩, ⟨some 32, .call ⟨.value (.func 22), ⟨[.tmp 31]⟩, ⟨[27]⟩⟩, none, false⟩, ⟨some 10, .alloc 39, none, false⟩, ⟨none, .store 39 (.tmp 10) (.tmp 32), none, true⟩]
noncomputable def zn4_17 : ZC := ZC.reg [⟨some 34, .move (.tmp 8), none, false⟩, ⟨some 35, .load 39 (.tmp 10), none, false⟩, ⟨some 36, .call ⟨.value (.func 25), ⟨[.tmp 34, .tmp 35]⟩, ⟨[23, 39]⟩⟩, none, false⟩, ⟨some 33, .move (.tmp 36), none, false⟩, ⟨some 37, .extract (.tmp 33) 0, none, false⟩, ⟨some 38, .extract (.tmp 33) 1, none, false⟩, ⟨some 39, .extract (.tmp 33) 2, none, false⟩, ⟨some 11, .alloc 39, none, false⟩, ⟨some 12, .alloc 44, none, false⟩, ⟨none, .store 39 (.tmp 11) (.tmp 37), none, false⟩, ⟨none, .store 44 (.tmp 12) (.tmp 38), none, false⟩, ⟨some 13, .assign (.tmp 39), none, true⟩]
noncomputable def zn4_19 : ZC := ZC.draw 19 [(14, .alloc 39), (15, .alloc 44)] [⟨0, some 41, .buildSlice 23 0 ⟨[]⟩, none, false, [], [], false⟩, ⟨1, some 42, .move (.tmp 8), none, false, [], [], false⟩, ⟨2, some 43, .call ⟨.builtin .append, ⟨[.tmp 41, .tmp 42]⟩, ⟨[23, 23]⟩⟩, none, false, [], [], true⟩, ⟨3, some 44, .build 29 ⟨[(0, .const (.int .i64 13))]⟩, none, false, [], [], false⟩, ⟨4, some 45, .buildSlice 23 1 ⟨[(0, .tmp 44)]⟩, none, false, [], [], false⟩, ⟨5, some 46, .call ⟨.builtin .append, ⟨[.tmp 43, .tmp 45]⟩, ⟨[23, 23]⟩⟩, none, false, [], [], true⟩, ⟨6, some 47, .move (.tmp 9), none, false, [], [], false⟩, ⟨7, some 48, .call ⟨.builtin .append, ⟨[.tmp 46, .tmp 47]⟩, ⟨[23, 23]⟩⟩, none, false, [], [], true⟩, ⟨8, some 49, .load 39 (.tmp 10), none, false, [2, 5, 7], [], false⟩, ⟨9, some 50, .call ⟨.value (.func 25), ⟨[.tmp 48, .tmp 49]⟩, ⟨[23, 39]⟩⟩, none, false, [], [], true⟩, ⟨10, some 40, .move (.tmp 50), none, false, [], [], false⟩, ⟨11, some 51, .extract (.tmp 40) 0, none, false, [], [], false⟩, ⟨12, some 52, .extract (.tmp 40) 1, none, false, [], [], false⟩, ⟨13, some 53, .extract (.tmp 40) 2, none, false, [], [], false⟩, ⟨14, some 14, .alloc 39, none, false, [2, 5, 7, 9], [], false⟩, ⟨15, some 15, .alloc 44, none, true, [2, 5, 7, 9], [], false⟩, ⟨16, none, .store 39 (.tmp 14) (.tmp 51), none, true, [], [], false⟩, ⟨17, none, .store 44 (.tmp 15) (.tmp 52), none, true, [], [], false⟩, ⟨18, some 16, .assign (.tmp 53), none, true, [], [], false⟩]
noncomputable def zn4_22 : ZC := ZC.reg [⟨some 54, .move (.tmp 13), none, false⟩, ⟨some 55, .move (.tmp 16), none, false⟩, ⟨some 56, .binOp .neq 4 (.tmp 54) (.tmp 55) 4, none, false⟩, ⟨some 57, .move (.tmp 56), none, false⟩, ⟨some 58, .load 44 (.tmp 12), some (57, false), false⟩, ⟨some 59, .load 44 (.tmp 15), some (57, false), false⟩, ⟨some 60, .binOp .neq 44 (.tmp 58) (.tmp 59) 44, some (57, false), false⟩, ⟨some 61, .pick (.tmp 57) (.const (.bool true)) (.tmp 60), none, false⟩, ⟨some 62, .move (.tmp 61), none, false⟩, ⟨some 63, .load 39 (.tmp 11), some (62, false), false⟩, ⟨some 64, .load 39 (.tmp 14), some (62, false), false⟩, ⟨some 65, .call ⟨.value (.func 26), ⟨[.tmp 63, .tmp 64]⟩, ⟨[39, 39]⟩⟩, some (62, false), false⟩, ⟨some 66, .unOp .not 4 (.tmp 65), some (62, false), false⟩, ⟨some 67, .pick (.tmp 62) (.const (.bool true)) (.tmp 66), none, true⟩]
noncomputable def zn4_25 : ZC := ZC.reg [⟨some 6, .assign (.const (.bool false)), none, true⟩]
noncomputable def zn4_24 : ZC := ZC.seq zn4_25 ZC.ret
noncomputable def zn4_23 : ZC := ZC.cond (.tmp 67) zn4_24 ZC.skip
noncomputable def zn4_21 : ZC := ZC.seq zn4_22 zn4_23
noncomputable def zn4_27 : ZC := ZC.draw 16 [(11, .alloc 39), (12, .alloc 44)] [⟨0, some 69, .buildSlice 23 0 ⟨[]⟩, none, false, [], [], false⟩, ⟨1, some 70, .move (.tmp 8), none, false, [], [], false⟩, ⟨2, some 71, .call ⟨.builtin .append, ⟨[.tmp 69, .tmp 70]⟩, ⟨[23, 23]⟩⟩, none, false, [], [], true⟩, ⟨3, some 72, .move (.tmp 9), none, false, [], [], false⟩, ⟨4, some 73, .call ⟨.builtin .append, ⟨[.tmp 71, .tmp 72]⟩, ⟨[23, 23]⟩⟩, none, false, [], [], true⟩, ⟨5, some 74, .load 39 (.tmp 10), none, false, [2, 4], [], false⟩, ⟨6, some 75, .call ⟨.value (.func 25), ⟨[.tmp 73, .tmp 74]⟩, ⟨[23, 39]⟩⟩, none, false, [], [], true⟩, ⟨7, some 68, .move (.tmp 75), none, false, [], [], false⟩, ⟨8, some 76, .extract (.tmp 68) 0, none, false, [], [], false⟩, ⟨9, some 77, .extract (.tmp 68) 1, none, false, [], [], false⟩, ⟨10, some 78, .extract (.tmp 68) 2, none, false, [], [], false⟩, ⟨11, some 17, .alloc 39, none, false, [2, 4, 6], [], false⟩, ⟨12, some 18, .alloc 44, none, true, [2, 4, 6], [], false⟩, ⟨13, none, .store 39 (.tmp 17) (.tmp 76), none, true, [], [], false⟩, ⟨14, none, .store 44 (.tmp 18) (.tmp 77), none, true, [], [], false⟩, ⟨15, some 19, .assign (.tmp 78), none, true, [], [], false⟩]
noncomputable def zn4_29 : ZC := ZC.reg [⟨some 80, .move (.tmp 9), none, false⟩, ⟨some 81, .load 39 (.tmp 11), none, false⟩, ⟨some 82, .call ⟨.value (.func 25), ⟨[.tmp 80, .tmp 81]⟩, ⟨[23, 39]⟩⟩, none, false⟩, ⟨some 79, .move (.tmp 82), none, false⟩, ⟨some 83, .extract (.tmp 79) 0, none, false⟩, ⟨some 84, .extract (.tmp 79) 1, none, false⟩, ⟨some 85, .extract (.tmp 79) 2, none, false⟩, ⟨some 20, .alloc 39, none, false⟩, ⟨some 21, .alloc 44, none, false⟩, ⟨none, .store 39 (.tmp 20) (.tmp 83), none, false⟩, ⟨none, .store 44 (.tmp 21) (.tmp 84), none, false⟩, ⟨some 22, .assign (.tmp 85), none, true⟩]
noncomputable def zn4_32 : ZC := ZC.reg [⟨some 86, .move (.tmp 13), none, false⟩, ⟨some 87, .unOp .not 4 (.tmp 86), none, true⟩]
noncomputable def zn4_35 : ZC := ZC.reg [⟨some 88, .move (.tmp 19), none, false⟩, ⟨some 89, .unOp .not 4 (.tmp 88), none, false⟩, ⟨some 6, .assign (.tmp 89), none, true⟩]
noncomputable def zn4_34 : ZC := ZC.seq zn4_35 ZC.ret
noncomputable def zn4_33 : ZC := ZC.cond (.tmp 87) zn4_34 ZC.skip
noncomputable def zn4_31 : ZC := ZC.seq zn4_32 zn4_33
noncomputable def zn4_37 : ZC := ZC.reg [⟨some 90, .move (.tmp 19), none, false⟩, ⟨some 91, .move (.tmp 22), none, false⟩, ⟨some 92, .binOp .eql 4 (.tmp 90) (.tmp 91) 4, none, false⟩, ⟨some 93, .move (.tmp 92), none, false⟩, ⟨some 94, .move (.tmp 19), some (93, true), false⟩, ⟨some 95, .unOp .not 4 (.tmp 94), some (93, true), false⟩, ⟨some 96, .move (.tmp 95), some (93, true), false⟩, ⟨some 97, .load 39 (.tmp 17), some (96, false), false⟩, ⟨some 98, .load 39 (.tmp 20), some (96, false), false⟩, ⟨some 99, .call ⟨.value (.func 26), ⟨[.tmp 97, .tmp 98]⟩, ⟨[39, 39]⟩⟩, some (96, false), false⟩, ⟨some 100, .pick (.tmp 96) (.const (.bool true)) (.tmp 99), some (93, true), false⟩, ⟨some 101, .pick (.tmp 93) (.tmp 100) (.const (.bool false)), none, false⟩, ⟨some 6, .assign (.tmp 101), none, true⟩]
noncomputable def zn4_36 : ZC := ZC.seq zn4_37 ZC.ret
noncomputable def zn4_30 : ZC := ZC.seq zn4_31 zn4_36
noncomputable def zn4_28 : ZC := ZC.seq zn4_29 zn4_30
noncomputable def zn4_26 : ZC := ZC.seq zn4_27 zn4_28
noncomputable def zn4_20 : ZC := ZC.seq zn4_21 zn4_26
noncomputable def zn4_18 : ZC := ZC.seq zn4_19 zn4_20
noncomputable def zn4_16 : ZC := ZC.seq zn4_17 zn4_18
noncomputable def zn4_14 : ZC := ZC.seq zn4_15 zn4_16
noncomputable def zn4_12 : ZC := ZC.seq zn4_13 zn4_14
noncomputable def zn4_10 : ZC := ZC.seq zn4_11 zn4_12
noncomputable def zn4_8 : ZC := ZC.seq zn4_9 zn4_10
noncomputable def zn4_2 : ZC := ZC.seq zn4_3 zn4_8
noncomputable def zn4_0 : ZC := ZC.seq zn4_1 zn4_2
noncomputable def zc4 : ZC := zn4_0
theorem zc4_ok : zcode (xfOf Try.f4).code = some zc4 := by kernel_rfl
set_option linter.defProp false in
def zw4 := And.intro (zunf C zc4.eq_1) <| And.intro (zunf C zn4_1.eq_1) <| And.intro (zunf C zn4_4.eq_1) <| And.intro (zunf C zn4_7.eq_1) <| And.intro (zunf C zn4_6.eq_1) <| And.intro (zunf C zn4_5.eq_1) <| And.intro (zunf C zn4_3.eq_1) <| And.intro (zunf C zn4_9.eq_1) <| And.intro (zunf C zn4_11.eq_1) <| And.intro (zunf C zn4_13.eq_1) <| And.intro (zunf C zn4_15.eq_1) <| And.intro (zunf C zn4_17.eq_1) <| And.intro (zunf C zn4_19.eq_1) <| And.intro (zunf C zn4_22.eq_1) <| And.intro (zunf C zn4_25.eq_1) <| And.intro (zunf C zn4_24.eq_1) <| And.intro (zunf C zn4_23.eq_1) <| And.intro (zunf C zn4_21.eq_1) <| And.intro (zunf C zn4_27.eq_1) <| And.intro (zunf C zn4_29.eq_1) <| And.intro (zunf C zn4_32.eq_1) <| And.intro (zunf C zn4_35.eq_1) <| And.intro (zunf C zn4_34.eq_1) <| And.intro (zunf C zn4_33.eq_1) <| And.intro (zunf C zn4_31.eq_1) <| And.intro (zunf C zn4_37.eq_1) <| And.intro (zunf C zn4_36.eq_1) <| And.intro (zunf C zn4_30.eq_1) <| And.intro (zunf C zn4_28.eq_1) <| And.intro (zunf C zn4_26.eq_1) <| And.intro (zunf C zn4_20.eq_1) <| And.intro (zunf C zn4_18.eq_1) <| And.intro (zunf C zn4_16.eq_1) <| And.intro (zunf C zn4_14.eq_1) <| And.intro (zunf C zn4_12.eq_1) <| And.intro (zunf C zn4_10.eq_1) <| And.intro (zunf C zn4_8.eq_1) <| And.intro (zunf C zn4_2.eq_1) <| (zunf C zn4_0.eq_1)
theorem rs4 : (xfOf Try.f4).rs = [.tmp 6] := by kernel_rfl
theorem xf4 : XFok C 4 (xfOf Try.f4) := ⟨Try.f4, by kernel_rfl, by kernel_rfl, by kernel_rfl, by kernel_rfl, by kernel_rfl, by kernel_rfl, by kernel_rfl⟩
noncomputable def zn27_1 : ZC := ZC.reg [⟨some 2, .assign (.const (.slice none 0 0)), none, true⟩]
noncomputable def zn27_3 : ZC := ZC.reg [⟨some 3, .assign (.const (.slice none 0 0)), none, true⟩]
noncomputable def zn27_6 : ZC := ZC.reg [⟨some 4, .assign (.const (.int .i64 0)), none, true⟩]
noncomputable def zn27_11 : ZC := ZC.reg [⟨some 6, .move (.tmp 4), none, false⟩, ⟨some 7, .move (.tmp 0), none, false⟩, ⟨some 8, .call ⟨.builtin .len, ⟨[.tmp 7]⟩, ⟨[22]⟩⟩, none, false⟩, ⟨some 9, .binOp .lss 3 (.tmp 6) (.tmp 8) 3, none, false⟩, ⟨some 10, .move (.tmp 9), none, false⟩, ⟨some 11, .move (.tmp 4), some (10, true), false⟩, ⟨some 12, .binOp .lss 3 (.tmp 11) (.const (.int .i64 7)) 3, some (10, true), false⟩, ⟨some 13, .pick (.tmp 10) (.tmp 12) (.const (.bool false)), none, true⟩]
noncomputable def zn27_12 : ZC := ZC.cond (.tmp 13) ZC.skip (ZC.exit 0)
noncomputable def zn27_10 : ZC := ZC.seq zn27_11 zn27_12
noncomputable def zn27_16 : ZC := ZC.reg [⟨some 16, .move (.tmp 0), none, false⟩, ⟨some 17, .move (.tmp 4), none, false⟩, ⟨some 18, .indexAddr 22 (.tmp 16) (.tmp 17), none, false⟩, ⟨some 19, .load 31 (.tmp 18), none, false⟩, ⟨some 20, .call ⟨.value (.func 21), ⟨[.tmp 19]⟩, ⟨[31]⟩⟩, none, false⟩, ⟨some 5, .alloc 29, none, false⟩, ⟨none, .store 29 (.tmp 5) (.tmp 20), none, true⟩]
noncomputable def zn27_18 : ZC := ZC.reg [⟨some 21, .fieldAddr 29 (.tmp 5) 0, none, false⟩, ⟨some 22, .load 3 (.tmp 21), none, false⟩, ⟨some 23, .binOp .neq 3 (.tmp 22) (.const (.int .i64 10)) 3, none, false⟩, ⟨some 24, .move (.tmp 23), none, false⟩, ⟨some 25, .fieldAddr 29 (.tmp 5) 0, some (24, true), false⟩, ⟨some 26, .load 3 (.tmp 25), some (24, true), false⟩, ⟨some 27, .binOp .neq 3 (.tmp 26) (.const (.int .i64 9)) 3, some (24, true), false⟩, ⟨some 28, .pick (.tmp 24) (.tmp 27) (.const (.bool false)), none, false⟩, ⟨some 29, .move (.tmp 28), none, false⟩, ⟨some 30, .fieldAddr 29 (.tmp 5) 0, some (29, true), false⟩, ⟨some 31, .load 3 (.tmp 30), some (29, true), false⟩, ⟨some 32, .binOp .neq 3 (.tmp 31) (.const (.int .i64 13)) 3, some (29, true), false⟩, ⟨some 33, .pick (.tmp 29) (.tmp 32) (.const (.bool false)), none, true⟩]
noncomputable def zn27_20 : ZC := ZC.reg [⟨some 34, .move (.tmp 3), none, false⟩, ⟨some 35, .load 29 (.tmp 5), none, false⟩, ⟨some 36, .buildSlice 23 1 ⟨[(0, .tmp 35)]⟩, none, false⟩, ⟨some 37, .call ⟨.builtin .append, ⟨[.tmp 34, .tmp 36]⟩, ⟨[23, 23]⟩⟩, none, false⟩, ⟨some 3, .assign (.tmp 37), none, true⟩]
noncomputable def zn27_19 : ZC := ZC.cond (.tmp 33) zn27_20 ZC.skip
noncomputable def zn27_17 : ZC := ZC.seq zn27_18 zn27_19
noncomputable def zn27_15 : ZC := ZC.seq zn27_16 zn27_17
noncomputable def zn27_14 : ZC := ZC.block 1 zn27_15
noncomputable def zn27_21 : ZC := ZC.reg [⟨some 14, .move (.tmp 4), none, false⟩, ⟨some 15, .binOp .add 3 (.tmp 14) (.const (.int .i64 1)) 3, none, false⟩, ⟨some 4, .assign (.tmp 15), none, true⟩]
noncomputable def zn27_13 : ZC := ZC.seq zn27_14 zn27_21
noncomputable def zn27_9 : ZC := ZC.seq zn27_10 zn27_13
noncomputable def zn27_8 : ZC := ZC.loop zn27_9
noncomputable def zn27_7 : ZC := ZC.block 0 zn27_8
noncomputable def zn27_5 : ZC := ZC.seq zn27_6 zn27_7
noncomputable def zn27_23 : ZC := ZC.reg [⟨some 38, .move (.tmp 3), none, false⟩, ⟨some 2, .assign (.tmp 38), none, true⟩]
noncomputable def zn27_22 : ZC := ZC.seq zn27_23 ZC.ret
noncomputable def zn27_4 : ZC := ZC.seq zn27_5 zn27_22
noncomputable def zn27_2 : ZC := ZC.seq zn27_3 zn27_4
noncomputable def zn27_0 : ZC := ZC.seq zn27_1 zn27_2
noncomputable def zc27 : ZC := zn27_0
theorem zc27_ok : zcode (xfOf Try.f27).code = some zc27 := by kernel_rfl
set_option linter.defProp false in
def zw27 := And.intro (zunf C zc27.eq_1) <| And.intro (zunf C zn27_1.eq_1) <| And.intro (zunf C zn27_3.eq_1) <| And.intro (zunf C zn27_6.eq_1) <| And.intro (zunf C zn27_11.eq_1) <| And.intro (zunf C zn27_12.eq_1) <| And.intro (zunf C zn27_10.eq_1) <| And.intro (zunf C zn27_16.eq_1) <| And.intro (zunf C zn27_18.eq_1) <| And.intro (zunf C zn27_20.eq_1) <| And.intro (zunf C zn27_19.eq_1) <| And.intro (zunf C zn27_17.eq_1) <| And.intro (zunf C zn27_15.eq_1) <| And.intro (zunf C zn27_14.eq_1) <| And.intro (zunf C zn27_21.eq_1) <| And.intro (zunf C zn27_13.eq_1) <| And.intro (zunf C zn27_9.eq_1) <| And.intro (zunf C zn27_7.eq_1) <| And.intro (zunf C zn27_5.eq_1) <| And.intro (zunf C zn27_23.eq_1) <| And.intro (zunf C zn27_22.eq_1) <| And.intro (zunf C zn27_4.eq_1) <| And.intro (zunf C zn27_2.eq_1) <| (zunf C zn27_0.eq_1)
theorem rs27 : (xfOf Try.f27).rs = [.tmp 2] := by kernel_rfl
theorem xf27 : XFok C 27 (xfOf Try.f27) := ⟨Try.f27, by kernel_rfl, by kernel_rfl, by kernel_rfl, by kernel_rfl, by kernel_rfl, by kernel_rfl, by kernel_rfl⟩
end Go.Proofs.Ytpchcfkebljopaa
end
