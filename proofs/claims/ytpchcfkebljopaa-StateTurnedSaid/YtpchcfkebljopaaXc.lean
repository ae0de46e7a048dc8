import Derived.Test.YtpchcfkebljopaaXb
set_option linter.unusedSimpArgs false
set_option linter.unusedVariables false
set_option linter.constructorNameAsVariable false
set_option linter.defProp false
set_option maxHeartbeats 8000000
section
namespace Go.Cl
open Go.RowKit
theorem nd {α : Sort _} {a b : α} (h : a = b) : a = b := h
abbrev I (n : Int) : CV := .sc (.int .i64 n)
abbrev U (n : Int) : CV := .sc (.int .u64 n)
abbrev Y8 (n : Int) : CV := .sc (.int .u8 n)
abbrev Bo (b : Bool) : CV := .sc (.bool b)
abbrev Fl (n : Nat) : CV := .sc (.float .f64 n)
def nth {α : Type} [Inhabited α] (l : List α) (k : Nat) : α := (l[k]?).getD default
theorem X0s {α : Type} [Inhabited α] {l : List α} {k : Nat} (h : k < l.length) : l[k]? = some (nth l k) := by simp [nth, h]
theorem X0j {α : Type} [Inhabited α] {l : List α} {k : Nat} (h : k < l.length) : nth l k = l[k] := by simp [nth, h]
theorem Y1z {α : Type} [Inhabited α] {l m : List α} (h : l.length = m.length) (e : ∀ j, j < l.length -> nth l j = nth m j) : l = m := by
 apply List.ext_getElem? 
 intro j
 by_cases hj : j < l.length
 ·rw [X0s hj, X0s (by omega), e j hj]
 ·rw [List.getElem?_eq_none (by omega), List.getElem?_eq_none (by omega)]
structure Lst (α : Type) where
 tl : Tail
 l : List α
 ok : tl = .nil -> l = []
instance {α : Type} : Inhabited (Lst α) := ⟨⟨.nil, [], fun _ => rfl⟩⟩
def Lst.cv {α : Type} (f : α -> CV) (s : Lst α) : CV := .lst s.tl (s.l.map f)
section values
variable {α : Type}
set_option linter.constructorNameAsVariable false
theorem at_nil (v : CV) : v.at [] = some v := by cases v <;> rfl
theorem Q1x (v x : CV) : v.set [] x = x := by cases v <;> rfl
theorem K1t [Inhabited α] (f : α -> CV) {l : List α} {k : Nat} (h : k < l.length) (q : List Nat) : CV.at (.agg (l.map f)) (k :: q) = (f (nth l k)).at q := by
 simp [CV.at, X0j h, h]
theorem Q1j [Inhabited α] (f : α -> CV) {l : List α} {k : Nat} (h : k < l.length) (q : List Nat) (v : CV) : CV.set (.agg (l.map f)) (k :: q) v = .agg ((l.map f).set k ((f (nth l k)).set q v)) := by
 simp [CV.set, X0j h, h]
theorem Z0h {f : α -> CV} {s : Shape} (h : ∀ x, (f x).shape = s) : ∀ l : List α, CV.shapes (l.map f) = List.replicate l.length s
 | [] => rfl
 | x :: l => by simp [CV.shapes, h, Z0h h l, List.replicate_succ]
theorem Lst.shape (f : α -> CV) (s : Lst α) : (s.cv f).shape = .s := nd rfl
theorem Lst.has (f : α -> CV) (h : ∀ x j, ¬ (f x).has j) (s : Lst α) (j : Nat) : (s.cv f).has j ↔ s.tl = .own j := by
 simp only [Lst.cv, CV.has, CV.hasL_iff]
 constructor
 ·rintro (h1 | ⟨v, hv, hj⟩)
  ·exact h1
  ·obtain ⟨x, _, rfl⟩ := List.mem_map.1 hv
   exact (h x j hj).elim
 ·exact .inl
theorem V1i {f : α -> CV} (h : ∀ x y, f x = f y -> x = y) : ∀ {l m : List α}, l.map f = m.map f -> l = m
 | [], [], _ => rfl
 | [], _ :: _, e => by simp at e
 | _ :: _, [], e => by simp at e
 | x :: l, y :: m, e => by
  simp only [List.map_cons, List.cons.injEq] at e
  rw [h x y e.1, V1i h e.2]
theorem Lst.inj {f : α -> CV} (h : ∀ x y, f x = f y -> x = y) {s t : Lst α} (e : s.cv f = t.cv f) : s = t := by
 obtain ⟨tl, l, o⟩ := s
 obtain ⟨ul, m, o'⟩ := t
 simp only [Lst.cv, CV.lst.injEq] at e
 obtain ⟨rfl, e⟩ := e
 have := V1i h e
 subst this
 rfl
theorem Lst.injF {f : α -> CV} (h : ∀ x y, f x = f y -> x = y) (s t : Lst α) (e : s.cv f = t.cv f) : s = t := Lst.inj h e
theorem Q0q {f : α -> CV} (h : ∀ x j, ¬ (f x).has j) (l : List α) (j : Nat) : ¬ CV.hasL j (l.map f) := by
 rw [CV.hasL_iff]
 rintro ⟨v, hv, hj⟩
 obtain ⟨x, _, rfl⟩ := List.mem_map.1 hv
 exact h x j hj
theorem I_has (n : Int) (j : Nat) : ¬ (I n).has j := fun h => by simp [CV.has] at h
theorem I_inj (a b : Int) (h : I a = I b) : a = b := by injection h with h; injection h
theorem U_inj (a b : Int) (h : U a = U b) : a = b := by injection h with h; injection h
theorem X1q (n : Int) (j : Nat) : ¬ (Y8 n).has j := fun h => by simp [CV.has] at h
theorem Y8_inj (a b : Int) (h : Y8 a = Y8 b) : a = b := by injection h with h; injection h
theorem Y8_shape (n : Int) : (Y8 n).shape = .s := nd rfl
theorem Bo_has (n : Bool) (j : Nat) : ¬ (Bo n).has j := fun h => by simp [CV.has] at h
theorem Bo_inj (a b : Bool) (h : Bo a = Bo b) : a = b := by injection h with h; injection h
theorem Fl_inj (a b : Nat) (h : Fl a = Fl b) : a = b := by injection h with h; injection h
end values
section eqs
theorem cond_pos {α : Type} {P : Prop} [Decidable P] (h : P) (a b : α) : cond (decide P) a b = a := by simp [h]
theorem cond_neg {α : Type} {P : Prop} [Decidable P] (h : ¬ P) (a b : α) : cond (decide P) a b = b := by simp [h]
theorem inR_dec (n : Int) (k : Nat) : inR n k = decide (0 <= n /\ n < k) := by
 cases h : inR n k with
 | true => obtain ⟨h1, h2, _⟩ := inR_spec h; simp [h1, h2]
 | false =>
  unfold inR at h
  cases n with
  | ofNat m =>
   simp only [V1d] at h
   simp at h ⊢; omega
  | negSucc m =>
   have : ¬ (0 <= Int.negSucc m) := by omega
   simp [this]
theorem Hp.get_set_self (p : Hp) (i : Nat) (o : Option XObj) : (p.set i o).t.get i = o := by rw [Hp.get_set, if_pos rfl]
theorem Hp.get_set_ne (p : Hp) (i : Nat) (o : Option XObj) {j : Nat} (h : j ≠ i) : (p.set i o).t.get j = p.t.get j := by rw [Hp.get_set, if_neg h]
theorem Hp.get_new_self (p : Hp) (o : XObj) : (p.new o).t.get p.n = some o := by rw [Hp.get_new, if_pos rfl]
theorem Hp.get_new_ne (p : Hp) (o : XObj) {j : Nat} (h : j ≠ p.n) : (p.new o).t.get j = p.t.get j := by rw [Hp.get_new, if_neg h]
theorem Hp.znew_n (p : Hp) (o : XObj) : (p.new o).n = p.n + 1 := nd rfl
theorem Hp.zset_n (p : Hp) (i : Nat) (o : Option XObj) : (p.set i o).n = p.n := nd rfl
theorem Hp.get_new_eq (p : Hp) (o : XObj) {j : Nat} (h : j = p.n) : (p.new o).t.get j = some o := by rw [Hp.get_new, if_pos h]
theorem Hp.bump_get (p : Hp) (n j : Nat) : (p.bump n).t.get j = p.t.get j := nd rfl
theorem Hp.bump_n (p : Hp) (n : Nat) : (p.bump n).n = p.n + n := nd rfl
theorem ofConst_str (b : ByteArray) : ofConst (.string b) = .sc (.string b) := nd rfl
theorem Z1c : ofConst (.slice none 0 0) = .lst .nil [] := nd rfl
theorem Y1p : ofConst (.pointer none) = .sc (.pointer none) := nd rfl
theorem Z1f : ofConst .nilFunc = .sc .nilFunc := nd rfl
theorem K14 : ofConst .nilIface = .sc .nilIface := nd rfl
theorem Z1p : ofConst (.map none) = .sc (.map none) := nd rfl
theorem put_at (ρ : Env) (d : Tmp) (v : CV) (t : Nat) : put ρ (some d) v t = if t = d then v else ρ t := nd rfl
theorem zev_tmp (ρ : Env) (t : Tmp) : ev ρ (.tmp t) = ρ t := nd rfl
theorem zev_const (ρ : Env) (v : Value) : ev ρ (.const v) = ofConst v := nd rfl
theorem zev_func (ρ : Env) (f : FuncId) : ev ρ (.func f) = .fn f [] [] := nd rfl
theorem zofConst_int (k : IntKind) (n : Int) : ofConst (.int k n) = .sc (.int k n) := nd rfl
theorem X10 (b : Bool) : ofConst (.bool b) = .sc (.bool b) := nd rfl
theorem X1o (k : FloatKind) (b : Nat) : ofConst (.float k b) = .sc (.float k b) := nd rfl
theorem Y0c (ρ : Env) (v : CV) : put ρ none v = ρ := nd rfl
theorem K0e (a : CV) (l : List CV) : argE (a :: l) 0 = a := nd rfl
theorem V1s (a : CV) (l : List CV) (t : Nat) : argE (a :: l) (t + 1) = argE l t := by simp [argE]
theorem seqQ_n (k : Env -> Hp -> ZQ -> Prop) (Q : ZQ) (ρ : Env) (p : Hp) : seqQ k Q .normal ρ p = k ρ p Q := nd rfl
theorem seqQ_e (k : Env -> Hp -> ZQ -> Prop) (Q : ZQ) (i : Nat) (ρ : Env) (p : Hp) : seqQ k Q (.exit i) ρ p = Q (.exit i) ρ p := nd rfl
theorem seqQ_r (k : Env -> Hp -> ZQ -> Prop) (Q : ZQ) (ρ : Env) (p : Hp) : seqQ k Q .ret ρ p = Q .ret ρ p := nd rfl
theorem seqQ_p (k : Env -> Hp -> ZQ -> Prop) (Q : ZQ) (v : CV) (ρ : Env) (p : Hp) : seqQ k Q (.pan v) ρ p = Q (.pan v) ρ p := nd rfl
theorem seqQ_u (k : Env -> Hp -> ZQ -> Prop) (Q : ZQ) (v : CV) (ρ : Env) (p : Hp) : seqQ k Q (.panU v) ρ p = Q (.panU v) ρ p := nd rfl
theorem blkQ_n (id : Nat) (Q : ZQ) (ρ : Env) (p : Hp) : blkQ id Q .normal ρ p = Q .normal ρ p := nd rfl
theorem blkQ_e (id : Nat) (Q : ZQ) (i : Nat) (ρ : Env) (p : Hp) : blkQ id Q (.exit i) ρ p = if i = id then Q .normal ρ p else Q (.exit i) ρ p := by
 show (bif Nat.beq i id then Q .normal ρ p else Q (.exit i) ρ p) = _
 cases h : Nat.beq i id with
 | true => rw [if_pos (Nat.eq_of_beq_eq_true h)]; rfl
 | false => rw [if_neg (Nat.ne_of_beq_eq_false h)]; rfl
theorem blkQ_r (id : Nat) (Q : ZQ) (ρ : Env) (p : Hp) : blkQ id Q .ret ρ p = Q .ret ρ p := nd rfl
theorem blkQ_p (id : Nat) (Q : ZQ) (v : CV) (ρ : Env) (p : Hp) : blkQ id Q (.pan v) ρ p = Q (.pan v) ρ p := nd rfl
theorem blkQ_u (id : Nat) (Q : ZQ) (v : CV) (ρ : Env) (p : Hp) : blkQ id Q (.panU v) ρ p = Q (.panU v) ρ p := nd rfl
theorem condW_t (a b : Env -> Hp -> ZQ -> Prop) (ρ : Env) (p : Hp) (Q : ZQ) : condW (.sc (.bool true)) a b ρ p Q = a ρ p Q := nd rfl
theorem condW_f (a b : Env -> Hp -> ZQ -> Prop) (ρ : Env) (p : Hp) (Q : ZQ) : condW (.sc (.bool false)) a b ρ p Q = b ρ p Q := nd rfl
theorem condW_not (t : Bool) (a b : Env -> Hp -> ZQ -> Prop) (ρ : Env) (p : Hp) (Q : ZQ) : condW (.sc (.bool (!t))) a b ρ p Q = condW (.sc (.bool t)) b a ρ p Q := by cases t <;> rfl
theorem Y0i {t : Bool} {a b : Env -> Hp -> ZQ -> Prop} {ρ : Env} {p : Hp} {Q : ZQ} (h1 : t = true -> a ρ p Q) (h2 : t = false -> b ρ p Q) : condW (.sc (.bool t)) a b ρ p Q := by
 cases t with
 | true => exact h1 rfl
 | false => exact h2 rfl
end eqs
section steps
variable (C : Ctx) (mu : Bool) (ext : FuncId -> List CV -> Option CV) (call : XCall)
def bindO (r : XRes) (d : Option Tmp) (k : Env -> Hp -> ZQ -> Prop) (ρ : Env) (Q : ZQ) : Prop :=
 match r with
 | .ret v q => k (put ρ d v) q Q
 | .pan v q => Q (.pan v) ρ q
 | .stuck => False
def wantO (w : Option Bool) (r : XRes) (d : Option Tmp) (k : Env -> Hp -> ZQ -> Prop) (ρ : Env) (p : Hp) (Q : ZQ) : Prop :=
 match w with
 | some true => bindO r d k ρ Q
 | some false => k (put ρ d (.tup [])) p Q
 | none => False
theorem Wo_nil (ρ : Env) (p : Hp) (Q : ZQ) : Wo C mu ext call [] ρ p Q = Q .normal ρ p := nd rfl
theorem Wo_on (d : Option Tmp) (o : Op) (f : Bool) (l : List LOp) (ρ : Env) (p : Hp) (Q : ZQ) : Wo C mu ext call (⟨d, o, none, f⟩ :: l) ρ p Q = bindO (zopm C mu ext call ρ p o) d (Wo C mu ext call l) ρ Q := nd rfl
theorem Wo_gd (d : Option Tmp) (o : Op) (t : Tmp) (w : Bool) (f : Bool) (l : List LOp) (ρ : Env) (p : Hp) (Q : ZQ) : Wo C mu ext call (⟨d, o, some (t, w), f⟩ :: l) ρ p Q = wantO (zwanted ρ (some (t, w))) (zopm C mu ext call ρ p o) d (Wo C mu ext call l) ρ p Q := by
 simp only [Wo, wantO, bindO]
 cases zwanted ρ (some (t, w)) with
 | none => rfl
 | some b => cases b <;> rfl
theorem bindO_ret (v : CV) (q : Hp) (d : Option Tmp) (k : Env -> Hp -> ZQ -> Prop) (ρ : Env) (Q : ZQ) : bindO (.ret v q) d k ρ Q = k (put ρ d v) q Q := nd rfl
theorem bindO_ite {c : Prop} [Decidable c] (a b : XRes) (d : Option Tmp) (k : Env -> Hp -> ZQ -> Prop) (ρ : Env) (Q : ZQ) : bindO (if c then a else b) d k ρ Q ↔ ((c -> bindO a d k ρ Q) /\ (¬ c -> bindO b d k ρ Q)) := by
 by_cases h : c <;> simp [h]
theorem V0j {c : Prop} [Decidable c] {a b : XRes} {d : Option Tmp} {k : Env -> Hp -> ZQ -> Prop} {ρ : Env} {Q : ZQ} (h1 : c -> bindO a d k ρ Q) (h2 : ¬ c -> bindO b d k ρ Q) : bindO (if c then a else b) d k ρ Q := (bindO_ite a b d k ρ Q).2 ⟨h1, h2⟩
theorem K0j {b : Bool} {r : XRes} {d : Option Tmp} {k : Env -> Hp -> ZQ -> Prop} {ρ : Env} {p : Hp} {Q : ZQ} (h1 : b = true -> bindO r d k ρ Q) (h2 : b = false -> k (put ρ d (.tup [])) p Q) : wantO (some b) r d k ρ p Q := by
 cases b with
 | true => exact h1 rfl
 | false => exact h2 rfl
theorem bindO_pan (v : CV) (q : Hp) (d : Option Tmp) (k : Env -> Hp -> ZQ -> Prop) (ρ : Env) (Q : ZQ) : bindO (.pan v q) d k ρ Q = Q (.pan v) ρ q := nd rfl
theorem wantO_t (r : XRes) (d : Option Tmp) (k : Env -> Hp -> ZQ -> Prop) (ρ : Env) (p : Hp) (Q : ZQ) : wantO (some true) r d k ρ p Q = bindO r d k ρ Q := nd rfl
theorem wantO_f (r : XRes) (d : Option Tmp) (k : Env -> Hp -> ZQ -> Prop) (ρ : Env) (p : Hp) (Q : ZQ) : wantO (some false) r d k ρ p Q = k (put ρ d (.tup [])) p Q := nd rfl
theorem zwanted_b (ρ : Env) (t : Tmp) (w : Bool) : zwanted ρ (some (t, w)) = match ρ t with
 | .sc (.bool b) => some (b == w)
 | .tup [] => some false
 | _ => none := rfl
noncomputable def stepD (k : Kind) (n0 : Nat) (ρ0 : Env) (o : DOp) (l : List DOp) (hist : List (Nat × Hp)) (wt : List Watch) (ρ : Env) (p : Hp) (Q : ZQ) : Prop :=
 match k with
 | .quiet => match zop C mu ext call ρ p o.op with
  | .ret v _ => histP C mu ext call n0 ⟨o.fw, o.ix, ρ, o.op, v⟩ o.bk hist /\ Wd C mu ext call n0 ρ0 l hist (pushW ⟨o.fw, o.ix, ρ, o.op, v⟩ wt) (put ρ o.dst v) p Q
  | _ => False
 | .alloc => still C mu ext call n0 ⟨o.fw, o.ix, ρ, o.op, allocV o.op (n0 + o.ix)⟩ p /\ histP C mu ext call n0 ⟨o.fw, o.ix, ρ, o.op, allocV o.op (n0 + o.ix)⟩ o.bk hist /\ Wd C mu ext call n0 ρ0 l hist (pushW ⟨o.fw, o.ix, ρ, o.op, allocV o.op (n0 + o.ix)⟩ wt) (put ρ o.dst (allocV o.op (n0 + o.ix))) p Q
 | .eff => match zop C mu ext call ρ p o.op with
  | .ret v q => (∀ w ∈ wt, o.ix ∈ w.fw -> still C mu ext call n0 w q) /\ Wd C mu ext call n0 ρ0 l (pushH o.keep (o.ix, p) hist) wt (put ρ o.dst v) q Q
  | .pan v q => o.fin = true /\ Q (.panU v) ρ0 q
  | .stuck => False
noncomputable def bindQ (r : XRes) (n0 : Nat) (ρ0 : Env) (o : DOp) (l : List DOp) (hist : List (Nat × Hp)) (wt : List Watch) (ρ : Env) (p : Hp) (Q : ZQ) : Prop :=
 match r with
 | .ret v _ => histP C mu ext call n0 ⟨o.fw, o.ix, ρ, o.op, v⟩ o.bk hist /\ Wd C mu ext call n0 ρ0 l hist (pushW ⟨o.fw, o.ix, ρ, o.op, v⟩ wt) (put ρ o.dst v) p Q
 | _ => False
noncomputable def bindE (r : XRes) (n0 : Nat) (ρ0 : Env) (o : DOp) (l : List DOp) (hist : List (Nat × Hp)) (wt : List Watch) (ρ : Env) (p : Hp) (Q : ZQ) : Prop :=
 match r with
 | .ret v q => (∀ w ∈ wt, o.ix ∈ w.fw -> still C mu ext call n0 w q) /\ Wd C mu ext call n0 ρ0 l (pushH o.keep (o.ix, p) hist) wt (put ρ o.dst v) q Q
 | .pan v q => o.fin = true /\ Q (.panU v) ρ0 q
 | .stuck => False
theorem Wd_nil (n0 : Nat) (ρ0 : Env) (hist : List (Nat × Hp)) (wt : List Watch) (ρ : Env) (p : Hp) (Q : ZQ) : Wd C mu ext call n0 ρ0 [] hist wt ρ p Q = Q .normal ρ p := nd rfl
theorem Wd_on (n0 : Nat) (ρ0 : Env) (ix : Nat) (d : Option Tmp) (op : Op) (fin : Bool) (bk fw : List Nat) (keep : Bool) (l : List DOp) (hist : List (Nat × Hp)) (wt : List Watch) (ρ : Env) (p : Hp) (Q : ZQ) :
  Wd C mu ext call n0 ρ0 (⟨ix, d, op, none, fin, bk, fw, keep⟩ :: l) hist wt ρ p Q = stepD C mu ext call (kindOf op) n0 ρ0 ⟨ix, d, op, none, fin, bk, fw, keep⟩ l hist wt ρ p Q := by
 simp only [Wd, zwanted, stepD] <;> rfl
noncomputable def wantD (w : Option Bool) (k : Kind) (n0 : Nat) (ρ0 : Env) (o : DOp) (l : List DOp) (hist : List (Nat × Hp)) (wt : List Watch) (ρ : Env) (p : Hp) (Q : ZQ) : Prop :=
 match w with
 | some true => stepD C mu ext call k n0 ρ0 o l hist wt ρ p Q
 | some false => Wd C mu ext call n0 ρ0 l hist wt (put ρ o.dst (.tup [])) p Q
 | none => False
theorem Wd_gd (n0 : Nat) (ρ0 : Env) (ix : Nat) (d : Option Tmp) (op : Op) (t : Tmp) (b : Bool) (fin : Bool) (bk fw : List Nat) (keep : Bool) (l : List DOp) (hist : List (Nat × Hp)) (wt : List Watch) (ρ : Env) (p : Hp) (Q : ZQ) :
  Wd C mu ext call n0 ρ0 (⟨ix, d, op, some (t, b), fin, bk, fw, keep⟩ :: l) hist wt ρ p Q = wantD C mu ext call (zwanted ρ (some (t, b))) (kindOf op) n0 ρ0 ⟨ix, d, op, some (t, b), fin, bk, fw, keep⟩ l hist wt ρ p Q := by
 simp only [Wd, wantD, stepD]
 cases zwanted ρ (some (t, b)) with
 | none => rfl
 | some x =>
  cases x with
  | false => rfl
  | true =>
   first | (simp only; done) | (simp only; cases kindOf op <;> first | rfl | (simp only; cases zop C mu ext call ρ p op <;> rfl))
theorem wantD_t (k : Kind) (n0 : Nat) (ρ0 : Env) (o : DOp) (l : List DOp) (hist : List (Nat × Hp)) (wt : List Watch) (ρ : Env) (p : Hp) (Q : ZQ) : wantD C mu ext call (some true) k n0 ρ0 o l hist wt ρ p Q = stepD C mu ext call k n0 ρ0 o l hist wt ρ p Q := nd rfl
theorem wantD_f (k : Kind) (n0 : Nat) (ρ0 : Env) (ix : Nat) (d : Option Tmp) (op : Op) (g : Option (Tmp × Bool)) (fin : Bool) (bk fw : List Nat) (keep : Bool) (l : List DOp) (hist : List (Nat × Hp)) (wt : List Watch) (ρ : Env) (p : Hp) (Q : ZQ) : wantD C mu ext call (some false) k n0 ρ0 ⟨ix, d, op, g, fin, bk, fw, keep⟩ l hist wt ρ p Q = Wd C mu ext call n0 ρ0 l hist wt (put ρ d (.tup [])) p Q := nd rfl
theorem Z0i {b : Bool} {k : Kind} {n0 : Nat} {ρ0 : Env} {o : DOp} {l : List DOp} {hist : List (Nat × Hp)} {wt : List Watch} {ρ : Env} {p : Hp} {Q : ZQ} (h1 : b = true -> stepD C mu ext call k n0 ρ0 o l hist wt ρ p Q) (h2 : b = false -> Wd C mu ext call n0 ρ0 l hist wt (put ρ o.dst (.tup [])) p Q) : wantD C mu ext call (some b) k n0 ρ0 o l hist wt ρ p Q := by
 cases b with
 | true => exact h1 rfl
 | false => exact h2 rfl
theorem Q0j {c : Prop} [Decidable c] {a b : XRes} {n0 : Nat} {ρ0 : Env} {o : DOp} {l : List DOp} {hist : List (Nat × Hp)} {wt : List Watch} {ρ : Env} {p : Hp} {Q : ZQ} (h1 : c -> bindE C mu ext call a n0 ρ0 o l hist wt ρ p Q) (h2 : ¬ c -> bindE C mu ext call b n0 ρ0 o l hist wt ρ p Q) : bindE C mu ext call (if c then a else b) n0 ρ0 o l hist wt ρ p Q := by
 by_cases h : c
 ·rw [if_pos h]; exact h1 h
 ·rw [if_neg h]; exact h2 h
theorem stepD_q (n0 : Nat) (ρ0 : Env) (ix : Nat) (d : Option Tmp) (op : Op) (g : Option (Tmp × Bool)) (fin : Bool) (bk fw : List Nat) (keep : Bool) (l : List DOp) (hist : List (Nat × Hp)) (wt : List Watch) (ρ : Env) (p : Hp) (Q : ZQ) :
 stepD C mu ext call .quiet n0 ρ0 ⟨ix, d, op, g, fin, bk, fw, keep⟩ l hist wt ρ p Q = bindQ C mu ext call (zop C mu ext call ρ p op) n0 ρ0 ⟨ix, d, op, g, fin, bk, fw, keep⟩ l hist wt ρ p Q := nd rfl
theorem stepD_e (n0 : Nat) (ρ0 : Env) (ix : Nat) (d : Option Tmp) (op : Op) (g : Option (Tmp × Bool)) (fin : Bool) (bk fw : List Nat) (keep : Bool) (l : List DOp) (hist : List (Nat × Hp)) (wt : List Watch) (ρ : Env) (p : Hp) (Q : ZQ) :
  stepD C mu ext call .eff n0 ρ0 ⟨ix, d, op, g, fin, bk, fw, keep⟩ l hist wt ρ p Q = bindE C mu ext call (zop C mu ext call ρ p op) n0 ρ0 ⟨ix, d, op, g, fin, bk, fw, keep⟩ l hist wt ρ p Q := by
 simp only [stepD, bindE]
theorem stepD_a (n0 : Nat) (ρ0 : Env) (ix : Nat) (d : Option Tmp) (op : Op) (g : Option (Tmp × Bool)) (fin : Bool) (bk fw : List Nat) (keep : Bool) (l : List DOp) (hist : List (Nat × Hp)) (wt : List Watch) (ρ : Env) (p : Hp) (Q : ZQ) :
 stepD C mu ext call .alloc n0 ρ0 ⟨ix, d, op, g, fin, bk, fw, keep⟩ l hist wt ρ p Q = (still C mu ext call n0 ⟨fw, ix, ρ, op, allocV op (n0 + ix)⟩ p /\ histP C mu ext call n0 ⟨fw, ix, ρ, op, allocV op (n0 + ix)⟩ bk hist /\ Wd C mu ext call n0 ρ0 l hist (pushW ⟨fw, ix, ρ, op, allocV op (n0 + ix)⟩ wt) (put ρ d (allocV op (n0 + ix))) p Q) := nd rfl
theorem bindQ_ret (v : CV) (q : Hp) (n0 : Nat) (ρ0 : Env) (ix : Nat) (d : Option Tmp) (op : Op) (g : Option (Tmp × Bool)) (fin : Bool) (bk fw : List Nat) (keep : Bool) (l : List DOp) (hist : List (Nat × Hp)) (wt : List Watch) (ρ : Env) (p : Hp) (Q : ZQ) :
 bindQ C mu ext call (.ret v q) n0 ρ0 ⟨ix, d, op, g, fin, bk, fw, keep⟩ l hist wt ρ p Q = (histP C mu ext call n0 ⟨fw, ix, ρ, op, v⟩ bk hist /\ Wd C mu ext call n0 ρ0 l hist (pushW ⟨fw, ix, ρ, op, v⟩ wt) (put ρ d v) p Q) := nd rfl
noncomputable def stillK (k : Kind) (n0 : Nat) (ix : Nat) (ρ : Env) (op : Op) (v : CV) (q : Hp) : Prop :=
 match k with
 | .alloc => ∃ ob, q.t.get (n0 + ix) = some ob /\ allocObj C op = some ob
 | _ => zop C mu ext call ρ q op = .ret v q
theorem still_eq (n0 : Nat) (fw : List Nat) (ix : Nat) (ρ : Env) (op : Op) (v : CV) (q : Hp) : still C mu ext call n0 ⟨fw, ix, ρ, op, v⟩ q = stillK C mu ext call (kindOf op) n0 ix ρ op v q := nd rfl
theorem stillK_q (n0 : Nat) (ix : Nat) (ρ : Env) (op : Op) (v : CV) (q : Hp) : stillK C mu ext call .quiet n0 ix ρ op v q = (zop C mu ext call ρ q op = .ret v q) := nd rfl
theorem stillK_a (n0 : Nat) (ix : Nat) (ρ : Env) (op : Op) (v : CV) (q : Hp) : stillK C mu ext call .alloc n0 ix ρ op v q = (∃ ob, q.t.get (n0 + ix) = some ob /\ allocObj C op = some ob) := nd rfl
def memN : List Nat -> Nat -> Bool
 | [], _ => false
 | a :: l, i => bif Nat.beq a i then true else memN l i
theorem Q02 (i : Nat) : ∀ l, memN l i = true ↔ i ∈ l
 | [] => by simp [memN]
 | a :: l => by
  simp only [memN, List.mem_cons]
  cases h : Nat.beq a i with
  | true => simp [(Nat.eq_of_beq_eq_true h).symm]
  | false => simp [Q02 i l, Ne.symm (Nat.ne_of_beq_eq_false h)]
theorem memN_nil (i : Nat) : memN [] i = false := nd rfl
theorem memN_cons (a : Nat) (l : List Nat) (i : Nat) : memN (a :: l) i = if a = i then true else memN l i := by
 simp only [memN]
 cases h : Nat.beq a i with
 | true => rw [if_pos (Nat.eq_of_beq_eq_true h)]; rfl
 | false => rw [if_neg (Nat.ne_of_beq_eq_false h)]; rfl
noncomputable def allW (n0 : Nat) (ix : Nat) (q : Hp) : List Watch -> Prop
 | [] => True
 | w :: wt => (bif memN w.fw ix then still C mu ext call n0 w q else True) /\ allW n0 ix q wt
theorem allW_iff (n0 : Nat) (ix : Nat) (q : Hp) : ∀ wt, (∀ w ∈ wt, ix ∈ w.fw -> still C mu ext call n0 w q) ↔ allW C mu ext call n0 ix q wt
 | [] => by simp [allW]
 | w :: wt => by
  simp only [allW, List.mem_cons, forall_eq_or_imp, allW_iff n0 ix q wt]
  cases h : memN w.fw ix with
  | true => simp [(Q02 ix w.fw).1 h]
  | false =>
   have : ¬ ix ∈ w.fw := fun k => by rw [(Q02 ix w.fw).2 k] at h; cases h
   simp [this]
theorem allW_nil (n0 : Nat) (ix : Nat) (q : Hp) : allW C mu ext call n0 ix q [] = True := nd rfl
theorem allW_cons (n0 : Nat) (ix : Nat) (q : Hp) (fw : List Nat) (jx : Nat) (ρ : Env) (op : Op) (v : CV) (wt : List Watch) : allW C mu ext call n0 ix q (⟨fw, jx, ρ, op, v⟩ :: wt) = ((bif memN fw ix then stillK C mu ext call (kindOf op) n0 jx ρ op v q else True) /\ allW C mu ext call n0 ix q wt) := nd rfl
noncomputable def histA (n0 : Nat) (w : Watch) (bk : List Nat) : List (Nat × Hp) -> Prop
 | [] => True
 | x :: hist => (bif memN bk x.1 then still C mu ext call n0 w x.2 else True) /\ histA n0 w bk hist
theorem histA_iff (n0 : Nat) (w : Watch) (bk : List Nat) : ∀ hist, (∀ x ∈ hist, x.1 ∈ bk -> still C mu ext call n0 w x.2) ↔ histA C mu ext call n0 w bk hist
 | [] => by simp [histA]
 | x :: hist => by
  simp only [histA, List.mem_cons, forall_eq_or_imp, histA_iff n0 w bk hist]
  cases h : memN bk x.1 with
  | true => simp [(Q02 x.1 bk).1 h]
  | false =>
   have : ¬ x.1 ∈ bk := fun k => by rw [(Q02 x.1 bk).2 k] at h; cases h
   simp [this]
theorem histA_nil (n0 : Nat) (w : Watch) (bk : List Nat) : histA C mu ext call n0 w bk [] = True := nd rfl
theorem histA_cons (n0 : Nat) (fw : List Nat) (jx : Nat) (ρ : Env) (op : Op) (v : CV) (bk : List Nat) (i : Nat) (h : Hp) (hist : List (Nat × Hp)) : histA C mu ext call n0 ⟨fw, jx, ρ, op, v⟩ bk ((i, h) :: hist) = ((bif memN bk i then stillK C mu ext call (kindOf op) n0 jx ρ op v h else True) /\ histA C mu ext call n0 ⟨fw, jx, ρ, op, v⟩ bk hist) := nd rfl
theorem bindE_ret (v : CV) (q : Hp) (n0 : Nat) (ρ0 : Env) (ix : Nat) (d : Option Tmp) (op : Op) (g : Option (Tmp × Bool)) (fin : Bool) (bk fw : List Nat) (keep : Bool) (l : List DOp) (hist : List (Nat × Hp)) (wt : List Watch) (ρ : Env) (p : Hp) (Q : ZQ) :
  bindE C mu ext call (.ret v q) n0 ρ0 ⟨ix, d, op, g, fin, bk, fw, keep⟩ l hist wt ρ p Q = (allW C mu ext call n0 ix q wt /\ Wd C mu ext call n0 ρ0 l (pushH keep (ix, p) hist) wt (put ρ d v) q Q) := by
 rw [<- allW_iff]; rfl
theorem bindE_pan (v : CV) (q : Hp) (n0 : Nat) (ρ0 : Env) (ix : Nat) (d : Option Tmp) (op : Op) (g : Option (Tmp × Bool)) (fin : Bool) (bk fw : List Nat) (keep : Bool) (l : List DOp) (hist : List (Nat × Hp)) (wt : List Watch) (ρ : Env) (p : Hp) (Q : ZQ) :
 bindE C mu ext call (.pan v q) n0 ρ0 ⟨ix, d, op, g, fin, bk, fw, keep⟩ l hist wt ρ p Q = (fin = true /\ Q (.panU v) ρ0 q) := nd rfl
theorem histP_nil (n0 : Nat) (w : Watch) (hist : List (Nat × Hp)) : histP C mu ext call n0 w [] hist = True := nd rfl
theorem histP_cons (n0 : Nat) (w : Watch) (b : Nat) (bk : List Nat) (hist : List (Nat × Hp)) : histP C mu ext call n0 w (b :: bk) hist = histA C mu ext call n0 w (b :: bk) hist := by
 rw [<- histA_iff]; rfl
theorem pushW_nil (ix : Nat) (ρ : Env) (op : Op) (v : CV) (wt : List Watch) : pushW ⟨[], ix, ρ, op, v⟩ wt = wt := nd rfl
theorem pushW_cons (f : Nat) (fw : List Nat) (ix : Nat) (ρ : Env) (op : Op) (v : CV) (wt : List Watch) : pushW ⟨f :: fw, ix, ρ, op, v⟩ wt = ⟨f :: fw, ix, ρ, op, v⟩ :: wt := nd rfl
theorem pushH_t (x : Nat × Hp) (hist : List (Nat × Hp)) : pushH true x hist = x :: hist := nd rfl
theorem pushH_f (x : Nat × Hp) (hist : List (Nat × Hp)) : pushH false x hist = hist := nd rfl
theorem W_skip (ρ : Env) (p : Hp) (Q : ZQ) : W C mu ext call .skip ρ p Q = Q .normal ρ p := nd rfl
theorem W_reg (l : List LOp) (ρ : Env) (p : Hp) (Q : ZQ) : W C mu ext call (.reg l) ρ p Q = Wo C mu ext call l ρ p Q := nd rfl
theorem W_draw (n : Nat) (als : List (Nat × Op)) (l : List DOp) (ρ : Env) (p : Hp) (Q : ZQ) : W C mu ext call (.draw n als l) ρ p Q = Wd C mu ext call p.n ρ l [] [] ρ (layZ C p.n als (p.bump n)) Q := nd rfl
theorem W_seq (a b : ZC) (ρ : Env) (p : Hp) (Q : ZQ) : W C mu ext call (.seq a b) ρ p Q = W C mu ext call a ρ p (seqQ (W C mu ext call b) Q) := nd rfl
theorem W_cond (x : Operand) (a b : ZC) (ρ : Env) (p : Hp) (Q : ZQ) : W C mu ext call (.cond x a b) ρ p Q = condW (ev ρ x) (W C mu ext call a) (W C mu ext call b) ρ p Q := nd rfl
theorem W_block (id : Nat) (c : ZC) (ρ : Env) (p : Hp) (Q : ZQ) : W C mu ext call (.block id c) ρ p Q = W C mu ext call c ρ p (blkQ id Q) := nd rfl
theorem W_exit (i : Nat) (ρ : Env) (p : Hp) (Q : ZQ) : W C mu ext call (.exit i) ρ p Q = Q (.exit i) ρ p := nd rfl
theorem W_ret (ρ : Env) (p : Hp) (Q : ZQ) : W C mu ext call .ret ρ p Q = Q .ret ρ p := nd rfl
theorem layZ_nil (n0 : Nat) (p : Hp) : layZ C n0 [] p = p := nd rfl
theorem layZ_cons (n0 i : Nat) (o : Op) (l : List (Nat × Op)) (p : Hp) : layZ C n0 ((i, o) :: l) p = layZ C n0 l (match allocObj C o with
 | some ob => p.set (n0 + i) (some ob)
 | none => p) := rfl
theorem endQ_n (rs : List ResultVar) (K : XRes -> Prop) (ρ : Env) (p : Hp) : endQ C rs K .normal ρ p = finW (zres C ρ p rs) p K := nd rfl
theorem endQ_r (rs : List ResultVar) (K : XRes -> Prop) (ρ : Env) (p : Hp) : endQ C rs K .ret ρ p = finW (zres C ρ p rs) p K := nd rfl
theorem endQ_p (rs : List ResultVar) (K : XRes -> Prop) (v : CV) (ρ : Env) (p : Hp) : endQ C rs K (.pan v) ρ p = K (.pan v p) := nd rfl
theorem endQ_u (rs : List ResultVar) (K : XRes -> Prop) (v : CV) (ρ : Env) (p : Hp) : endQ C rs K (.panU v) ρ p = K (.pan v p) := nd rfl
theorem finW_some (l : List CV) (p : Hp) (K : XRes -> Prop) : finW (some l) p K = K (.ret (pack l) p) := nd rfl
theorem zres_nil (ρ : Env) (p : Hp) : zres C ρ p [] = some [] := nd rfl
theorem zres_tmp (ρ : Env) (p : Hp) (t : Tmp) (l : List ResultVar) : zres C ρ p (.tmp t :: l) = match zres C ρ p l with
 | some vs => some (ρ t :: vs)
 | none => none := rfl
theorem zres_cell (ρ : Env) (p : Hp) (a : Tmp) (t : TypeId) (l : List ResultVar) : zres C ρ p (.cell a t :: l) = match xload C p t (ρ a), zres C ρ p l with
 | some v, some vs => some (v :: vs)
 | _, _ => none := rfl
theorem pack_1 (v : CV) : pack [v] = v := nd rfl
theorem pack_0 : pack [] = .tup [] := nd rfl
theorem pack_2 (a b : CV) (l : List CV) : pack (a :: b :: l) = .tup (a :: b :: l) := nd rfl
theorem Q1m {k k' : Env -> Hp -> ZQ -> Prop} {Q Q' : ZQ} (hk : ∀ ρ p, k ρ p Q -> k' ρ p Q') (hQ : ∀ e ρ p, Q e ρ p -> Q' e ρ p) : ∀ e ρ p, seqQ k Q e ρ p -> seqQ k' Q' e ρ p := by
 intro e ρ p h
 cases e with
 | normal => exact hk _ _ h
 | exit i => exact hQ _ _ _ h
 | ret => exact hQ _ _ _ h
 | pan v => exact hQ _ _ _ h
 | panU v => exact hQ _ _ _ h
theorem blkQ_mono {id : Nat} {Q Q' : ZQ} (hQ : ∀ e ρ p, Q e ρ p -> Q' e ρ p) : ∀ e ρ p, blkQ id Q e ρ p -> blkQ id Q' e ρ p := by
 intro e ρ p h
 cases e with
 | normal => exact hQ _ _ _ h
 | exit i => rw [blkQ_e] at h ⊢; split at h <;> simp_all
 | ret => exact hQ _ _ _ h
 | pan v => exact hQ _ _ _ h
 | panU v => exact hQ _ _ _ h
theorem Wo_mono {Q Q' : ZQ} (hQ : ∀ e ρ p, Q e ρ p -> Q' e ρ p) : ∀ (l : List LOp) (ρ : Env) (p : Hp), Wo C mu ext call l ρ p Q -> Wo C mu ext call l ρ p Q'
 | [], ρ, p, h => hQ _ _ _ h
 | o :: l, ρ, p, h => by
  simp only [Wo] at h ⊢
  split at h
  ·exact h.elim
  ·exact Wo_mono hQ l _ _ h
  ·split at h
   ·exact Wo_mono hQ l _ _ h
   ·exact hQ _ _ _ h
   ·exact h.elim
theorem K1g {n0 : Nat} {ρ0 : Env} {Q Q' : ZQ} (hQ : ∀ e ρ p, Q e ρ p -> Q' e ρ p) : ∀ (l : List DOp) (hist : List (Nat × Hp)) (wt : List Watch) (ρ : Env) (p : Hp), Wd C mu ext call n0 ρ0 l hist wt ρ p Q -> Wd C mu ext call n0 ρ0 l hist wt ρ p Q'
 | [], _, _, ρ, p, h => hQ _ _ _ h
 | o :: l, hist, wt, ρ, p, h => by
  simp only [Wd] at h ⊢
  split at h
  ·exact h.elim
  ·exact K1g hQ l _ _ _ _ h
  ·cases hk : kindOf o.op with
   | quiet =>
    rw [hk] at h
    simp only at h ⊢
    split at h
    ·exact ⟨h.1, K1g hQ l _ _ _ _ h.2⟩
    ·exact h.elim
   | alloc => rw [hk] at h; exact ⟨h.1, h.2.1, K1g hQ l _ _ _ _ h.2.2⟩
   | eff =>
    rw [hk] at h
    simp only at h ⊢
    split at h
    ·exact ⟨h.1, K1g hQ l _ _ _ _ h.2⟩
    ·exact ⟨h.1, hQ _ _ _ h.2⟩
    ·exact h.elim
theorem Wn_mono {b : Env -> Hp -> ZQ -> Prop} (hb : ∀ (Q Q' : ZQ), (∀ e ρ p, Q e ρ p -> Q' e ρ p) -> ∀ ρ p, b ρ p Q -> b ρ p Q') : ∀ (n m : Nat), n <= m -> ∀ (Q Q' : ZQ), (∀ e ρ p, Q e ρ p -> Q' e ρ p) -> ∀ ρ p, Wn b n ρ p Q -> Wn b m ρ p Q'
 | 0, _, _, _, _, _, _, _, h => h.elim
 | n + 1, 0, h, _, _, _, _, _, _ => by omega
 | n + 1, m + 1, h, Q, Q', hQ, ρ, p, hw => hb _ _ (Q1m (fun ρ p h' => Wn_mono hb n m (by omega) Q Q' hQ ρ p h') hQ) ρ p hw
theorem W_mono : ∀ (c : ZC) (Q Q' : ZQ), (∀ e ρ p, Q e ρ p -> Q' e ρ p) -> ∀ (ρ : Env) (p : Hp), W C mu ext call c ρ p Q -> W C mu ext call c ρ p Q' := by
 intro c
 induction c with
 | skip => intro Q Q' hQ ρ p h; exact hQ _ _ _ h
 | reg l => intro Q Q' hQ ρ p h; exact Wo_mono C mu ext call hQ l ρ p h
 | draw n als l => intro Q Q' hQ ρ p h; exact K1g C mu ext call hQ l _ _ _ _ h
 | exit i => intro Q Q' hQ ρ p h; exact hQ _ _ _ h
 | ret => intro Q Q' hQ ρ p h; exact hQ _ _ _ h
 | seq a b iha ihb => intro Q Q' hQ ρ p h; exact iha _ _ (Q1m (fun ρ p h' => ihb Q Q' hQ ρ p h') hQ) ρ p h
 | cond x a b iha ihb =>
  intro Q Q' hQ ρ p h
  simp only [W, condW] at h ⊢
  split at h
  ·rename_i t ht
   cases t with
   | true => exact iha Q Q' hQ ρ p h
   | false => exact ihb Q Q' hQ ρ p h
  ·exact h.elim
 | block id c ih => intro Q Q' hQ ρ p h; exact ih _ _ (blkQ_mono hQ) ρ p h
 | loop c ih => intro Q Q' hQ ρ p ⟨n, h⟩; exact ⟨n, Wn_mono ih n n (Nat.le_refl _) Q Q' hQ ρ p h⟩
theorem Wn_succ (b : Env -> Hp -> ZQ -> Prop) (n : Nat) (ρ : Env) (p : Hp) (Q : ZQ) : Wn b (n + 1) ρ p Q = b ρ p (seqQ (Wn b n) Q) := nd rfl
theorem V0i (c : ZC) (ρ : Env) (p : Hp) (Q : ZQ) (J : Nat -> Env -> Hp -> Prop) (n : Nat) (h0 : J n ρ p)
  (h : ∀ n ρ p, J n ρ p -> W C mu ext call c ρ p (seqQ (fun ρ p _ => ∃ m, m < n /\ J m ρ p) Q)) : W C mu ext call (.loop c) ρ p Q := by
 have key : ∀ n ρ p, J n ρ p -> Wn (W C mu ext call c) (n + 1) ρ p Q := by
  intro n
  induction n using Nat.strongRecOn with
  | _ n ih =>
   intro ρ p hJ
   refine W_mono C mu ext call c _ _ (Q1m (fun ρ p ⟨m, hm, hJ'⟩ => ?_) (fun _ _ _ h => h)) ρ p (h n ρ p hJ)
   exact Wn_mono (W_mono C mu ext call c) (m + 1) n hm Q Q (fun _ _ _ h => h) ρ p (ih m hm ρ p hJ')
 exact ⟨n + 1, key n ρ p h0⟩
theorem W_cut (c : ZC) (ρ : Env) (p : Hp) (Q : ZQ) (J : Env -> Hp -> Prop) (h : W C mu ext call c ρ p (fun e ρ p => match e with | .normal => J ρ p | e => Q e ρ p)) (h' : ∀ ρ p, J ρ p -> Q .normal ρ p) : W C mu ext call c ρ p Q :=
 W_mono C mu ext call c _ _ (fun e ρ p k => by cases e <;> first | exact h' _ _ k | exact k) ρ p h
end steps
theorem V1e {p0 p q : Hp} {v u : CV} (hn : p0.n <= q.n) (ho : ∀ k o, q.t.get k = some o -> k < q.n /\ ((k < p0.n /\ p0.t.get k = some o /\ p.t.get k = some o) \/ ∃ o', p.t.get k = some o' /\ XObj.weak (fun k => k) q.n o' o)) (hv : CV.weak (fun k => k) q.n v u) : ShrR p0 (.ret v p) (.ret u q) :=
 ⟨fun k => k, ⟨hn, fun _ _ => rfl, fun _ _ _ _ _ _ e => e, ho⟩, hv⟩
theorem shr_idP {p0 p q : Hp} {v u : CV} (hn : p0.n <= q.n) (ho : ∀ k o, q.t.get k = some o -> k < q.n /\ ((k < p0.n /\ p0.t.get k = some o /\ p.t.get k = some o) \/ ∃ o', p.t.get k = some o' /\ XObj.weak (fun k => k) q.n o' o)) (hv : CV.weak (fun k => k) q.n v u) : ShrR p0 (.pan v p) (.pan u q) :=
 ⟨fun k => k, ⟨hn, fun _ _ => rfl, fun _ _ _ _ _ _ e => e, ho⟩, hv⟩
def HpLe (p q : Hp) : Prop := ∀ k o, p.t.get k = some o -> q.t.get k = some o
theorem V0d {args : List CV} {p p' : Hp} {v u : CV} (hF : Fine args p) (hle : HpLe p p') (hv : CV.weak (fun k => k) p.n v u) : ShrR p (.ret v p') (.ret u p) :=
 V1e (Nat.le_refl _) (fun k o h => ⟨hF.dom k o h, .inl ⟨hF.dom k o h, h, hle k o h⟩⟩) hv
theorem Q1f {args : List CV} {p p' : Hp} {v u : CV} (hF : Fine args p) (hle : HpLe p p') (hv : CV.weak (fun k => k) p.n v u) : ShrR p (.pan v p') (.pan u p) :=
 shr_idP (Nat.le_refl _) (fun k o h => ⟨hF.dom k o h, .inl ⟨hF.dom k o h, h, hle k o h⟩⟩) hv
theorem K16 {args : List CV} {p p' : Hp} {v u : CV} {i : Nat} {o : XObj} (hF : Fine args p) (hi : i < p.n) (hle : ∀ k o, k ≠ i -> p.t.get k = some o -> p'.t.get k = some o) (ho : ∃ o', p'.t.get i = some o' /\ XObj.weak (fun k => k) p.n o' o) (hv : CV.weak (fun k => k) p.n v u) : ShrR p (.ret v p') (.ret u (p.set i (some o))) :=
 V1e (Nat.le_refl _) (fun k ob h => by
  by_cases hk : k = i
  ·subst hk
   rw [Hp.get_set_self] at h; cases h
   exact ⟨hi, .inr ho⟩
  ·rw [Hp.get_set_ne _ _ _ hk] at h
   exact ⟨hF.dom k ob h, .inl ⟨hF.dom k ob h, h, hle k ob hk h⟩⟩) hv
theorem shr_dropP {args : List CV} {p p' : Hp} {v u : CV} {i : Nat} (hF : Fine args p) (hle : ∀ k o, k ≠ i -> p.t.get k = some o -> p'.t.get k = some o) (hv : CV.weak (fun k => k) p.n v u) : ShrR p (.pan v p') (.pan u (p.set i none)) :=
 shr_idP (Nat.le_refl _) (fun k ob h => by
  by_cases hk : k = i
  ·subst hk
   rw [Hp.get_set_self] at h; cases h
  ·rw [Hp.get_set_ne _ _ _ hk] at h
   exact ⟨hF.dom k ob h, .inl ⟨hF.dom k ob h, h, hle k ob hk h⟩⟩) hv
theorem weak_I (n : Nat) (x : Int) : CV.weak (fun k => k) n (I x) (I x) := by simp [CV.weak]
theorem X0g {n : Nat} {v : CV} (h : v.lt n) : CV.weak (fun k => k) n v v := CV.weak_refl v fun j hj => ⟨rfl, h j hj⟩
theorem K0p {n : Nat} {o : XObj} (h : o.lt n) : XObj.weak (fun k => k) n o o := XObj.weak_refl fun j hj => ⟨rfl, h j hj⟩
theorem X0c {n : Nat} {v u : CV} (h : v = u) (hl : u.lt n) : CV.weak (fun k => k) n v u := by subst h; exact X0g hl
theorem K0d {n : Nat} {v : CV} (h : ∀ j, ¬ v.has j) : v.lt n := fun j hj => (h j hj).elim
theorem qmin2 (k k' : IntKind) (a b : Int) : qminmax false [.sc (.int k a), .sc (.int k' b)] = some (.sc (.int k (min a b))) := by
 have : (if b < a then b else a) = min a b := by split <;> omega
 simp only [qminmax, Bool.false_eq_true, if_false, this]
theorem qmax2 (k k' : IntKind) (a b : Int) : qminmax true [.sc (.int k a), .sc (.int k' b)] = some (.sc (.int k (max a b))) := by
 have : (if b > a then b else a) = max a b := by split <;> omega
 simp only [qminmax, if_true, this]
theorem beqT (b : Bool) : (b == true) = b := by cases b <;> rfl
theorem beqF (b : Bool) : (b == false) = !b := by cases b <;> rfl
theorem subEq_self (z : Shape) : subEq z [] z = true := by
 have : z.sub [] = some z := by cases z <;> rfl
 simp [subEq, this]
theorem shOk_sc (v : Value) : shOk (.sc v) .s = true := nd rfl
theorem shOk_lst {α : Type} (f : α -> CV) (x : Lst α) : shOk (x.cv f) .s = true := nd rfl
theorem shOk_lst' (t : Tail) (l : List CV) : shOk (.lst t l) .s = true := nd rfl
theorem shOk_ptr (i : Nat) (q : List Nat) : shOk (.ptr i q) .s = true := nd rfl
theorem shOk_slc (i : Nat) (q : List Nat) (a b : Nat) : shOk (.slc i q a b) .s = true := nd rfl
theorem shOk_fn (f : FuncId) (a b : List CV) : shOk (.fn f a b) .s = true := nd rfl
theorem shOk_ifc (t : TypeId) (v : CV) : shOk (.ifc t v) .s = true := nd rfl
theorem Q0g {f : TypeId -> CV -> CV -> Option Bool} {t : TypeId} {ts : List TypeId} {x y : CV} {l m : List CV} {a b : Bool} (h1 : f t x y = some a) (h2 : eqList f ts l m = some b) : eqList f (t :: ts) (x :: l) (y :: m) = some (a && b) := by
 simp only [eqList, h1, h2]
theorem K1r {α : Type} [DecidableEq α] {f : TypeId -> CV -> CV -> Option Bool} {e : TypeId} {g : α -> CV} (h : ∀ x y, f e (g x) (g y) = some (decide (x = y))) : ∀ (n : Nat) (l m : List α), l.length = n -> m.length = n -> eqList f (List.replicate n e) (l.map g) (m.map g) = some (decide (l = m))
 | 0, [], [], _, _ => rfl
 | 0, _ :: _, _, h, _ => by simp at h
 | 0, [], _ :: _, _, h => by simp at h
 | n + 1, [], _, h, _ => by simp at h
 | n + 1, _ :: _, [], _, h => by simp at h
 | n + 1, x :: l, y :: m, h1, h2 => by
  have := K1r h n l m (by simpa using h1) (by simpa using h2)
  simp only [List.replicate_succ, List.map_cons, Q0g (h x y) this]
  by_cases e1 : x = y <;> by_cases e2 : l = m <;> simp [e1, e2]
theorem Q0x (C : Ctx) {t : TypeId} {fs : List (Nat × Nat × TypeId)} {sh : Shape} {b : Nat} {z : CV} {l m : List CV} {d : Nat} {r : Bool} (ht : C.tt t = some ⟨.st fs, sh, b, z⟩) (h1 : (CV.agg l).shape = sh) (h2 : (CV.agg m).shape = sh) (h : eqList (eqCV C d) (fs.map (·.2.2)) l m = some r) : eqCV C (d + 1) t (.agg l) (.agg m) = some r := by
 simp only [eqCV, ht, h1, h2, and_self, if_true, h]
theorem eqCV_ar (C : Ctx) {α : Type} [DecidableEq α] {g : α -> CV} {t n b1 e : Nat} {sh s : Shape} {b : Nat} {z : CV} {l m : List α} {d : Nat} (ht : C.tt t = some ⟨.ar n b1 e, sh, b, z⟩) (hs : sh = .n (List.replicate n s)) (hg : ∀ x, (g x).shape = s) (h1 : l.length = n) (h2 : m.length = n) (h : ∀ x y, eqCV C d e (g x) (g y) = some (decide (x = y))) : eqCV C (d + 1) t (.agg (l.map g)) (.agg (m.map g)) = some (decide (l = m)) := by
 have k1 : (CV.agg (l.map g)).shape = sh := by simp only [CV.shape, Z0h hg, h1, hs]
 have k2 : (CV.agg (m.map g)).shape = sh := by simp only [CV.shape, Z0h hg, h2, hs]
 simp only [eqCV, ht, k1, k2, and_self, if_true, K1r h n l m h1 h2]
theorem K0h (C : Ctx) {t : TypeId} {k k' : IntKind} {sh : Shape} {b : Nat} {z : CV} (ht : C.tt t = some ⟨.base (.int k), sh, b, z⟩) (d : Nat) (x y : Int) : eqCV C (d + 1) t (.sc (.int k' x)) (.sc (.int k' y)) = some (decide (x = y)) := by
 simp [eqCV, ht, eqSc]
theorem eqCV_bool (C : Ctx) {t : TypeId} {sh : Shape} {b : Nat} {z : CV} (ht : C.tt t = some ⟨.base .bool, sh, b, z⟩) (d : Nat) (x y : Bool) : eqCV C (d + 1) t (.sc (.bool x)) (.sc (.bool y)) = some (decide (x = y)) := by
 simp [eqCV, ht, eqSc]
theorem all_nth4 {f : Int -> Bool} {l : List Int} (h : l.length = 4) : l.all f = (f (nth l 0) && (f (nth l 1) && (f (nth l 2) && f (nth l 3)))) := by
 match l, h with
 | [a, b, c, d], _ => simp [nth]
theorem qbin_int (C : Ctx) (op : BinOp) (t : TypeId) (cy : Bool) (k k' : IntKind) (a b : Int) : qbin C op t cy (.sc (.int k a)) (.sc (.int k' b)) = match op with
  | .shl | .shr => qshift op k a b
  | _ => if k = k' then qnum op k a b else none := by
 simp only [qbin]; rfl
theorem qbin_float (C : Ctx) (op : BinOp) (t : TypeId) (cy : Bool) (k k' : FloatKind) (a b : Nat) : qbin C op t cy (.sc (.float k a)) (.sc (.float k' b)) = if k = k' then qfloat op k a b else none := by
 simp only [qbin]
theorem qbin_bool (C : Ctx) (op : BinOp) (t : TypeId) (cy : Bool) (a b : Bool) : qbin C op t cy (.sc (.bool a)) (.sc (.bool b)) = match C.tt t, op with
  | some ⟨.base .bool, _, _, _⟩, .eql => some (.sc (.bool (decide (a = b))))
  | some ⟨.base .bool, _, _, _⟩, .neq => some (.sc (.bool (!decide (a = b))))
  | _, _ => none := by
 simp only [qbin]; rfl
theorem qbin_str (C : Ctx) (op : BinOp) (t : TypeId) (cy : Bool) (a b : ByteArray) : qbin C op t cy (.sc (.string a)) (.sc (.string b)) = match op with
  | .eql => some (.sc (.bool (a.toList == b.toList)))
  | .neq => some (.sc (.bool (!(a.toList == b.toList))))
  | .add => if a.size + b.size <= 9223372036854775807 then some (.sc (.string (a ++ b))) else none
  | _ => none := by
 simp only [qbin]; rfl
theorem Z1k (C : Ctx) {α : Type} [Inhabited α] (f : α -> CV) {t N b1 e : Nat} {sh : Shape} {b : Nat} {z : CV} (ht : C.tt t = some ⟨.ar N b1 e, sh, b, z⟩) {te : TI} (hs : sh = .n (List.replicate N te.sh)) (hte : C.tt e = some te) (hsh : ∀ x, (f x).shape = te.sh) (l : List α) (n : Int) (h : l.length = N) (hn : 0 <= n /\ n < N) : qindex C t (.agg (l.map f)) (I n) = some (f (nth l n.toNat)) := by
 have k1 : (CV.agg (l.map f)).shape = sh := by simp only [CV.shape, Z0h hsh, h, hs]
 have hl : n.toNat < l.length := by omega
 simp only [qindex, ht, hte, k1, hn, and_self, if_true, List.getElem?_map, X0s hl, Option.map_some, hsh]
theorem nilness_0 {α : Type} (f : α -> CV) (l : List α) (o : _) : nilness (Lst.cv f ⟨.nil, l, o⟩) = some true := nd rfl
theorem nilness_e {α : Type} (f : α -> CV) (l : List α) (o : _) : nilness (Lst.cv f ⟨.exact, l, o⟩) = some false := nd rfl
theorem nilness_p {α : Type} (f : α -> CV) (l : List α) (o : _) : nilness (Lst.cv f ⟨.part, l, o⟩) = some false := nd rfl
theorem nilness_o {α : Type} (f : α -> CV) (j : Nat) (l : List α) (o : _) : nilness (Lst.cv f ⟨.own j, l, o⟩) = some false := nd rfl
theorem nilness_v {α : Type} (f : α -> CV) (x : α) (l : List α) (o : _) : nilness (Lst.cv f ⟨.view, x :: l, o⟩) = some false := nd rfl
theorem nilness_n (l : List CV) : nilness (.lst .nil l) = some true := nd rfl
theorem Q1b (C : Ctx) {t : TypeId} (h : isSliceT C t = true) (v : CV) : xnil C .eql t v = (nilness v).map fun b => Bo b := by simp only [xnil, h, cond_true]
theorem K0x (C : Ctx) {t : TypeId} (h : isSliceT C t = true) (v : CV) : xnil C .neq t v = (nilness v).map fun b => Bo (!b) := by simp only [xnil, h, cond_true]
theorem Q0f (C : Ctx) {t e : TypeId} {sh : Shape} {b n : Nat} {z : CV} {te : TI} {parts : List (Nat × CV)} {v : CV} (ht : C.tt t = some ⟨.base (.slice e), sh, b, z⟩) (hte : C.tt e = some te) (h1 : n * te.sh.size <= 16777216) (h2 : te.sh.size ≠ 0) (hp : partsOk (List.replicate n te.sh) parts = true) (hv : CV.lst .exact (setAll (List.replicate n te.zero) parts) = v) : qbuildSlice C t n parts = some v := by
 simp only [qbuildSlice, ht, hte, h1, h2, hp, hv, ne_eq, not_false_eq_true, and_self, if_true]
theorem cast_lit (n : Nat) : (Nat.cast (no_index (OfNat.ofNat n)) : Int) = (OfNat.ofNat n : Int) := nd rfl
open Classical in
noncomputable def appT {α : Type} (f : α -> CV) (p : Hp) (b s : Lst α) : XRes :=
 if s.l = [] then .ret (b.cv f) p else match b.tl with
  | .nil => .ret (Lst.cv f ⟨.own p.n, b.l ++ s.l, nofun⟩) (p.new (.tail (b.l.length + s.l.length)))
  | .exact => .ret (Lst.cv f ⟨.own p.n, b.l ++ s.l, nofun⟩) (p.new (.tail (b.l.length + s.l.length)))
  | .own j => match p.t.get j with
   | some (.tail k) => if k = b.l.length /\ 0 < b.l.length then .ret (Lst.cv f ⟨.own p.n, b.l ++ s.l, nofun⟩) ((p.set j none).new (.tail (b.l.length + s.l.length))) else .stuck
   | _ => .stuck
  | _ => .stuck
theorem K1n {α : Type} {f : α -> CV} {z : Shape} (h : ∀ x, shOk (f x) z = true) (l : List α) : allSh (l.map f) z = true := by
 simp [allSh, h]
theorem V0n (C : Ctx) {α : Type} (f : α -> CV) {t e : TypeId} {sh : Shape} {by_ : Nat} {z : CV} {te : TI} (ht : C.tt t = some ⟨.base (.slice e), sh, by_, z⟩) (hte : C.tt e = some te) (hsh : ∀ x, shOk (f x) te.sh = true) (p : Hp) (b s : Lst α) (h : (b.l.length + s.l.length) * te.bytes <= 140737488355328) (hb : b.l.length + s.l.length <= 140737488355328) : xappend C false p t t (b.cv f) (s.cv f) = appT f p b s := by
 obtain ⟨tl, l, o1⟩ := b
 obtain ⟨ul, m, o2⟩ := s
 have h1 : Nat.ble ((l.length + m.length) * te.bytes) 140737488355328 = true := Nat.ble_eq_true_of_le h
 have h2 : Nat.ble (l.length + m.length) 9223372036854775807 = true := Nat.ble_eq_true_of_le (Nat.le_trans hb (by decide))
 simp only [xappend, ht, hte, cond_false, srcOf, Lst.cv, appT]
 simp only [xappI, K1n hsh, Bool.and_self, Bool.true_and, List.length_map, h1, h2, cond_true]
 cases m with
 | nil => simp
 | cons x m =>
  simp only [List.map_cons, reduceCtorEq, if_false]
  cases tl with
  | nil => simp
  | exact => simp
  | view => rfl
  | part => rfl
  | own j =>
   simp only
   cases hj : p.t.get j with
   | none => rfl
   | some o =>
    cases o with
    | var _ _ => rfl
    | map _ => rfl
    | tail k =>
     simp only
     by_cases hk : k = l.length /\ 0 < l.length
     ·have e1 : Nat.beq k l.length = true := by rw [hk.1]; exact Nat.beq_refl _
      have e2 : Nat.blt 0 l.length = true := Y0w hk.2
      rw [if_pos hk, e1, e2]; simp
     ·rw [if_neg hk]
      have : (Nat.beq k l.length && Nat.blt 0 l.length) = false := by
       rw [Bool.eq_false_iff]
       intro hh
       rw [Bool.and_eq_true] at hh
       exact hk ⟨Nat.eq_of_beq_eq_true hh.1, V0y hh.2⟩
      rw [this]; rfl
theorem appT_0 {α : Type} (f : α -> CV) (p : Hp) (b : Lst α) (u : Tail) (o : _) : appT f p b ⟨u, [], o⟩ = .ret (b.cv f) p := by simp [appT]
theorem appT_n {α : Type} (f : α -> CV) (p : Hp) (l : List α) (o : _) (s : Lst α) : appT f p ⟨.nil, l, o⟩ s = if s.l = [] then .ret (Lst.cv f ⟨.nil, l, o⟩) p else .ret (Lst.cv f ⟨.own p.n, l ++ s.l, nofun⟩) (p.new (.tail (l.length + s.l.length))) := by
 unfold appT; split <;> simp_all
theorem appT_e {α : Type} (f : α -> CV) (p : Hp) (l : List α) (o : _) (s : Lst α) : appT f p ⟨.exact, l, o⟩ s = if s.l = [] then .ret (Lst.cv f ⟨.exact, l, o⟩) p else .ret (Lst.cv f ⟨.own p.n, l ++ s.l, nofun⟩) (p.new (.tail (l.length + s.l.length))) := by
 unfold appT; split <;> simp_all
theorem appT_c {α : Type} (f : α -> CV) (p : Hp) (tl : Tail) (l : List α) (o : _) (u : Tail) (x : α) (m : List α) (o' : _) (h : tl = .nil \/ tl = .exact) : appT f p ⟨tl, l, o⟩ ⟨u, x :: m, o'⟩ = .ret (Lst.cv f ⟨.own p.n, l ++ x :: m, nofun⟩) (p.new (.tail (l.length + (m.length + 1)))) := by
 unfold appT; rcases h with rfl | rfl <;> simp
theorem appT_o {α : Type} (f : α -> CV) (p : Hp) (j : Nat) (l : List α) (o : _) (u : Tail) (x : α) (m : List α) (o' : _) (h : p.t.get j = some (.tail l.length)) (h0 : 0 < l.length) : appT f p ⟨.own j, l, o⟩ ⟨u, x :: m, o'⟩ = .ret (Lst.cv f ⟨.own p.n, l ++ x :: m, nofun⟩) ((p.set j none).new (.tail (l.length + (m.length + 1)))) := by
 unfold appT; simp [h, h0]
theorem xld_p (C : Ctx) (p : Hp) (t : TypeId) (i : Nat) (q : List Nat) : xload C p t (.ptr i q) = match p.t.get i with
 | some (.var sh v) => match C.tt t with
  | some ti => bif subEq sh q ti.sh then v.at q else none
  | none => none
 | _ => none := nd rfl
theorem xld_r (C : Ctx) (p : Hp) (t : TypeId) (v : CV) : xload C p t (.rptr v) = match C.tt t with
 | some ti => bif shOk v ti.sh then some v else none
 | none => none := nd rfl
theorem xfa_p (C : Ctx) (p : Hp) (t : TypeId) (i : Nat) (q : List Nat) (f : Nat) : xfieldAddr C p t (.ptr i q) f = match p.t.get i with
 | some (.var sho _) => match C.tt t with
  | some ⟨.st fs, sh, _, _⟩ => bif subEq sho q sh && Nat.blt f fs.length then some (.ptr i (q ++ [f])) else none
  | _ => none
 | _ => none := nd rfl
theorem xfa_r (C : Ctx) (p : Hp) (t : TypeId) (v : CV) (f : Nat) : xfieldAddr C p t (.rptr v) f = qfieldAddr C p.h t (.rptr v) f := nd rfl
theorem xia_p (C : Ctx) (p : Hp) (t : TypeId) (j : Nat) (q : List Nat) (i : CV) : xindexAddr C p t (.ptr j q) i = match p.t.get j with
 | some (.var sho _) => match C.tt t with
  | some ⟨.ar cnt _ _, sh, _, _⟩ => match i with
   | .sc (.int _ n) => bif inR n cnt && subEq sho q sh then some (.ptr j (q ++ [n.toNat])) else none
   | _ => none
  | _ => none
 | _ => none := nd rfl
theorem xia_r (C : Ctx) (p : Hp) (t : TypeId) (v i : CV) : xindexAddr C p t (.rptr v) i = qindexAddr C p.h t (.rptr v) i := nd rfl
theorem xia_s (C : Ctx) (p : Hp) (t : TypeId) (j : Nat) (q : List Nat) (o n : Nat) (i : CV) : xindexAddr C p t (.slc j q o n) i = qindexAddr C p.h t (.slc j q o n) i := nd rfl
theorem xst_p (C : Ctx) (p : Hp) (t : TypeId) (i : Nat) (q : List Nat) (x : CV) : xstore C p t (.ptr i q) x = match p.t.get i with
 | some (.var sh v) => match C.tt t with
  | some ti => bif subEq sh q ti.sh && shOk x ti.sh then .ret (.tup []) (p.set i (some (.var sh (v.set q x)))) else .stuck
  | none => .stuck
 | _ => .stuck := nd rfl
theorem qbin_fnnil (C : Ctx) (op : BinOp) (t : TypeId) (cy : Bool) (f : FuncId) (a b : List CV) : qbin C op t cy (.fn f a b) (.sc .nilFunc) = match C.tt t with
  | some ⟨.base (.func _ _ _), _, _, _⟩ => eqRes op false
  | _ => none := by
 simp only [qbin]; rfl
theorem qbin_ifcnil (C : Ctx) (op : BinOp) (t : TypeId) (cy : Bool) (s : TypeId) (v : CV) : qbin C op t cy (.ifc s v) (.sc .nilIface) = match C.tt t with
  | some ⟨.base (.interface _), _, _, _⟩ => eqRes op false
  | _ => none := by
 simp only [qbin]; rfl
theorem qbin_nilnil (C : Ctx) (op : BinOp) (t : TypeId) (cy : Bool) : qbin C op t cy (.sc .nilIface) (.sc .nilIface) = match C.tt t, cy with
  | some ⟨.base (.interface _), _, _, _⟩, true => eqRes op true
  | _, _ => none := by
 simp only [qbin]; rfl
theorem iteN {α : Type} {c : Prop} [Decidable c] (h : ¬ c) (v : α) : (if c then none else some v) = some v := if_neg h
theorem iteS {α : Type} {c : Prop} [Decidable c] (h : c) (v : α) : (if c then some v else none) = some v := if_pos h
theorem K0y (n k : Nat) (q : List Nat) (s z : Shape) : subEq (.n (List.replicate n s)) (k :: q) z = (decide (k < n) && subEq s q z) := by
 unfold subEq
 by_cases h : k < n
 ·simp [Shape.sub, List.getElem?_replicate, h]
 ·simp [Shape.sub, List.getElem?_replicate, h]
theorem K0f (C : Ctx) {t : TypeId} {fs : List (Nat × Nat × TypeId)} {shs : List Shape} {b : Nat} {z : List CV} {parts : List (Nat × CV)} {v : CV} (ht : C.tt t = some ⟨.st fs, .n shs, b, .agg z⟩) (hp : partsOk shs parts = true) (hv : .agg (setAll z parts) = v) : qbuild C t parts = some v := by
 simp only [qbuild, ht, hp, if_true, hv]
theorem Y0m {v : CV} {sh : Shape} {l : List Shape} (h : v.shape = sh) (e : sh = .n l) : shOk v sh = true := by
 subst e
 unfold shOk
 simp [h]
theorem Y0d (C : Ctx) {t f : Nat} {fs : List (Nat × Nat × TypeId)} {sh : Shape} {b : Nat} {z : CV} (ht : C.tt t = some ⟨.st fs, sh, b, z⟩) {l : List CV} (hsh : (CV.agg l).shape = sh) {d : Nat × Nat × TypeId} (hd : fs[f]? = some d) {tf : TI} (htf : C.tt d.2.2 = some tf) {v : CV} (hv : l[f]? = some v) (ho : shOk v tf.sh = true) : qfield C t (.agg l) f = some v := by
 simp only [qfield, ht, hd, htf, hv, hsh, ho]
 simp
theorem tup0_no (j : Nat) : ¬ (CV.tup []).has j := fun h => by simp [CV.has, CV.hasL] at h
theorem Q0e (C : Ctx) {f : FuncId} {R : Rel} (un : ∀ args p r r', R args p r -> R args p r' -> r = r') (ns : ∀ args p r, R args p r -> r ≠ .stuck) (ok : ∀ args p r, R args p r -> AnsAt C f args p r) : Con C f R :=
 ⟨un, fun args p r h => ⟨ns args p r h, ok args p r h⟩⟩
theorem xcallv_fn (call : XCall) (p : Hp) (g : FuncId) (a b l : List CV) : xcallv noExt call p (.fn g a b) l = call g (a ++ l ++ b) p := nd rfl
end Go.Cl
end
section
namespace Go.Cl
open Go.RowKit
def ZC.plain : ZC -> Bool
 | .skip => true
 | .reg _ => true
 | .draw _ _ _ => false
 | .seq a b => a.plain && b.plain
 | .cond _ a b => a.plain && b.plain
 | .block _ c => c.plain
 | .loop _ => false
 | .exit _ => true
 | .ret => true
section
variable (C : Ctx) (mu : Bool) (ext : FuncId -> List CV -> Option CV) (call : XCall)
theorem W_run (fuel : Nat) : ∀ (c : Code) (m : ZC) (env : XEnv) (p : Hp) (Q : ZQ), zcode c = some m -> m.plain = true -> W C mu ext call m env.at p Q -> ∃ (e : XE) (env' : XEnv) (p' : Hp), xcode C mu ext call fuel c env p = .ok e env' p' /\ Q e env'.at p' := by
 intro c
 induction c with
 | skip => intro m env p Q hm _ h; cases hm; exact ⟨.normal, env, p, rfl, h⟩
 | label l => intro m env p Q hm _ h; cases hm; exact ⟨.normal, env, p, rfl, h⟩
 | exit i => intro m env p Q hm _ h; cases hm; exact ⟨.exit i, env, p, rfl, h⟩
 | ret => intro m env p Q hm _ h; cases hm; exact ⟨.ret, env, p, rfl, h⟩
 | region id ops draw =>
  intro m env p Q hm hp h
  cases draw with
  | false =>
   simp only [zcode, cond_false] at hm
   cases hl : lops ops.toList [] ops.toList 0 with
   | none => simp [hl] at hm
   | some l =>
    simp only [hl, Option.some.injEq] at hm
    subst hm
    obtain ⟨e, env', p', h1, h2⟩ := Y1d C mu ext call l _ p Q h env rfl
    rw [<- xl_eq C _ _ _ _ _ hl] at h1
    exact ⟨e, env', p', h1, h2⟩
  | true =>
   simp only [zcode, cond_true] at hm
   cases hd : drawStat ops.toList (ancs ops.toList []) with
   | false => simp [hd] at hm
   | true =>
    cases hc : dops ops.toList (ancs ops.toList []) ops.toList 0 with
    | none => simp [hd, hc] at hm
    | some l => simp only [hd, hc, cond_true, Option.some.injEq] at hm; subst hm; cases hp
 | seq a b iha ihb =>
  intro m env p Q hm hp h
  simp only [zcode] at hm
  cases hx : zcode a with
  | none => simp [hx] at hm
  | some ma =>
  cases hy : zcode b with
  | none => simp [hx, hy] at hm
  | some mb =>
  simp only [hx, hy, Option.some.injEq] at hm
  subst hm
  simp only [ZC.plain, Bool.and_eq_true] at hp
  obtain ⟨e1, env1, p1, h1, k1⟩ := iha ma env p _ hx hp.1 h
  simp only [xcode, h1]
  cases e1 with
  | normal => exact ihb mb env1 p1 Q hy hp.2 k1
  | exit i => exact ⟨.exit i, env1, p1, rfl, k1⟩
  | ret => exact ⟨.ret, env1, p1, rfl, k1⟩
  | pan v => exact ⟨.pan v, env1, p1, rfl, k1⟩
  | panU v => exact ⟨.panU v, env1, p1, rfl, k1⟩
 | cond x a b iha ihb =>
  intro m env p Q hm hp h
  simp only [zcode] at hm
  cases hx : zcode a with
  | none => simp [hx] at hm
  | some ma =>
  cases hy : zcode b with
  | none => simp [hx, hy] at hm
  | some mb =>
  simp only [hx, hy, Option.some.injEq] at hm
  subst hm
  simp only [ZC.plain, Bool.and_eq_true] at hp
  simp only [W, condW] at h
  split at h
  ·rename_i t ht
   have ht' : xev env x = .sc (.bool t) := by rw [Z1j]; exact ht
   cases t with
   | true =>
    obtain ⟨e, env', p', h1, k1⟩ := iha ma env p Q hx hp.1 h
    exact ⟨e, env', p', by simp only [xcode, ht']; exact h1, k1⟩
   | false =>
    obtain ⟨e, env', p', h1, k1⟩ := ihb mb env p Q hy hp.2 h
    exact ⟨e, env', p', by simp only [xcode, ht']; exact h1, k1⟩
  ·exact h.elim
 | block id c ih =>
  intro m env p Q hm hp h
  simp only [zcode] at hm
  cases hx : zcode c with
  | none => simp [hx] at hm
  | some mx =>
  simp only [hx, Option.some.injEq] at hm
  subst hm
  obtain ⟨e1, env1, p1, h1, k1⟩ := ih mx env p _ hx hp h
  cases e1 with
  | exit j =>
   simp only [blkQ] at k1
   cases hb : Nat.beq j id with
   | true => rw [hb] at k1; exact ⟨.normal, env1, p1, by simp only [xcode, h1, hb, cond_true], k1⟩
   | false => rw [hb] at k1; exact ⟨.exit j, env1, p1, by simp only [xcode, h1, hb, cond_false], k1⟩
  | normal => exact ⟨.normal, env1, p1, by simp only [xcode, h1], k1⟩
  | ret => exact ⟨.ret, env1, p1, by simp only [xcode, h1], k1⟩
  | pan v => exact ⟨.pan v, env1, p1, by simp only [xcode, h1], k1⟩
  | panU v => exact ⟨.panU v, env1, p1, by simp only [xcode, h1], k1⟩
 | loop c ih =>
  intro m env p Q hm hp h
  simp only [zcode] at hm
  cases hx : zcode c with
  | none => simp [hx] at hm
  | some mx => simp only [hx, Option.some.injEq] at hm; subst hm; cases hp
 | rangeFunc f ps x y _ _ => intro m env p Q hm; simp [zcode] at hm
 | scope c _ => intro m env p Q hm; simp [zcode] at hm
 | goto l => intro m env p Q hm; simp [zcode] at hm
 | refuse why => intro m env p Q hm; simp [zcode] at hm
noncomputable def qcE (rs : List ResultVar) (ρ3 : Env) (K : XRes -> Prop) : ZQ := fun e _ q => match e with
 | .normal => finW (zres C ρ3 q rs) q K
 | .ret => finW (zres C ρ3 q rs) q K
 | _ => False
noncomputable def qcP (mr : ZC) (gd : Tmp) (cv : List CV) (rs : List ResultVar) (K : XRes -> Prop) : ZQ := fun e ρ3 p3 => match e with
 | .normal => W C mu ext call mr (put (argE cv) (some gd) (.sc .nilIface)) p3 (qcE C rs ρ3 K)
 | .ret => W C mu ext call mr (put (argE cv) (some gd) (.sc .nilIface)) p3 (qcE C rs ρ3 K)
 | .pan v => W C mu ext call mr (put (argE cv) (some gd) v) p3 (qcE C rs ρ3 K)
 | _ => False
noncomputable def qcB (mp mr : ZC) (x : XC) (K : XRes -> Prop) : ZQ := fun e ρ2 p2 => match e with
 | .normal => W C mu ext call mp (put ρ2 (some x.k) (.fn x.g [] (x.caps.map ρ2))) p2 (qcP C mu ext call mr x.gd (x.caps.map ρ2) x.rs K)
 | _ => False
noncomputable def qcA (mb mp mr : ZC) (x : XC) (K : XRes -> Prop) : ZQ := fun e ρ1 p1 => match e with
 | .normal => W C mu ext call mb ρ1 p1 (qcB C mu ext call mp mr x K)
 | _ => False
theorem qcA_n (mb mp mr : ZC) (x : XC) (K : XRes -> Prop) (ρ : Env) (p : Hp) : qcA C mu ext call mb mp mr x K .normal ρ p = W C mu ext call mb ρ p (qcB C mu ext call mp mr x K) := nd rfl
theorem qcB_n (mp mr : ZC) (x : XC) (K : XRes -> Prop) (ρ : Env) (p : Hp) : qcB C mu ext call mp mr x K .normal ρ p = W C mu ext call mp (put ρ (some x.k) (.fn x.g [] (x.caps.map ρ))) p (qcP C mu ext call mr x.gd (x.caps.map ρ) x.rs K) := nd rfl
theorem qcP_n (mr : ZC) (gd : Tmp) (cv : List CV) (rs : List ResultVar) (K : XRes -> Prop) (ρ : Env) (p : Hp) : qcP C mu ext call mr gd cv rs K .normal ρ p = W C mu ext call mr (put (argE cv) (some gd) (.sc .nilIface)) p (qcE C rs ρ K) := nd rfl
theorem qcP_r (mr : ZC) (gd : Tmp) (cv : List CV) (rs : List ResultVar) (K : XRes -> Prop) (ρ : Env) (p : Hp) : qcP C mu ext call mr gd cv rs K .ret ρ p = W C mu ext call mr (put (argE cv) (some gd) (.sc .nilIface)) p (qcE C rs ρ K) := nd rfl
theorem qcP_p (mr : ZC) (gd : Tmp) (cv : List CV) (rs : List ResultVar) (K : XRes -> Prop) (ρ : Env) (p : Hp) (v : CV) : qcP C mu ext call mr gd cv rs K (.pan v) ρ p = W C mu ext call mr (put (argE cv) (some gd) v) p (qcE C rs ρ K) := nd rfl
theorem qcE_n (rs : List ResultVar) (ρ3 : Env) (K : XRes -> Prop) (ρ : Env) (q : Hp) : qcE C rs ρ3 K .normal ρ q = finW (zres C ρ3 q rs) q K := nd rfl
theorem qcE_r (rs : List ResultVar) (ρ3 : Env) (K : XRes -> Prop) (ρ : Env) (q : Hp) : qcE C rs ρ3 K .ret ρ q = finW (zres C ρ3 q rs) q K := nd rfl
theorem fin_run {env : XEnv} {p : Hp} {rs : List ResultVar} {K : XRes -> Prop} (h : finW (zres C env.at p rs) p K) : K (xfin p (xres C env p rs)) := by
 rw [<- Z1z] at h
 cases hx : xres C env p rs with
 | none => simp [hx, finW] at h
 | some l => rw [hx] at h; exact h
theorem ans_catch {f : FuncId} {x : XC} (hf : XCok C f x) (hext : ExtOk C ext) (hT : CallOk C call) {ma mb mp mr : ZC} (ha : zcode x.a = some ma) (hb : zcode x.b = some mb) (hp : zcode x.post = some mp) (hr : zcode x.rest = some mr) (hpl : (ma.plain && mb.plain && mp.plain && mr.plain) = true)
  {args : List CV} {p : Hp} {r : XRes} (hl : args.length <= x.n) (hname : ∃ fn, C.P.funcs[f]? = some fn /\ fn.body.isNone = false /\ (fn.name == "runtime.NumGoroutine") = false)
  (h : Fine args p -> W C mu ext call ma (argE args) p (qcA C mu ext call mb mp mr x fun r' => ShrR p r' r)) : AnsAt C f args p r := by
 refine ⟨hname, fun w0 B S w vals r0 hV => ?_⟩
 have hW := h (fine_of r0 hV)
 simp only [Bool.and_eq_true] at hpl
 obtain ⟨⟨⟨p1, p2⟩, p3⟩, p4⟩ := hpl
 have hs := xcatch_sound C hext hT (mu := mu) (fuel := 0) hf r0 hV
 refine Ans.shr C r0 hs ?_
 unfold xcatch
 rw [Nat.ble_eq_true_of_le hl, cond_true]
 rw [<- argE_eq] at hW
 obtain ⟨e1, env1, q1, h1, k1⟩ := W_run C mu ext call 0 x.a ma _ p _ ha p1 hW
 rw [h1]
 cases e1 with
 | normal =>
  simp only
  obtain ⟨e2, env2, q2, h2, k2⟩ := W_run C mu ext call 0 x.b mb _ q1 _ hb p2 k1
  rw [h2]
  cases e2 with
  | normal =>
   simp only
   simp only [qcB] at k2
   rw [<- XEnv.at_put] at k2
   obtain ⟨e3, env3, q3, h3, k3⟩ := W_run C mu ext call 0 x.post mp _ q2 _ hp p3 k2
   rw [h3]
   have fin : ∀ rec : CV, W C mu ext call mr (put (argE (x.caps.map env2.at)) (some x.gd) rec) q3 (qcE C x.rs env3.at fun r' => ShrR p r' r) -> ShrR p (xcatchEnd C mu ext call 0 x (x.caps.map env2.at) rec env3 q3) r := by
    intro rec hw
    rw [<- argE_eq, <- XEnv.at_put] at hw
    obtain ⟨e4, env4, q4, h4, k4⟩ := W_run C mu ext call 0 x.rest mr _ q3 _ hr p4 hw
    unfold xcatchEnd
    rw [h4]
    cases e4 with
    | normal => exact fin_run C (K := fun r' => ShrR p r' r) k4
    | ret => exact fin_run C (K := fun r' => ShrR p r' r) k4
    | exit i => exact k4.elim
    | pan v => exact k4.elim
    | panU v => exact k4.elim
   cases e3 with
   | normal => exact fin _ k3
   | ret => exact fin _ k3
   | pan v => exact fin _ k3
   | exit i => exact k3.elim
   | panU v => exact k3.elim
  | exit i => exact k2.elim
  | ret => exact k2.elim
  | pan v => exact k2.elim
  | panU v => exact k2.elim
 | exit i => exact k1.elim
 | ret => exact k1.elim
 | pan v => exact k1.elim
 | panU v => exact k1.elim
end
end Go.Cl
end
section
namespace Go.Cl
theorem zunf (C : Ctx) {c d : ZC} (h : c = d) (mu : Bool) (ext : FuncId -> List CV -> Option CV) (call : XCall) (ρ : Env) (p : Hp) (Q : ZQ) : W C mu ext call c ρ p Q = W C mu ext call d ρ p Q := by rw [h]
set_option linter.defProp false in
def zall :=
 And.intro @W_seq <|
 And.intro @W_reg <|
 And.intro @W_draw <|
 And.intro @W_ret <|
 And.intro @W_skip <|
 And.intro @W_cond <|
 And.intro @W_block <|
 And.intro @W_exit <|
 And.intro @Wo_nil <|
 And.intro @Wo_on <|
 And.intro @Wo_gd <|
 And.intro @bindO_ret <|
 And.intro @bindO_pan <|
 And.intro @wantO_t <|
 And.intro @wantO_f <|
 And.intro @seqQ_n <|
 And.intro @seqQ_e <|
 And.intro @seqQ_r <|
 And.intro @seqQ_p <|
 And.intro @seqQ_u <|
 And.intro @blkQ_n <|
 And.intro @blkQ_e <|
 And.intro @blkQ_r <|
 And.intro @blkQ_p <|
 And.intro @blkQ_u <|
 And.intro @condW_t <|
 And.intro @condW_f <|
 And.intro @condW_not <|
 And.intro @zev_tmp <|
 And.intro @zev_const <|
 And.intro @zev_func <|
 And.intro @zofConst_int <|
 And.intro @X10 <|
 And.intro @ofConst_str <|
 And.intro @X1o <|
 And.intro @Z1c <|
 And.intro @Y1p <|
 And.intro @Z1f <|
 And.intro @K14 <|
 And.intro @Z1p <|
 And.intro @put_at <|
 And.intro @Y0c <|
 And.intro @K0e <|
 And.intro @V1s <|
 And.intro @qmin2 <|
 And.intro @qmax2 <|
 And.intro @endQ_r <|
 And.intro @endQ_n <|
 And.intro @endQ_p <|
 And.intro @endQ_u <|
 And.intro @zres_nil <|
 And.intro @zres_tmp <|
 And.intro @zres_cell <|
 And.intro @finW_some <|
 And.intro @pack_0 <|
 And.intro @pack_1 <|
 And.intro @pack_2 <|
 And.intro @qbin_int <|
 And.intro @qbin_float <|
 And.intro @qbin_bool <|
 And.intro @qbin_str <|
 And.intro @qbin_fnnil <|
 And.intro @qbin_ifcnil <|
 And.intro @qbin_nilnil <|
 And.intro @zwanted_b <|
 And.intro @Wd_nil <|
 And.intro @Wd_on <|
 And.intro @Wd_gd <|
 And.intro @wantD_t <|
 And.intro @wantD_f <|
 And.intro @stepD_q <|
 And.intro @stepD_e <|
 And.intro @stepD_a <|
 And.intro @bindQ_ret <|
 And.intro @bindE_ret <|
 And.intro @bindE_pan <|
 And.intro @histP_nil <|
 And.intro @histP_cons <|
 And.intro @histA_nil <|
 And.intro @histA_cons <|
 And.intro @allW_nil <|
 And.intro @allW_cons <|
 And.intro @memN_nil <|
 And.intro @memN_cons <|
 And.intro @pushW_nil <|
 And.intro @pushW_cons <|
 And.intro @pushH_t <|
 And.intro @pushH_f <|
 And.intro @still_eq <|
 And.intro @stillK_q <|
 And.intro @stillK_a <|
 And.intro @layZ_nil <|
 And.intro @layZ_cons <|
 And.intro @xcallv_fn <|
 And.intro @xld_p <|
 And.intro @xld_r <|
 And.intro @xfa_p <|
 And.intro @xfa_r <|
 And.intro @xia_p <|
 And.intro @xia_r <|
 And.intro @xia_s <|
 And.intro @xst_p <|
 And.intro @Hp.bump_get <|
 And.intro @Hp.bump_n <|
 And.intro @Hp.get_set_self <|
 And.intro @Hp.get_set_ne <|
 And.intro @Hp.get_new_self <|
 And.intro @Hp.get_new_eq <|
 And.intro @Hp.get_new_ne <|
 And.intro @Hp.zset_n <|
 And.intro @Hp.znew_n <|
 And.intro @V1d <|
 And.intro @beqT <|
 And.intro @beqF <|
 And.intro @subEq_self <|
 And.intro @cond_pos <|
 And.intro @cond_neg <|
 And.intro @inR_dec <|
 And.intro @at_nil <|
 And.intro @Q1x <|
 And.intro @shOk_sc <|
 And.intro @shOk_lst <|
 And.intro @shOk_lst' <|
 And.intro @shOk_ptr <|
 And.intro @shOk_slc <|
 And.intro @shOk_fn <|
 And.intro @shOk_ifc <|
 And.intro @Wn_succ <|
 And.intro @K0w <|
 And.intro @cast_lit <|
 And.intro @iteN <|
 And.intro @iteS <|
 And.intro @appT_0 <|
 And.intro @appT_n <|
 And.intro @appT_e <|
 And.intro @appT_c <|
 And.intro @appT_o <|
 And.intro @nilness_0 <|
 And.intro @nilness_e <|
 And.intro @nilness_p <|
 And.intro @nilness_o <|
 And.intro @nilness_v <|
 @nilness_n
set_option linter.defProp false in
def zheap := And.intro @Hp.bump_get <| And.intro @Hp.bump_n <| And.intro @Hp.get_set_self <| And.intro @Hp.get_set_ne <| And.intro @Hp.get_new_self <| And.intro @Hp.get_new_eq <| And.intro @Hp.get_new_ne <| And.intro @Hp.zset_n @Hp.znew_n
set_option linter.defProp false in
def zcore := And.intro @true_and <| And.intro @and_true <| And.intro @and_self <| And.intro @Bool.true_and <| And.intro @Bool.and_true <| And.intro @Bool.and_self <| And.intro @Bool.false_and <| And.intro @Bool.and_false <| And.intro Bool.not_true <| And.intro Bool.not_false <| And.intro @decide_true <| And.intro @decide_false <| @Int.toNat_natCast
set_option linter.defProp false in
def zhd := And.intro @decide_eq_true_eq <| And.intro @decide_eq_false_iff_not <| And.intro @Bool.or_eq_true <| And.intro @Bool.and_eq_true <| And.intro @Bool.not_eq_true <| And.intro @Bool.not_eq_false <| And.intro @Bool.not_not <| And.intro @Bool.not_eq_true' @Bool.not_eq_false'
set_option linter.defProp false in
def zhn := And.intro @Classical.not_not <| And.intro @Int.not_le @Int.not_lt
theorem zd1 {P : Prop} (h : P := by first | omega | (simp only [Hp.bump_n, Hp.znew_n, Hp.zset_n, List.length_nil, List.length_cons, List.length_append, List.length_map]; (first | done | omega))) : P := h
theorem zdis {P : Prop} (h : P := by first | assumption | omega | (simp only [Hp.bump_n, Hp.znew_n, Hp.zset_n, List.length_nil, List.length_cons, List.length_append, List.length_map]; (first | done | omega)) | (simp (disch := first | exact zd1 | fail) only [zheap, zx]; done) | (simp (disch := first | exact zd1 | fail) only [zheap, zx]; with_unfolding_all rfl) | (simp (disch := first | exact zd1 | fail) only [zheap, zx]; refine congrArg some (congrArg XObj.tail ?_); simp only [List.length_nil, List.length_cons, List.length_append, List.length_map]; (first | done | omega))) : P := h
theorem zle {P : Prop} (h : P := by intro k o h; have hd := hF.dom k o h; (try simp (disch := first | exact zdl | fail) only [Hp.bump_get, Hp.get_set_ne, Hp.get_new_ne, Hp.bump_n, Hp.znew_n, Hp.zset_n]); exact h) : P := h
theorem zlq {P : Prop} (h : P := by intro k o h; have hd := hF.dom k o h; (try simp (disch := first | exact zdl | fail) only [Hp.bump_get, Hp.get_set_ne, Hp.get_new_ne, Hp.bump_n, Hp.znew_n, Hp.zset_n]); exact hle k o h) : P := h
theorem zdl {P : Prop} (h : P := by first | assumption | omega | (simp only [Hp.bump_n, Hp.znew_n, Hp.zset_n, List.length_nil, List.length_cons, List.length_append, List.length_map]; (first | done | omega))) : P := h
end Go.Cl
end
section
namespace Go.Cl
open Go
abbrev Tm (n : Nat) : Operand := .tmp n
abbrev Kn (n : Int) : Operand := .const (.int .i64 n)
abbrev zcf (f : Nat) (a : List Operand) (t : List Nat) : Op := .call ⟨.value (.func f), ⟨a⟩, ⟨t⟩⟩
abbrev zcb (b : Builtin) (a : List Operand) (t : List Nat) : Op := .call ⟨.builtin b, ⟨a⟩, ⟨t⟩⟩
abbrev zfa (t x f : Nat) : Op := .fieldAddr t (.tmp x) f
abbrev zia (t x i : Nat) : Op := .indexAddr t (.tmp x) (.tmp i)
abbrev zld (t x : Nat) : Op := .load t (.tmp x)
abbrev zmv (x : Nat) : Op := .move (.tmp x)
abbrev zas (x : Nat) : Op := .assign (.tmp x)
abbrev zu (d : Nat) (o : Op) : LOp := ⟨some d, o, none, false⟩
abbrev zv (d : Nat) (o : Op) : LOp := ⟨some d, o, none, true⟩
abbrev zu0 (o : Op) : LOp := ⟨none, o, none, false⟩
abbrev zv0 (o : Op) : LOp := ⟨none, o, none, true⟩
abbrev zug (d : Nat) (o : Op) (g : Nat) (b f : Bool) : LOp := ⟨some d, o, some (g, b), f⟩
abbrev zdd (i d : Nat) (o : Op) (f : Bool) (a b : List Nat) (k : Bool) : DOp := ⟨i, some d, o, none, f, a, b, k⟩
abbrev zd0 (i : Nat) (o : Op) (f : Bool) (a b : List Nat) (k : Bool) : DOp := ⟨i, none, o, none, f, a, b, k⟩
theorem zA {a b : Prop} (x : a) (y : b) : a /\ b := ⟨x, y⟩
theorem zT : True := True.intro
set_option linter.defProp false in
def zU (C : Ctx) {n b : ZC} (h : n = b) {P : Prop} (k : P) := And.intro (zunf C h) k
theorem zQ {A B : Prop} (h : A = B := by ((try simp -dsimp (disch := first | exact zdis | fail) only [zcore, zall, zopm, zop, zcallOp, qop, qbuiltin, ofOpt, List.map, reduceCtorEq, if_true, if_false, ↓reduceIte, zbin, eqRes, qassert, qnum, qshift, qun, kindOf, allocV, List.nil_append, List.append_nil, List.cons_append, List.length_cons, List.length_nil, Nat.reduceAdd, Nat.reduceEqDiff, Nat.reduceLT, Nat.reduceSub, Nat.reduceMul, Int.reduceToNat, Int.reduceLE, Int.reduceLT, Int.reduceEq, Int.reduceNeg, Int.reduceAdd, Int.reduceSub, beq_self_eq_true, cond_true, cond_false, isConstOpd, xpanic, xconv, isBytes, qconv, List.length_map, List.map_nil, List.map_cons, concrete, Option.some.injEq, exists_eq', Option.map_some, Option.map_none, List.getElem?_cons_zero, List.getElem?_cons_succ, zy, zx, hc]); rfl)) : A = B := h
theorem zQd {A B : Prop} (h : A = B := by ((try simp -dsimp (disch := first | exact zd | fail) only [zcore, zall, zopm, zop, zcallOp, qop, qbuiltin, ofOpt, List.map, reduceCtorEq, if_true, if_false, ↓reduceIte, zbin, eqRes, qassert, qnum, qshift, qun, kindOf, allocV, List.nil_append, List.append_nil, List.cons_append, List.length_cons, List.length_nil, Nat.reduceAdd, Nat.reduceEqDiff, Nat.reduceLT, Nat.reduceSub, Nat.reduceMul, Int.reduceToNat, Int.reduceLE, Int.reduceLT, Int.reduceEq, Int.reduceNeg, Int.reduceAdd, Int.reduceSub, beq_self_eq_true, cond_true, cond_false, isConstOpd, xpanic, xconv, isBytes, qconv, List.length_map, List.map_nil, List.map_cons, concrete, Option.some.injEq, exists_eq', Option.map_some, Option.map_none, List.getElem?_cons_zero, List.getElem?_cons_succ, zy, zx, hc]); rfl)) : A = B := h
theorem zQf {A B : Prop} (h : A = B := by ((try simp -dsimp (disch := first | exact zdis | fail) only [zcore, zall, zopm, zop, zcallOp, qop, qbuiltin, ofOpt, List.map, reduceCtorEq, if_true, if_false, ↓reduceIte, zbin, eqRes, qassert, qnum, qshift, qun, kindOf, allocV, List.nil_append, List.append_nil, List.cons_append, List.length_cons, List.length_nil, Nat.reduceAdd, Nat.reduceEqDiff, Nat.reduceLT, Nat.reduceSub, Nat.reduceMul, Int.reduceToNat, Int.reduceLE, Int.reduceLT, Int.reduceEq, Int.reduceNeg, Int.reduceAdd, Int.reduceSub, beq_self_eq_true, cond_true, cond_false, isConstOpd, xpanic, xconv, isBytes, qconv, List.length_map, List.map_nil, List.map_cons, concrete, Option.some.injEq, exists_eq', Option.map_some, Option.map_none, List.getElem?_cons_zero, List.getElem?_cons_succ, qfloat, zy, zx, hc]); rfl)) : A = B := h
class zK (G : Prop) (H1 H2 : outParam Prop) : Prop where
 s : H1 -> H2 -> G
instance {t : Bool} {a b : Env -> Hp -> ZQ -> Prop} {ρ : Env} {p : Hp} {Q : ZQ} : zK (condW (.sc (.bool t)) a b ρ p Q) (t = true -> a ρ p Q) (t = false -> b ρ p Q) := ⟨Y0i⟩
instance {b : Bool} {r : XRes} {d : Option Tmp} {k : Env -> Hp -> ZQ -> Prop} {ρ : Env} {p : Hp} {Q : ZQ} : zK (wantO (some b) r d k ρ p Q) (b = true -> bindO r d k ρ Q) (b = false -> k (put ρ d (.tup [])) p Q) := ⟨K0j⟩
instance {C : Ctx} {mu : Bool} {ext : FuncId -> List CV -> Option CV} {call : XCall} {b : Bool} {k : Kind} {n0 : Nat} {ρ0 : Env} {o : DOp} {l : List DOp} {hist : List (Nat × Hp)} {wt : List Watch} {ρ : Env} {p : Hp} {Q : ZQ} : zK (wantD C mu ext call (some b) k n0 ρ0 o l hist wt ρ p Q) (b = true -> stepD C mu ext call k n0 ρ0 o l hist wt ρ p Q) (b = false -> Wd C mu ext call n0 ρ0 l hist wt (put ρ o.dst (.tup [])) p Q) := ⟨Z0i C mu ext call⟩
instance {c : Prop} {_ : Decidable c} {a b : XRes} {d : Option Tmp} {k : Env -> Hp -> ZQ -> Prop} {ρ : Env} {Q : ZQ} : zK (bindO (if c then a else b) d k ρ Q) (c -> bindO a d k ρ Q) (¬ c -> bindO b d k ρ Q) := ⟨V0j⟩
instance {C : Ctx} {mu : Bool} {ext : FuncId -> List CV -> Option CV} {call : XCall} {c : Prop} {_ : Decidable c} {a b : XRes} {n0 : Nat} {ρ0 : Env} {o : DOp} {l : List DOp} {hist : List (Nat × Hp)} {wt : List Watch} {ρ : Env} {p : Hp} {Q : ZQ} : zK (bindE C mu ext call (if c then a else b) n0 ρ0 o l hist wt ρ p Q) (c -> bindE C mu ext call a n0 ρ0 o l hist wt ρ p Q) (¬ c -> bindE C mu ext call b n0 ρ0 o l hist wt ρ p Q) := ⟨Q0j C mu ext call⟩
theorem zg8 {P : Prop} (h : P := by simp (disch := (first | omega | (simp only [Hp.bump_n, Hp.znew_n, Hp.zset_n]; omega))) only [Hp.bump_get, Hp.get_set_self, Hp.get_set_ne, Hp.get_new_ne, Hp.get_new_self, g1, g2, g3]; first | done | rfl) : P := h
theorem hc : True := True.intro
theorem zev {P : Prop} (h : P := by (try simp [put_at, Y0c]); first | done | assumption | (simp [*]; first | done | omega)) : P := h
def ConAll (C : Ctx) : List (FuncId × Rel) -> Prop
 | [] => True
 | (f, R) :: l => Con C f R /\ ConAll C l
def HasAll (T : XCall) : List (FuncId × Rel) -> Prop
 | [] => True
 | (f, R) :: l => Has T f R /\ HasAll T l
def ndL : List (FuncId × Rel) -> Bool
 | [] => true
 | (g, _) :: l => (l.all fun x => !(Nat.beq x.1 g)) && ndL l
theorem has_mono (C : Ctx) {g : FuncId} {R' : Rel} {l : List (FuncId × Rel)} : ∀ m : List (FuncId × Rel), (m.all fun x => !(Nat.beq x.1 g)) = true -> HasAll (tabL C l) m -> HasAll (tabL C ((g, R') :: l)) m
 | [], _, _ => trivial
 | (f, R) :: m, h, k => by
  simp only [List.all_cons, Bool.and_eq_true, Bool.not_eq_true'] at h
  exact ⟨has_tail C l h.1 k.1, has_mono C m h.2 k.2⟩
theorem has_all (C : Ctx) : ∀ L : List (FuncId × Rel), ConAll C L -> ndL L = true -> HasAll (tabL C L) L
 | [], _, _ => trivial
 | (f, R) :: l, h, k => by
  simp only [ndL, Bool.and_eq_true] at k
  exact ⟨has_head C h.1 l, has_mono C l k.1 (has_all C l h.2 k.2)⟩
theorem zW (C : Ctx) (mu : Bool) (L : List (FuncId × Rel)) (hL : ConAll C L) (nd : ndL L = true) {f : FuncId} {x : XF} (hf : XFok C f x) {m : ZC} (hm : zcode x.code = some m) {args : List CV} {p : Hp} {r : XRes}
  (h : ∀ call, HasAll call L -> Fine args p -> W C mu noExt call m (argE args) p (endQ C x.rs fun r' => ShrR p r' r)) (hl : args.length <= x.n := by exact Nat.le_of_ble_eq_true (by kernel_rfl)) : AnsAt C f args p r :=
 ans_walk C mu noExt (tabL C L) hf (noExt_ok C) (Y08 C _) hm hl fun hF => h _ (has_all C L hL nd) hF
theorem zb9 {P : Prop} (h : P := by simp only [Hp.bump_n, Hp.znew_n, Hp.zset_n]; omega) : P := h
theorem zr1 {P : Prop} (h : P := by first | (split <;> simp; done) | (simp; done)) : P := h
theorem zg9 {P : Prop} (h : P := by (try simp (disch := first | exact zdl | fail) only [zheap]); first | done | assumption | rfl) : P := h
theorem zF (C : Ctx) (f : FuncId) (fn : Func) (h1 : C.P.funcs[f]? = some fn := by kernel_rfl) (h2 : fn.body = some (xfOf fn).code := by kernel_rfl) (h3 : fn.results.toList = (xfOf fn).rs := by kernel_rfl) (h4 : fn.ntmps = (xfOf fn).n := by kernel_rfl) (h5 : (fn.name == "runtime.NumGoroutine") = false := by kernel_rfl) (h6 : okCode (xfOf fn).n (xfOf fn).code = true := by kernel_rfl) (h7 : (xfOf fn).rs.all (okRes (xfOf fn).n) = true := by kernel_rfl) : XFok C f (xfOf fn) := ⟨fn, h1, h2, h3, h4, h5, h6, h7⟩
end Go.Cl
end
