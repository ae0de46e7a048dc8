import Derived.Test.YtpchcfkebljopaaChecked
import Derived.Test.YtpchcfkebljopaaXf
set_option linter.unusedSimpArgs false
set_option linter.unusedVariables false
set_option linter.constructorNameAsVariable false
section
namespace Go.Cl
open Go.RowKit
theorem nd {α : Sort _} {a b : α} (h : a = b) : a = b := h
abbrev I (n : Int) : CV := .sc (.int .i64 n)
abbrev U (n : Int) : CV := .sc (.int .u64 n)
abbrev Bo (b : Bool) : CV := .sc (.bool b)
abbrev Fl (n : Nat) : CV := .sc (.float .f64 n)
def nth {α : Type} [Inhabited α] (l : List α) (k : Nat) : α := (l[k]?).getD default
theorem Q0s {α : Type} [Inhabited α] {l : List α} {k : Nat} (h : k < l.length) : l[k]? = some (nth l k) := by simp [nth, h]
theorem Y0y {α : Type} [Inhabited α] {l : List α} {k : Nat} (h : k < l.length) : nth l k = l[k] := by simp [nth, h]
theorem nth_ext {α : Type} [Inhabited α] {l m : List α} (h : l.length = m.length) (e : ∀ j, j < l.length → nth l j = nth m j) : l = m := by
  apply List.ext_getElem? 
  intro j
  by_cases hj : j < l.length
  · rw [Q0s hj, Q0s (by omega), e j hj]
  · rw [List.getElem?_eq_none (by omega), List.getElem?_eq_none (by omega)]
structure Lst (α : Type) where
  tl : Tail
  l : List α
  ok : tl = .nil → l = []
instance {α : Type} : Inhabited (Lst α) := ⟨⟨.nil, [], fun _ => rfl⟩⟩
def Lst.cv {α : Type} (f : α → CV) (s : Lst α) : CV := .lst s.tl (s.l.map f)
section values
variable {α : Type}
set_option linter.constructorNameAsVariable false
theorem at_nil (v : CV) : v.at [] = some v := by cases v <;> rfl
theorem Z1n (v x : CV) : v.set [] x = x := by cases v <;> rfl
theorem arr_at [Inhabited α] (f : α → CV) {l : List α} {k : Nat} (h : k < l.length) (q : List Nat) : CV.at (.agg (l.map f)) (k :: q) = (f (nth l k)).at q := by
  simp [CV.at, Y0y h, h]
theorem K1n [Inhabited α] (f : α → CV) {l : List α} {k : Nat} (h : k < l.length) (q : List Nat) (v : CV) : CV.set (.agg (l.map f)) (k :: q) v = .agg ((l.map f).set k ((f (nth l k)).set q v)) := by
  simp [CV.set, Y0y h, h]
theorem V0k {f : α → CV} {s : Shape} (h : ∀ x, (f x).shape = s) : ∀ l : List α, CV.shapes (l.map f) = List.replicate l.length s
  | [] => rfl
  | x :: l => by simp [CV.shapes, h, V0k h l, List.replicate_succ]
theorem Lst.shape (f : α → CV) (s : Lst α) : (s.cv f).shape = .s := nd rfl
theorem Lst.has (f : α → CV) (h : ∀ x j, ¬ (f x).has j) (s : Lst α) (j : Nat) : (s.cv f).has j ↔ s.tl = .own j := by
  simp only [Lst.cv, CV.has, CV.hasL_iff]
  constructor
  · rintro (h1 | ⟨v, hv, hj⟩)
    · exact h1
    · obtain ⟨x, _, rfl⟩ := List.mem_map.1 hv
      exact (h x j hj).elim
  · exact .inl
theorem Y08 {f : α → CV} (h : ∀ x y, f x = f y → x = y) : ∀ {l m : List α}, l.map f = m.map f → l = m
  | [], [], _ => rfl
  | [], _ :: _, e => by simp at e
  | _ :: _, [], e => by simp at e
  | x :: l, y :: m, e => by
    simp only [List.map_cons, List.cons.injEq] at e
    rw [h x y e.1, Y08 h e.2]
theorem Lst.inj {f : α → CV} (h : ∀ x y, f x = f y → x = y) {s t : Lst α} (e : s.cv f = t.cv f) : s = t := by
  obtain ⟨tl, l, o⟩ := s
  obtain ⟨ul, m, o'⟩ := t
  simp only [Lst.cv, CV.lst.injEq] at e
  obtain ⟨rfl, e⟩ := e
  have := Y08 h e
  subst this
  rfl
theorem Lst.injF {f : α → CV} (h : ∀ x y, f x = f y → x = y) (s t : Lst α) (e : s.cv f = t.cv f) : s = t := Lst.inj h e
theorem V0p {f : α → CV} (h : ∀ x j, ¬ (f x).has j) (l : List α) (j : Nat) : ¬ CV.hasL j (l.map f) := by
  rw [CV.hasL_iff]
  rintro ⟨v, hv, hj⟩
  obtain ⟨x, _, rfl⟩ := List.mem_map.1 hv
  exact h x j hj
theorem I_has (n : Int) (j : Nat) : ¬ (I n).has j := fun h => by simp [CV.has] at h
theorem I_inj (a b : Int) (h : I a = I b) : a = b := by injection h with h; injection h
theorem U_inj (a b : Int) (h : U a = U b) : a = b := by injection h with h; injection h
theorem Bo_has (n : Bool) (j : Nat) : ¬ (Bo n).has j := fun h => by simp [CV.has] at h
theorem Bo_inj (a b : Bool) (h : Bo a = Bo b) : a = b := by injection h with h; injection h
theorem Fl_inj (a b : Nat) (h : Fl a = Fl b) : a = b := by injection h with h; injection h
end values
section eqs
theorem cond_pos {α : Type} {P : Prop} [Decidable P] (h : P) (a b : α) : cond (decide P) a b = a := by simp [h]
theorem cond_neg {α : Type} {P : Prop} [Decidable P] (h : ¬ P) (a b : α) : cond (decide P) a b = b := by simp [h]
theorem inR_dec (n : Int) (k : Nat) : inR n k = decide (0 ≤ n ∧ n < k) := by
  cases h : inR n k with
  | true => obtain ⟨h1, h2, _⟩ := inR_spec h; simp [h1, h2]
  | false =>
    unfold inR at h
    cases n with
    | ofNat m =>
      simp only [K07] at h
      simp at h ⊢; omega
    | negSucc m =>
      have : ¬ (0 ≤ Int.negSucc m) := by omega
      simp [this]
theorem Hp.get_set_self (p : Hp) (i : Nat) (o : Option XObj) : (p.set i o).t.get i = o := by rw [Hp.get_set, if_pos rfl]
theorem Hp.get_set_ne (p : Hp) (i : Nat) (o : Option XObj) {j : Nat} (h : j ≠ i) : (p.set i o).t.get j = p.t.get j := by rw [Hp.get_set, if_neg h]
theorem Hp.get_new_self (p : Hp) (o : XObj) : (p.new o).t.get p.n = some o := by rw [Hp.get_new, if_pos rfl]
theorem Hp.get_new_ne (p : Hp) (o : XObj) {j : Nat} (h : j ≠ p.n) : (p.new o).t.get j = p.t.get j := by rw [Hp.get_new, if_neg h]
theorem Hp.znew_n (p : Hp) (o : XObj) : (p.new o).n = p.n + 1 := nd rfl
theorem Hp.zset_n (p : Hp) (i : Nat) (o : Option XObj) : (p.set i o).n = p.n := nd rfl
theorem Hp.get_new_eq (p : Hp) (o : XObj) {j : Nat} (h : j = p.n) : (p.new o).t.get j = some o := by rw [Hp.get_new, if_pos h]
theorem Hp.bump_get (p : Hp) (n j : Nat) : (p.bump n).t.get j = p.t.get j := nd rfl
theorem Hp.bump_n (p : Hp) (n : Nat) : (p.bump n).n = p.n + n := nd rfl
theorem ofConst_str (b : ByteArray) : ofConst (.string b) = .sc (.string b) := nd rfl
theorem X06 : ofConst (.slice none 0 0) = .lst .nil [] := nd rfl
theorem V1g : ofConst (.pointer none) = .sc (.pointer none) := nd rfl
theorem X1b : ofConst .nilFunc = .sc .nilFunc := nd rfl
theorem V1q : ofConst .nilIface = .sc .nilIface := nd rfl
theorem Q1i : ofConst (.map none) = .sc (.map none) := nd rfl
theorem put_at (ρ : Env) (d : Tmp) (v : CV) (t : Nat) : put ρ (some d) v t = if t = d then v else ρ t := nd rfl
theorem zev_tmp (ρ : Env) (t : Tmp) : ev ρ (.tmp t) = ρ t := nd rfl
theorem zev_const (ρ : Env) (v : Value) : ev ρ (.const v) = ofConst v := nd rfl
theorem zev_func (ρ : Env) (f : FuncId) : ev ρ (.func f) = .fn f [] [] := nd rfl
theorem zofConst_int (k : IntKind) (n : Int) : ofConst (.int k n) = .sc (.int k n) := nd rfl
theorem Y1q (b : Bool) : ofConst (.bool b) = .sc (.bool b) := nd rfl
theorem K1i (k : FloatKind) (b : Nat) : ofConst (.float k b) = .sc (.float k b) := nd rfl
theorem Z0a (ρ : Env) (v : CV) : put ρ none v = ρ := nd rfl
theorem V0f (a : CV) (l : List CV) : argE (a :: l) 0 = a := nd rfl
theorem argE_s (a : CV) (l : List CV) (t : Nat) : argE (a :: l) (t + 1) = argE l t := by simp [argE]
theorem seqQ_n (k : Env → Hp → ZQ → Prop) (Q : ZQ) (ρ : Env) (p : Hp) : seqQ k Q .normal ρ p = k ρ p Q := nd rfl
theorem seqQ_e (k : Env → Hp → ZQ → Prop) (Q : ZQ) (i : Nat) (ρ : Env) (p : Hp) : seqQ k Q (.exit i) ρ p = Q (.exit i) ρ p := nd rfl
theorem seqQ_r (k : Env → Hp → ZQ → Prop) (Q : ZQ) (ρ : Env) (p : Hp) : seqQ k Q .ret ρ p = Q .ret ρ p := nd rfl
theorem seqQ_p (k : Env → Hp → ZQ → Prop) (Q : ZQ) (v : CV) (ρ : Env) (p : Hp) : seqQ k Q (.pan v) ρ p = Q (.pan v) ρ p := nd rfl
theorem seqQ_u (k : Env → Hp → ZQ → Prop) (Q : ZQ) (v : CV) (ρ : Env) (p : Hp) : seqQ k Q (.panU v) ρ p = Q (.panU v) ρ p := nd rfl
theorem blkQ_n (id : Nat) (Q : ZQ) (ρ : Env) (p : Hp) : blkQ id Q .normal ρ p = Q .normal ρ p := nd rfl
theorem blkQ_e (id : Nat) (Q : ZQ) (i : Nat) (ρ : Env) (p : Hp) : blkQ id Q (.exit i) ρ p = if i = id then Q .normal ρ p else Q (.exit i) ρ p := by
  show (bif Nat.beq i id then Q .normal ρ p else Q (.exit i) ρ p) = _
  cases h : Nat.beq i id with
  | true => rw [if_pos (Nat.eq_of_beq_eq_true h)]; rfl
  | false => rw [if_neg (Nat.ne_of_beq_eq_false h)]; rfl
theorem blkQ_r (id : Nat) (Q : ZQ) (ρ : Env) (p : Hp) : blkQ id Q .ret ρ p = Q .ret ρ p := nd rfl
theorem blkQ_p (id : Nat) (Q : ZQ) (v : CV) (ρ : Env) (p : Hp) : blkQ id Q (.pan v) ρ p = Q (.pan v) ρ p := nd rfl
theorem blkQ_u (id : Nat) (Q : ZQ) (v : CV) (ρ : Env) (p : Hp) : blkQ id Q (.panU v) ρ p = Q (.panU v) ρ p := nd rfl
theorem condW_t (a b : Env → Hp → ZQ → Prop) (ρ : Env) (p : Hp) (Q : ZQ) : condW (.sc (.bool true)) a b ρ p Q = a ρ p Q := nd rfl
theorem condW_f (a b : Env → Hp → ZQ → Prop) (ρ : Env) (p : Hp) (Q : ZQ) : condW (.sc (.bool false)) a b ρ p Q = b ρ p Q := nd rfl
theorem condW_not (t : Bool) (a b : Env → Hp → ZQ → Prop) (ρ : Env) (p : Hp) (Q : ZQ) : condW (.sc (.bool (!t))) a b ρ p Q = condW (.sc (.bool t)) b a ρ p Q := by cases t <;> rfl
theorem K0d {t : Bool} {a b : Env → Hp → ZQ → Prop} {ρ : Env} {p : Hp} {Q : ZQ} (h1 : t = true → a ρ p Q) (h2 : t = false → b ρ p Q) : condW (.sc (.bool t)) a b ρ p Q := by
  cases t with
  | true => exact h1 rfl
  | false => exact h2 rfl
end eqs
section steps
variable (C : Ctx) (mu : Bool) (ext : FuncId → List CV → Option CV) (call : XCall)
def bindO (r : XRes) (d : Option Tmp) (k : Env → Hp → ZQ → Prop) (ρ : Env) (Q : ZQ) : Prop :=
  match r with
  | .ret v q => k (put ρ d v) q Q
  | .pan v q => Q (.pan v) ρ q
  | .stuck => False
def wantO (w : Option Bool) (r : XRes) (d : Option Tmp) (k : Env → Hp → ZQ → Prop) (ρ : Env) (p : Hp) (Q : ZQ) : Prop :=
  match w with
  | some true => bindO r d k ρ Q
  | some false => k (put ρ d (.tup [])) p Q
  | none => False
theorem Wo_nil (ρ : Env) (p : Hp) (Q : ZQ) : Wo C mu ext call [] ρ p Q = Q .normal ρ p := nd rfl
theorem Wo_on (d : Option Tmp) (o : Op) (f : Bool) (l : List LOp) (ρ : Env) (p : Hp) (Q : ZQ) : Wo C mu ext call (⟨d, o, none, f⟩ :: l) ρ p Q = bindO (zopm C mu ext call ρ p o) d (Wo C mu ext call l) ρ Q := nd rfl
theorem Wo_gd (d : Option Tmp) (o : Op) (t : Tmp) (w : Bool) (f : Bool) (l : List LOp) (ρ : Env) (p : Hp) (Q : ZQ) : Wo C mu ext call (⟨d, o, some (t, w), f⟩ :: l) ρ p Q = wantO (zwanted ρ (some (t, w))) (zopm C mu ext call ρ p o) d (Wo C mu ext call l) ρ p Q := by
  simp only [Wo, wantO, bindO]
  cases zwanted ρ (some (t, w)) with
  | none => rfl
  | some b => cases b <;> rfl
theorem bindO_ret (v : CV) (q : Hp) (d : Option Tmp) (k : Env → Hp → ZQ → Prop) (ρ : Env) (Q : ZQ) : bindO (.ret v q) d k ρ Q = k (put ρ d v) q Q := nd rfl
theorem bindO_ite {c : Prop} [Decidable c] (a b : XRes) (d : Option Tmp) (k : Env → Hp → ZQ → Prop) (ρ : Env) (Q : ZQ) : bindO (if c then a else b) d k ρ Q ↔ ((c → bindO a d k ρ Q) ∧ (¬ c → bindO b d k ρ Q)) := by
  by_cases h : c <;> simp [h]
theorem Q0d {c : Prop} [Decidable c] {a b : XRes} {d : Option Tmp} {k : Env → Hp → ZQ → Prop} {ρ : Env} {Q : ZQ} (h1 : c → bindO a d k ρ Q) (h2 : ¬ c → bindO b d k ρ Q) : bindO (if c then a else b) d k ρ Q := (bindO_ite a b d k ρ Q).2 ⟨h1, h2⟩
theorem Z0c {b : Bool} {r : XRes} {d : Option Tmp} {k : Env → Hp → ZQ → Prop} {ρ : Env} {p : Hp} {Q : ZQ} (h1 : b = true → bindO r d k ρ Q) (h2 : b = false → k (put ρ d (.tup [])) p Q) : wantO (some b) r d k ρ p Q := by
  cases b with
  | true => exact h1 rfl
  | false => exact h2 rfl
theorem bindO_pan (v : CV) (q : Hp) (d : Option Tmp) (k : Env → Hp → ZQ → Prop) (ρ : Env) (Q : ZQ) : bindO (.pan v q) d k ρ Q = Q (.pan v) ρ q := nd rfl
theorem wantO_t (r : XRes) (d : Option Tmp) (k : Env → Hp → ZQ → Prop) (ρ : Env) (p : Hp) (Q : ZQ) : wantO (some true) r d k ρ p Q = bindO r d k ρ Q := nd rfl
theorem wantO_f (r : XRes) (d : Option Tmp) (k : Env → Hp → ZQ → Prop) (ρ : Env) (p : Hp) (Q : ZQ) : wantO (some false) r d k ρ p Q = k (put ρ d (.tup [])) p Q := nd rfl
theorem zwanted_b (ρ : Env) (t : Tmp) (w : Bool) : zwanted ρ (some (t, w)) = match ρ t with
    | .sc (.bool b) => some (b == w)
    | .tup [] => some false
    | _ => none := rfl
noncomputable def stepD (k : Kind) (n0 : Nat) (ρ0 : Env) (o : DOp) (l : List DOp) (hist : List (Nat × Hp)) (wt : List Watch) (ρ : Env) (p : Hp) (Q : ZQ) : Prop :=
  match k with
  | .quiet => match zop C mu ext call ρ p o.op with
    | .ret v _ => histP C mu ext call n0 ⟨o.fw, o.ix, ρ, o.op, v⟩ o.bk hist ∧ Wd C mu ext call n0 ρ0 l hist (pushW ⟨o.fw, o.ix, ρ, o.op, v⟩ wt) (put ρ o.dst v) p Q
    | _ => False
  | .alloc => still C mu ext call n0 ⟨o.fw, o.ix, ρ, o.op, allocV o.op (n0 + o.ix)⟩ p ∧ histP C mu ext call n0 ⟨o.fw, o.ix, ρ, o.op, allocV o.op (n0 + o.ix)⟩ o.bk hist ∧ Wd C mu ext call n0 ρ0 l hist (pushW ⟨o.fw, o.ix, ρ, o.op, allocV o.op (n0 + o.ix)⟩ wt) (put ρ o.dst (allocV o.op (n0 + o.ix))) p Q
  | .eff => match zop C mu ext call ρ p o.op with
    | .ret v q => (∀ w ∈ wt, o.ix ∈ w.fw → still C mu ext call n0 w q) ∧ Wd C mu ext call n0 ρ0 l (pushH o.keep (o.ix, p) hist) wt (put ρ o.dst v) q Q
    | .pan v q => o.fin = true ∧ Q (.panU v) ρ0 q
    | .stuck => False
noncomputable def bindQ (r : XRes) (n0 : Nat) (ρ0 : Env) (o : DOp) (l : List DOp) (hist : List (Nat × Hp)) (wt : List Watch) (ρ : Env) (p : Hp) (Q : ZQ) : Prop :=
  match r with
  | .ret v _ => histP C mu ext call n0 ⟨o.fw, o.ix, ρ, o.op, v⟩ o.bk hist ∧ Wd C mu ext call n0 ρ0 l hist (pushW ⟨o.fw, o.ix, ρ, o.op, v⟩ wt) (put ρ o.dst v) p Q
  | _ => False
noncomputable def bindE (r : XRes) (n0 : Nat) (ρ0 : Env) (o : DOp) (l : List DOp) (hist : List (Nat × Hp)) (wt : List Watch) (ρ : Env) (p : Hp) (Q : ZQ) : Prop :=
  match r with
  | .ret v q => (∀ w ∈ wt, o.ix ∈ w.fw → still C mu ext call n0 w q) ∧ Wd C mu ext call n0 ρ0 l (pushH o.keep (o.ix, p) hist) wt (put ρ o.dst v) q Q
  | .pan v q => o.fin = true ∧ Q (.panU v) ρ0 q
  | .stuck => False
theorem Wd_nil (n0 : Nat) (ρ0 : Env) (hist : List (Nat × Hp)) (wt : List Watch) (ρ : Env) (p : Hp) (Q : ZQ) : Wd C mu ext call n0 ρ0 [] hist wt ρ p Q = Q .normal ρ p := nd rfl
theorem Wd_on (n0 : Nat) (ρ0 : Env) (ix : Nat) (d : Option Tmp) (op : Op) (fin : Bool) (bk fw : List Nat) (keep : Bool) (l : List DOp) (hist : List (Nat × Hp)) (wt : List Watch) (ρ : Env) (p : Hp) (Q : ZQ) :
    Wd C mu ext call n0 ρ0 (⟨ix, d, op, none, fin, bk, fw, keep⟩ :: l) hist wt ρ p Q = stepD C mu ext call (kindOf op) n0 ρ0 ⟨ix, d, op, none, fin, bk, fw, keep⟩ l hist wt ρ p Q := by
  simp only [Wd, zwanted, stepD] <;> rfl
noncomputable def wantD (w : Option Bool) (k : Kind) (n0 : Nat) (ρ0 : Env) (o : DOp) (l : List DOp) (hist : List (Nat × Hp)) (wt : List Watch) (ρ : Env) (p : Hp) (Q : ZQ) : Prop :=
  match w with
  | some true => stepD C mu ext call k n0 ρ0 o l hist wt ρ p Q
  | some false => Wd C mu ext call n0 ρ0 l hist wt (put ρ o.dst (.tup [])) p Q
  | none => False
theorem Wd_gd (n0 : Nat) (ρ0 : Env) (ix : Nat) (d : Option Tmp) (op : Op) (t : Tmp) (b : Bool) (fin : Bool) (bk fw : List Nat) (keep : Bool) (l : List DOp) (hist : List (Nat × Hp)) (wt : List Watch) (ρ : Env) (p : Hp) (Q : ZQ) :
    Wd C mu ext call n0 ρ0 (⟨ix, d, op, some (t, b), fin, bk, fw, keep⟩ :: l) hist wt ρ p Q = wantD C mu ext call (zwanted ρ (some (t, b))) (kindOf op) n0 ρ0 ⟨ix, d, op, some (t, b), fin, bk, fw, keep⟩ l hist wt ρ p Q := by
  simp only [Wd, wantD, stepD]
  cases zwanted ρ (some (t, b)) with
  | none => rfl
  | some x =>
    cases x with
    | false => rfl
    | true =>
      first | (simp only; done) | (simp only; cases kindOf op <;> first | rfl | (simp only; cases zop C mu ext call ρ p op <;> rfl))
theorem wantD_t (k : Kind) (n0 : Nat) (ρ0 : Env) (o : DOp) (l : List DOp) (hist : List (Nat × Hp)) (wt : List Watch) (ρ : Env) (p : Hp) (Q : ZQ) : wantD C mu ext call (some true) k n0 ρ0 o l hist wt ρ p Q = stepD C mu ext call k n0 ρ0 o l hist wt ρ p Q := nd rfl
theorem wantD_f (k : Kind) (n0 : Nat) (ρ0 : Env) (ix : Nat) (d : Option Tmp) (op : Op) (g : Option (Tmp × Bool)) (fin : Bool) (bk fw : List Nat) (keep : Bool) (l : List DOp) (hist : List (Nat × Hp)) (wt : List Watch) (ρ : Env) (p : Hp) (Q : ZQ) : wantD C mu ext call (some false) k n0 ρ0 ⟨ix, d, op, g, fin, bk, fw, keep⟩ l hist wt ρ p Q = Wd C mu ext call n0 ρ0 l hist wt (put ρ d (.tup [])) p Q := nd rfl
theorem X0d {b : Bool} {k : Kind} {n0 : Nat} {ρ0 : Env} {o : DOp} {l : List DOp} {hist : List (Nat × Hp)} {wt : List Watch} {ρ : Env} {p : Hp} {Q : ZQ} (h1 : b = true → stepD C mu ext call k n0 ρ0 o l hist wt ρ p Q) (h2 : b = false → Wd C mu ext call n0 ρ0 l hist wt (put ρ o.dst (.tup [])) p Q) : wantD C mu ext call (some b) k n0 ρ0 o l hist wt ρ p Q := by
  cases b with
  | true => exact h1 rfl
  | false => exact h2 rfl
theorem V0d {c : Prop} [Decidable c] {a b : XRes} {n0 : Nat} {ρ0 : Env} {o : DOp} {l : List DOp} {hist : List (Nat × Hp)} {wt : List Watch} {ρ : Env} {p : Hp} {Q : ZQ} (h1 : c → bindE C mu ext call a n0 ρ0 o l hist wt ρ p Q) (h2 : ¬ c → bindE C mu ext call b n0 ρ0 o l hist wt ρ p Q) : bindE C mu ext call (if c then a else b) n0 ρ0 o l hist wt ρ p Q := by
  by_cases h : c
  · rw [if_pos h]; exact h1 h
  · rw [if_neg h]; exact h2 h
theorem stepD_q (n0 : Nat) (ρ0 : Env) (ix : Nat) (d : Option Tmp) (op : Op) (g : Option (Tmp × Bool)) (fin : Bool) (bk fw : List Nat) (keep : Bool) (l : List DOp) (hist : List (Nat × Hp)) (wt : List Watch) (ρ : Env) (p : Hp) (Q : ZQ) :
    stepD C mu ext call .quiet n0 ρ0 ⟨ix, d, op, g, fin, bk, fw, keep⟩ l hist wt ρ p Q = bindQ C mu ext call (zop C mu ext call ρ p op) n0 ρ0 ⟨ix, d, op, g, fin, bk, fw, keep⟩ l hist wt ρ p Q := nd rfl
theorem stepD_e (n0 : Nat) (ρ0 : Env) (ix : Nat) (d : Option Tmp) (op : Op) (g : Option (Tmp × Bool)) (fin : Bool) (bk fw : List Nat) (keep : Bool) (l : List DOp) (hist : List (Nat × Hp)) (wt : List Watch) (ρ : Env) (p : Hp) (Q : ZQ) :
    stepD C mu ext call .eff n0 ρ0 ⟨ix, d, op, g, fin, bk, fw, keep⟩ l hist wt ρ p Q = bindE C mu ext call (zop C mu ext call ρ p op) n0 ρ0 ⟨ix, d, op, g, fin, bk, fw, keep⟩ l hist wt ρ p Q := by
  simp only [stepD, bindE]
theorem stepD_a (n0 : Nat) (ρ0 : Env) (ix : Nat) (d : Option Tmp) (op : Op) (g : Option (Tmp × Bool)) (fin : Bool) (bk fw : List Nat) (keep : Bool) (l : List DOp) (hist : List (Nat × Hp)) (wt : List Watch) (ρ : Env) (p : Hp) (Q : ZQ) :
    stepD C mu ext call .alloc n0 ρ0 ⟨ix, d, op, g, fin, bk, fw, keep⟩ l hist wt ρ p Q = (still C mu ext call n0 ⟨fw, ix, ρ, op, allocV op (n0 + ix)⟩ p ∧ histP C mu ext call n0 ⟨fw, ix, ρ, op, allocV op (n0 + ix)⟩ bk hist ∧ Wd C mu ext call n0 ρ0 l hist (pushW ⟨fw, ix, ρ, op, allocV op (n0 + ix)⟩ wt) (put ρ d (allocV op (n0 + ix))) p Q) := nd rfl
theorem bindQ_ret (v : CV) (q : Hp) (n0 : Nat) (ρ0 : Env) (ix : Nat) (d : Option Tmp) (op : Op) (g : Option (Tmp × Bool)) (fin : Bool) (bk fw : List Nat) (keep : Bool) (l : List DOp) (hist : List (Nat × Hp)) (wt : List Watch) (ρ : Env) (p : Hp) (Q : ZQ) :
    bindQ C mu ext call (.ret v q) n0 ρ0 ⟨ix, d, op, g, fin, bk, fw, keep⟩ l hist wt ρ p Q = (histP C mu ext call n0 ⟨fw, ix, ρ, op, v⟩ bk hist ∧ Wd C mu ext call n0 ρ0 l hist (pushW ⟨fw, ix, ρ, op, v⟩ wt) (put ρ d v) p Q) := nd rfl
noncomputable def stillK (k : Kind) (n0 : Nat) (ix : Nat) (ρ : Env) (op : Op) (v : CV) (q : Hp) : Prop :=
  match k with
  | .alloc => ∃ ob, q.t.get (n0 + ix) = some ob ∧ allocObj C op = some ob
  | _ => zop C mu ext call ρ q op = .ret v q
theorem still_eq (n0 : Nat) (fw : List Nat) (ix : Nat) (ρ : Env) (op : Op) (v : CV) (q : Hp) : still C mu ext call n0 ⟨fw, ix, ρ, op, v⟩ q = stillK C mu ext call (kindOf op) n0 ix ρ op v q := nd rfl
theorem stillK_q (n0 : Nat) (ix : Nat) (ρ : Env) (op : Op) (v : CV) (q : Hp) : stillK C mu ext call .quiet n0 ix ρ op v q = (zop C mu ext call ρ q op = .ret v q) := nd rfl
theorem stillK_a (n0 : Nat) (ix : Nat) (ρ : Env) (op : Op) (v : CV) (q : Hp) : stillK C mu ext call .alloc n0 ix ρ op v q = (∃ ob, q.t.get (n0 + ix) = some ob ∧ allocObj C op = some ob) := nd rfl
def memN : List Nat → Nat → Bool
  | [], _ => false
  | a :: l, i => bif Nat.beq a i then true else memN l i
theorem X0z (i : Nat) : ∀ l, memN l i = true ↔ i ∈ l
  | [] => by simp [memN]
  | a :: l => by
    simp only [memN, List.mem_cons]
    cases h : Nat.beq a i with
    | true => simp [(Nat.eq_of_beq_eq_true h).symm]
    | false => simp [X0z i l, Ne.symm (Nat.ne_of_beq_eq_false h)]
theorem memN_nil (i : Nat) : memN [] i = false := nd rfl
theorem memN_cons (a : Nat) (l : List Nat) (i : Nat) : memN (a :: l) i = if a = i then true else memN l i := by
  simp only [memN]
  cases h : Nat.beq a i with
  | true => rw [if_pos (Nat.eq_of_beq_eq_true h)]; rfl
  | false => rw [if_neg (Nat.ne_of_beq_eq_false h)]; rfl
noncomputable def allW (n0 : Nat) (ix : Nat) (q : Hp) : List Watch → Prop
  | [] => True
  | w :: wt => (bif memN w.fw ix then still C mu ext call n0 w q else True) ∧ allW n0 ix q wt
theorem allW_iff (n0 : Nat) (ix : Nat) (q : Hp) : ∀ wt, (∀ w ∈ wt, ix ∈ w.fw → still C mu ext call n0 w q) ↔ allW C mu ext call n0 ix q wt
  | [] => by simp [allW]
  | w :: wt => by
    simp only [allW, List.mem_cons, forall_eq_or_imp, allW_iff n0 ix q wt]
    cases h : memN w.fw ix with
    | true => simp [(X0z ix w.fw).1 h]
    | false =>
      have : ¬ ix ∈ w.fw := fun k => by rw [(X0z ix w.fw).2 k] at h; cases h
      simp [this]
theorem allW_nil (n0 : Nat) (ix : Nat) (q : Hp) : allW C mu ext call n0 ix q [] = True := nd rfl
theorem allW_cons (n0 : Nat) (ix : Nat) (q : Hp) (fw : List Nat) (jx : Nat) (ρ : Env) (op : Op) (v : CV) (wt : List Watch) : allW C mu ext call n0 ix q (⟨fw, jx, ρ, op, v⟩ :: wt) = ((bif memN fw ix then stillK C mu ext call (kindOf op) n0 jx ρ op v q else True) ∧ allW C mu ext call n0 ix q wt) := nd rfl
noncomputable def histA (n0 : Nat) (w : Watch) (bk : List Nat) : List (Nat × Hp) → Prop
  | [] => True
  | x :: hist => (bif memN bk x.1 then still C mu ext call n0 w x.2 else True) ∧ histA n0 w bk hist
theorem histA_iff (n0 : Nat) (w : Watch) (bk : List Nat) : ∀ hist, (∀ x ∈ hist, x.1 ∈ bk → still C mu ext call n0 w x.2) ↔ histA C mu ext call n0 w bk hist
  | [] => by simp [histA]
  | x :: hist => by
    simp only [histA, List.mem_cons, forall_eq_or_imp, histA_iff n0 w bk hist]
    cases h : memN bk x.1 with
    | true => simp [(X0z x.1 bk).1 h]
    | false =>
      have : ¬ x.1 ∈ bk := fun k => by rw [(X0z x.1 bk).2 k] at h; cases h
      simp [this]
theorem histA_nil (n0 : Nat) (w : Watch) (bk : List Nat) : histA C mu ext call n0 w bk [] = True := nd rfl
theorem histA_cons (n0 : Nat) (fw : List Nat) (jx : Nat) (ρ : Env) (op : Op) (v : CV) (bk : List Nat) (i : Nat) (h : Hp) (hist : List (Nat × Hp)) : histA C mu ext call n0 ⟨fw, jx, ρ, op, v⟩ bk ((i, h) :: hist) = ((bif memN bk i then stillK C mu ext call (kindOf op) n0 jx ρ op v h else True) ∧ histA C mu ext call n0 ⟨fw, jx, ρ, op, v⟩ bk hist) := nd rfl
theorem bindE_ret (v : CV) (q : Hp) (n0 : Nat) (ρ0 : Env) (ix : Nat) (d : Option Tmp) (op : Op) (g : Option (Tmp × Bool)) (fin : Bool) (bk fw : List Nat) (keep : Bool) (l : List DOp) (hist : List (Nat × Hp)) (wt : List Watch) (ρ : Env) (p : Hp) (Q : ZQ) :
    bindE C mu ext call (.ret v q) n0 ρ0 ⟨ix, d, op, g, fin, bk, fw, keep⟩ l hist wt ρ p Q = (allW C mu ext call n0 ix q wt ∧ Wd C mu ext call n0 ρ0 l (pushH keep (ix, p) hist) wt (put ρ d v) q Q) := by
  rw [← allW_iff]; rfl
theorem bindE_pan (v : CV) (q : Hp) (n0 : Nat) (ρ0 : Env) (ix : Nat) (d : Option Tmp) (op : Op) (g : Option (Tmp × Bool)) (fin : Bool) (bk fw : List Nat) (keep : Bool) (l : List DOp) (hist : List (Nat × Hp)) (wt : List Watch) (ρ : Env) (p : Hp) (Q : ZQ) :
    bindE C mu ext call (.pan v q) n0 ρ0 ⟨ix, d, op, g, fin, bk, fw, keep⟩ l hist wt ρ p Q = (fin = true ∧ Q (.panU v) ρ0 q) := nd rfl
theorem histP_nil (n0 : Nat) (w : Watch) (hist : List (Nat × Hp)) : histP C mu ext call n0 w [] hist = True := nd rfl
theorem histP_cons (n0 : Nat) (w : Watch) (b : Nat) (bk : List Nat) (hist : List (Nat × Hp)) : histP C mu ext call n0 w (b :: bk) hist = histA C mu ext call n0 w (b :: bk) hist := by
  rw [← histA_iff]; rfl
theorem pushW_nil (ix : Nat) (ρ : Env) (op : Op) (v : CV) (wt : List Watch) : pushW ⟨[], ix, ρ, op, v⟩ wt = wt := nd rfl
theorem pushW_cons (f : Nat) (fw : List Nat) (ix : Nat) (ρ : Env) (op : Op) (v : CV) (wt : List Watch) : pushW ⟨f :: fw, ix, ρ, op, v⟩ wt = ⟨f :: fw, ix, ρ, op, v⟩ :: wt := nd rfl
theorem pushH_t (x : Nat × Hp) (hist : List (Nat × Hp)) : pushH true x hist = x :: hist := nd rfl
theorem pushH_f (x : Nat × Hp) (hist : List (Nat × Hp)) : pushH false x hist = hist := nd rfl
theorem W_skip (ρ : Env) (p : Hp) (Q : ZQ) : W C mu ext call .skip ρ p Q = Q .normal ρ p := nd rfl
theorem W_reg (l : List LOp) (ρ : Env) (p : Hp) (Q : ZQ) : W C mu ext call (.reg l) ρ p Q = Wo C mu ext call l ρ p Q := nd rfl
theorem W_draw (n : Nat) (als : List (Nat × Op)) (l : List DOp) (ρ : Env) (p : Hp) (Q : ZQ) : W C mu ext call (.draw n als l) ρ p Q = Wd C mu ext call p.n ρ l [] [] ρ (layZ C p.n als (p.bump n)) Q := nd rfl
theorem W_seq (a b : ZC) (ρ : Env) (p : Hp) (Q : ZQ) : W C mu ext call (.seq a b) ρ p Q = W C mu ext call a ρ p (seqQ (W C mu ext call b) Q) := nd rfl
theorem W_cond (x : Operand) (a b : ZC) (ρ : Env) (p : Hp) (Q : ZQ) : W C mu ext call (.cond x a b) ρ p Q = condW (ev ρ x) (W C mu ext call a) (W C mu ext call b) ρ p Q := nd rfl
theorem W_block (id : Nat) (c : ZC) (ρ : Env) (p : Hp) (Q : ZQ) : W C mu ext call (.block id c) ρ p Q = W C mu ext call c ρ p (blkQ id Q) := nd rfl
theorem W_exit (i : Nat) (ρ : Env) (p : Hp) (Q : ZQ) : W C mu ext call (.exit i) ρ p Q = Q (.exit i) ρ p := nd rfl
theorem W_ret (ρ : Env) (p : Hp) (Q : ZQ) : W C mu ext call .ret ρ p Q = Q .ret ρ p := nd rfl
theorem layZ_nil (n0 : Nat) (p : Hp) : layZ C n0 [] p = p := nd rfl
theorem layZ_cons (n0 i : Nat) (o : Op) (l : List (Nat × Op)) (p : Hp) : layZ C n0 ((i, o) :: l) p = layZ C n0 l (match allocObj C o with
    | some ob => p.set (n0 + i) (some ob)
    | none => p) := rfl
theorem endQ_n (rs : List ResultVar) (K : XRes → Prop) (ρ : Env) (p : Hp) : endQ C rs K .normal ρ p = finW (zres C ρ p rs) p K := nd rfl
theorem endQ_r (rs : List ResultVar) (K : XRes → Prop) (ρ : Env) (p : Hp) : endQ C rs K .ret ρ p = finW (zres C ρ p rs) p K := nd rfl
theorem endQ_p (rs : List ResultVar) (K : XRes → Prop) (v : CV) (ρ : Env) (p : Hp) : endQ C rs K (.pan v) ρ p = K (.pan v p) := nd rfl
theorem endQ_u (rs : List ResultVar) (K : XRes → Prop) (v : CV) (ρ : Env) (p : Hp) : endQ C rs K (.panU v) ρ p = K (.pan v p) := nd rfl
theorem finW_some (l : List CV) (p : Hp) (K : XRes → Prop) : finW (some l) p K = K (.ret (pack l) p) := nd rfl
theorem zres_nil (ρ : Env) (p : Hp) : zres C ρ p [] = some [] := nd rfl
theorem zres_tmp (ρ : Env) (p : Hp) (t : Tmp) (l : List ResultVar) : zres C ρ p (.tmp t :: l) = match zres C ρ p l with
    | some vs => some (ρ t :: vs)
    | none => none := rfl
theorem zres_cell (ρ : Env) (p : Hp) (a : Tmp) (t : TypeId) (l : List ResultVar) : zres C ρ p (.cell a t :: l) = match xload C p t (ρ a), zres C ρ p l with
    | some v, some vs => some (v :: vs)
    | _, _ => none := rfl
theorem pack_1 (v : CV) : pack [v] = v := nd rfl
theorem pack_0 : pack [] = .tup [] := nd rfl
theorem pack_2 (a b : CV) (l : List CV) : pack (a :: b :: l) = .tup (a :: b :: l) := nd rfl
theorem Q1a {k k' : Env → Hp → ZQ → Prop} {Q Q' : ZQ} (hk : ∀ ρ p, k ρ p Q → k' ρ p Q') (hQ : ∀ e ρ p, Q e ρ p → Q' e ρ p) : ∀ e ρ p, seqQ k Q e ρ p → seqQ k' Q' e ρ p := by
  intro e ρ p h
  cases e with
  | normal => exact hk _ _ h
  | exit i => exact hQ _ _ _ h
  | ret => exact hQ _ _ _ h
  | pan v => exact hQ _ _ _ h
  | panU v => exact hQ _ _ _ h
theorem blkQ_mono {id : Nat} {Q Q' : ZQ} (hQ : ∀ e ρ p, Q e ρ p → Q' e ρ p) : ∀ e ρ p, blkQ id Q e ρ p → blkQ id Q' e ρ p := by
  intro e ρ p h
  cases e with
  | normal => exact hQ _ _ _ h
  | exit i => rw [blkQ_e] at h ⊢; split at h <;> simp_all
  | ret => exact hQ _ _ _ h
  | pan v => exact hQ _ _ _ h
  | panU v => exact hQ _ _ _ h
theorem Wo_mono {Q Q' : ZQ} (hQ : ∀ e ρ p, Q e ρ p → Q' e ρ p) : ∀ (l : List LOp) (ρ : Env) (p : Hp), Wo C mu ext call l ρ p Q → Wo C mu ext call l ρ p Q'
  | [], ρ, p, h => hQ _ _ _ h
  | o :: l, ρ, p, h => by
    simp only [Wo] at h ⊢
    split at h
    · exact h.elim
    · exact Wo_mono hQ l _ _ h
    · split at h
      · exact Wo_mono hQ l _ _ h
      · exact hQ _ _ _ h
      · exact h.elim
theorem V08 {n0 : Nat} {ρ0 : Env} {Q Q' : ZQ} (hQ : ∀ e ρ p, Q e ρ p → Q' e ρ p) : ∀ (l : List DOp) (hist : List (Nat × Hp)) (wt : List Watch) (ρ : Env) (p : Hp), Wd C mu ext call n0 ρ0 l hist wt ρ p Q → Wd C mu ext call n0 ρ0 l hist wt ρ p Q'
  | [], _, _, ρ, p, h => hQ _ _ _ h
  | o :: l, hist, wt, ρ, p, h => by
    simp only [Wd] at h ⊢
    split at h
    · exact h.elim
    · exact V08 hQ l _ _ _ _ h
    · cases hk : kindOf o.op with
      | quiet =>
        rw [hk] at h
        simp only at h ⊢
        split at h
        · exact ⟨h.1, V08 hQ l _ _ _ _ h.2⟩
        · exact h.elim
      | alloc => rw [hk] at h; exact ⟨h.1, h.2.1, V08 hQ l _ _ _ _ h.2.2⟩
      | eff =>
        rw [hk] at h
        simp only at h ⊢
        split at h
        · exact ⟨h.1, V08 hQ l _ _ _ _ h.2⟩
        · exact ⟨h.1, hQ _ _ _ h.2⟩
        · exact h.elim
theorem Wn_mono {b : Env → Hp → ZQ → Prop} (hb : ∀ (Q Q' : ZQ), (∀ e ρ p, Q e ρ p → Q' e ρ p) → ∀ ρ p, b ρ p Q → b ρ p Q') : ∀ (n m : Nat), n ≤ m → ∀ (Q Q' : ZQ), (∀ e ρ p, Q e ρ p → Q' e ρ p) → ∀ ρ p, Wn b n ρ p Q → Wn b m ρ p Q'
  | 0, _, _, _, _, _, _, _, h => h.elim
  | n + 1, 0, h, _, _, _, _, _, _ => by omega
  | n + 1, m + 1, h, Q, Q', hQ, ρ, p, hw => hb _ _ (Q1a (fun ρ p h' => Wn_mono hb n m (by omega) Q Q' hQ ρ p h') hQ) ρ p hw
theorem W_mono : ∀ (c : ZC) (Q Q' : ZQ), (∀ e ρ p, Q e ρ p → Q' e ρ p) → ∀ (ρ : Env) (p : Hp), W C mu ext call c ρ p Q → W C mu ext call c ρ p Q' := by
  intro c
  induction c with
  | skip => intro Q Q' hQ ρ p h; exact hQ _ _ _ h
  | reg l => intro Q Q' hQ ρ p h; exact Wo_mono C mu ext call hQ l ρ p h
  | draw n als l => intro Q Q' hQ ρ p h; exact V08 C mu ext call hQ l _ _ _ _ h
  | exit i => intro Q Q' hQ ρ p h; exact hQ _ _ _ h
  | ret => intro Q Q' hQ ρ p h; exact hQ _ _ _ h
  | seq a b iha ihb => intro Q Q' hQ ρ p h; exact iha _ _ (Q1a (fun ρ p h' => ihb Q Q' hQ ρ p h') hQ) ρ p h
  | cond x a b iha ihb =>
    intro Q Q' hQ ρ p h
    simp only [W, condW] at h ⊢
    split at h
    · rename_i t ht
      cases t with
      | true => exact iha Q Q' hQ ρ p h
      | false => exact ihb Q Q' hQ ρ p h
    · exact h.elim
  | block id c ih => intro Q Q' hQ ρ p h; exact ih _ _ (blkQ_mono hQ) ρ p h
  | loop c ih => intro Q Q' hQ ρ p ⟨n, h⟩; exact ⟨n, Wn_mono ih n n (Nat.le_refl _) Q Q' hQ ρ p h⟩
theorem Wn_succ (b : Env → Hp → ZQ → Prop) (n : Nat) (ρ : Env) (p : Hp) (Q : ZQ) : Wn b (n + 1) ρ p Q = b ρ p (seqQ (Wn b n) Q) := nd rfl
theorem V0n (c : ZC) (ρ : Env) (p : Hp) (Q : ZQ) (J : Nat → Env → Hp → Prop) (n : Nat) (h0 : J n ρ p)
    (h : ∀ n ρ p, J n ρ p → W C mu ext call c ρ p (seqQ (fun ρ p _ => ∃ m, m < n ∧ J m ρ p) Q)) : W C mu ext call (.loop c) ρ p Q := by
  have key : ∀ n ρ p, J n ρ p → Wn (W C mu ext call c) (n + 1) ρ p Q := by
    intro n
    induction n using Nat.strongRecOn with
    | _ n ih =>
      intro ρ p hJ
      refine W_mono C mu ext call c _ _ (Q1a (fun ρ p ⟨m, hm, hJ'⟩ => ?_) (fun _ _ _ h => h)) ρ p (h n ρ p hJ)
      exact Wn_mono (W_mono C mu ext call c) (m + 1) n hm Q Q (fun _ _ _ h => h) ρ p (ih m hm ρ p hJ')
  exact ⟨n + 1, key n ρ p h0⟩
theorem W_cut (c : ZC) (ρ : Env) (p : Hp) (Q : ZQ) (J : Env → Hp → Prop) (h : W C mu ext call c ρ p (fun e ρ p => match e with | .normal => J ρ p | e => Q e ρ p)) (h' : ∀ ρ p, J ρ p → Q .normal ρ p) : W C mu ext call c ρ p Q :=
  W_mono C mu ext call c _ _ (fun e ρ p k => by cases e <;> first | exact h' _ _ k | exact k) ρ p h
end steps
theorem V1m {p0 p q : Hp} {v u : CV} (hn : p0.n ≤ q.n) (ho : ∀ k o, q.t.get k = some o → k < q.n ∧ ((k < p0.n ∧ p0.t.get k = some o ∧ p.t.get k = some o) ∨ ∃ o', p.t.get k = some o' ∧ XObj.weak (fun k => k) q.n o' o)) (hv : CV.weak (fun k => k) q.n v u) : ShrR p0 (.ret v p) (.ret u q) :=
  ⟨fun k => k, ⟨hn, fun _ _ => rfl, fun _ _ _ _ _ _ e => e, ho⟩, hv⟩
theorem shr_idP {p0 p q : Hp} {v u : CV} (hn : p0.n ≤ q.n) (ho : ∀ k o, q.t.get k = some o → k < q.n ∧ ((k < p0.n ∧ p0.t.get k = some o ∧ p.t.get k = some o) ∨ ∃ o', p.t.get k = some o' ∧ XObj.weak (fun k => k) q.n o' o)) (hv : CV.weak (fun k => k) q.n v u) : ShrR p0 (.pan v p) (.pan u q) :=
  ⟨fun k => k, ⟨hn, fun _ _ => rfl, fun _ _ _ _ _ _ e => e, ho⟩, hv⟩
def HpLe (p q : Hp) : Prop := ∀ k o, p.t.get k = some o → q.t.get k = some o
theorem K0e {args : List CV} {p p' : Hp} {v u : CV} (hF : Fine args p) (hle : HpLe p p') (hv : CV.weak (fun k => k) p.n v u) : ShrR p (.ret v p') (.ret u p) :=
  V1m (Nat.le_refl _) (fun k o h => ⟨hF.dom k o h, .inl ⟨hF.dom k o h, h, hle k o h⟩⟩) hv
theorem Z0l {args : List CV} {p p' : Hp} {v u : CV} (hF : Fine args p) (hle : HpLe p p') (hv : CV.weak (fun k => k) p.n v u) : ShrR p (.pan v p') (.pan u p) :=
  shr_idP (Nat.le_refl _) (fun k o h => ⟨hF.dom k o h, .inl ⟨hF.dom k o h, h, hle k o h⟩⟩) hv
theorem X0l {args : List CV} {p p' : Hp} {v u : CV} {i : Nat} {o : XObj} (hF : Fine args p) (hi : i < p.n) (hle : ∀ k o, k ≠ i → p.t.get k = some o → p'.t.get k = some o) (ho : ∃ o', p'.t.get i = some o' ∧ XObj.weak (fun k => k) p.n o' o) (hv : CV.weak (fun k => k) p.n v u) : ShrR p (.ret v p') (.ret u (p.set i (some o))) :=
  V1m (Nat.le_refl _) (fun k ob h => by
    by_cases hk : k = i
    · subst hk
      rw [Hp.get_set_self] at h; cases h
      exact ⟨hi, .inr ho⟩
    · rw [Hp.get_set_ne _ _ _ hk] at h
      exact ⟨hF.dom k ob h, .inl ⟨hF.dom k ob h, h, hle k ob hk h⟩⟩) hv
theorem shr_drop {args : List CV} {p p' : Hp} {v u : CV} {i : Nat} (hF : Fine args p) (hle : ∀ k o, k ≠ i → p.t.get k = some o → p'.t.get k = some o) (hv : CV.weak (fun k => k) p.n v u) : ShrR p (.ret v p') (.ret u (p.set i none)) :=
  V1m (Nat.le_refl _) (fun k ob h => by
    by_cases hk : k = i
    · subst hk
      rw [Hp.get_set_self] at h; cases h
    · rw [Hp.get_set_ne _ _ _ hk] at h
      exact ⟨hF.dom k ob h, .inl ⟨hF.dom k ob h, h, hle k ob hk h⟩⟩) hv
theorem shr_dropP {args : List CV} {p p' : Hp} {v u : CV} {i : Nat} (hF : Fine args p) (hle : ∀ k o, k ≠ i → p.t.get k = some o → p'.t.get k = some o) (hv : CV.weak (fun k => k) p.n v u) : ShrR p (.pan v p') (.pan u (p.set i none)) :=
  shr_idP (Nat.le_refl _) (fun k ob h => by
    by_cases hk : k = i
    · subst hk
      rw [Hp.get_set_self] at h; cases h
    · rw [Hp.get_set_ne _ _ _ hk] at h
      exact ⟨hF.dom k ob h, .inl ⟨hF.dom k ob h, h, hle k ob hk h⟩⟩) hv
theorem weak_I (n : Nat) (x : Int) : CV.weak (fun k => k) n (I x) (I x) := by simp [CV.weak]
theorem X0e {n : Nat} {v : CV} (h : v.lt n) : CV.weak (fun k => k) n v v := CV.weak_refl v fun j hj => ⟨rfl, h j hj⟩
theorem Z0o {n : Nat} {o : XObj} (h : o.lt n) : XObj.weak (fun k => k) n o o := XObj.weak_refl fun j hj => ⟨rfl, h j hj⟩
theorem Q0e {n : Nat} {v u : CV} (h : v = u) (hl : u.lt n) : CV.weak (fun k => k) n v u := by subst h; exact X0e hl
theorem Q0l {n : Nat} {v u : XObj} (h : v = u) (hl : u.lt n) : XObj.weak (fun k => k) n v u := by subst h; exact Z0o hl
theorem Y0d {n : Nat} {v : CV} (h : ∀ j, ¬ v.has j) : v.lt n := fun j hj => (h j hj).elim
theorem qmin2 (k k' : IntKind) (a b : Int) : qminmax false [.sc (.int k a), .sc (.int k' b)] = some (.sc (.int k (min a b))) := by
  have : (if b < a then b else a) = min a b := by split <;> omega
  simp only [qminmax, Bool.false_eq_true, if_false, this]
theorem qmax2 (k k' : IntKind) (a b : Int) : qminmax true [.sc (.int k a), .sc (.int k' b)] = some (.sc (.int k (max a b))) := by
  have : (if b > a then b else a) = max a b := by split <;> omega
  simp only [qminmax, if_true, this]
theorem beqT (b : Bool) : (b == true) = b := by cases b <;> rfl
theorem beqF (b : Bool) : (b == false) = !b := by cases b <;> rfl
theorem subEq_self (z : Shape) : subEq z [] z = true := by
  have : z.sub [] = some z := by cases z <;> rfl
  simp [subEq, this]
theorem shOk_sc (v : Value) : shOk (.sc v) .s = true := nd rfl
theorem shOk_lst {α : Type} (f : α → CV) (x : Lst α) : shOk (x.cv f) .s = true := nd rfl
theorem shOk_lst' (t : Tail) (l : List CV) : shOk (.lst t l) .s = true := nd rfl
theorem shOk_ptr (i : Nat) (q : List Nat) : shOk (.ptr i q) .s = true := nd rfl
theorem shOk_slc (i : Nat) (q : List Nat) (a b : Nat) : shOk (.slc i q a b) .s = true := nd rfl
theorem shOk_fn (f : FuncId) (a b : List CV) : shOk (.fn f a b) .s = true := nd rfl
theorem shOk_ifc (t : TypeId) (v : CV) : shOk (.ifc t v) .s = true := nd rfl
theorem V0g {f : TypeId → CV → CV → Option Bool} {t : TypeId} {ts : List TypeId} {x y : CV} {l m : List CV} {a b : Bool} (h1 : f t x y = some a) (h2 : eqList f ts l m = some b) : eqList f (t :: ts) (x :: l) (y :: m) = some (a && b) := by
  simp only [eqList, h1, h2]
theorem Q1m {α : Type} [DecidableEq α] {f : TypeId → CV → CV → Option Bool} {e : TypeId} {g : α → CV} (h : ∀ x y, f e (g x) (g y) = some (decide (x = y))) : ∀ (n : Nat) (l m : List α), l.length = n → m.length = n → eqList f (List.replicate n e) (l.map g) (m.map g) = some (decide (l = m))
  | 0, [], [], _, _ => rfl
  | 0, _ :: _, _, h, _ => by simp at h
  | 0, [], _ :: _, _, h => by simp at h
  | n + 1, [], _, h, _ => by simp at h
  | n + 1, _ :: _, [], _, h => by simp at h
  | n + 1, x :: l, y :: m, h1, h2 => by
    have := Q1m h n l m (by simpa using h1) (by simpa using h2)
    simp only [List.replicate_succ, List.map_cons, V0g (h x y) this]
    by_cases e1 : x = y <;> by_cases e2 : l = m <;> simp [e1, e2]
theorem Z0v (C : Ctx) {t : TypeId} {fs : List (Nat × Nat × TypeId)} {sh : Shape} {b : Nat} {z : CV} {l m : List CV} {d : Nat} {r : Bool} (ht : C.tt t = some ⟨.st fs, sh, b, z⟩) (h1 : (CV.agg l).shape = sh) (h2 : (CV.agg m).shape = sh) (h : eqList (eqCV C d) (fs.map (·.2.2)) l m = some r) : eqCV C (d + 1) t (.agg l) (.agg m) = some r := by
  simp only [eqCV, ht, h1, h2, and_self, if_true, h]
theorem eqCV_ar (C : Ctx) {α : Type} [DecidableEq α] {g : α → CV} {t n b1 e : Nat} {sh s : Shape} {b : Nat} {z : CV} {l m : List α} {d : Nat} (ht : C.tt t = some ⟨.ar n b1 e, sh, b, z⟩) (hs : sh = .n (List.replicate n s)) (hg : ∀ x, (g x).shape = s) (h1 : l.length = n) (h2 : m.length = n) (h : ∀ x y, eqCV C d e (g x) (g y) = some (decide (x = y))) : eqCV C (d + 1) t (.agg (l.map g)) (.agg (m.map g)) = some (decide (l = m)) := by
  have k1 : (CV.agg (l.map g)).shape = sh := by simp only [CV.shape, V0k hg, h1, hs]
  have k2 : (CV.agg (m.map g)).shape = sh := by simp only [CV.shape, V0k hg, h2, hs]
  simp only [eqCV, ht, k1, k2, and_self, if_true, Q1m h n l m h1 h2]
theorem Y0h (C : Ctx) {t : TypeId} {k k' : IntKind} {sh : Shape} {b : Nat} {z : CV} (ht : C.tt t = some ⟨.base (.int k), sh, b, z⟩) (d : Nat) (x y : Int) : eqCV C (d + 1) t (.sc (.int k' x)) (.sc (.int k' y)) = some (decide (x = y)) := by
  simp [eqCV, ht, eqSc]
theorem eqCV_bool (C : Ctx) {t : TypeId} {sh : Shape} {b : Nat} {z : CV} (ht : C.tt t = some ⟨.base .bool, sh, b, z⟩) (d : Nat) (x y : Bool) : eqCV C (d + 1) t (.sc (.bool x)) (.sc (.bool y)) = some (decide (x = y)) := by
  simp [eqCV, ht, eqSc]
theorem all_nth4 {f : Int → Bool} {l : List Int} (h : l.length = 4) : l.all f = (f (nth l 0) && (f (nth l 1) && (f (nth l 2) && f (nth l 3)))) := by
  match l, h with
  | [a, b, c, d], _ => simp [nth]
theorem qbin_int (C : Ctx) (op : BinOp) (t : TypeId) (cy : Bool) (k k' : IntKind) (a b : Int) : qbin C op t cy (.sc (.int k a)) (.sc (.int k' b)) = match op with
    | .shl | .shr => qshift op k a b
    | _ => if k = k' then qnum op k a b else none := by
  simp only [qbin]; rfl
theorem qbin_float (C : Ctx) (op : BinOp) (t : TypeId) (cy : Bool) (k k' : FloatKind) (a b : Nat) : qbin C op t cy (.sc (.float k a)) (.sc (.float k' b)) = if k = k' then qfloat op k a b else none := by
  simp only [qbin]
theorem qbin_bool (C : Ctx) (op : BinOp) (t : TypeId) (cy : Bool) (a b : Bool) : qbin C op t cy (.sc (.bool a)) (.sc (.bool b)) = match C.tt t, op with
    | some ⟨.base .bool, _, _, _⟩, .eql => some (.sc (.bool (decide (a = b))))
    | some ⟨.base .bool, _, _, _⟩, .neq => some (.sc (.bool (!decide (a = b))))
    | _, _ => none := by
  simp only [qbin]; rfl
theorem qbin_str (C : Ctx) (op : BinOp) (t : TypeId) (cy : Bool) (a b : ByteArray) : qbin C op t cy (.sc (.string a)) (.sc (.string b)) = match op with
    | .eql => some (.sc (.bool (a.toList == b.toList)))
    | .neq => some (.sc (.bool (!(a.toList == b.toList))))
    | .add => if a.size + b.size ≤ 9223372036854775807 then some (.sc (.string (a ++ b))) else none
    | _ => none := by
  simp only [qbin]; rfl
theorem K1d (C : Ctx) {α : Type} [Inhabited α] (f : α → CV) {t N b1 e : Nat} {sh : Shape} {b : Nat} {z : CV} (ht : C.tt t = some ⟨.ar N b1 e, sh, b, z⟩) {te : TI} (hs : sh = .n (List.replicate N te.sh)) (hte : C.tt e = some te) (hsh : ∀ x, (f x).shape = te.sh) (l : List α) (n : Int) (h : l.length = N) (hn : 0 ≤ n ∧ n < N) : qindex C t (.agg (l.map f)) (I n) = some (f (nth l n.toNat)) := by
  have k1 : (CV.agg (l.map f)).shape = sh := by simp only [CV.shape, V0k hsh, h, hs]
  have hl : n.toNat < l.length := by omega
  simp only [qindex, ht, hte, k1, hn, and_self, if_true, List.getElem?_map, Q0s hl, Option.map_some, hsh]
theorem nilness_0 {α : Type} (f : α → CV) (l : List α) (o : _) : nilness (Lst.cv f ⟨.nil, l, o⟩) = some true := nd rfl
theorem nilness_e {α : Type} (f : α → CV) (l : List α) (o : _) : nilness (Lst.cv f ⟨.exact, l, o⟩) = some false := nd rfl
theorem nilness_p {α : Type} (f : α → CV) (l : List α) (o : _) : nilness (Lst.cv f ⟨.part, l, o⟩) = some false := nd rfl
theorem nilness_o {α : Type} (f : α → CV) (j : Nat) (l : List α) (o : _) : nilness (Lst.cv f ⟨.own j, l, o⟩) = some false := nd rfl
theorem nilness_v {α : Type} (f : α → CV) (x : α) (l : List α) (o : _) : nilness (Lst.cv f ⟨.view, x :: l, o⟩) = some false := nd rfl
theorem nilness_n (l : List CV) : nilness (.lst .nil l) = some true := nd rfl
theorem V1f (C : Ctx) {t : TypeId} (h : isSliceT C t = true) (v : CV) : xnil C .eql t v = (nilness v).map fun b => Bo b := by simp only [xnil, h, cond_true]
theorem Z0y (C : Ctx) {t : TypeId} (h : isSliceT C t = true) (v : CV) : xnil C .neq t v = (nilness v).map fun b => Bo (!b) := by simp only [xnil, h, cond_true]
theorem Y0g (C : Ctx) {t e : TypeId} {sh : Shape} {b n : Nat} {z : CV} {te : TI} {parts : List (Nat × CV)} {v : CV} (ht : C.tt t = some ⟨.base (.slice e), sh, b, z⟩) (hte : C.tt e = some te) (h1 : n * te.sh.size ≤ 16777216) (h2 : te.sh.size ≠ 0) (hp : partsOk (List.replicate n te.sh) parts = true) (hv : CV.lst .exact (setAll (List.replicate n te.zero) parts) = v) : qbuildSlice C t n parts = some v := by
  simp only [qbuildSlice, ht, hte, h1, h2, hp, hv, ne_eq, not_false_eq_true, and_self, if_true]
theorem cast_lit (n : Nat) : (Nat.cast (no_index (OfNat.ofNat n)) : Int) = (OfNat.ofNat n : Int) := nd rfl
open Classical in
noncomputable def appT {α : Type} (f : α → CV) (p : Hp) (b s : Lst α) : XRes :=
  if s.l = [] then .ret (b.cv f) p else match b.tl with
    | .nil => .ret (Lst.cv f ⟨.own p.n, b.l ++ s.l, nofun⟩) (p.new (.tail (b.l.length + s.l.length)))
    | .exact => .ret (Lst.cv f ⟨.own p.n, b.l ++ s.l, nofun⟩) (p.new (.tail (b.l.length + s.l.length)))
    | .own j => match p.t.get j with
      | some (.tail k) => if k = b.l.length ∧ 0 < b.l.length then .ret (Lst.cv f ⟨.own p.n, b.l ++ s.l, nofun⟩) ((p.set j none).new (.tail (b.l.length + s.l.length))) else .stuck
      | _ => .stuck
    | _ => .stuck
theorem allSh_map {α : Type} {f : α → CV} {z : Shape} (h : ∀ x, shOk (f x) z = true) (l : List α) : allSh (l.map f) z = true := by
  simp [allSh, h]
theorem Q0p (C : Ctx) {α : Type} (f : α → CV) {t e : TypeId} {sh : Shape} {by_ : Nat} {z : CV} {te : TI} (ht : C.tt t = some ⟨.base (.slice e), sh, by_, z⟩) (hte : C.tt e = some te) (hsh : ∀ x, shOk (f x) te.sh = true) (p : Hp) (b s : Lst α) (h : (b.l.length + s.l.length) * te.bytes ≤ 140737488355328) (hb : b.l.length + s.l.length ≤ 140737488355328) : xappend C false p t t (b.cv f) (s.cv f) = appT f p b s := by
  obtain ⟨tl, l, o1⟩ := b
  obtain ⟨ul, m, o2⟩ := s
  have h1 : Nat.ble ((l.length + m.length) * te.bytes) 140737488355328 = true := Nat.ble_eq_true_of_le h
  have h2 : Nat.ble (l.length + m.length) 9223372036854775807 = true := Nat.ble_eq_true_of_le (Nat.le_trans hb (by decide))
  simp only [xappend, ht, hte, cond_false, srcOf, Lst.cv, appT]
  simp only [xappI, allSh_map hsh, Bool.and_self, Bool.true_and, List.length_map, h1, h2, cond_true]
  cases m with
  | nil => simp
  | cons x m =>
    simp only [List.map_cons, reduceCtorEq, if_false]
    cases tl with
    | nil => simp
    | exact => simp
    | view => rfl
    | part => rfl
    | own j =>
      simp only
      cases hj : p.t.get j with
      | none => rfl
      | some o =>
        cases o with
        | var _ _ => rfl
        | map _ => rfl
        | tail k =>
          simp only
          by_cases hk : k = l.length ∧ 0 < l.length
          · have e1 : Nat.beq k l.length = true := by rw [hk.1]; exact Nat.beq_refl _
            have e2 : Nat.blt 0 l.length = true := K0w hk.2
            rw [if_pos hk, e1, e2]; simp
          · rw [if_neg hk]
            have : (Nat.beq k l.length && Nat.blt 0 l.length) = false := by
              rw [Bool.eq_false_iff]
              intro hh
              rw [Bool.and_eq_true] at hh
              exact hk ⟨Nat.eq_of_beq_eq_true hh.1, Z0u hh.2⟩
            rw [this]; rfl
theorem appT_0 {α : Type} (f : α → CV) (p : Hp) (b : Lst α) (u : Tail) (o : _) : appT f p b ⟨u, [], o⟩ = .ret (b.cv f) p := by simp [appT]
theorem appT_n {α : Type} (f : α → CV) (p : Hp) (l : List α) (o : _) (s : Lst α) : appT f p ⟨.nil, l, o⟩ s = if s.l = [] then .ret (Lst.cv f ⟨.nil, l, o⟩) p else .ret (Lst.cv f ⟨.own p.n, l ++ s.l, nofun⟩) (p.new (.tail (l.length + s.l.length))) := by
  unfold appT; split <;> simp_all
theorem appT_e {α : Type} (f : α → CV) (p : Hp) (l : List α) (o : _) (s : Lst α) : appT f p ⟨.exact, l, o⟩ s = if s.l = [] then .ret (Lst.cv f ⟨.exact, l, o⟩) p else .ret (Lst.cv f ⟨.own p.n, l ++ s.l, nofun⟩) (p.new (.tail (l.length + s.l.length))) := by
  unfold appT; split <;> simp_all
theorem appT_c {α : Type} (f : α → CV) (p : Hp) (tl : Tail) (l : List α) (o : _) (u : Tail) (x : α) (m : List α) (o' : _) (h : tl = .nil ∨ tl = .exact) : appT f p ⟨tl, l, o⟩ ⟨u, x :: m, o'⟩ = .ret (Lst.cv f ⟨.own p.n, l ++ x :: m, nofun⟩) (p.new (.tail (l.length + (m.length + 1)))) := by
  unfold appT; rcases h with rfl | rfl <;> simp
theorem appT_o {α : Type} (f : α → CV) (p : Hp) (j : Nat) (l : List α) (o : _) (u : Tail) (x : α) (m : List α) (o' : _) (h : p.t.get j = some (.tail l.length)) (h0 : 0 < l.length) : appT f p ⟨.own j, l, o⟩ ⟨u, x :: m, o'⟩ = .ret (Lst.cv f ⟨.own p.n, l ++ x :: m, nofun⟩) ((p.set j none).new (.tail (l.length + (m.length + 1)))) := by
  unfold appT; simp [h, h0]
theorem xld_p (C : Ctx) (p : Hp) (t : TypeId) (i : Nat) (q : List Nat) : xload C p t (.ptr i q) = match p.t.get i with
    | some (.var sh v) => match C.tt t with
      | some ti => bif subEq sh q ti.sh then v.at q else none
      | none => none
    | _ => none := nd rfl
theorem xld_r (C : Ctx) (p : Hp) (t : TypeId) (v : CV) : xload C p t (.rptr v) = match C.tt t with
    | some ti => bif shOk v ti.sh then some v else none
    | none => none := nd rfl
theorem xfa_p (C : Ctx) (p : Hp) (t : TypeId) (i : Nat) (q : List Nat) (f : Nat) : xfieldAddr C p t (.ptr i q) f = match p.t.get i with
    | some (.var sho _) => match C.tt t with
      | some ⟨.st fs, sh, _, _⟩ => bif subEq sho q sh && Nat.blt f fs.length then some (.ptr i (q ++ [f])) else none
      | _ => none
    | _ => none := nd rfl
theorem xfa_r (C : Ctx) (p : Hp) (t : TypeId) (v : CV) (f : Nat) : xfieldAddr C p t (.rptr v) f = qfieldAddr C p.h t (.rptr v) f := nd rfl
theorem xia_p (C : Ctx) (p : Hp) (t : TypeId) (j : Nat) (q : List Nat) (i : CV) : xindexAddr C p t (.ptr j q) i = match p.t.get j with
    | some (.var sho _) => match C.tt t with
      | some ⟨.ar cnt _ _, sh, _, _⟩ => match i with
        | .sc (.int _ n) => bif inR n cnt && subEq sho q sh then some (.ptr j (q ++ [n.toNat])) else none
        | _ => none
      | _ => none
    | _ => none := nd rfl
theorem xia_r (C : Ctx) (p : Hp) (t : TypeId) (v i : CV) : xindexAddr C p t (.rptr v) i = qindexAddr C p.h t (.rptr v) i := nd rfl
theorem xia_s (C : Ctx) (p : Hp) (t : TypeId) (j : Nat) (q : List Nat) (o n : Nat) (i : CV) : xindexAddr C p t (.slc j q o n) i = qindexAddr C p.h t (.slc j q o n) i := nd rfl
theorem xst_p (C : Ctx) (p : Hp) (t : TypeId) (i : Nat) (q : List Nat) (x : CV) : xstore C p t (.ptr i q) x = match p.t.get i with
    | some (.var sh v) => match C.tt t with
      | some ti => bif subEq sh q ti.sh && shOk x ti.sh then .ret (.tup []) (p.set i (some (.var sh (v.set q x)))) else .stuck
      | none => .stuck
    | _ => .stuck := nd rfl
theorem qbin_fnnil (C : Ctx) (op : BinOp) (t : TypeId) (cy : Bool) (f : FuncId) (a b : List CV) : qbin C op t cy (.fn f a b) (.sc .nilFunc) = match C.tt t with
    | some ⟨.base (.func _ _ _), _, _, _⟩ => eqRes op false
    | _ => none := by
  simp only [qbin]; rfl
theorem qbin_ifcnil (C : Ctx) (op : BinOp) (t : TypeId) (cy : Bool) (s : TypeId) (v : CV) : qbin C op t cy (.ifc s v) (.sc .nilIface) = match C.tt t with
    | some ⟨.base (.interface _), _, _, _⟩ => eqRes op false
    | _ => none := by
  simp only [qbin]; rfl
theorem qbin_nilnil (C : Ctx) (op : BinOp) (t : TypeId) (cy : Bool) : qbin C op t cy (.sc .nilIface) (.sc .nilIface) = match C.tt t, cy with
    | some ⟨.base (.interface _), _, _, _⟩, true => eqRes op true
    | _, _ => none := by
  simp only [qbin]; rfl
theorem iteN {α : Type} {c : Prop} [Decidable c] (h : ¬ c) (v : α) : (if c then none else some v) = some v := if_neg h
theorem iteS {α : Type} {c : Prop} [Decidable c] (h : c) (v : α) : (if c then some v else none) = some v := if_pos h
theorem X07 (n k : Nat) (q : List Nat) (s z : Shape) : subEq (.n (List.replicate n s)) (k :: q) z = (decide (k < n) && subEq s q z) := by
  unfold subEq
  by_cases h : k < n
  · simp [Shape.sub, List.getElem?_replicate, h]
  · simp [Shape.sub, List.getElem?_replicate, h]
theorem Q0g (C : Ctx) {t : TypeId} {fs : List (Nat × Nat × TypeId)} {shs : List Shape} {b : Nat} {z : List CV} {parts : List (Nat × CV)} {v : CV} (ht : C.tt t = some ⟨.st fs, .n shs, b, .agg z⟩) (hp : partsOk shs parts = true) (hv : .agg (setAll z parts) = v) : qbuild C t parts = some v := by
  simp only [qbuild, ht, hp, if_true, hv]
theorem Y0p {v : CV} {sh : Shape} {l : List Shape} (h : v.shape = sh) (e : sh = .n l) : shOk v sh = true := by
  subst e
  unfold shOk
  simp [h]
theorem Y0e (C : Ctx) {t f : Nat} {fs : List (Nat × Nat × TypeId)} {sh : Shape} {b : Nat} {z : CV} (ht : C.tt t = some ⟨.st fs, sh, b, z⟩) {l : List CV} (hsh : (CV.agg l).shape = sh) {d : Nat × Nat × TypeId} (hd : fs[f]? = some d) {tf : TI} (htf : C.tt d.2.2 = some tf) {v : CV} (hv : l[f]? = some v) (ho : shOk v tf.sh = true) : qfield C t (.agg l) f = some v := by
  simp only [qfield, ht, hd, htf, hv, hsh, ho]
  simp
theorem Z1e (j : Nat) : ¬ (CV.tup []).has j := fun h => by simp [CV.has, CV.hasL] at h
theorem Z0f (C : Ctx) {f : FuncId} {R : Rel} (un : ∀ args p r r', R args p r → R args p r' → r = r') (ns : ∀ args p r, R args p r → r ≠ .stuck) (ok : ∀ args p r, R args p r → AnsAt C f args p r) : Con C f R :=
  ⟨un, fun args p r h => ⟨ns args p r h, ok args p r h⟩⟩
theorem xcallv_fn (call : XCall) (p : Hp) (g : FuncId) (a b l : List CV) : xcallv noExt call p (.fn g a b) l = call g (a ++ l ++ b) p := nd rfl
end Go.Cl
end
section
namespace Go.Cl
open Go.RowKit
def ZC.plain : ZC → Bool
  | .skip => true
  | .reg _ => true
  | .draw _ _ _ => false
  | .seq a b => a.plain && b.plain
  | .cond _ a b => a.plain && b.plain
  | .block _ c => c.plain
  | .loop _ => false
  | .exit _ => true
  | .ret => true
section
variable (C : Ctx) (mu : Bool) (ext : FuncId → List CV → Option CV) (call : XCall)
theorem W_run (fuel : Nat) : ∀ (c : Code) (m : ZC) (env : XEnv) (p : Hp) (Q : ZQ), zcode c = some m → m.plain = true → W C mu ext call m env.at p Q → ∃ (e : XE) (env' : XEnv) (p' : Hp), xcode C mu ext call fuel c env p = .ok e env' p' ∧ Q e env'.at p' := by
  intro c
  induction c with
  | skip => intro m env p Q hm _ h; cases hm; exact ⟨.normal, env, p, rfl, h⟩
  | label l => intro m env p Q hm _ h; cases hm; exact ⟨.normal, env, p, rfl, h⟩
  | exit i => intro m env p Q hm _ h; cases hm; exact ⟨.exit i, env, p, rfl, h⟩
  | ret => intro m env p Q hm _ h; cases hm; exact ⟨.ret, env, p, rfl, h⟩
  | region id ops draw =>
    intro m env p Q hm hp h
    cases draw with
    | false =>
      simp only [zcode, cond_false] at hm
      cases hl : lops ops.toList [] ops.toList 0 with
      | none => simp [hl] at hm
      | some l =>
        simp only [hl, Option.some.injEq] at hm
        subst hm
        obtain ⟨e, env', p', h1, h2⟩ := V07 C mu ext call l _ p Q h env rfl
        rw [← xl_eq C _ _ _ _ _ hl] at h1
        exact ⟨e, env', p', h1, h2⟩
    | true =>
      simp only [zcode, cond_true] at hm
      cases hd : drawStat ops.toList (ancs ops.toList []) with
      | false => simp [hd] at hm
      | true =>
        cases hc : dops ops.toList (ancs ops.toList []) ops.toList 0 with
        | none => simp [hd, hc] at hm
        | some l => simp only [hd, hc, cond_true, Option.some.injEq] at hm; subst hm; cases hp
  | seq a b iha ihb =>
    intro m env p Q hm hp h
    simp only [zcode] at hm
    cases hx : zcode a with
    | none => simp [hx] at hm
    | some ma =>
    cases hy : zcode b with
    | none => simp [hx, hy] at hm
    | some mb =>
    simp only [hx, hy, Option.some.injEq] at hm
    subst hm
    simp only [ZC.plain, Bool.and_eq_true] at hp
    obtain ⟨e1, env1, p1, h1, k1⟩ := iha ma env p _ hx hp.1 h
    simp only [xcode, h1]
    cases e1 with
    | normal => exact ihb mb env1 p1 Q hy hp.2 k1
    | exit i => exact ⟨.exit i, env1, p1, rfl, k1⟩
    | ret => exact ⟨.ret, env1, p1, rfl, k1⟩
    | pan v => exact ⟨.pan v, env1, p1, rfl, k1⟩
    | panU v => exact ⟨.panU v, env1, p1, rfl, k1⟩
  | cond x a b iha ihb =>
    intro m env p Q hm hp h
    simp only [zcode] at hm
    cases hx : zcode a with
    | none => simp [hx] at hm
    | some ma =>
    cases hy : zcode b with
    | none => simp [hx, hy] at hm
    | some mb =>
    simp only [hx, hy, Option.some.injEq] at hm
    subst hm
    simp only [ZC.plain, Bool.and_eq_true] at hp
    simp only [W, condW] at h
    split at h
    · rename_i t ht
      have ht' : xev env x = .sc (.bool t) := by rw [X1e]; exact ht
      cases t with
      | true =>
        obtain ⟨e, env', p', h1, k1⟩ := iha ma env p Q hx hp.1 h
        exact ⟨e, env', p', by simp only [xcode, ht']; exact h1, k1⟩
      | false =>
        obtain ⟨e, env', p', h1, k1⟩ := ihb mb env p Q hy hp.2 h
        exact ⟨e, env', p', by simp only [xcode, ht']; exact h1, k1⟩
    · exact h.elim
  | block id c ih =>
    intro m env p Q hm hp h
    simp only [zcode] at hm
    cases hx : zcode c with
    | none => simp [hx] at hm
    | some mx =>
    simp only [hx, Option.some.injEq] at hm
    subst hm
    obtain ⟨e1, env1, p1, h1, k1⟩ := ih mx env p _ hx hp h
    cases e1 with
    | exit j =>
      simp only [blkQ] at k1
      cases hb : Nat.beq j id with
      | true => rw [hb] at k1; exact ⟨.normal, env1, p1, by simp only [xcode, h1, hb, cond_true], k1⟩
      | false => rw [hb] at k1; exact ⟨.exit j, env1, p1, by simp only [xcode, h1, hb, cond_false], k1⟩
    | normal => exact ⟨.normal, env1, p1, by simp only [xcode, h1], k1⟩
    | ret => exact ⟨.ret, env1, p1, by simp only [xcode, h1], k1⟩
    | pan v => exact ⟨.pan v, env1, p1, by simp only [xcode, h1], k1⟩
    | panU v => exact ⟨.panU v, env1, p1, by simp only [xcode, h1], k1⟩
  | loop c ih =>
    intro m env p Q hm hp h
    simp only [zcode] at hm
    cases hx : zcode c with
    | none => simp [hx] at hm
    | some mx => simp only [hx, Option.some.injEq] at hm; subst hm; cases hp
  | rangeFunc f ps x y _ _ => intro m env p Q hm; simp [zcode] at hm
  | scope c _ => intro m env p Q hm; simp [zcode] at hm
  | goto l => intro m env p Q hm; simp [zcode] at hm
  | refuse why => intro m env p Q hm; simp [zcode] at hm
noncomputable def qcE (rs : List ResultVar) (ρ3 : Env) (K : XRes → Prop) : ZQ := fun e _ q => match e with
  | .normal => finW (zres C ρ3 q rs) q K
  | .ret => finW (zres C ρ3 q rs) q K
  | _ => False
noncomputable def qcP (mr : ZC) (gd : Tmp) (cv : List CV) (rs : List ResultVar) (K : XRes → Prop) : ZQ := fun e ρ3 p3 => match e with
  | .normal => W C mu ext call mr (put (argE cv) (some gd) (.sc .nilIface)) p3 (qcE C rs ρ3 K)
  | .ret => W C mu ext call mr (put (argE cv) (some gd) (.sc .nilIface)) p3 (qcE C rs ρ3 K)
  | .pan v => W C mu ext call mr (put (argE cv) (some gd) v) p3 (qcE C rs ρ3 K)
  | _ => False
noncomputable def qcB (mp mr : ZC) (x : XC) (K : XRes → Prop) : ZQ := fun e ρ2 p2 => match e with
  | .normal => W C mu ext call mp (put ρ2 (some x.k) (.fn x.g [] (x.caps.map ρ2))) p2 (qcP C mu ext call mr x.gd (x.caps.map ρ2) x.rs K)
  | _ => False
noncomputable def qcA (mb mp mr : ZC) (x : XC) (K : XRes → Prop) : ZQ := fun e ρ1 p1 => match e with
  | .normal => W C mu ext call mb ρ1 p1 (qcB C mu ext call mp mr x K)
  | _ => False
theorem qcA_n (mb mp mr : ZC) (x : XC) (K : XRes → Prop) (ρ : Env) (p : Hp) : qcA C mu ext call mb mp mr x K .normal ρ p = W C mu ext call mb ρ p (qcB C mu ext call mp mr x K) := nd rfl
theorem qcB_n (mp mr : ZC) (x : XC) (K : XRes → Prop) (ρ : Env) (p : Hp) : qcB C mu ext call mp mr x K .normal ρ p = W C mu ext call mp (put ρ (some x.k) (.fn x.g [] (x.caps.map ρ))) p (qcP C mu ext call mr x.gd (x.caps.map ρ) x.rs K) := nd rfl
theorem qcP_n (mr : ZC) (gd : Tmp) (cv : List CV) (rs : List ResultVar) (K : XRes → Prop) (ρ : Env) (p : Hp) : qcP C mu ext call mr gd cv rs K .normal ρ p = W C mu ext call mr (put (argE cv) (some gd) (.sc .nilIface)) p (qcE C rs ρ K) := nd rfl
theorem qcP_r (mr : ZC) (gd : Tmp) (cv : List CV) (rs : List ResultVar) (K : XRes → Prop) (ρ : Env) (p : Hp) : qcP C mu ext call mr gd cv rs K .ret ρ p = W C mu ext call mr (put (argE cv) (some gd) (.sc .nilIface)) p (qcE C rs ρ K) := nd rfl
theorem qcP_p (mr : ZC) (gd : Tmp) (cv : List CV) (rs : List ResultVar) (K : XRes → Prop) (ρ : Env) (p : Hp) (v : CV) : qcP C mu ext call mr gd cv rs K (.pan v) ρ p = W C mu ext call mr (put (argE cv) (some gd) v) p (qcE C rs ρ K) := nd rfl
theorem qcE_n (rs : List ResultVar) (ρ3 : Env) (K : XRes → Prop) (ρ : Env) (q : Hp) : qcE C rs ρ3 K .normal ρ q = finW (zres C ρ3 q rs) q K := nd rfl
theorem qcE_r (rs : List ResultVar) (ρ3 : Env) (K : XRes → Prop) (ρ : Env) (q : Hp) : qcE C rs ρ3 K .ret ρ q = finW (zres C ρ3 q rs) q K := nd rfl
theorem fin_run {env : XEnv} {p : Hp} {rs : List ResultVar} {K : XRes → Prop} (h : finW (zres C env.at p rs) p K) : K (xfin p (xres C env p rs)) := by
  rw [← K1o] at h
  cases hx : xres C env p rs with
  | none => simp [hx, finW] at h
  | some l => rw [hx] at h; exact h
theorem ans_catch {f : FuncId} {x : XC} (hf : XCok C f x) (hext : ExtOk C ext) (hT : CallOk C call) {ma mb mp mr : ZC} (ha : zcode x.a = some ma) (hb : zcode x.b = some mb) (hp : zcode x.post = some mp) (hr : zcode x.rest = some mr) (hpl : (ma.plain && mb.plain && mp.plain && mr.plain) = true)
    {args : List CV} {p : Hp} {r : XRes} (hl : args.length ≤ x.n) (hname : ∃ fn, C.P.funcs[f]? = some fn ∧ fn.body.isNone = false ∧ (fn.name == "runtime.NumGoroutine") = false)
    (h : Fine args p → W C mu ext call ma (argE args) p (qcA C mu ext call mb mp mr x fun r' => ShrR p r' r)) : AnsAt C f args p r := by
  refine ⟨hname, fun w0 B S w vals r0 hV => ?_⟩
  have hW := h (fine_of r0 hV)
  simp only [Bool.and_eq_true] at hpl
  obtain ⟨⟨⟨p1, p2⟩, p3⟩, p4⟩ := hpl
  have hs := xcatch_sound C hext hT (mu := mu) (fuel := 0) hf r0 hV
  refine Ans.shr C r0 hs ?_
  unfold xcatch
  rw [Nat.ble_eq_true_of_le hl, cond_true]
  rw [← argE_eq] at hW
  obtain ⟨e1, env1, q1, h1, k1⟩ := W_run C mu ext call 0 x.a ma _ p _ ha p1 hW
  rw [h1]
  cases e1 with
  | normal =>
    simp only
    obtain ⟨e2, env2, q2, h2, k2⟩ := W_run C mu ext call 0 x.b mb _ q1 _ hb p2 k1
    rw [h2]
    cases e2 with
    | normal =>
      simp only
      simp only [qcB] at k2
      rw [← XEnv.at_put] at k2
      obtain ⟨e3, env3, q3, h3, k3⟩ := W_run C mu ext call 0 x.post mp _ q2 _ hp p3 k2
      rw [h3]
      have fin : ∀ rec : CV, W C mu ext call mr (put (argE (x.caps.map env2.at)) (some x.gd) rec) q3 (qcE C x.rs env3.at fun r' => ShrR p r' r) → ShrR p (xcatchEnd C mu ext call 0 x (x.caps.map env2.at) rec env3 q3) r := by
        intro rec hw
        rw [← argE_eq, ← XEnv.at_put] at hw
        obtain ⟨e4, env4, q4, h4, k4⟩ := W_run C mu ext call 0 x.rest mr _ q3 _ hr p4 hw
        unfold xcatchEnd
        rw [h4]
        cases e4 with
        | normal => exact fin_run C (K := fun r' => ShrR p r' r) k4
        | ret => exact fin_run C (K := fun r' => ShrR p r' r) k4
        | exit i => exact k4.elim
        | pan v => exact k4.elim
        | panU v => exact k4.elim
      cases e3 with
      | normal => exact fin _ k3
      | ret => exact fin _ k3
      | pan v => exact fin _ k3
      | exit i => exact k3.elim
      | panU v => exact k3.elim
    | exit i => exact k2.elim
    | ret => exact k2.elim
    | pan v => exact k2.elim
    | panU v => exact k2.elim
  | exit i => exact k1.elim
  | ret => exact k1.elim
  | pan v => exact k1.elim
  | panU v => exact k1.elim
end
end Go.Cl
end
section
namespace Go.Cl
theorem zunf (C : Ctx) {c d : ZC} (h : c = d) (mu : Bool) (ext : FuncId → List CV → Option CV) (call : XCall) (ρ : Env) (p : Hp) (Q : ZQ) : W C mu ext call c ρ p Q = W C mu ext call d ρ p Q := by rw [h]
set_option linter.defProp false in
def zall :=
  And.intro @W_seq <|
  And.intro @W_reg <|
  And.intro @W_draw <|
  And.intro @W_ret <|
  And.intro @W_skip <|
  And.intro @W_cond <|
  And.intro @W_block <|
  And.intro @W_exit <|
  And.intro @Wo_nil <|
  And.intro @Wo_on <|
  And.intro @Wo_gd <|
  And.intro @bindO_ret <|
  And.intro @bindO_pan <|
  And.intro @wantO_t <|
  And.intro @wantO_f <|
  And.intro @seqQ_n <|
  And.intro @seqQ_e <|
  And.intro @seqQ_r <|
  And.intro @seqQ_p <|
  And.intro @seqQ_u <|
  And.intro @blkQ_n <|
  And.intro @blkQ_e <|
  And.intro @blkQ_r <|
  And.intro @blkQ_p <|
  And.intro @blkQ_u <|
  And.intro @condW_t <|
  And.intro @condW_f <|
  And.intro @condW_not <|
  And.intro @zev_tmp <|
  And.intro @zev_const <|
  And.intro @zev_func <|
  And.intro @zofConst_int <|
  And.intro @Y1q <|
  And.intro @ofConst_str <|
  And.intro @K1i <|
  And.intro @X06 <|
  And.intro @V1g <|
  And.intro @X1b <|
  And.intro @V1q <|
  And.intro @Q1i <|
  And.intro @put_at <|
  And.intro @Z0a <|
  And.intro @V0f <|
  And.intro @argE_s <|
  And.intro @qmin2 <|
  And.intro @qmax2 <|
  And.intro @endQ_r <|
  And.intro @endQ_n <|
  And.intro @endQ_p <|
  And.intro @endQ_u <|
  And.intro @zres_nil <|
  And.intro @zres_tmp <|
  And.intro @zres_cell <|
  And.intro @finW_some <|
  And.intro @pack_0 <|
  And.intro @pack_1 <|
  And.intro @pack_2 <|
  And.intro @qbin_int <|
  And.intro @qbin_float <|
  And.intro @qbin_bool <|
  And.intro @qbin_str <|
  And.intro @qbin_fnnil <|
  And.intro @qbin_ifcnil <|
  And.intro @qbin_nilnil <|
  And.intro @zwanted_b <|
  And.intro @Wd_nil <|
  And.intro @Wd_on <|
  And.intro @Wd_gd <|
  And.intro @wantD_t <|
  And.intro @wantD_f <|
  And.intro @stepD_q <|
  And.intro @stepD_e <|
  And.intro @stepD_a <|
  And.intro @bindQ_ret <|
  And.intro @bindE_ret <|
  And.intro @bindE_pan <|
  And.intro @histP_nil <|
  And.intro @histP_cons <|
  And.intro @histA_nil <|
  And.intro @histA_cons <|
  And.intro @allW_nil <|
  And.intro @allW_cons <|
  And.intro @memN_nil <|
  And.intro @memN_cons <|
  And.intro @pushW_nil <|
  And.intro @pushW_cons <|
  And.intro @pushH_t <|
  And.intro @pushH_f <|
  And.intro @still_eq <|
  And.intro @stillK_q <|
  And.intro @stillK_a <|
  And.intro @layZ_nil <|
  And.intro @layZ_cons <|
  And.intro @xcallv_fn <|
  And.intro @xld_p <|
  And.intro @xld_r <|
  And.intro @xfa_p <|
  And.intro @xfa_r <|
  And.intro @xia_p <|
  And.intro @xia_r <|
  And.intro @xia_s <|
  And.intro @xst_p <|
  And.intro @Hp.bump_get <|
  And.intro @Hp.bump_n <|
  And.intro @Hp.get_set_self <|
  And.intro @Hp.get_set_ne <|
  And.intro @Hp.get_new_self <|
  And.intro @Hp.get_new_eq <|
  And.intro @Hp.get_new_ne <|
  And.intro @Hp.zset_n <|
  And.intro @Hp.znew_n <|
  And.intro @K07 <|
  And.intro @beqT <|
  And.intro @beqF <|
  And.intro @subEq_self <|
  And.intro @cond_pos <|
  And.intro @cond_neg <|
  And.intro @inR_dec <|
  And.intro @at_nil <|
  And.intro @Z1n <|
  And.intro @shOk_sc <|
  And.intro @shOk_lst <|
  And.intro @shOk_lst' <|
  And.intro @shOk_ptr <|
  And.intro @shOk_slc <|
  And.intro @shOk_fn <|
  And.intro @shOk_ifc <|
  And.intro @Wn_succ <|
  And.intro @Q1t <|
  And.intro @cast_lit <|
  And.intro @iteN <|
  And.intro @iteS <|
  And.intro @appT_0 <|
  And.intro @appT_n <|
  And.intro @appT_e <|
  And.intro @appT_c <|
  And.intro @appT_o <|
  And.intro @nilness_0 <|
  And.intro @nilness_e <|
  And.intro @nilness_p <|
  And.intro @nilness_o <|
  And.intro @nilness_v <|
  @nilness_n
set_option linter.defProp false in
def zheap := And.intro @Hp.bump_get <| And.intro @Hp.bump_n <| And.intro @Hp.get_set_self <| And.intro @Hp.get_set_ne <| And.intro @Hp.get_new_self <| And.intro @Hp.get_new_eq <| And.intro @Hp.get_new_ne <| And.intro @Hp.zset_n @Hp.znew_n
set_option linter.defProp false in
def zcore := And.intro @true_and <| And.intro @and_true <| And.intro @and_self <| And.intro @Bool.true_and <| And.intro @Bool.and_true <| And.intro @Bool.and_self <| And.intro @Bool.false_and <| And.intro @Bool.and_false <| And.intro Bool.not_true <| And.intro Bool.not_false <| And.intro @decide_true <| And.intro @decide_false <| @Int.toNat_natCast
set_option linter.defProp false in
def zhd := And.intro @decide_eq_true_eq <| And.intro @decide_eq_false_iff_not <| And.intro @Bool.or_eq_true <| And.intro @Bool.and_eq_true <| And.intro @Bool.not_eq_true <| And.intro @Bool.not_eq_false <| And.intro @Bool.not_not <| And.intro @Bool.not_eq_true' @Bool.not_eq_false'
set_option linter.defProp false in
def zhn := And.intro @Classical.not_not <| And.intro @Int.not_le @Int.not_lt
theorem zd1 {P : Prop} (h : P := by first | omega | (simp only [Hp.bump_n, Hp.znew_n, Hp.zset_n, List.length_nil, List.length_cons, List.length_append, List.length_map]; (first | done | omega))) : P := h
theorem zdis {P : Prop} (h : P := by first | assumption | omega | (simp only [Hp.bump_n, Hp.znew_n, Hp.zset_n, List.length_nil, List.length_cons, List.length_append, List.length_map]; (first | done | omega)) | (simp (disch := first | exact zd1 | fail) only [zheap, zx]; done) | (simp (disch := first | exact zd1 | fail) only [zheap, zx]; with_unfolding_all rfl) | (simp (disch := first | exact zd1 | fail) only [zheap, zx]; refine congrArg some (congrArg XObj.tail ?_); simp only [List.length_nil, List.length_cons, List.length_append, List.length_map]; (first | done | omega))) : P := h
theorem zle {P : Prop} (h : P := by intro k o h; have hd := hF.dom k o h; (try simp (disch := first | exact zdl | fail) only [Hp.bump_get, Hp.get_set_ne, Hp.get_new_ne, Hp.bump_n, Hp.znew_n, Hp.zset_n]); exact h) : P := h
theorem zlm {P : Prop} (h : P := by intro k o hk h; have hd := hF.dom k o h; (try simp (disch := first | exact zdl | fail) only [Hp.bump_get, Hp.get_set_ne, Hp.get_new_ne, Hp.bump_n, Hp.znew_n, Hp.zset_n]); exact h) : P := h
theorem zlq {P : Prop} (h : P := by intro k o h; have hd := hF.dom k o h; (try simp (disch := first | exact zdl | fail) only [Hp.bump_get, Hp.get_set_ne, Hp.get_new_ne, Hp.bump_n, Hp.znew_n, Hp.zset_n]); exact hle k o h) : P := h
theorem zdl {P : Prop} (h : P := by first | assumption | omega | (simp only [Hp.bump_n, Hp.znew_n, Hp.zset_n, List.length_nil, List.length_cons, List.length_append, List.length_map]; (first | done | omega))) : P := h
end Go.Cl
end
section
namespace Go.Proofs.Ytpchcfkebljopaa
open Go.Cl
abbrev sh1 : Shape := .s
abbrev z1 : CV := .sc .nilFunc
def ti1 : TI := ⟨.base (.func #[] #[] false), sh1, 8, z1⟩
abbrev sh2 : Shape := .s
abbrev z2 : CV := .sc (.int .i64 0)
def ti2 : TI := ⟨.base (.int .i64), sh2, 8, z2⟩
abbrev sh3 : Shape := .s
abbrev z3 : CV := .sc (.int .i64 0)
def ti3 : TI := ⟨.base (.int .i64), sh3, 8, z3⟩
abbrev sh4 : Shape := .s
abbrev z4 : CV := .sc (.bool false)
def ti4 : TI := ⟨.base (.bool), sh4, 1, z4⟩
abbrev sh5 : Shape := .s
abbrev z5 : CV := .sc (.int .u8 0)
def ti5 : TI := ⟨.base (.int .u8), sh5, 1, z5⟩
abbrev sh9 : Shape := .s
abbrev z9 : CV := .sc (.string ⟨#[]⟩)
def ti9 : TI := ⟨.base (.string), sh9, 16, z9⟩
abbrev sh12 : Shape := .s
abbrev z12 : CV := .sc (.int .u64 0)
def ti12 : TI := ⟨.base (.int .u64), sh12, 8, z12⟩
abbrev sh15 : Shape := .s
abbrev z15 : CV := .sc (.pointer none)
def ti15 : TI := ⟨.base (.pointer 243), sh15, 8, z15⟩
abbrev sh16 : Shape := .s
abbrev z16 : CV := .sc (.pointer none)
def ti16 : TI := ⟨.base (.pointer 246), sh16, 8, z16⟩
abbrev sh17 : Shape := .s
abbrev z17 : CV := .sc (.pointer none)
def ti17 : TI := ⟨.base (.pointer 255), sh17, 8, z17⟩
abbrev sh20 : Shape := .s
abbrev z20 : CV := .sc .nilIface
def ti20 : TI := ⟨.base (.interface #[]), sh20, 16, z20⟩
abbrev sh21 : Shape := .s
abbrev z21 : CV := .sc (.int .i32 0)
def ti21 : TI := ⟨.base (.int .i32), sh21, 4, z21⟩
abbrev sh22 : Shape := .s
abbrev z22 : CV := .lst .nil []
def ti22 : TI := ⟨.base (.slice 31), sh22, 24, z22⟩
abbrev sh23 : Shape := .s
abbrev z23 : CV := .lst .nil []
def ti23 : TI := ⟨.base (.slice 29), sh23, 24, z23⟩
abbrev sh24 : Shape := .s
abbrev z24 : CV := .lst .nil []
def ti24 : TI := ⟨.base (.slice 3), sh24, 24, z24⟩
abbrev sh25 : Shape := .s
abbrev z25 : CV := .sc (.int .u64 0)
def ti25 : TI := ⟨.base (.int .u64), sh25, 8, z25⟩
def sh26 : Shape := .n [sh3, sh3, sh3, sh3, sh3, sh3, sh24, sh25, sh3]
def z26 : CV := .agg [z3, z3, z3, z3, z3, z3, z24, z25, z3]
def ti26 : TI := ⟨.st [(0, 1, 3), (1, 1, 3), (2, 1, 3), (3, 1, 3), (4, 1, 3), (5, 1, 3), (6, 1, 24), (7, 1, 25), (8, 1, 3)], sh26, 88, z26⟩
def sh27 : Shape := .n [sh3, sh3, sh3, sh3, sh3, sh3, sh24, sh25, sh3]
def z27 : CV := .agg [z3, z3, z3, z3, z3, z3, z24, z25, z3]
def ti27 : TI := ⟨.st [(0, 1, 3), (1, 1, 3), (2, 1, 3), (3, 1, 3), (4, 1, 3), (5, 1, 3), (6, 1, 24), (7, 1, 25), (8, 1, 3)], sh27, 88, z27⟩
def sh28 : Shape := .n [sh3, sh3, sh3]
def z28 : CV := .agg [z3, z3, z3]
def ti28 : TI := ⟨.st [(0, 1, 3), (1, 1, 3), (2, 1, 3)], sh28, 24, z28⟩
def sh29 : Shape := .n [sh3, sh3, sh3]
def z29 : CV := .agg [z3, z3, z3]
def ti29 : TI := ⟨.st [(0, 1, 3), (1, 1, 3), (2, 1, 3)], sh29, 24, z29⟩
abbrev sh30 : Shape := .s
abbrev z30 : CV := .sc .nilFunc
def ti30 : TI := ⟨.base (.func #[31] #[29] false), sh30, 8, z30⟩
def sh31 : Shape := .n [sh3, sh3, sh3]
def z31 : CV := .agg [z3, z3, z3]
def ti31 : TI := ⟨.st [(0, 1, 3), (1, 1, 3), (2, 1, 3)], sh31, 24, z31⟩
def sh32 : Shape := .n (List.replicate 4 sh3)
def z32 : CV := .agg (List.replicate 4 z3)
def ti32 : TI := ⟨.ar 4 1 3, sh32, 32, z32⟩
def sh33 : Shape := .n [sh3, sh3, sh3, sh3, sh3, sh3, sh3, sh32, sh3]
def z33 : CV := .agg [z3, z3, z3, z3, z3, z3, z3, z32, z3]
def ti33 : TI := ⟨.st [(0, 1, 3), (1, 1, 3), (2, 1, 3), (3, 1, 3), (4, 1, 3), (5, 1, 3), (6, 1, 3), (7, 4, 32), (11, 1, 3)], sh33, 96, z33⟩
def sh34 : Shape := .n [sh3, sh3, sh3, sh3, sh3, sh3, sh3, sh32, sh3]
def z34 : CV := .agg [z3, z3, z3, z3, z3, z3, z3, z32, z3]
def ti34 : TI := ⟨.st [(0, 1, 3), (1, 1, 3), (2, 1, 3), (3, 1, 3), (4, 1, 3), (5, 1, 3), (6, 1, 3), (7, 4, 32), (11, 1, 3)], sh34, 96, z34⟩
def sh35 : Shape := .n [sh3, sh3, sh3]
def z35 : CV := .agg [z3, z3, z3]
def ti35 : TI := ⟨.st [(0, 1, 3), (1, 1, 3), (2, 1, 3)], sh35, 24, z35⟩
def sh36 : Shape := .n [sh3, sh3, sh3]
def z36 : CV := .agg [z3, z3, z3]
def ti36 : TI := ⟨.st [(0, 1, 3), (1, 1, 3), (2, 1, 3)], sh36, 24, z36⟩
abbrev sh37 : Shape := .s
abbrev z37 : CV := .lst .nil []
def ti37 : TI := ⟨.base (.slice 34), sh37, 24, z37⟩
def sh38 : Shape := .n [sh34, sh36, sh25, sh3, sh37]
def z38 : CV := .agg [z34, z36, z25, z3, z37]
def ti38 : TI := ⟨.st [(0, 12, 34), (12, 3, 36), (15, 1, 25), (16, 1, 3), (17, 1, 37)], sh38, 160, z38⟩
def sh39 : Shape := .n [sh34, sh36, sh25, sh3, sh37]
def z39 : CV := .agg [z34, z36, z25, z3, z37]
def ti39 : TI := ⟨.st [(0, 12, 34), (12, 3, 36), (15, 1, 25), (16, 1, 3), (17, 1, 37)], sh39, 160, z39⟩
abbrev sh40 : Shape := .s
abbrev z40 : CV := .sc .nilFunc
def ti40 : TI := ⟨.base (.func #[27] #[39] false), sh40, 8, z40⟩
abbrev sh41 : Shape := .s
abbrev z41 : CV := .sc .nilFunc
def ti41 : TI := ⟨.base (.func #[] #[4] false), sh41, 8, z41⟩
abbrev sh42 : Shape := .s
abbrev z42 : CV := .sc .nilFunc
def ti42 : TI := ⟨.base (.func #[34] #[4] false), sh42, 8, z42⟩
def sh43 : Shape := .n [sh3, sh3]
def z43 : CV := .agg [z3, z3]
def ti43 : TI := ⟨.st [(0, 1, 3), (1, 1, 3)], sh43, 16, z43⟩
def sh44 : Shape := .n [sh3, sh3]
def z44 : CV := .agg [z3, z3]
def ti44 : TI := ⟨.st [(0, 1, 3), (1, 1, 3)], sh44, 16, z44⟩
abbrev sh46 : Shape := .s
abbrev z46 : CV := .sc .nilFunc
def ti46 : TI := ⟨.base (.func #[23, 39] #[39, 44, 4] false), sh46, 8, z46⟩
abbrev sh47 : Shape := .s
abbrev z47 : CV := .sc .nilFunc
def ti47 : TI := ⟨.base (.func #[39, 39] #[4] false), sh47, 8, z47⟩
abbrev sh48 : Shape := .s
abbrev z48 : CV := .sc .nilFunc
def ti48 : TI := ⟨.base (.func #[22, 23, 27] #[4] false), sh48, 8, z48⟩
abbrev sh49 : Shape := .s
abbrev z49 : CV := .sc .nilFunc
def ti49 : TI := ⟨.base (.func #[22] #[23] false), sh49, 8, z49⟩
abbrev sh50 : Shape := .s
abbrev z50 : CV := .sc .nilFunc
def ti50 : TI := ⟨.base (.func #[22, 22, 27] #[4] false), sh50, 8, z50⟩
def sh51 : Shape := .n [sh34, sh36, sh25, sh3, sh37]
def z51 : CV := .agg [z34, z36, z25, z3, z37]
def ti51 : TI := ⟨.st [(0, 12, 34), (12, 3, 36), (15, 1, 25), (16, 1, 3), (17, 1, 37)], sh51, 160, z51⟩
abbrev sh53 : Shape := .s
abbrev z53 : CV := .sc .nilFunc
def ti53 : TI := ⟨.base (.func #[23, 51] #[51, 3, 3, 4] false), sh53, 8, z53⟩
abbrev sh54 : Shape := .s
abbrev z54 : CV := .sc .nilFunc
def ti54 : TI := ⟨.base (.func #[23] #[4] false), sh54, 8, z54⟩
abbrev sh55 : Shape := .s
abbrev z55 : CV := .sc .nilFunc
def ti55 : TI := ⟨.base (.func #[22, 27] #[4] false), sh55, 8, z55⟩
def sh56 : Shape := .n [sh3, sh3, sh3, sh3, sh3, sh3, sh3, sh22]
def z56 : CV := .agg [z3, z3, z3, z3, z3, z3, z3, z22]
def ti56 : TI := ⟨.st [(0, 1, 3), (1, 1, 3), (2, 1, 3), (3, 1, 3), (4, 1, 3), (5, 1, 3), (6, 1, 3), (7, 1, 22)], sh56, 80, z56⟩
def sh57 : Shape := .n [sh3, sh3, sh3, sh3, sh3, sh3, sh3, sh22]
def z57 : CV := .agg [z3, z3, z3, z3, z3, z3, z3, z22]
def ti57 : TI := ⟨.st [(0, 1, 3), (1, 1, 3), (2, 1, 3), (3, 1, 3), (4, 1, 3), (5, 1, 3), (6, 1, 3), (7, 1, 22)], sh57, 80, z57⟩
abbrev sh58 : Shape := .s
abbrev z58 : CV := .lst .nil []
def ti58 : TI := ⟨.base (.slice 24), sh58, 24, z58⟩
abbrev sh59 : Shape := .s
abbrev z59 : CV := .sc (.float .f64 0)
def ti59 : TI := ⟨.base (.float .f64), sh59, 8, z59⟩
def sh60 : Shape := .n [sh3, sh3, sh3, sh3, sh3, sh3, sh59, sh59, sh23, sh24]
def z60 : CV := .agg [z3, z3, z3, z3, z3, z3, z59, z59, z23, z24]
def ti60 : TI := ⟨.st [(0, 1, 3), (1, 1, 3), (2, 1, 3), (3, 1, 3), (4, 1, 3), (5, 1, 3), (6, 1, 59), (7, 1, 59), (8, 1, 23), (9, 1, 24)], sh60, 112, z60⟩
def sh61 : Shape := .n [sh3, sh3, sh3, sh3, sh3, sh3, sh59, sh59, sh23, sh24]
def z61 : CV := .agg [z3, z3, z3, z3, z3, z3, z59, z59, z23, z24]
def ti61 : TI := ⟨.st [(0, 1, 3), (1, 1, 3), (2, 1, 3), (3, 1, 3), (4, 1, 3), (5, 1, 3), (6, 1, 59), (7, 1, 59), (8, 1, 23), (9, 1, 24)], sh61, 112, z61⟩
abbrev sh62 : Shape := .s
abbrev z62 : CV := .sc .nilFunc
def ti62 : TI := ⟨.base (.func #[57] #[61] false), sh62, 8, z62⟩
def sh63 : Shape := .n (List.replicate 16 sh34)
def z63 : CV := .agg (List.replicate 16 z34)
def ti63 : TI := ⟨.ar 16 12 34, sh63, 1536, z63⟩
def sh64 : Shape := .n (List.replicate 8 sh3)
def z64 : CV := .agg (List.replicate 8 z3)
def ti64 : TI := ⟨.ar 8 1 3, sh64, 64, z64⟩
def sh65 : Shape := .n [sh3, sh25, sh63, sh64]
def z65 : CV := .agg [z3, z25, z63, z64]
def ti65 : TI := ⟨.st [(0, 1, 3), (1, 1, 25), (2, 192, 63), (194, 8, 64)], sh65, 1616, z65⟩
def sh66 : Shape := .n [sh3, sh25, sh63, sh64]
def z66 : CV := .agg [z3, z25, z63, z64]
def ti66 : TI := ⟨.st [(0, 1, 3), (1, 1, 25), (2, 192, 63), (194, 8, 64)], sh66, 1616, z66⟩
abbrev sh67 : Shape := .s
abbrev z67 : CV := .sc .nilFunc
def ti67 : TI := ⟨.base (.func #[61, 58] #[66] false), sh67, 8, z67⟩
abbrev sh68 : Shape := .s
abbrev z68 : CV := .lst .nil []
def ti68 : TI := ⟨.base (.slice 5), sh68, 24, z68⟩
abbrev sh69 : Shape := .s
abbrev z69 : CV := .sc (.int .i64 0)
def ti69 : TI := ⟨.base (.int .i64), sh69, 8, z69⟩
abbrev sh71 : Shape := .s
abbrev z71 : CV := .sc .nilFunc
def ti71 : TI := ⟨.base (.func #[61, 66] #[68, 69] false), sh71, 8, z71⟩
abbrev sh72 : Shape := .s
abbrev z72 : CV := .sc .nilFunc
def ti72 : TI := ⟨.base (.func #[66, 66] #[4] false), sh72, 8, z72⟩
abbrev sh74 : Shape := .s
abbrev z74 : CV := .sc .nilFunc
def ti74 : TI := ⟨.base (.func #[61, 68] #[66, 69] false), sh74, 8, z74⟩
abbrev sh75 : Shape := .s
abbrev z75 : CV := .sc .nilFunc
def ti75 : TI := ⟨.base (.func #[57, 58, 58] #[4] false), sh75, 8, z75⟩
abbrev sh76 : Shape := .s
abbrev z76 : CV := .sc .nilFunc
def ti76 : TI := ⟨.base (.func #[3, 3] #[3] false), sh76, 8, z76⟩
abbrev sh77 : Shape := .s
abbrev z77 : CV := .sc .nilFunc
def ti77 : TI := ⟨.base (.func #[61, 66] #[4] false), sh77, 8, z77⟩
abbrev sh78 : Shape := .s
abbrev z78 : CV := .sc .nilFunc
def ti78 : TI := ⟨.base (.func #[57, 58, 3, 5] #[4] false), sh78, 8, z78⟩
abbrev sh80 : Shape := .s
abbrev z80 : CV := .sc .nilFunc
def ti80 : TI := ⟨.base (.func #[61, 66] #[68, 4] false), sh80, 8, z80⟩
abbrev sh81 : Shape := .s
abbrev z81 : CV := .sc .nilFunc
def ti81 : TI := ⟨.base (.func #[61, 66] #[3] false), sh81, 8, z81⟩
abbrev sh82 : Shape := .s
abbrev z82 : CV := .sc .nilFunc
def ti82 : TI := ⟨.base (.func #[68, 3] #[68] false), sh82, 8, z82⟩
abbrev sh84 : Shape := .s
abbrev z84 : CV := .sc .nilFunc
def ti84 : TI := ⟨.base (.func #[61, 68] #[66, 4] false), sh84, 8, z84⟩
abbrev sh85 : Shape := .s
abbrev z85 : CV := .sc .nilFunc
def ti85 : TI := ⟨.base (.func #[57, 58, 3, 3, 3, 68, 4, 24, 5] #[4] false), sh85, 8, z85⟩
abbrev sh86 : Shape := .s
abbrev z86 : CV := .sc .nilFunc
def ti86 : TI := ⟨.base (.func #[57, 58, 3] #[4] false), sh86, 8, z86⟩
abbrev sh87 : Shape := .s
abbrev z87 : CV := .sc (.pointer none)
def ti87 : TI := ⟨.base (.pointer 34), sh87, 8, z87⟩
abbrev sh88 : Shape := .s
abbrev z88 : CV := .sc .nilFunc
def ti88 : TI := ⟨.base (.func #[57, 58, 3, 3] #[4] false), sh88, 8, z88⟩
def sh89 : Shape := .n [sh3, sh3, sh3, sh3, sh3, sh3, sh3, sh3, sh3, sh3, sh4, sh25, sh24, sh58]
def z89 : CV := .agg [z3, z3, z3, z3, z3, z3, z3, z3, z3, z3, z4, z25, z24, z58]
def ti89 : TI := ⟨.st [(0, 1, 3), (1, 1, 3), (2, 1, 3), (3, 1, 3), (4, 1, 3), (5, 1, 3), (6, 1, 3), (7, 1, 3), (8, 1, 3), (9, 1, 3), (10, 1, 4), (11, 1, 25), (12, 1, 24), (13, 1, 58)], sh89, 144, z89⟩
def sh90 : Shape := .n [sh3, sh3, sh3, sh3, sh3, sh3, sh3, sh3, sh3, sh3, sh4, sh25, sh24, sh58]
def z90 : CV := .agg [z3, z3, z3, z3, z3, z3, z3, z3, z3, z3, z4, z25, z24, z58]
def ti90 : TI := ⟨.st [(0, 1, 3), (1, 1, 3), (2, 1, 3), (3, 1, 3), (4, 1, 3), (5, 1, 3), (6, 1, 3), (7, 1, 3), (8, 1, 3), (9, 1, 3), (10, 1, 4), (11, 1, 25), (12, 1, 24), (13, 1, 58)], sh90, 144, z90⟩
abbrev sh91 : Shape := .s
abbrev z91 : CV := .lst .nil []
def ti91 : TI := ⟨.base (.slice 36), sh91, 24, z91⟩
abbrev sh92 : Shape := .s
abbrev z92 : CV := .lst .nil []
def ti92 : TI := ⟨.base (.slice 108), sh92, 24, z92⟩
def sh93 : Shape := .n [sh3, sh3, sh3, sh3, sh4, sh25, sh3, sh3, sh91, sh3, sh92, sh3, sh3]
def z93 : CV := .agg [z3, z3, z3, z3, z4, z25, z3, z3, z91, z3, z92, z3, z3]
def ti93 : TI := ⟨.st [(0, 1, 3), (1, 1, 3), (2, 1, 3), (3, 1, 3), (4, 1, 4), (5, 1, 25), (6, 1, 3), (7, 1, 3), (8, 1, 91), (9, 1, 3), (10, 1, 92), (11, 1, 3), (12, 1, 3)], sh93, 136, z93⟩
def sh94 : Shape := .n [sh3, sh3, sh3, sh3, sh4, sh25, sh3, sh3, sh91, sh3, sh92, sh3, sh3]
def z94 : CV := .agg [z3, z3, z3, z3, z4, z25, z3, z3, z91, z3, z92, z3, z3]
def ti94 : TI := ⟨.st [(0, 1, 3), (1, 1, 3), (2, 1, 3), (3, 1, 3), (4, 1, 4), (5, 1, 25), (6, 1, 3), (7, 1, 3), (8, 1, 91), (9, 1, 3), (10, 1, 92), (11, 1, 3), (12, 1, 3)], sh94, 136, z94⟩
abbrev sh95 : Shape := .s
abbrev z95 : CV := .sc .nilFunc
def ti95 : TI := ⟨.base (.func #[90] #[94] false), sh95, 8, z95⟩
abbrev sh96 : Shape := .s
abbrev z96 : CV := .sc .nilFunc
def ti96 : TI := ⟨.base (.func #[3, 94] #[68, 69] false), sh96, 8, z96⟩
abbrev sh98 : Shape := .s
abbrev z98 : CV := .sc .nilFunc
def ti98 : TI := ⟨.base (.func #[3, 68] #[94, 69] false), sh98, 8, z98⟩
abbrev sh99 : Shape := .s
abbrev z99 : CV := .sc .nilFunc
def ti99 : TI := ⟨.base (.func #[94, 94] #[4] false), sh99, 8, z99⟩
abbrev sh100 : Shape := .s
abbrev z100 : CV := .sc .nilFunc
def ti100 : TI := ⟨.base (.func #[90, 90, 3, 3, 3, 5] #[4] false), sh100, 8, z100⟩
abbrev sh101 : Shape := .s
abbrev z101 : CV := .sc .nilFunc
def ti101 : TI := ⟨.base (.func #[94] #[4] false), sh101, 8, z101⟩
abbrev sh102 : Shape := .s
abbrev z102 : CV := .sc .nilFunc
def ti102 : TI := ⟨.base (.func #[90, 3] #[4] false), sh102, 8, z102⟩
abbrev sh103 : Shape := .s
abbrev z103 : CV := .sc .nilFunc
def ti103 : TI := ⟨.base (.func #[3, 94] #[68, 4] false), sh103, 8, z103⟩
abbrev sh104 : Shape := .s
abbrev z104 : CV := .sc .nilFunc
def ti104 : TI := ⟨.base (.func #[3, 68] #[68] false), sh104, 8, z104⟩
abbrev sh106 : Shape := .s
abbrev z106 : CV := .sc .nilFunc
def ti106 : TI := ⟨.base (.func #[68] #[3, 4] false), sh106, 8, z106⟩
abbrev sh107 : Shape := .s
abbrev z107 : CV := .sc .nilFunc
def ti107 : TI := ⟨.base (.func #[90, 3, 68, 3, 24, 5] #[4] false), sh107, 8, z107⟩
abbrev sh108 : Shape := .s
abbrev z108 : CV := .lst .nil []
def ti108 : TI := ⟨.base (.slice 110), sh108, 24, z108⟩
def sh109 : Shape := .n [sh4, sh36]
def z109 : CV := .agg [z4, z36]
def ti109 : TI := ⟨.st [(0, 1, 4), (1, 3, 36)], sh109, 32, z109⟩
def sh110 : Shape := .n [sh4, sh36]
def z110 : CV := .agg [z4, z36]
def ti110 : TI := ⟨.st [(0, 1, 4), (1, 3, 36)], sh110, 32, z110⟩
abbrev sh111 : Shape := .s
abbrev z111 : CV := .sc .nilFunc
def ti111 : TI := ⟨.base (.func #[61] #[66] false), sh111, 8, z111⟩
abbrev sh112 : Shape := .s
abbrev z112 : CV := .sc .nilFunc
def ti112 : TI := ⟨.base (.func #[61] #[4] false), sh112, 8, z112⟩
abbrev sh113 : Shape := .s
abbrev z113 : CV := .sc .nilFunc
def ti113 : TI := ⟨.base (.func #[3, 58] #[92] false), sh113, 8, z113⟩
abbrev sh114 : Shape := .s
abbrev z114 : CV := .sc .nilFunc
def ti114 : TI := ⟨.base (.func #[61, 66, 108] #[66] false), sh114, 8, z114⟩
abbrev sh115 : Shape := .s
abbrev z115 : CV := .sc .nilFunc
def ti115 : TI := ⟨.base (.func #[57, 58, 92] #[4] false), sh115, 8, z115⟩
abbrev sh116 : Shape := .s
abbrev z116 : CV := .sc .nilFunc
def ti116 : TI := ⟨.base (.func #[3, 23] #[61] true), sh116, 8, z116⟩
abbrev sh117 : Shape := .s
abbrev z117 : CV := .sc .nilFunc
def ti117 : TI := ⟨.base (.func #[3, 58, 58, 3] #[4] false), sh117, 8, z117⟩
def sh118 : Shape := .n (List.replicate 4 sh29)
def z118 : CV := .agg (List.replicate 4 z29)
def ti118 : TI := ⟨.ar 4 3 29, sh118, 96, z118⟩
abbrev sh119 : Shape := .s
abbrev z119 : CV := .sc .nilFunc
def ti119 : TI := ⟨.base (.func #[3, 3] #[34] false), sh119, 8, z119⟩
abbrev sh120 : Shape := .s
abbrev z120 : CV := .sc .nilFunc
def ti120 : TI := ⟨.base (.func #[3, 3, 58, 3] #[4] false), sh120, 8, z120⟩
abbrev sh121 : Shape := .s
abbrev z121 : CV := .sc .nilFunc
def ti121 : TI := ⟨.base (.func #[3, 24] #[108] false), sh121, 8, z121⟩
abbrev sh122 : Shape := .s
abbrev z122 : CV := .sc .nilFunc
def ti122 : TI := ⟨.base (.func #[57, 58, 24, 3] #[4] false), sh122, 8, z122⟩
abbrev sh123 : Shape := .s
abbrev z123 : CV := .sc .nilFunc
def ti123 : TI := ⟨.base (.func #[61, 66, 92] #[66] false), sh123, 8, z123⟩
abbrev sh124 : Shape := .s
abbrev z124 : CV := .sc .nilFunc
def ti124 : TI := ⟨.base (.func #[57, 58] #[4] false), sh124, 8, z124⟩
abbrev sh125 : Shape := .s
abbrev z125 : CV := .sc .nilFunc
def ti125 : TI := ⟨.base (.func #[3, 3] #[36] false), sh125, 8, z125⟩
abbrev sh126 : Shape := .s
abbrev z126 : CV := .sc .nilFunc
def ti126 : TI := ⟨.base (.func #[] #[39] false), sh126, 8, z126⟩
abbrev sh127 : Shape := .s
abbrev z127 : CV := .sc .nilFunc
def ti127 : TI := ⟨.base (.func #[3, 3, 3] #[4] false), sh127, 8, z127⟩
abbrev sh128 : Shape := .s
abbrev z128 : CV := .sc .nilFunc
def ti128 : TI := ⟨.base (.func #[39] #[39] false), sh128, 8, z128⟩
abbrev sh129 : Shape := .s
abbrev z129 : CV := .sc (.pointer none)
def ti129 : TI := ⟨.base (.pointer 131), sh129, 8, z129⟩
def sh130 : Shape := .n [sh39, sh23, sh3]
def z130 : CV := .agg [z39, z23, z3]
def ti130 : TI := ⟨.st [(0, 18, 39), (18, 1, 23), (19, 1, 3)], sh130, 192, z130⟩
def sh131 : Shape := .n [sh39, sh23, sh3]
def z131 : CV := .agg [z39, z23, z3]
def ti131 : TI := ⟨.st [(0, 18, 39), (18, 1, 23), (19, 1, 3)], sh131, 192, z131⟩
abbrev sh133 : Shape := .s
abbrev z133 : CV := .sc .nilFunc
def ti133 : TI := ⟨.base (.func #[1] #[44, 4] false), sh133, 8, z133⟩
abbrev sh134 : Shape := .s
abbrev z134 : CV := .sc .nilFunc
def ti134 : TI := ⟨.base (.func #[29, 51, 3] #[3] false), sh134, 8, z134⟩
abbrev sh135 : Shape := .s
abbrev z135 : CV := .sc .nilFunc
def ti135 : TI := ⟨.base (.func #[51, 3] #[3] false), sh135, 8, z135⟩
abbrev sh137 : Shape := .s
abbrev z137 : CV := .sc .nilFunc
def ti137 : TI := ⟨.base (.func #[25, 3] #[25, 3] false), sh137, 8, z137⟩
abbrev sh138 : Shape := .s
abbrev z138 : CV := .sc .nilFunc
def ti138 : TI := ⟨.base (.func #[29, 51] #[3] false), sh138, 8, z138⟩
abbrev sh139 : Shape := .s
abbrev z139 : CV := .sc .nilFunc
def ti139 : TI := ⟨.base (.func #[3, 3, 3] #[3] false), sh139, 8, z139⟩
abbrev sh140 : Shape := .s
abbrev z140 : CV := .sc .nilFunc
def ti140 : TI := ⟨.base (.func #[34, 3, 3] #[34] false), sh140, 8, z140⟩
abbrev sh141 : Shape := .s
abbrev z141 : CV := .sc .nilFunc
def ti141 : TI := ⟨.base (.func #[23, 142] #[4] false), sh141, 8, z141⟩
abbrev sh142 : Shape := .s
abbrev z142 : CV := .sc .nilFunc
def ti142 : TI := ⟨.base (.func #[29] #[4] false), sh142, 8, z142⟩
abbrev sh143 : Shape := .s
abbrev z143 : CV := .sc (.pointer none)
def ti143 : TI := ⟨.base (.pointer 203), sh143, 8, z143⟩
abbrev sh144 : Shape := .s
abbrev z144 : CV := .sc .nilFunc
def ti144 : TI := ⟨.base (.func #[] #[143] false), sh144, 8, z144⟩
abbrev sh145 : Shape := .s
abbrev z145 : CV := .sc .nilFunc
def ti145 : TI := ⟨.base (.func #[25, 3] #[] false), sh145, 8, z145⟩
abbrev sh146 : Shape := .s
abbrev z146 : CV := .sc .nilFunc
def ti146 : TI := ⟨.base (.func #[143, 34] #[] false), sh146, 8, z146⟩
abbrev sh147 : Shape := .s
abbrev z147 : CV := .sc .nilFunc
def ti147 : TI := ⟨.base (.func #[] #[68] false), sh147, 8, z147⟩
abbrev sh148 : Shape := .s
abbrev z148 : CV := .sc .nilFunc
def ti148 : TI := ⟨.base (.func #[] #[61] false), sh148, 8, z148⟩
abbrev sh149 : Shape := .s
abbrev z149 : CV := .sc .nilFunc
def ti149 : TI := ⟨.base (.func #[61, 150] #[66] false), sh149, 8, z149⟩
abbrev sh150 : Shape := .s
abbrev z150 : CV := .sc (.pointer none)
def ti150 : TI := ⟨.base (.pointer 208), sh150, 8, z150⟩
abbrev sh151 : Shape := .s
abbrev z151 : CV := .sc .nilFunc
def ti151 : TI := ⟨.base (.func #[68] #[150] false), sh151, 8, z151⟩
abbrev sh152 : Shape := .s
abbrev z152 : CV := .sc .nilFunc
def ti152 : TI := ⟨.base (.func #[68, 68] #[4] false), sh152, 8, z152⟩
abbrev sh153 : Shape := .s
abbrev z153 : CV := .sc (.pointer none)
def ti153 : TI := ⟨.base (.pointer 156), sh153, 8, z153⟩
abbrev sh154 : Shape := .s
abbrev z154 : CV := .lst .nil []
def ti154 : TI := ⟨.base (.slice 4), sh154, 24, z154⟩
def sh155 : Shape := .n [sh154]
def z155 : CV := .agg [z154]
def ti155 : TI := ⟨.st [(0, 1, 154)], sh155, 24, z155⟩
def sh156 : Shape := .n [sh154]
def z156 : CV := .agg [z154]
def ti156 : TI := ⟨.st [(0, 1, 154)], sh156, 24, z156⟩
abbrev sh157 : Shape := .s
abbrev z157 : CV := .sc .nilFunc
def ti157 : TI := ⟨.base (.func #[3, 3] #[] false), sh157, 8, z157⟩
abbrev sh158 : Shape := .s
abbrev z158 : CV := .sc .nilFunc
def ti158 : TI := ⟨.base (.func #[68] #[3] false), sh158, 8, z158⟩
abbrev sh159 : Shape := .s
abbrev z159 : CV := .sc (.pointer none)
def ti159 : TI := ⟨.base (.pointer 161), sh159, 8, z159⟩
def sh160 : Shape := .n [sh68, sh3, sh4]
def z160 : CV := .agg [z68, z3, z4]
def ti160 : TI := ⟨.st [(0, 1, 68), (1, 1, 3), (2, 1, 4)], sh160, 40, z160⟩
def sh161 : Shape := .n [sh68, sh3, sh4]
def z161 : CV := .agg [z68, z3, z4]
def ti161 : TI := ⟨.st [(0, 1, 68), (1, 1, 3), (2, 1, 4)], sh161, 40, z161⟩
abbrev sh162 : Shape := .s
abbrev z162 : CV := .sc .nilFunc
def ti162 : TI := ⟨.base (.func #[3] #[25] false), sh162, 8, z162⟩
abbrev sh163 : Shape := .s
abbrev z163 : CV := .sc .nilFunc
def ti163 : TI := ⟨.base (.func #[3] #[3] false), sh163, 8, z163⟩
abbrev sh164 : Shape := .s
abbrev z164 : CV := .sc .nilFunc
def ti164 : TI := ⟨.base (.func #[61, 3, 34] #[4] false), sh164, 8, z164⟩
abbrev sh165 : Shape := .s
abbrev z165 : CV := .sc .nilFunc
def ti165 : TI := ⟨.base (.func #[94] #[68] false), sh165, 8, z165⟩
abbrev sh166 : Shape := .s
abbrev z166 : CV := .sc .nilFunc
def ti166 : TI := ⟨.base (.func #[3, 68] #[68, 4] false), sh166, 8, z166⟩
abbrev sh167 : Shape := .s
abbrev z167 : CV := .sc .nilFunc
def ti167 : TI := ⟨.base (.func #[150] #[94] false), sh167, 8, z167⟩
abbrev sh168 : Shape := .s
abbrev z168 : CV := .sc .nilFunc
def ti168 : TI := ⟨.base (.func #[92, 92, 169] #[4] false), sh168, 8, z168⟩
abbrev sh169 : Shape := .s
abbrev z169 : CV := .sc .nilFunc
def ti169 : TI := ⟨.base (.func #[108, 108] #[4] false), sh169, 8, z169⟩
abbrev sh170 : Shape := .s
abbrev z170 : CV := .sc .nilFunc
def ti170 : TI := ⟨.base (.func #[91, 91] #[4] false), sh170, 8, z170⟩
abbrev sh171 : Shape := .s
abbrev z171 : CV := .sc .nilFunc
def ti171 : TI := ⟨.base (.func #[94] #[94] false), sh171, 8, z171⟩
abbrev sh172 : Shape := .s
abbrev z172 : CV := .sc .nilFunc
def ti172 : TI := ⟨.base (.func #[91, 173] #[4] false), sh172, 8, z172⟩
abbrev sh173 : Shape := .s
abbrev z173 : CV := .sc .nilFunc
def ti173 : TI := ⟨.base (.func #[36] #[4] false), sh173, 8, z173⟩
abbrev sh174 : Shape := .s
abbrev z174 : CV := .sc .nilFunc
def ti174 : TI := ⟨.base (.func #[92, 3] #[4] false), sh174, 8, z174⟩
abbrev sh175 : Shape := .s
abbrev z175 : CV := .sc .nilFunc
def ti175 : TI := ⟨.base (.func #[3] #[68] false), sh175, 8, z175⟩
abbrev sh176 : Shape := .s
abbrev z176 : CV := .sc .nilFunc
def ti176 : TI := ⟨.base (.func #[3, 68] #[3] false), sh176, 8, z176⟩
abbrev sh177 : Shape := .s
abbrev z177 : CV := .sc .nilFunc
def ti177 : TI := ⟨.base (.func #[159] #[36] false), sh177, 8, z177⟩
abbrev sh178 : Shape := .s
abbrev z178 : CV := .sc (.int .u64 0)
def ti178 : TI := ⟨.base (.int .u64), sh178, 8, z178⟩
abbrev sh179 : Shape := .s
abbrev z179 : CV := .sc .nilFunc
def ti179 : TI := ⟨.base (.func #[92, 92] #[4] false), sh179, 8, z179⟩
abbrev sh180 : Shape := .s
abbrev z180 : CV := .sc .nilFunc
def ti180 : TI := ⟨.base (.func #[3, 3, 3] #[110] false), sh180, 8, z180⟩
abbrev sh181 : Shape := .s
abbrev z181 : CV := .sc (.pointer none)
def ti181 : TI := ⟨.base (.pointer 223), sh181, 8, z181⟩
abbrev sh183 : Shape := .s
abbrev z183 : CV := .sc .nilFunc
def ti183 : TI := ⟨.base (.func #[59, 59] #[181, 69] false), sh183, 8, z183⟩
abbrev sh184 : Shape := .s
abbrev z184 : CV := .sc (.pointer none)
def ti184 : TI := ⟨.base (.pointer 186), sh184, 8, z184⟩
def sh185 : Shape := .n [sh61, sh66, sh108, sh37]
def z185 : CV := .agg [z61, z66, z108, z37]
def ti185 : TI := ⟨.st [(0, 10, 61), (10, 202, 66), (212, 1, 108), (213, 1, 37)], sh185, 1776, z185⟩
def sh186 : Shape := .n [sh61, sh66, sh108, sh37]
def z186 : CV := .agg [z61, z66, z108, z37]
def ti186 : TI := ⟨.st [(0, 10, 61), (10, 202, 66), (212, 1, 108), (213, 1, 37)], sh186, 1776, z186⟩
abbrev sh187 : Shape := .s
abbrev z187 : CV := .sc .nilFunc
def ti187 : TI := ⟨.base (.func #[108, 3] #[36] false), sh187, 8, z187⟩
abbrev sh188 : Shape := .s
abbrev z188 : CV := .sc .nilFunc
def ti188 : TI := ⟨.base (.func #[66] #[3] false), sh188, 8, z188⟩
abbrev sh190 : Shape := .s
abbrev z190 : CV := .sc .nilFunc
def ti190 : TI := ⟨.base (.func #[34] #[34, 4] false), sh190, 8, z190⟩
abbrev sh191 : Shape := .s
abbrev z191 : CV := .sc .nilFunc
def ti191 : TI := ⟨.base (.func #[34, 34] #[4] false), sh191, 8, z191⟩
abbrev sh192 : Shape := .s
abbrev z192 : CV := .sc .nilFunc
def ti192 : TI := ⟨.base (.func #[37] #[37] false), sh192, 8, z192⟩
def sh193 : Shape := .n [sh44]
def z193 : CV := .agg [z44]
def ti193 : TI := ⟨.st [(0, 2, 44)], sh193, 16, z193⟩
def sh194 : Shape := .n [sh44]
def z194 : CV := .agg [z44]
def ti194 : TI := ⟨.st [(0, 2, 44)], sh194, 16, z194⟩
abbrev sh195 : Shape := .s
abbrev z195 : CV := .sc .nilFunc
def ti195 : TI := ⟨.base (.func #[4, 3] #[] false), sh195, 8, z195⟩
abbrev sh196 : Shape := .s
abbrev z196 : CV := .sc .nilFunc
def ti196 : TI := ⟨.base (.func #[29] #[3] false), sh196, 8, z196⟩
abbrev sh198 : Shape := .s
abbrev z198 : CV := .sc .nilFunc
def ti198 : TI := ⟨.base (.func #[3] #[4, 4] false), sh198, 8, z198⟩
abbrev sh199 : Shape := .s
abbrev z199 : CV := .sc .nilFunc
def ti199 : TI := ⟨.base (.func #[3] #[4] false), sh199, 8, z199⟩
abbrev sh200 : Shape := .s
abbrev z200 : CV := .sc .nilFunc
def ti200 : TI := ⟨.base (.func #[25] #[25, 3] false), sh200, 8, z200⟩
abbrev sh201 : Shape := .s
abbrev z201 : CV := .sc .nilFunc
def ti201 : TI := ⟨.base (.func #[23, 142] #[3] false), sh201, 8, z201⟩
def sh202 : Shape := .n [sh68, sh3]
def z202 : CV := .agg [z68, z3]
def ti202 : TI := ⟨.st [(0, 1, 68), (1, 1, 3)], sh202, 32, z202⟩
def sh203 : Shape := .n [sh68, sh3]
def z203 : CV := .agg [z68, z3]
def ti203 : TI := ⟨.st [(0, 1, 68), (1, 1, 3)], sh203, 32, z203⟩
abbrev sh204 : Shape := .s
abbrev z204 : CV := .sc .nilFunc
def ti204 : TI := ⟨.base (.func #[25] #[] false), sh204, 8, z204⟩
abbrev sh205 : Shape := .s
abbrev z205 : CV := .sc .nilFunc
def ti205 : TI := ⟨.base (.func #[68] #[68] false), sh205, 8, z205⟩
abbrev sh206 : Shape := .s
abbrev z206 : CV := .sc .nilFunc
def ti206 : TI := ⟨.base (.func #[150] #[34] false), sh206, 8, z206⟩
def sh207 : Shape := .n [sh68, sh3]
def z207 : CV := .agg [z68, z3]
def ti207 : TI := ⟨.st [(0, 1, 68), (1, 1, 3)], sh207, 32, z207⟩
def sh208 : Shape := .n [sh68, sh3]
def z208 : CV := .agg [z68, z3]
def ti208 : TI := ⟨.st [(0, 1, 68), (1, 1, 3)], sh208, 32, z208⟩
abbrev sh209 : Shape := .s
abbrev z209 : CV := .sc .nilFunc
def ti209 : TI := ⟨.base (.func #[59, 59] #[4] false), sh209, 8, z209⟩
abbrev sh210 : Shape := .s
abbrev z210 : CV := .sc .nilFunc
def ti210 : TI := ⟨.base (.func #[143, 4] #[] false), sh210, 8, z210⟩
abbrev sh211 : Shape := .s
abbrev z211 : CV := .sc .nilFunc
def ti211 : TI := ⟨.base (.func #[143, 36] #[] false), sh211, 8, z211⟩
abbrev sh212 : Shape := .s
abbrev z212 : CV := .sc .nilFunc
def ti212 : TI := ⟨.base (.func #[143, 94] #[] false), sh212, 8, z212⟩
abbrev sh213 : Shape := .s
abbrev z213 : CV := .sc .nilFunc
def ti213 : TI := ⟨.base (.func #[150] #[36] false), sh213, 8, z213⟩
abbrev sh214 : Shape := .s
abbrev z214 : CV := .sc .nilFunc
def ti214 : TI := ⟨.base (.func #[150, 215] #[] false), sh214, 8, z214⟩
abbrev sh215 : Shape := .s
abbrev z215 : CV := .sc (.pointer none)
def ti215 : TI := ⟨.base (.pointer 94), sh215, 8, z215⟩
abbrev sh216 : Shape := .s
abbrev z216 : CV := .sc .nilFunc
def ti216 : TI := ⟨.base (.func #[91, 173] #[3] false), sh216, 8, z216⟩
abbrev sh217 : Shape := .s
abbrev z217 : CV := .sc .nilFunc
def ti217 : TI := ⟨.base (.func #[108, 218] #[4] false), sh217, 8, z217⟩
abbrev sh218 : Shape := .s
abbrev z218 : CV := .sc .nilFunc
def ti218 : TI := ⟨.base (.func #[110] #[4] false), sh218, 8, z218⟩
abbrev sh219 : Shape := .s
abbrev z219 : CV := .sc .nilFunc
def ti219 : TI := ⟨.base (.func #[4] #[3] false), sh219, 8, z219⟩
abbrev sh220 : Shape := .s
abbrev z220 : CV := .sc .nilFunc
def ti220 : TI := ⟨.base (.func #[153, 36] #[] false), sh220, 8, z220⟩
abbrev sh221 : Shape := .s
abbrev z221 : CV := .sc .nilFunc
def ti221 : TI := ⟨.base (.func #[59] #[4] false), sh221, 8, z221⟩
def sh222 : Shape := .n [sh59, sh59, sh59, sh3]
def z222 : CV := .agg [z59, z59, z59, z3]
def ti222 : TI := ⟨.st [(0, 1, 59), (1, 1, 59), (2, 1, 59), (3, 1, 3)], sh222, 32, z222⟩
def sh223 : Shape := .n [sh59, sh59, sh59, sh3]
def z223 : CV := .agg [z59, z59, z59, z3]
def ti223 : TI := ⟨.st [(0, 1, 59), (1, 1, 59), (2, 1, 59), (3, 1, 3)], sh223, 32, z223⟩
abbrev sh224 : Shape := .s
abbrev z224 : CV := .sc (.map none)
def ti224 : TI := ⟨.base (.map 3 4), sh224, 8, z224⟩
abbrev sh225 : Shape := .s
abbrev z225 : CV := .sc .nilFunc
def ti225 : TI := ⟨.base (.func #[34] #[34] false), sh225, 8, z225⟩
abbrev sh226 : Shape := .s
abbrev z226 : CV := .sc .nilFunc
def ti226 : TI := ⟨.base (.func #[34] #[3] false), sh226, 8, z226⟩
abbrev sh227 : Shape := .s
abbrev z227 : CV := .sc .nilFunc
def ti227 : TI := ⟨.base (.func #[3, 3] #[4] false), sh227, 8, z227⟩
abbrev sh228 : Shape := .s
abbrev z228 : CV := .sc .nilFunc
def ti228 : TI := ⟨.base (.func #[4, 3, 3] #[] false), sh228, 8, z228⟩
abbrev sh229 : Shape := .s
abbrev z229 : CV := .sc .nilFunc
def ti229 : TI := ⟨.base (.func #[29] #[] false), sh229, 8, z229⟩
abbrev sh230 : Shape := .s
abbrev z230 : CV := .sc .nilFunc
def ti230 : TI := ⟨.base (.func #[] #[3] false), sh230, 8, z230⟩
abbrev sh231 : Shape := .s
abbrev z231 : CV := .sc .nilFunc
def ti231 : TI := ⟨.base (.func #[92] #[108] true), sh231, 8, z231⟩
abbrev sh232 : Shape := .s
abbrev z232 : CV := .sc .nilFunc
def ti232 : TI := ⟨.base (.func #[108, 218] #[3] false), sh232, 8, z232⟩
abbrev sh233 : Shape := .s
abbrev z233 : CV := .sc .nilFunc
def ti233 : TI := ⟨.base (.func #[59, 3] #[4] false), sh233, 8, z233⟩
abbrev sh234 : Shape := .s
abbrev z234 : CV := .sc .nilFunc
def ti234 : TI := ⟨.base (.func #[3] #[36] false), sh234, 8, z234⟩
abbrev sh236 : Shape := .s
abbrev z236 : CV := .sc .nilFunc
def ti236 : TI := ⟨.base (.func #[3, 3] #[3, 3] false), sh236, 8, z236⟩
abbrev sh237 : Shape := .s
abbrev z237 : CV := .sc .nilFunc
def ti237 : TI := ⟨.base (.func #[108, 3] #[108] false), sh237, 8, z237⟩
abbrev sh238 : Shape := .s
abbrev z238 : CV := .sc .nilFunc
def ti238 : TI := ⟨.base (.func #[59] #[59] false), sh238, 8, z238⟩
abbrev sh239 : Shape := .s
abbrev z239 : CV := .sc .nilFunc
def ti239 : TI := ⟨.base (.func #[25] #[59] false), sh239, 8, z239⟩
abbrev sh240 : Shape := .s
abbrev z240 : CV := .sc .nilFunc
def ti240 : TI := ⟨.base (.func #[59] #[25] false), sh240, 8, z240⟩
abbrev sh241 : Shape := .s
abbrev z241 : CV := .sc .nilFunc
def ti241 : TI := ⟨.base (.func #[] #[9] false), sh241, 8, z241⟩
abbrev sh247 : Shape := .s
abbrev z247 : CV := .sc (.int .u32 0)
def ti247 : TI := ⟨.base (.int .u32), sh247, 4, z247⟩
abbrev sh250 : Shape := .s
abbrev z250 : CV := .sc .nilFunc
def ti250 : TI := ⟨.base (.func #[257, 257] #[4] false), sh250, 8, z250⟩
abbrev sh251 : Shape := .s
abbrev z251 : CV := .sc (.pointer none)
def ti251 : TI := ⟨.base (.pointer 5), sh251, 8, z251⟩
abbrev sh256 : Shape := .s
abbrev z256 : CV := .sc .nilFunc
def ti256 : TI := ⟨.base (.func #[] #[59] false), sh256, 8, z256⟩
def tab : List (TypeId × TI) := [(1, ti1), (2, ti2), (3, ti3), (4, ti4), (5, ti5), (9, ti9), (12, ti12), (15, ti15), (16, ti16), (17, ti17), (20, ti20), (21, ti21), (22, ti22), (23, ti23), (24, ti24), (25, ti25), (26, ti26), (27, ti27), (28, ti28), (29, ti29), (30, ti30), (31, ti31), (32, ti32), (33, ti33), (34, ti34), (35, ti35), (36, ti36), (37, ti37), (38, ti38), (39, ti39), (40, ti40), (41, ti41), (42, ti42), (43, ti43), (44, ti44), (46, ti46), (47, ti47), (48, ti48), (49, ti49), (50, ti50), (51, ti51), (53, ti53), (54, ti54), (55, ti55), (56, ti56), (57, ti57), (58, ti58), (59, ti59), (60, ti60), (61, ti61), (62, ti62), (63, ti63), (64, ti64), (65, ti65), (66, ti66), (67, ti67), (68, ti68), (69, ti69), (71, ti71), (72, ti72), (74, ti74), (75, ti75), (76, ti76), (77, ti77), (78, ti78), (80, ti80), (81, ti81), (82, ti82), (84, ti84), (85, ti85), (86, ti86), (87, ti87), (88, ti88), (89, ti89), (90, ti90), (91, ti91), (92, ti92), (93, ti93), (94, ti94), (95, ti95), (96, ti96), (98, ti98), (99, ti99), (100, ti100), (101, ti101), (102, ti102), (103, ti103), (104, ti104), (106, ti106), (107, ti107), (108, ti108), (109, ti109), (110, ti110), (111, ti111), (112, ti112), (113, ti113), (114, ti114), (115, ti115), (116, ti116), (117, ti117), (118, ti118), (119, ti119), (120, ti120), (121, ti121), (122, ti122), (123, ti123), (124, ti124), (125, ti125), (126, ti126), (127, ti127), (128, ti128), (129, ti129), (130, ti130), (131, ti131), (133, ti133), (134, ti134), (135, ti135), (137, ti137), (138, ti138), (139, ti139), (140, ti140), (141, ti141), (142, ti142), (143, ti143), (144, ti144), (145, ti145), (146, ti146), (147, ti147), (148, ti148), (149, ti149), (150, ti150), (151, ti151), (152, ti152), (153, ti153), (154, ti154), (155, ti155), (156, ti156), (157, ti157), (158, ti158), (159, ti159), (160, ti160), (161, ti161), (162, ti162), (163, ti163), (164, ti164), (165, ti165), (166, ti166), (167, ti167), (168, ti168), (169, ti169), (170, ti170), (171, ti171), (172, ti172), (173, ti173), (174, ti174), (175, ti175), (176, ti176), (177, ti177), (178, ti178), (179, ti179), (180, ti180), (181, ti181), (183, ti183), (184, ti184), (185, ti185), (186, ti186), (187, ti187), (188, ti188), (190, ti190), (191, ti191), (192, ti192), (193, ti193), (194, ti194), (195, ti195), (196, ti196), (198, ti198), (199, ti199), (200, ti200), (201, ti201), (202, ti202), (203, ti203), (204, ti204), (205, ti205), (206, ti206), (207, ti207), (208, ti208), (209, ti209), (210, ti210), (211, ti211), (212, ti212), (213, ti213), (214, ti214), (215, ti215), (216, ti216), (217, ti217), (218, ti218), (219, ti219), (220, ti220), (221, ti221), (222, ti222), (223, ti223), (224, ti224), (225, ti225), (226, ti226), (227, ti227), (228, ti228), (229, ti229), (230, ti230), (231, ti231), (232, ti232), (233, ti233), (234, ti234), (236, ti236), (237, ti237), (238, ti238), (239, ti239), (240, ti240), (241, ti241), (247, ti247), (250, ti250), (251, ti251), (256, ti256)]
theorem tab_ok : tab.all (tiB Try.prog) = true := by kernel_rfl
noncomputable def C : Ctx := mkCtx Try.prog (by kernel_rfl) tab tab_ok
theorem tt1 : C.tt 1 = some ti1 := by kernel_rfl
theorem tt3 : C.tt 3 = some ti3 := by kernel_rfl
theorem tt4 : C.tt 4 = some ti4 := by kernel_rfl
theorem tt5 : C.tt 5 = some ti5 := by kernel_rfl
theorem tt20 : C.tt 20 = some ti20 := by kernel_rfl
theorem tt22 : C.tt 22 = some ti22 := by kernel_rfl
theorem tt23 : C.tt 23 = some ti23 := by kernel_rfl
theorem tt24 : C.tt 24 = some ti24 := by kernel_rfl
theorem tt25 : C.tt 25 = some ti25 := by kernel_rfl
theorem tt27 : C.tt 27 = some ti27 := by kernel_rfl
theorem tt29 : C.tt 29 = some ti29 := by kernel_rfl
theorem tt31 : C.tt 31 = some ti31 := by kernel_rfl
theorem tt32 : C.tt 32 = some ti32 := by kernel_rfl
theorem tt34 : C.tt 34 = some ti34 := by kernel_rfl
theorem tt36 : C.tt 36 = some ti36 := by kernel_rfl
theorem tt37 : C.tt 37 = some ti37 := by kernel_rfl
theorem tt39 : C.tt 39 = some ti39 := by kernel_rfl
theorem tt44 : C.tt 44 = some ti44 := by kernel_rfl
theorem tt58 : C.tt 58 = some ti58 := by kernel_rfl
theorem tt59 : C.tt 59 = some ti59 := by kernel_rfl
theorem tt61 : C.tt 61 = some ti61 := by kernel_rfl
theorem tt63 : C.tt 63 = some ti63 := by kernel_rfl
theorem tt64 : C.tt 64 = some ti64 := by kernel_rfl
theorem tt66 : C.tt 66 = some ti66 := by kernel_rfl
theorem tt69 : C.tt 69 = some ti69 := by kernel_rfl
theorem tt92 : C.tt 92 = some ti92 := by kernel_rfl
theorem tt108 : C.tt 108 = some ti108 := by kernel_rfl
theorem tt110 : C.tt 110 = some ti110 := by kernel_rfl
theorem tt131 : C.tt 131 = some ti131 := by kernel_rfl
theorem tt178 : C.tt 178 = some ti178 := by kernel_rfl
theorem tt186 : C.tt 186 = some ti186 := by kernel_rfl
theorem tt194 : C.tt 194 = some ti194 := by kernel_rfl
theorem tt223 : C.tt 223 = some ti223 := by kernel_rfl
theorem tt224 : C.tt 224 = some ti224 := by kernel_rfl
end Go.Proofs.Ytpchcfkebljopaa
end
section
namespace Go.Cl
open Go
abbrev Tm (n : Nat) : Operand := .tmp n
abbrev Kn (n : Int) : Operand := .const (.int .i64 n)
abbrev zcf (f : Nat) (a : List Operand) (t : List Nat) : Op := .call ⟨.value (.func f), ⟨a⟩, ⟨t⟩⟩
abbrev zcb (b : Builtin) (a : List Operand) (t : List Nat) : Op := .call ⟨.builtin b, ⟨a⟩, ⟨t⟩⟩
abbrev zfa (t x f : Nat) : Op := .fieldAddr t (.tmp x) f
abbrev zia (t x i : Nat) : Op := .indexAddr t (.tmp x) (.tmp i)
abbrev zld (t x : Nat) : Op := .load t (.tmp x)
abbrev zmv (x : Nat) : Op := .move (.tmp x)
abbrev zas (x : Nat) : Op := .assign (.tmp x)
abbrev zu (d : Nat) (o : Op) : LOp := ⟨some d, o, none, false⟩
abbrev zv (d : Nat) (o : Op) : LOp := ⟨some d, o, none, true⟩
abbrev zu0 (o : Op) : LOp := ⟨none, o, none, false⟩
abbrev zv0 (o : Op) : LOp := ⟨none, o, none, true⟩
abbrev zug (d : Nat) (o : Op) (g : Nat) (b f : Bool) : LOp := ⟨some d, o, some (g, b), f⟩
abbrev zdd (i d : Nat) (o : Op) (f : Bool) (a b : List Nat) (k : Bool) : DOp := ⟨i, some d, o, none, f, a, b, k⟩
abbrev zd0 (i : Nat) (o : Op) (f : Bool) (a b : List Nat) (k : Bool) : DOp := ⟨i, none, o, none, f, a, b, k⟩
end Go.Cl
end
section
namespace Go.Proofs.Ytpchcfkebljopaa
open Go.Cl Go Go.RowKit
set_option maxRecDepth 100000
def zn201_1 : ZC := ZC.reg [zv 6 (.assign (Kn 0))]
def zn201_3 : ZC := ZC.reg [zu 7 (zmv 1), zu 8 (zmv 0), zu 9 (zmv 2), zu 10 (zcb .min [Tm 8, Tm 9] [3, 3]), zu 11 (zcb .max [Tm 7, Tm 10] [3, 3]), zv 6 (zas 11)]
def zn201_2 : ZC := ZC.seq zn201_3 ZC.ret
def zn201_0 : ZC := ZC.seq zn201_1 zn201_2
def zc201 : ZC := zn201_0
theorem zc201_ok : zcode (xfOf Try.f201).code = some zc201 := by kernel_rfl
set_option linter.defProp false in
def zw201 := And.intro (zunf C zc201.eq_1) <| And.intro (zunf C zn201_1.eq_1) <| And.intro (zunf C zn201_3.eq_1) <| And.intro (zunf C zn201_2.eq_1) <| (zunf C zn201_0.eq_1)
theorem rs201 : (xfOf Try.f201).rs = [.tmp 6] := by kernel_rfl
theorem xf201 : XFok C 201 (xfOf Try.f201) := by refine ⟨Try.f201, ?_, ?_, ?_, ?_, ?_, ?_, ?_⟩ <;> kernel_rfl
def zn84_1 : ZC := ZC.reg [zv 6 (.assign (.const (.bool false)))]
def zn84_3 : ZC := ZC.reg [zu 7 (zmv 0), zu 8 (zmv 1), zu 9 (.binOp .geq 3 (Tm 7) (Tm 8) 3), zu 10 (zmv 9), zug 11 (zmv 0) 10 true false, zug 12 (zmv 2) 10 true false, zug 13 (.binOp .leq 3 (Tm 11) (Tm 12) 3) 10 true false, zu 14 (.pick (Tm 10) (Tm 13) (.const (.bool false))), zv 6 (zas 14)]
def zn84_2 : ZC := ZC.seq zn84_3 ZC.ret
def zn84_0 : ZC := ZC.seq zn84_1 zn84_2
def zc84 : ZC := zn84_0
theorem zc84_ok : zcode (xfOf Try.f84).code = some zc84 := by kernel_rfl
set_option linter.defProp false in
def zw84 := And.intro (zunf C zc84.eq_1) <| And.intro (zunf C zn84_1.eq_1) <| And.intro (zunf C zn84_3.eq_1) <| And.intro (zunf C zn84_2.eq_1) <| (zunf C zn84_0.eq_1)
theorem rs84 : (xfOf Try.f84).rs = [.tmp 6] := by kernel_rfl
theorem xf84 : XFok C 84 (xfOf Try.f84) := by refine ⟨Try.f84, ?_, ?_, ?_, ?_, ?_, ?_, ?_⟩ <;> kernel_rfl
def zn150_0 : ZC := ZC.reg [zu 6 (zmv 1), zu 7 (zmv 2), zu 8 (zmv 0), zu 9 (.nilCheck (Tm 8)), zu 10 (zfa 131 9 2), zu 11 (zld 3 10), zv 12 (zcf 181 [Tm 6, Tm 7, Tm 11] [4, 3, 3])]
def zc150 : ZC := zn150_0
theorem zc150_ok : zcode (xfOf Try.f150).code = some zc150 := by kernel_rfl
set_option linter.defProp false in
def zw150 := And.intro (zunf C zc150.eq_1) <| (zunf C zn150_0.eq_1)
theorem rs150 : (xfOf Try.f150).rs = [] := by kernel_rfl
theorem xf150 : XFok C 150 (xfOf Try.f150) := by refine ⟨Try.f150, ?_, ?_, ?_, ?_, ?_, ?_, ?_⟩ <;> kernel_rfl
def zn183_0 : ZC := ZC.draw 10 [] [zdd 0 6 (zmv 0) false [] [] false, zdd 1 7 (zmv 1) false [] [] false, zdd 2 8 (zmv 2) false [] [] false, zdd 3 9 (zcf 201 [Tm 8, Kn (-1000000), Kn 1000000] [3, 3, 3]) false [] [] true, zdd 4 10 (.nilCheck (Tm 6)) true [] [] false, zdd 5 11 (zfa 131 10 0) true [3] [] false, zdd 6 12 (zfa 39 11 0) true [3] [] false, zdd 7 13 (zfa 34 12 7) true [3] [] false, zdd 8 14 (zia 32 13 7) true [] [] false, zd0 9 (.store 3 (Tm 14) (Tm 9)) true [] [] false]
def zc183 : ZC := zn183_0
theorem zc183_ok : zcode (xfOf Try.f183).code = some zc183 := by kernel_rfl
set_option linter.defProp false in
def zw183 := And.intro (zunf C zc183.eq_1) <| (zunf C zn183_0.eq_1)
theorem rs183 : (xfOf Try.f183).rs = [] := by kernel_rfl
theorem xf183 : XFok C 183 (xfOf Try.f183) := by refine ⟨Try.f183, ?_, ?_, ?_, ?_, ?_, ?_, ?_⟩ <;> kernel_rfl
def zn186_1 : ZC := ZC.reg [zv 4 (.assign (Kn 0))]
def zn186_3 : ZC := ZC.reg [zu 5 (zmv 0), zu 6 (zmv 1), zu 7 (.nilCheck (Tm 5)), zu 8 (zfa 131 7 0), zu 9 (zfa 39 8 0), zu 10 (zfa 34 9 7), zu 11 (zia 32 10 6), zu 12 (zld 3 11), zv 4 (zas 12)]
def zn186_2 : ZC := ZC.seq zn186_3 ZC.ret
def zn186_0 : ZC := ZC.seq zn186_1 zn186_2
def zc186 : ZC := zn186_0
theorem zc186_ok : zcode (xfOf Try.f186).code = some zc186 := by kernel_rfl
set_option linter.defProp false in
def zw186 := And.intro (zunf C zc186.eq_1) <| And.intro (zunf C zn186_1.eq_1) <| And.intro (zunf C zn186_3.eq_1) <| And.intro (zunf C zn186_2.eq_1) <| (zunf C zn186_0.eq_1)
theorem rs186 : (xfOf Try.f186).rs = [.tmp 4] := by kernel_rfl
theorem xf186 : XFok C 186 (xfOf Try.f186) := by refine ⟨Try.f186, ?_, ?_, ?_, ?_, ?_, ?_, ?_⟩ <;> kernel_rfl
def zn181_1 : ZC := ZC.reg [zu 6 (zmv 0), zv 7 (.unOp .not 4 (Tm 6))]
def zn181_3 : ZC := ZC.reg [zu 8 (zmv 1), zu 9 (zmv 2), zv 10 (zcf 200 [Tm 8, Tm 9] [3, 3])]
def zn181_2 : ZC := ZC.cond (Tm 7) zn181_3 ZC.skip
def zn181_0 : ZC := ZC.seq zn181_1 zn181_2
def zc181 : ZC := zn181_0
theorem zc181_ok : zcode (xfOf Try.f181).code = some zc181 := by kernel_rfl
set_option linter.defProp false in
def zw181 := And.intro (zunf C zc181.eq_1) <| And.intro (zunf C zn181_1.eq_1) <| And.intro (zunf C zn181_3.eq_1) <| And.intro (zunf C zn181_2.eq_1) <| (zunf C zn181_0.eq_1)
theorem rs181 : (xfOf Try.f181).rs = [] := by kernel_rfl
theorem xf181 : XFok C 181 (xfOf Try.f181) := by refine ⟨Try.f181, ?_, ?_, ?_, ?_, ?_, ?_, ?_⟩ <;> kernel_rfl
def zn200_0 : ZC := ZC.reg [zu 4 (zmv 0), zu 5 (zmv 1), ⟨some 6, .build 44 ⟨[(0, .tmp 4), (1, .tmp 5)]⟩, none, false⟩, ⟨some 7, .build 194 ⟨[(0, .tmp 6)]⟩, none, false⟩, zu 8 (.makeInterface 194 (Tm 7)), zv0 (.panic (Tm 8))]
def zc200 : ZC := zn200_0
theorem zc200_ok : zcode (xfOf Try.f200).code = some zc200 := by kernel_rfl
set_option linter.defProp false in
def zw200 := And.intro (zunf C zc200.eq_1) <| (zunf C zn200_0.eq_1)
theorem rs200 : (xfOf Try.f200).rs = [] := by kernel_rfl
theorem xf200 : XFok C 200 (xfOf Try.f200) := by refine ⟨Try.f200, ?_, ?_, ?_, ?_, ?_, ?_, ?_⟩ <;> kernel_rfl
def zn187_1 : ZC := ZC.reg [zv 4 (.assign (Kn 0))]
def zn187_3 : ZC := ZC.reg [zu 5 (zmv 0), zu 6 (zmv 1), zu 7 (zmv 0), zu 8 (.nilCheck (Tm 7)), zu 9 (zfa 131 8 1), zu 10 (zld 23 9), zu 11 (zcb .len [Tm 10] [23]), zu 12 (zcf 84 [Tm 6, Kn 0, Tm 11] [3, 3, 3]), zv 13 (zcf 150 [Tm 5, Tm 12, Kn 4] [129, 4, 3])]
def zn187_5 : ZC := ZC.reg [zu 14 (zmv 1), zv 4 (zas 14)]
def zn187_4 : ZC := ZC.seq zn187_5 ZC.ret
def zn187_2 : ZC := ZC.seq zn187_3 zn187_4
def zn187_0 : ZC := ZC.seq zn187_1 zn187_2
def zc187 : ZC := zn187_0
theorem zc187_ok : zcode (xfOf Try.f187).code = some zc187 := by kernel_rfl
set_option linter.defProp false in
def zw187 := And.intro (zunf C zc187.eq_1) <| And.intro (zunf C zn187_1.eq_1) <| And.intro (zunf C zn187_3.eq_1) <| And.intro (zunf C zn187_5.eq_1) <| And.intro (zunf C zn187_4.eq_1) <| And.intro (zunf C zn187_2.eq_1) <| (zunf C zn187_0.eq_1)
theorem rs187 : (xfOf Try.f187).rs = [.tmp 4] := by kernel_rfl
theorem xf187 : XFok C 187 (xfOf Try.f187) := by refine ⟨Try.f187, ?_, ?_, ?_, ?_, ?_, ?_, ?_⟩ <;> kernel_rfl
def zn71_1 : ZC := ZC.reg [zv 6 (.assign (.const (.bool false)))]
def zn71_3 : ZC := ZC.reg [zu 7 (zmv 0), zu 8 (zmv 1), zu 9 (.binOp .geq 3 (Tm 7) (Tm 8) 3), zu 10 (zmv 9), zug 11 (zmv 0) 10 true false, zug 12 (zmv 2) 10 true false, zug 13 (.binOp .leq 3 (Tm 11) (Tm 12) 3) 10 true false, zu 14 (.pick (Tm 10) (Tm 13) (.const (.bool false))), zv 6 (zas 14)]
def zn71_2 : ZC := ZC.seq zn71_3 ZC.ret
def zn71_0 : ZC := ZC.seq zn71_1 zn71_2
def zc71 : ZC := zn71_0
theorem zc71_ok : zcode (xfOf Try.f71).code = some zc71 := by kernel_rfl
set_option linter.defProp false in
def zw71 := And.intro (zunf C zc71.eq_1) <| And.intro (zunf C zn71_1.eq_1) <| And.intro (zunf C zn71_3.eq_1) <| And.intro (zunf C zn71_2.eq_1) <| (zunf C zn71_0.eq_1)
theorem rs71 : (xfOf Try.f71).rs = [.tmp 6] := by kernel_rfl
theorem xf71 : XFok C 71 (xfOf Try.f71) := by refine ⟨Try.f71, ?_, ?_, ?_, ?_, ?_, ?_, ?_⟩ <;> kernel_rfl
def zn140_1 : ZC := ZC.reg [zv 6 (.assign (Kn 0))]
def zn140_3 : ZC := ZC.reg [zu 7 (zmv 1), zu 8 (zmv 0), zu 9 (zmv 2), zu 10 (zcb .min [Tm 8, Tm 9] [3, 3]), zu 11 (zcb .max [Tm 7, Tm 10] [3, 3]), zv 6 (zas 11)]
def zn140_2 : ZC := ZC.seq zn140_3 ZC.ret
def zn140_0 : ZC := ZC.seq zn140_1 zn140_2
def zc140 : ZC := zn140_0
theorem zc140_ok : zcode (xfOf Try.f140).code = some zc140 := by kernel_rfl
set_option linter.defProp false in
def zw140 := And.intro (zunf C zc140.eq_1) <| And.intro (zunf C zn140_1.eq_1) <| And.intro (zunf C zn140_3.eq_1) <| And.intro (zunf C zn140_2.eq_1) <| (zunf C zn140_0.eq_1)
theorem rs140 : (xfOf Try.f140).rs = [.tmp 6] := by kernel_rfl
theorem xf140 : XFok C 140 (xfOf Try.f140) := by refine ⟨Try.f140, ?_, ?_, ?_, ?_, ?_, ?_, ?_⟩ <;> kernel_rfl
def zn24_1 : ZC := ZC.reg [zu 1 (.box 34 (Tm 0)), zv 2 (.assign (.const (.bool false)))]
def zn24_4 : ZC := ZC.reg [zu 7 (zfa 34 1 0), zu 8 (zld 3 7), zv 9 (.binOp .eql 3 (Tm 8) (Kn 0) 3)]
def zn24_7 : ZC := ZC.reg [zu 10 (zld 34 1), ⟨some 11, .build 34 ⟨[]⟩, none, false⟩, zu 12 (.binOp .eql 34 (Tm 10) (Tm 11) 34), zv 2 (zas 12)]
def zn24_6 : ZC := ZC.seq zn24_7 ZC.ret
def zn24_5 : ZC := ZC.cond (Tm 9) zn24_6 ZC.skip
def zn24_3 : ZC := ZC.seq zn24_4 zn24_5
def zn24_10 : ZC := ZC.reg [zu 13 (zfa 34 1 7), zu 14 (zld 32 13), zv 15 (.move (Kn 0))]
def zn24_14 : ZC := ZC.reg [zv 16 (.binOp .lss 3 (Tm 15) (Kn 4) 3)]
def zn24_16 : ZC := ZC.cond (Tm 16) ZC.skip (ZC.exit 0)
def zn24_20 : ZC := ZC.reg [zu 17 (.index 32 (Tm 14) (Tm 15)), zv 4 (zas 17)]
def zn24_22 : ZC := ZC.reg [zu 18 (zmv 4), zu 19 (zcf 71 [Tm 18, Kn (-1000000), Kn 1000000] [3, 3, 3]), zv 20 (.unOp .not 4 (Tm 19))]
def zn24_25 : ZC := ZC.reg [zv 2 (.assign (.const (.bool false)))]
def zn24_24 : ZC := ZC.seq zn24_25 ZC.ret
def zn24_23 : ZC := ZC.cond (Tm 20) zn24_24 ZC.skip
def zn24_21 : ZC := ZC.seq zn24_22 zn24_23
def zn24_19 : ZC := ZC.seq zn24_20 zn24_21
def zn24_18 : ZC := ZC.block 1 zn24_19
def zn24_26 : ZC := ZC.reg [zu 21 (.binOp .add 3 (Tm 15) (Kn 1) 3), zv 15 (zmv 21)]
def zn24_17 : ZC := ZC.seq zn24_18 zn24_26
def zn24_15 : ZC := ZC.seq zn24_16 zn24_17
def zn24_13 : ZC := ZC.seq zn24_14 zn24_15
def zn24_12 : ZC := ZC.loop zn24_13
def zn24_11 : ZC := ZC.block 0 zn24_12
def zn24_9 : ZC := ZC.seq zn24_10 zn24_11
def zn24_28 : ZC := ZC.reg [zu 22 (zfa 34 1 2), zu 23 (zld 3 22), zu 24 (zcf 71 [Tm 23, Kn 0, Kn 4095] [3, 3, 3]), zu 25 (zmv 24), zug 26 (zfa 34 1 3) 25 true false, zug 27 (zld 3 26) 25 true false, zug 28 (zcf 71 [Tm 27, Kn 0, Kn 4095] [3, 3, 3]) 25 true false, zu 29 (.pick (Tm 25) (Tm 28) (.const (.bool false))), zv 5 (zas 29)]
def zn24_30 : ZC := ZC.reg [zu 30 (zfa 34 1 4), zu 31 (zld 3 30), zu 32 (zcf 71 [Tm 31, Kn (-64), Kn 64] [3, 3, 3]), zu 33 (zmv 32), zug 34 (zfa 34 1 5) 33 true false, zug 35 (zld 3 34) 33 true false, zug 36 (zcf 71 [Tm 35, Kn (-64), Kn 64] [3, 3, 3]) 33 true false, zu 37 (.pick (Tm 33) (Tm 36) (.const (.bool false))), zv 6 (zas 37)]
def zn24_32 : ZC := ZC.reg [zu 38 (zfa 34 1 0), zu 39 (zld 3 38), zu 40 (.binOp .eql 3 (Tm 39) (Kn 1) 3), zu 41 (zmv 40), zug 42 (zfa 34 1 0) 41 false false, zug 43 (zld 3 42) 41 false false, zug 44 (.binOp .eql 3 (Tm 43) (Kn 2) 3) 41 false false, zu 45 (.pick (Tm 41) (.const (.bool true)) (Tm 44)), zu 46 (zmv 45), zug 47 (zfa 34 1 1) 46 true false, zug 48 (zld 3 47) 46 true false, zug 49 (zcf 71 [Tm 48, Kn 0, Kn 7] [3, 3, 3]) 46 true false, zu 50 (.pick (Tm 46) (Tm 49) (.const (.bool false))), zu 51 (zmv 50), zug 52 (zmv 5) 51 true false, zu 53 (.pick (Tm 51) (Tm 52) (.const (.bool false))), zu 54 (zmv 53), zug 55 (zmv 6) 54 true false, zu 56 (.pick (Tm 54) (Tm 55) (.const (.bool false))), zu 57 (zmv 56), zug 58 (zfa 34 1 6) 57 true false, zug 59 (zld 3 58) 57 true false, zug 60 (zcf 71 [Tm 59, Kn 0, Kn 600] [3, 3, 3]) 57 true false, zu 61 (.pick (Tm 57) (Tm 60) (.const (.bool false))), zu 62 (zmv 61), zug 63 (zfa 34 1 8) 62 true false, zug 64 (zld 3 63) 62 true false, zug 65 (zcf 71 [Tm 64, Kn 0, Kn 65535] [3, 3, 3]) 62 true false, zu 66 (.pick (Tm 62) (Tm 65) (.const (.bool false))), zv 2 (zas 66)]
def zn24_31 : ZC := ZC.seq zn24_32 ZC.ret
def zn24_29 : ZC := ZC.seq zn24_30 zn24_31
def zn24_27 : ZC := ZC.seq zn24_28 zn24_29
def zn24_8 : ZC := ZC.seq zn24_9 zn24_27
def zn24_2 : ZC := ZC.seq zn24_3 zn24_8
def zn24_0 : ZC := ZC.seq zn24_1 zn24_2
def zc24 : ZC := zn24_0
theorem zc24_ok : zcode (xfOf Try.f24).code = some zc24 := by kernel_rfl
set_option linter.defProp false in
def zw24 := And.intro (zunf C zc24.eq_1) <| And.intro (zunf C zn24_1.eq_1) <| And.intro (zunf C zn24_4.eq_1) <| And.intro (zunf C zn24_7.eq_1) <| And.intro (zunf C zn24_6.eq_1) <| And.intro (zunf C zn24_5.eq_1) <| And.intro (zunf C zn24_3.eq_1) <| And.intro (zunf C zn24_10.eq_1) <| And.intro (zunf C zn24_14.eq_1) <| And.intro (zunf C zn24_16.eq_1) <| And.intro (zunf C zn24_20.eq_1) <| And.intro (zunf C zn24_22.eq_1) <| And.intro (zunf C zn24_25.eq_1) <| And.intro (zunf C zn24_24.eq_1) <| And.intro (zunf C zn24_23.eq_1) <| And.intro (zunf C zn24_21.eq_1) <| And.intro (zunf C zn24_19.eq_1) <| And.intro (zunf C zn24_18.eq_1) <| And.intro (zunf C zn24_26.eq_1) <| And.intro (zunf C zn24_17.eq_1) <| And.intro (zunf C zn24_15.eq_1) <| And.intro (zunf C zn24_13.eq_1) <| And.intro (zunf C zn24_11.eq_1) <| And.intro (zunf C zn24_9.eq_1) <| And.intro (zunf C zn24_28.eq_1) <| And.intro (zunf C zn24_30.eq_1) <| And.intro (zunf C zn24_32.eq_1) <| And.intro (zunf C zn24_31.eq_1) <| And.intro (zunf C zn24_29.eq_1) <| And.intro (zunf C zn24_27.eq_1) <| And.intro (zunf C zn24_8.eq_1) <| And.intro (zunf C zn24_2.eq_1) <| (zunf C zn24_0.eq_1)
theorem rs24 : (xfOf Try.f24).rs = [.tmp 2] := by kernel_rfl
theorem xf24 : XFok C 24 (xfOf Try.f24) := by refine ⟨Try.f24, ?_, ?_, ?_, ?_, ?_, ?_, ?_⟩ <;> kernel_rfl
def zn182_1 : ZC := ZC.reg [zv 3 (.box 29 (Tm 1))]
def zn182_3 : ZC := ZC.reg [zu 4 (.assign (.const (.bool true))), zv 5 (.assign (.const (.bool true)))]
def zn182_6 : ZC := ZC.reg [zu 6 (zfa 29 3 0), zv 7 (zld 3 6)]
def zn182_10 : ZC := ZC.reg [zu 9 (.binOp .eql 3 (Tm 7) (Kn 1) 3), zv 8 (zas 9)]
def zn182_13 : ZC := ZC.reg [zu 10 (.binOp .eql 3 (Tm 7) (Kn 7) 3), zv 8 (zas 10)]
def zn182_15 : ZC := ZC.reg [zu 11 (.binOp .eql 3 (Tm 7) (Kn 9) 3), zv 8 (zas 11)]
def zn182_14 : ZC := ZC.cond (Tm 8) ZC.skip zn182_15
def zn182_12 : ZC := ZC.seq zn182_13 zn182_14
def zn182_11 : ZC := ZC.cond (Tm 8) ZC.skip zn182_12
def zn182_9 : ZC := ZC.seq zn182_10 zn182_11
def zn182_17 : ZC := ZC.reg [zv 5 (.assign (.const (.bool false)))]
def zn182_19 : ZC := ZC.reg [zu 13 (.binOp .eql 3 (Tm 7) (Kn 8) 3), zv 12 (zas 13)]
def zn182_21 : ZC := ZC.reg [zv 4 (.assign (.const (.bool false)))]
def zn182_24 : ZC := ZC.reg [zu 15 (.binOp .eql 3 (Tm 7) (Kn 10) 3), zv 14 (zas 15)]
def zn182_26 : ZC := ZC.reg [zu 16 (.binOp .eql 3 (Tm 7) (Kn 13) 3), zv 14 (zas 16)]
def zn182_25 : ZC := ZC.cond (Tm 14) ZC.skip zn182_26
def zn182_23 : ZC := ZC.seq zn182_24 zn182_25
def zn182_28 : ZC := ZC.reg [zu 4 (.assign (.const (.bool false))), zv 5 (.assign (.const (.bool false)))]
def zn182_27 : ZC := ZC.cond (Tm 14) zn182_28 ZC.skip
def zn182_22 : ZC := ZC.seq zn182_23 zn182_27
def zn182_20 : ZC := ZC.cond (Tm 12) zn182_21 zn182_22
def zn182_18 : ZC := ZC.seq zn182_19 zn182_20
def zn182_16 : ZC := ZC.cond (Tm 8) zn182_17 zn182_18
def zn182_8 : ZC := ZC.seq zn182_9 zn182_16
def zn182_7 : ZC := ZC.block 0 zn182_8
def zn182_5 : ZC := ZC.seq zn182_6 zn182_7
def zn182_30 : ZC := ZC.reg [zu 17 (zmv 0), zu 18 (zmv 4), zu 19 (.unOp .not 4 (Tm 18)), zu 20 (zmv 19), zug 21 (zfa 29 3 1) 20 false false, zug 22 (zld 3 21) 20 false false, zug 23 (zcf 84 [Tm 22, Kn 0, Kn 3] [3, 3, 3]) 20 false false, zu 24 (.pick (Tm 20) (.const (.bool true)) (Tm 23)), zv 25 (zcf 150 [Tm 17, Tm 24, Kn 2] [129, 4, 3])]
def zn182_31 : ZC := ZC.reg [zu 26 (zmv 0), zu 27 (zmv 5), zu 28 (.unOp .not 4 (Tm 27)), zu 29 (zmv 28), zug 30 (zfa 29 3 2) 29 false false, zug 31 (zld 3 30) 29 false false, zug 32 (zcf 84 [Tm 31, Kn 0, Kn 3] [3, 3, 3]) 29 false false, zu 33 (.pick (Tm 29) (.const (.bool true)) (Tm 32)), zv 34 (zcf 150 [Tm 26, Tm 33, Kn 2] [129, 4, 3])]
def zn182_29 : ZC := ZC.seq zn182_30 zn182_31
def zn182_4 : ZC := ZC.seq zn182_5 zn182_29
def zn182_2 : ZC := ZC.seq zn182_3 zn182_4
def zn182_0 : ZC := ZC.seq zn182_1 zn182_2
def zc182 : ZC := zn182_0
theorem zc182_ok : zcode (xfOf Try.f182).code = some zc182 := by kernel_rfl
set_option linter.defProp false in
def zw182 := And.intro (zunf C zc182.eq_1) <| And.intro (zunf C zn182_1.eq_1) <| And.intro (zunf C zn182_3.eq_1) <| And.intro (zunf C zn182_6.eq_1) <| And.intro (zunf C zn182_10.eq_1) <| And.intro (zunf C zn182_13.eq_1) <| And.intro (zunf C zn182_15.eq_1) <| And.intro (zunf C zn182_14.eq_1) <| And.intro (zunf C zn182_12.eq_1) <| And.intro (zunf C zn182_11.eq_1) <| And.intro (zunf C zn182_9.eq_1) <| And.intro (zunf C zn182_17.eq_1) <| And.intro (zunf C zn182_19.eq_1) <| And.intro (zunf C zn182_21.eq_1) <| And.intro (zunf C zn182_24.eq_1) <| And.intro (zunf C zn182_26.eq_1) <| And.intro (zunf C zn182_25.eq_1) <| And.intro (zunf C zn182_23.eq_1) <| And.intro (zunf C zn182_28.eq_1) <| And.intro (zunf C zn182_27.eq_1) <| And.intro (zunf C zn182_22.eq_1) <| And.intro (zunf C zn182_20.eq_1) <| And.intro (zunf C zn182_18.eq_1) <| And.intro (zunf C zn182_16.eq_1) <| And.intro (zunf C zn182_8.eq_1) <| And.intro (zunf C zn182_7.eq_1) <| And.intro (zunf C zn182_5.eq_1) <| And.intro (zunf C zn182_30.eq_1) <| And.intro (zunf C zn182_31.eq_1) <| And.intro (zunf C zn182_29.eq_1) <| And.intro (zunf C zn182_4.eq_1) <| And.intro (zunf C zn182_2.eq_1) <| (zunf C zn182_0.eq_1)
theorem rs182 : (xfOf Try.f182).rs = [] := by kernel_rfl
theorem xf182 : XFok C 182 (xfOf Try.f182) := by refine ⟨Try.f182, ?_, ?_, ?_, ?_, ?_, ?_, ?_⟩ <;> kernel_rfl
def zn184_1 : ZC := ZC.reg [zv 4 (.assign (Kn 0))]
def zn184_3 : ZC := ZC.reg [zu 7 (zmv 0), zu 8 (.nilCheck (Tm 7)), zu 9 (zfa 131 8 0), zu 10 (zfa 39 9 0), zu 11 (zld 34 10), zu 5 (.alloc 34), zv0 (.store 34 (Tm 5) (Tm 11))]
def zn184_5 : ZC := ZC.draw 30 [] [zdd 0 12 (zfa 34 5 2) false [] [] false, zdd 1 13 (zld 3 12) false [] [] false, zdd 2 14 (zfa 34 5 3) false [] [] false, zdd 3 15 (zld 3 14) false [] [] false, zdd 4 16 (zfa 34 5 4) false [] [] false, zdd 5 17 (zld 3 16) false [] [] false, zdd 6 18 (zfa 34 5 5) false [] [] false, zdd 7 19 (zld 3 18) false [] [] false, zdd 8 20 (zfa 34 5 6) false [] [] false, zdd 9 21 (zld 3 20) false [] [] false, zdd 10 22 (zmv 0) false [] [] false, zdd 11 23 (.nilCheck (Tm 22)) false [] [] false, zdd 12 24 (zfa 131 23 0) false [] [] false, zdd 13 25 (zfa 39 24 1) false [] [] false, zdd 14 26 (zfa 36 25 0) false [] [] false, zdd 15 27 (zld 3 26) false [] [] false, zdd 16 28 (zmv 0) false [] [] false, zdd 17 29 (.nilCheck (Tm 28)) false [] [] false, zdd 18 30 (zfa 131 29 0) false [] [] false, zdd 19 31 (zfa 39 30 1) false [] [] false, zdd 20 32 (zfa 36 31 1) false [] [] false, zdd 21 33 (zld 3 32) false [] [] false, zdd 22 34 (zmv 0) true [] [] false, zdd 23 35 (.nilCheck (Tm 34)) true [] [] false, zdd 24 36 (zfa 131 35 0) true [] [] false, zdd 25 37 (zfa 39 36 1) true [] [] false, zdd 26 38 (zfa 36 37 2) true [] [] false, zdd 27 39 (zld 3 38) true [] [] false, ⟨28, some 40, .buildSlice 24 8 ⟨[(0, .tmp 13), (1, .tmp 15), (2, .tmp 17), (3, .tmp 19), (4, .tmp 21), (5, .tmp 27), (6, .tmp 33), (7, .tmp 39)]⟩, none, true, [], [], false⟩, zdd 29 6 (zas 40) true [] [] false]
def zn184_7 : ZC := ZC.reg [zu 41 (zmv 0), zu 42 (zmv 1), zu 43 (zmv 6), zu 44 (zcb .len [Tm 43] [24]), zu 45 (.binOp .sub 3 (Tm 44) (Kn 1) 3), zu 46 (zcf 84 [Tm 42, Kn 0, Tm 45] [3, 3, 3]), zv 47 (zcf 150 [Tm 41, Tm 46, Kn 3] [129, 4, 3])]
def zn184_9 : ZC := ZC.reg [zu 48 (zmv 6), zu 49 (zmv 1), zu 50 (zia 24 48 49), zu 51 (zld 3 50), zv 4 (zas 51)]
def zn184_8 : ZC := ZC.seq zn184_9 ZC.ret
def zn184_6 : ZC := ZC.seq zn184_7 zn184_8
def zn184_4 : ZC := ZC.seq zn184_5 zn184_6
def zn184_2 : ZC := ZC.seq zn184_3 zn184_4
def zn184_0 : ZC := ZC.seq zn184_1 zn184_2
def zc184 : ZC := zn184_0
theorem zc184_ok : zcode (xfOf Try.f184).code = some zc184 := by kernel_rfl
set_option linter.defProp false in
def zw184 := And.intro (zunf C zc184.eq_1) <| And.intro (zunf C zn184_1.eq_1) <| And.intro (zunf C zn184_3.eq_1) <| And.intro (zunf C zn184_5.eq_1) <| And.intro (zunf C zn184_7.eq_1) <| And.intro (zunf C zn184_9.eq_1) <| And.intro (zunf C zn184_8.eq_1) <| And.intro (zunf C zn184_6.eq_1) <| And.intro (zunf C zn184_4.eq_1) <| And.intro (zunf C zn184_2.eq_1) <| (zunf C zn184_0.eq_1)
theorem rs184 : (xfOf Try.f184).rs = [.tmp 4] := by kernel_rfl
theorem xf184 : XFok C 184 (xfOf Try.f184) := by refine ⟨Try.f184, ?_, ?_, ?_, ?_, ?_, ?_, ?_⟩ <;> kernel_rfl
def zn185_1 : ZC := ZC.reg [zu 7 (zmv 0), zu 8 (.nilCheck (Tm 7)), zu 9 (zfa 131 8 0), zu 10 (zfa 39 9 0), zv 6 (zas 10)]
def zn185_3 : ZC := ZC.reg [zv 11 (zmv 1)]
def zn185_6 : ZC := ZC.reg [zu 15 (.binOp .eql 3 (Tm 11) (Kn 0) 3), zv 14 (zas 15)]
def zn185_8 : ZC := ZC.reg [zu 16 (zmv 6), zu 17 (zmv 2), zu 18 (zcf 201 [Tm 17, Kn 0, Kn 4095] [3, 3, 3]), zu 19 (.nilCheck (Tm 16)), zu 20 (zfa 34 19 2), zv0 (.store 3 (Tm 20) (Tm 18))]
def zn185_10 : ZC := ZC.reg [zu 22 (.binOp .eql 3 (Tm 11) (Kn 1) 3), zv 21 (zas 22)]
def zn185_12 : ZC := ZC.reg [zu 23 (zmv 6), zu 24 (zmv 2), zu 25 (zcf 201 [Tm 24, Kn 0, Kn 4095] [3, 3, 3]), zu 26 (.nilCheck (Tm 23)), zu 27 (zfa 34 26 3), zv0 (.store 3 (Tm 27) (Tm 25))]
def zn185_14 : ZC := ZC.reg [zu 29 (.binOp .eql 3 (Tm 11) (Kn 2) 3), zv 28 (zas 29)]
def zn185_16 : ZC := ZC.reg [zu 30 (zmv 6), zu 31 (zmv 2), zu 32 (zcf 201 [Tm 31, Kn (-64), Kn 64] [3, 3, 3]), zu 33 (.nilCheck (Tm 30)), zu 34 (zfa 34 33 4), zv0 (.store 3 (Tm 34) (Tm 32))]
def zn185_18 : ZC := ZC.reg [zu 36 (.binOp .eql 3 (Tm 11) (Kn 3) 3), zv 35 (zas 36)]
def zn185_20 : ZC := ZC.reg [zu 37 (zmv 6), zu 38 (zmv 2), zu 39 (zcf 201 [Tm 38, Kn (-64), Kn 64] [3, 3, 3]), zu 40 (.nilCheck (Tm 37)), zu 41 (zfa 34 40 5), zv0 (.store 3 (Tm 41) (Tm 39))]
def zn185_21 : ZC := ZC.reg [zu 12 (zmv 0), zv 13 (zcf 150 [Tm 12, .const (.bool false), Kn 3] [129, 4, 3])]
def zn185_19 : ZC := ZC.cond (Tm 35) zn185_20 zn185_21
def zn185_17 : ZC := ZC.seq zn185_18 zn185_19
def zn185_15 : ZC := ZC.cond (Tm 28) zn185_16 zn185_17
def zn185_13 : ZC := ZC.seq zn185_14 zn185_15
def zn185_11 : ZC := ZC.cond (Tm 21) zn185_12 zn185_13
def zn185_9 : ZC := ZC.seq zn185_10 zn185_11
def zn185_7 : ZC := ZC.cond (Tm 14) zn185_8 zn185_9
def zn185_5 : ZC := ZC.seq zn185_6 zn185_7
def zn185_4 : ZC := ZC.block 0 zn185_5
def zn185_2 : ZC := ZC.seq zn185_3 zn185_4
def zn185_0 : ZC := ZC.seq zn185_1 zn185_2
def zc185 : ZC := zn185_0
theorem zc185_ok : zcode (xfOf Try.f185).code = some zc185 := by kernel_rfl
set_option linter.defProp false in
def zw185 := And.intro (zunf C zc185.eq_1) <| And.intro (zunf C zn185_1.eq_1) <| And.intro (zunf C zn185_3.eq_1) <| And.intro (zunf C zn185_6.eq_1) <| And.intro (zunf C zn185_8.eq_1) <| And.intro (zunf C zn185_10.eq_1) <| And.intro (zunf C zn185_12.eq_1) <| And.intro (zunf C zn185_14.eq_1) <| And.intro (zunf C zn185_16.eq_1) <| And.intro (zunf C zn185_18.eq_1) <| And.intro (zunf C zn185_20.eq_1) <| And.intro (zunf C zn185_21.eq_1) <| And.intro (zunf C zn185_19.eq_1) <| And.intro (zunf C zn185_17.eq_1) <| And.intro (zunf C zn185_15.eq_1) <| And.intro (zunf C zn185_13.eq_1) <| And.intro (zunf C zn185_11.eq_1) <| And.intro (zunf C zn185_9.eq_1) <| And.intro (zunf C zn185_7.eq_1) <| And.intro (zunf C zn185_5.eq_1) <| And.intro (zunf C zn185_4.eq_1) <| And.intro (zunf C zn185_2.eq_1) <| (zunf C zn185_0.eq_1)
theorem rs185 : (xfOf Try.f185).rs = [] := by kernel_rfl
theorem xf185 : XFok C 185 (xfOf Try.f185) := by refine ⟨Try.f185, ?_, ?_, ?_, ?_, ?_, ?_, ?_⟩ <;> kernel_rfl
def zn188_1 : ZC := ZC.reg [zv 3 (.box 29 (Tm 1))]
def zn188_3 : ZC := ZC.draw 10 [] [zdd 0 8 (zmv 0) false [] [] false, zdd 1 9 (zfa 29 3 1) false [] [] false, zdd 2 10 (zld 3 9) false [] [] false, zdd 3 11 (zcf 186 [Tm 8, Tm 10] [129, 3]) false [] [] true, zdd 4 12 (zmv 0) false [] [] false, zdd 5 13 (zfa 29 3 2) true [3] [] false, zdd 6 14 (zld 3 13) true [3] [] false, zdd 7 15 (zcf 186 [Tm 12, Tm 14] [129, 3]) true [] [] false, zdd 8 4 (zas 11) true [] [] false, zdd 9 5 (zas 15) true [] [] false]
def zn188_5 : ZC := ZC.reg [zu 16 (zfa 29 3 0), zv 17 (zld 3 16)]
def zn188_8 : ZC := ZC.reg [zu 53 (.binOp .eql 3 (Tm 17) (Kn 2) 3), zv 52 (zas 53)]
def zn188_10 : ZC := ZC.reg [zu 54 (zmv 0), zu 55 (zfa 29 3 1), zu 56 (zld 3 55), zu 57 (zmv 5), zv 58 (zcf 183 [Tm 54, Tm 56, Tm 57] [129, 3, 3])]
def zn188_12 : ZC := ZC.reg [zu 60 (.binOp .eql 3 (Tm 17) (Kn 3) 3), zv 59 (zas 60)]
def zn188_14 : ZC := ZC.reg [zu 61 (zmv 0), zu 62 (zfa 29 3 1), zu 63 (zld 3 62), zu 64 (zmv 4), zu 65 (zmv 5), zu 66 (.binOp .add 3 (Tm 64) (Tm 65) 3), zv 67 (zcf 183 [Tm 61, Tm 63, Tm 66] [129, 3, 3])]
def zn188_16 : ZC := ZC.reg [zu 69 (.binOp .eql 3 (Tm 17) (Kn 4) 3), zv 68 (zas 69)]
def zn188_18 : ZC := ZC.reg [zu 70 (zmv 0), zu 71 (zfa 29 3 1), zu 72 (zld 3 71), zu 73 (zmv 4), zu 74 (zmv 5), zu 75 (.binOp .sub 3 (Tm 73) (Tm 74) 3), zv 76 (zcf 183 [Tm 70, Tm 72, Tm 75] [129, 3, 3])]
def zn188_20 : ZC := ZC.reg [zu 78 (.binOp .eql 3 (Tm 17) (Kn 5) 3), zv 77 (zas 78)]
def zn188_22 : ZC := ZC.reg [zu 79 (zmv 0), zu 80 (zfa 29 3 1), zu 81 (zld 3 80), zu 82 (zmv 4), zu 83 (zmv 5), zu 84 (.binOp .mul 3 (Tm 82) (Tm 83) 3), zv 85 (zcf 183 [Tm 79, Tm 81, Tm 84] [129, 3, 3])]
def zn188_24 : ZC := ZC.reg [zu 87 (.binOp .eql 3 (Tm 17) (Kn 6) 3), zv 86 (zas 87)]
def zn188_27 : ZC := ZC.reg [zu 88 (zmv 0), zu 89 (zmv 5), zu 90 (.binOp .neq 3 (Tm 89) (Kn 0) 3), zv 91 (zcf 150 [Tm 88, Tm 90, Kn 1] [129, 4, 3])]
def zn188_28 : ZC := ZC.draw 7 [] [zdd 0 92 (zmv 0) false [] [] false, zdd 1 93 (zfa 29 3 1) false [] [] false, zdd 2 94 (zld 3 93) false [] [] false, zdd 3 95 (zmv 4) false [] [] false, zdd 4 96 (zmv 5) true [] [] false, zdd 5 97 (.binOp .quo 3 (Tm 95) (Tm 96) 3) true [] [] false, zdd 6 98 (zcf 183 [Tm 92, Tm 94, Tm 97] [129, 3, 3]) true [] [] false]
def zn188_26 : ZC := ZC.seq zn188_27 zn188_28
def zn188_30 : ZC := ZC.reg [zu 100 (.binOp .eql 3 (Tm 17) (Kn 11) 3), zv 99 (zas 100)]
def zn188_33 : ZC := ZC.reg [zu 101 (zmv 0), zu 102 (zmv 5), zu 103 (.binOp .geq 3 (Tm 102) (Kn 1) 3), zv 104 (zcf 150 [Tm 101, Tm 103, Kn 6] [129, 4, 3])]
def zn188_35 : ZC := ZC.reg [zu 106 (zmv 0), zu 107 (.nilCheck (Tm 106)), zu 108 (zfa 131 107 0), zu 109 (zfa 39 108 2), zu 110 (zld 25 109), zu 111 (zmv 5), zu 112 (zcf 202 [Tm 110, Tm 111] [25, 3]), zu 105 (zmv 112), zu 113 (.extract (Tm 105) 0), zu 114 (.extract (Tm 105) 1), zu 6 (zas 113), zv 7 (zas 114)]
def zn188_37 : ZC := ZC.reg [zu 115 (zmv 0), zu 116 (zmv 6), zu 117 (.nilCheck (Tm 115)), zu 118 (zfa 131 117 0), zu 119 (zfa 39 118 2), zv0 (.store 25 (Tm 119) (Tm 116))]
def zn188_38 : ZC := ZC.reg [zu 120 (zmv 0), zu 121 (zfa 29 3 1), zu 122 (zld 3 121), zu 123 (zmv 7), zv 124 (zcf 183 [Tm 120, Tm 122, Tm 123] [129, 3, 3])]
def zn188_36 : ZC := ZC.seq zn188_37 zn188_38
def zn188_34 : ZC := ZC.seq zn188_35 zn188_36
def zn188_32 : ZC := ZC.seq zn188_33 zn188_34
def zn188_40 : ZC := ZC.draw 14 [] [zdd 0 18 (zmv 0) false [] [] false, zdd 1 19 (zmv 0) false [] [] false, zdd 2 20 (.nilCheck (Tm 19)) false [] [] false, zdd 3 21 (zfa 131 20 0) false [] [] false, zdd 4 22 (zfa 39 21 4) false [] [] false, zdd 5 23 (zld 37 22) false [] [] false, zdd 6 24 (zcb .len [Tm 23] [37]) false [] [] false, zdd 7 25 (zmv 0) true [] [] false, zdd 8 26 (.nilCheck (Tm 25)) true [] [] false, zdd 9 27 (zfa 131 26 0) true [] [] false, zdd 10 28 (zfa 39 27 3) true [] [] false, zdd 11 29 (zld 3 28) true [] [] false, zdd 12 30 (.binOp .lss 3 (Tm 24) (Tm 29) 3) true [] [] false, zdd 13 31 (zcf 150 [Tm 18, Tm 30, Kn 7] [129, 4, 3]) true [] [] false]
def zn188_41 : ZC := ZC.draw 21 [] [zdd 0 32 (zmv 0) false [] [] false, zdd 1 33 (zmv 0) false [] [] false, zdd 2 34 (.nilCheck (Tm 33)) false [] [] false, zdd 3 35 (zfa 131 34 0) false [] [] false, zdd 4 36 (zfa 39 35 4) false [] [] false, zdd 5 37 (zld 37 36) false [] [] false, zdd 6 38 (zcf 148 [Tm 37] [37]) false [] [] true, zdd 7 39 (zmv 0) false [] [] false, zdd 8 40 (.nilCheck (Tm 39)) false [] [] false, zdd 9 41 (zfa 131 40 0) false [6] [] false, zdd 10 42 (zfa 39 41 0) false [6] [] false, zdd 11 43 (zld 34 42) false [6] [] false, zdd 12 44 (zmv 4) false [] [] false, zdd 13 45 (zmv 5) true [] [] false, zdd 14 46 (zcf 203 [Tm 43, Tm 44, Tm 45] [34, 3, 3]) true [] [] false, ⟨15, some 47, .buildSlice 37 1 ⟨[(0, .tmp 46)]⟩, none, true, [], [], false⟩, zdd 16 48 (zcb .append [Tm 38, Tm 47] [37, 37]) true [] [] false, zdd 17 49 (.nilCheck (Tm 32)) true [] [] false, zdd 18 50 (zfa 131 49 0) true [] [] false, zdd 19 51 (zfa 39 50 4) true [] [] false, zd0 20 (.store 37 (Tm 51) (Tm 48)) true [] [] false]
def zn188_39 : ZC := ZC.seq zn188_40 zn188_41
def zn188_31 : ZC := ZC.cond (Tm 99) zn188_32 zn188_39
def zn188_29 : ZC := ZC.seq zn188_30 zn188_31
def zn188_25 : ZC := ZC.cond (Tm 86) zn188_26 zn188_29
def zn188_23 : ZC := ZC.seq zn188_24 zn188_25
def zn188_21 : ZC := ZC.cond (Tm 77) zn188_22 zn188_23
def zn188_19 : ZC := ZC.seq zn188_20 zn188_21
def zn188_17 : ZC := ZC.cond (Tm 68) zn188_18 zn188_19
def zn188_15 : ZC := ZC.seq zn188_16 zn188_17
def zn188_13 : ZC := ZC.cond (Tm 59) zn188_14 zn188_15
def zn188_11 : ZC := ZC.seq zn188_12 zn188_13
def zn188_9 : ZC := ZC.cond (Tm 52) zn188_10 zn188_11
def zn188_7 : ZC := ZC.seq zn188_8 zn188_9
def zn188_6 : ZC := ZC.block 0 zn188_7
def zn188_4 : ZC := ZC.seq zn188_5 zn188_6
def zn188_2 : ZC := ZC.seq zn188_3 zn188_4
def zn188_0 : ZC := ZC.seq zn188_1 zn188_2
def zc188 : ZC := zn188_0
theorem zc188_ok : zcode (xfOf Try.f188).code = some zc188 := by kernel_rfl
set_option linter.defProp false in
def zw188 := And.intro (zunf C zc188.eq_1) <| And.intro (zunf C zn188_1.eq_1) <| And.intro (zunf C zn188_3.eq_1) <| And.intro (zunf C zn188_5.eq_1) <| And.intro (zunf C zn188_8.eq_1) <| And.intro (zunf C zn188_10.eq_1) <| And.intro (zunf C zn188_12.eq_1) <| And.intro (zunf C zn188_14.eq_1) <| And.intro (zunf C zn188_16.eq_1) <| And.intro (zunf C zn188_18.eq_1) <| And.intro (zunf C zn188_20.eq_1) <| And.intro (zunf C zn188_22.eq_1) <| And.intro (zunf C zn188_24.eq_1) <| And.intro (zunf C zn188_27.eq_1) <| And.intro (zunf C zn188_28.eq_1) <| And.intro (zunf C zn188_26.eq_1) <| And.intro (zunf C zn188_30.eq_1) <| And.intro (zunf C zn188_33.eq_1) <| And.intro (zunf C zn188_35.eq_1) <| And.intro (zunf C zn188_37.eq_1) <| And.intro (zunf C zn188_38.eq_1) <| And.intro (zunf C zn188_36.eq_1) <| And.intro (zunf C zn188_34.eq_1) <| And.intro (zunf C zn188_32.eq_1) <| And.intro (zunf C zn188_40.eq_1) <| And.intro (zunf C zn188_41.eq_1) <| And.intro (zunf C zn188_39.eq_1) <| And.intro (zunf C zn188_31.eq_1) <| And.intro (zunf C zn188_29.eq_1) <| And.intro (zunf C zn188_25.eq_1) <| And.intro (zunf C zn188_23.eq_1) <| And.intro (zunf C zn188_21.eq_1) <| And.intro (zunf C zn188_19.eq_1) <| And.intro (zunf C zn188_17.eq_1) <| And.intro (zunf C zn188_15.eq_1) <| And.intro (zunf C zn188_13.eq_1) <| And.intro (zunf C zn188_11.eq_1) <| And.intro (zunf C zn188_9.eq_1) <| And.intro (zunf C zn188_7.eq_1) <| And.intro (zunf C zn188_6.eq_1) <| And.intro (zunf C zn188_4.eq_1) <| And.intro (zunf C zn188_2.eq_1) <| (zunf C zn188_0.eq_1)
theorem rs188 : (xfOf Try.f188).rs = [] := by kernel_rfl
theorem xf188 : XFok C 188 (xfOf Try.f188) := by refine ⟨Try.f188, ?_, ?_, ?_, ?_, ?_, ?_, ?_⟩ <;> kernel_rfl
def zn202_1 : ZC := ZC.reg [zu 4 (.assign (.const (.int .u64 0))), zv 5 (.assign (Kn 0))]
def zn202_4 : ZC := ZC.reg [zu 7 (zmv 1), zv 8 (.binOp .lss 3 (Tm 7) (Kn 1) 3)]
def zn202_7 : ZC := ZC.reg [zu 9 (zmv 0), zu 4 (zas 9), zv 5 (.assign (Kn 0))]
def zn202_6 : ZC := ZC.seq zn202_7 ZC.ret
def zn202_5 : ZC := ZC.cond (Tm 8) zn202_6 ZC.skip
def zn202_3 : ZC := ZC.seq zn202_4 zn202_5
def zn202_9 : ZC := ZC.reg [zu 11 (zmv 0), zu 12 (zcf 207 [Tm 11] [25]), zu 10 (zmv 12), zu 13 (.extract (Tm 10) 0), zu 14 (.extract (Tm 10) 1), zu 0 (zas 13), zv 6 (zas 14)]
def zn202_11 : ZC := ZC.draw 6 [] [zdd 0 15 (zmv 0) false [] [] false, zdd 1 16 (zmv 6) false [] [] false, zdd 2 17 (zmv 1) false [] [] false, zdd 3 18 (.binOp .rem 3 (Tm 16) (Tm 17) 3) false [] [] false, zdd 4 4 (zas 15) true [] [] false, zdd 5 5 (zas 18) true [] [] false]
def zn202_10 : ZC := ZC.seq zn202_11 ZC.ret
def zn202_8 : ZC := ZC.seq zn202_9 zn202_10
def zn202_2 : ZC := ZC.seq zn202_3 zn202_8
def zn202_0 : ZC := ZC.seq zn202_1 zn202_2
def zc202 : ZC := zn202_0
theorem zc202_ok : zcode (xfOf Try.f202).code = some zc202 := by kernel_rfl
set_option linter.defProp false in
def zw202 := And.intro (zunf C zc202.eq_1) <| And.intro (zunf C zn202_1.eq_1) <| And.intro (zunf C zn202_4.eq_1) <| And.intro (zunf C zn202_7.eq_1) <| And.intro (zunf C zn202_6.eq_1) <| And.intro (zunf C zn202_5.eq_1) <| And.intro (zunf C zn202_3.eq_1) <| And.intro (zunf C zn202_9.eq_1) <| And.intro (zunf C zn202_11.eq_1) <| And.intro (zunf C zn202_10.eq_1) <| And.intro (zunf C zn202_8.eq_1) <| And.intro (zunf C zn202_2.eq_1) <| (zunf C zn202_0.eq_1)
theorem rs202 : (xfOf Try.f202).rs = [.tmp 4, .tmp 5] := by kernel_rfl
theorem xf202 : XFok C 202 (xfOf Try.f202) := by refine ⟨Try.f202, ?_, ?_, ?_, ?_, ?_, ?_, ?_⟩ <;> kernel_rfl
def zn207_1 : ZC := ZC.reg [zu 2 (.assign (.const (.int .u64 0))), zv 3 (.assign (Kn 0))]
def zn207_3 : ZC := ZC.reg [zu 4 (zmv 0), zu 5 (.binOp .mul 25 (Tm 4) (.const (.int .u64 6364136223846793005)) 25), zu 6 (.binOp .add 25 (Tm 5) (.const (.int .u64 1442695040888963407)) 25), zv 0 (zas 6)]
def zn207_5 : ZC := ZC.reg [zu 7 (zmv 0), zu 8 (zmv 0), zu 9 (.binOp .shr 25 (Tm 8) (.const (.int .u64 33)) 178), zu 10 (.convert 25 3 (Tm 9)), zu 2 (zas 7), zv 3 (zas 10)]
def zn207_4 : ZC := ZC.seq zn207_5 ZC.ret
def zn207_2 : ZC := ZC.seq zn207_3 zn207_4
def zn207_0 : ZC := ZC.seq zn207_1 zn207_2
def zc207 : ZC := zn207_0
theorem zc207_ok : zcode (xfOf Try.f207).code = some zc207 := by kernel_rfl
set_option linter.defProp false in
def zw207 := And.intro (zunf C zc207.eq_1) <| And.intro (zunf C zn207_1.eq_1) <| And.intro (zunf C zn207_3.eq_1) <| And.intro (zunf C zn207_5.eq_1) <| And.intro (zunf C zn207_4.eq_1) <| And.intro (zunf C zn207_2.eq_1) <| (zunf C zn207_0.eq_1)
theorem rs207 : (xfOf Try.f207).rs = [.tmp 2, .tmp 3] := by kernel_rfl
theorem xf207 : XFok C 207 (xfOf Try.f207) := by refine ⟨Try.f207, ?_, ?_, ?_, ?_, ?_, ?_, ?_⟩ <;> kernel_rfl
def zn203_1 : ZC := ZC.reg [zu 3 (.box 34 (Tm 0)), zv 6 (.alloc 34)]
def zn203_4 : ZC := ZC.reg [zu 7 (zld 34 3), zu 8 (zcf 24 [Tm 7] [34]), zu 9 (.unOp .not 4 (Tm 8)), zu 10 (zmv 9), zug 11 (zfa 34 3 0) 10 false false, zug 12 (zld 3 11) 10 false false, zug 13 (.binOp .eql 3 (Tm 12) (Kn 0) 3) 10 false false, zv 14 (.pick (Tm 10) (.const (.bool true)) (Tm 13))]
def zn203_7 : ZC := ZC.reg [⟨some 15, .build 34 ⟨[]⟩, none, false⟩, zv0 (.store 34 (Tm 6) (Tm 15))]
def zn203_6 : ZC := ZC.seq zn203_7 ZC.ret
def zn203_5 : ZC := ZC.cond (Tm 14) zn203_6 ZC.skip
def zn203_3 : ZC := ZC.seq zn203_4 zn203_5
def zn203_9 : ZC := ZC.draw 12 [] [zdd 0 16 (zfa 34 3 1) false [] [7, 9] false, zdd 1 17 (zld 3 16) false [] [7, 9] false, zdd 2 18 (zfa 34 3 2) false [] [7, 9] false, zdd 3 19 (zld 3 18) false [] [7, 9] false, zdd 4 20 (zfa 34 3 3) false [] [7, 9] false, zdd 5 21 (zld 3 20) false [] [7, 9] false, zdd 6 22 (zmv 1) false [] [] false, zdd 7 23 (zcf 140 [Tm 22, Kn (-64), Kn 64] [3, 3, 3]) false [] [] false, zdd 8 24 (zmv 2) true [] [] false, zdd 9 25 (zcf 140 [Tm 24, Kn (-64), Kn 64] [3, 3, 3]) true [] [] false, ⟨10, some 26, .build 34 ⟨[(0, .const (.int .i64 2)), (1, .tmp 17), (2, .tmp 19), (3, .tmp 21), (4, .tmp 23), (5, .tmp 25)]⟩, none, true, [], [], false⟩, zd0 11 (.store 34 (Tm 6) (Tm 26)) true [] [] false]
def zn203_8 : ZC := ZC.seq zn203_9 ZC.ret
def zn203_2 : ZC := ZC.seq zn203_3 zn203_8
def zn203_0 : ZC := ZC.seq zn203_1 zn203_2
def zc203 : ZC := zn203_0
theorem zc203_ok : zcode (xfOf Try.f203).code = some zc203 := by kernel_rfl
set_option linter.defProp false in
def zw203 := And.intro (zunf C zc203.eq_1) <| And.intro (zunf C zn203_1.eq_1) <| And.intro (zunf C zn203_4.eq_1) <| And.intro (zunf C zn203_7.eq_1) <| And.intro (zunf C zn203_6.eq_1) <| And.intro (zunf C zn203_5.eq_1) <| And.intro (zunf C zn203_3.eq_1) <| And.intro (zunf C zn203_9.eq_1) <| And.intro (zunf C zn203_8.eq_1) <| And.intro (zunf C zn203_2.eq_1) <| (zunf C zn203_0.eq_1)
theorem rs203 : (xfOf Try.f203).rs = [.cell 6 34] := by kernel_rfl
theorem xf203 : XFok C 203 (xfOf Try.f203) := by refine ⟨Try.f203, ?_, ?_, ?_, ?_, ?_, ?_, ?_⟩ <;> kernel_rfl
def zn196_1 : ZC := ZC.reg [zu 3 (.box 34 (Tm 0)), zv 6 (.alloc 34)]
def zn196_4 : ZC := ZC.reg [zu 7 (zld 34 3), zu 8 (zcf 24 [Tm 7] [34]), zu 9 (.unOp .not 4 (Tm 8)), zu 10 (zmv 9), zug 11 (zfa 34 3 0) 10 false false, zug 12 (zld 3 11) 10 false false, zug 13 (.binOp .eql 3 (Tm 12) (Kn 0) 3) 10 false false, zv 14 (.pick (Tm 10) (.const (.bool true)) (Tm 13))]
def zn196_7 : ZC := ZC.reg [⟨some 15, .build 34 ⟨[]⟩, none, false⟩, zv0 (.store 34 (Tm 6) (Tm 15))]
def zn196_6 : ZC := ZC.seq zn196_7 ZC.ret
def zn196_5 : ZC := ZC.cond (Tm 14) zn196_6 ZC.skip
def zn196_3 : ZC := ZC.seq zn196_4 zn196_5
def zn196_9 : ZC := ZC.draw 8 [] [zdd 0 16 (zfa 34 3 4) false [] [3] false, zdd 1 17 (zld 3 16) false [] [3] false, zdd 2 18 (zmv 1) true [] [] false, zdd 3 19 (zcf 140 [Tm 18, Kn (-1000), Kn 1000] [3, 3, 3]) true [] [] false, zdd 4 20 (.binOp .add 3 (Tm 17) (Tm 19) 3) true [] [] false, zdd 5 21 (zcf 140 [Tm 20, Kn (-64), Kn 64] [3, 3, 3]) true [] [] false, zdd 6 22 (zfa 34 3 4) true [] [] false, zd0 7 (.store 3 (Tm 22) (Tm 21)) true [] [] false]
def zn196_11 : ZC := ZC.draw 8 [] [zdd 0 23 (zfa 34 3 5) false [] [3] false, zdd 1 24 (zld 3 23) false [] [3] false, zdd 2 25 (zmv 2) true [] [] false, zdd 3 26 (zcf 140 [Tm 25, Kn (-1000), Kn 1000] [3, 3, 3]) true [] [] false, zdd 4 27 (.binOp .add 3 (Tm 24) (Tm 26) 3) true [] [] false, zdd 5 28 (zcf 140 [Tm 27, Kn (-64), Kn 64] [3, 3, 3]) true [] [] false, zdd 6 29 (zfa 34 3 5) true [] [] false, zd0 7 (.store 3 (Tm 29) (Tm 28)) true [] [] false]
def zn196_13 : ZC := ZC.reg [zu 30 (zld 34 3), zv0 (.store 34 (Tm 6) (Tm 30))]
def zn196_12 : ZC := ZC.seq zn196_13 ZC.ret
def zn196_10 : ZC := ZC.seq zn196_11 zn196_12
def zn196_8 : ZC := ZC.seq zn196_9 zn196_10
def zn196_2 : ZC := ZC.seq zn196_3 zn196_8
def zn196_0 : ZC := ZC.seq zn196_1 zn196_2
def zc196 : ZC := zn196_0
theorem zc196_ok : zcode (xfOf Try.f196).code = some zc196 := by kernel_rfl
set_option linter.defProp false in
def zw196 := And.intro (zunf C zc196.eq_1) <| And.intro (zunf C zn196_1.eq_1) <| And.intro (zunf C zn196_4.eq_1) <| And.intro (zunf C zn196_7.eq_1) <| And.intro (zunf C zn196_6.eq_1) <| And.intro (zunf C zn196_5.eq_1) <| And.intro (zunf C zn196_3.eq_1) <| And.intro (zunf C zn196_9.eq_1) <| And.intro (zunf C zn196_11.eq_1) <| And.intro (zunf C zn196_13.eq_1) <| And.intro (zunf C zn196_12.eq_1) <| And.intro (zunf C zn196_10.eq_1) <| And.intro (zunf C zn196_8.eq_1) <| And.intro (zunf C zn196_2.eq_1) <| (zunf C zn196_0.eq_1)
theorem rs196 : (xfOf Try.f196).rs = [.cell 6 34] := by kernel_rfl
theorem xf196 : XFok C 196 (xfOf Try.f196) := by refine ⟨Try.f196, ?_, ?_, ?_, ?_, ?_, ?_, ?_⟩ <;> kernel_rfl
def zn25_1 : ZC := ZC.reg [zu 3 (.box 39 (Tm 1)), zu 4 (.alloc 39), zu 5 (.alloc 44), zv 6 (.assign (.const (.bool false)))]
def zn25_4 : ZC := ZC.reg [zu 10 (zfa 39 3 0), zu 11 (zld 34 10), zu 12 (zcf 24 [Tm 11] [34]), zu 13 (.unOp .not 4 (Tm 12)), zu 14 (zmv 13), zug 15 (zfa 39 3 0) 14 false false, zug 16 (zfa 34 15 0) 14 false false, zug 17 (zld 3 16) 14 false false, zug 18 (.binOp .eql 3 (Tm 17) (Kn 0) 3) 14 false false, zv 19 (.pick (Tm 14) (.const (.bool true)) (Tm 18))]
def zn25_7 : ZC := ZC.reg [zu 20 (zld 39 3), zu 21 (zcf 72 [Tm 20] [39]), ⟨some 22, .build 44 ⟨[]⟩, none, false⟩, zu0 (.store 39 (Tm 4) (Tm 21)), zu0 (.store 44 (Tm 5) (Tm 22)), zv 6 (.assign (.const (.bool false)))]
def zn25_6 : ZC := ZC.seq zn25_7 ZC.ret
def zn25_5 : ZC := ZC.cond (Tm 19) zn25_6 ZC.skip
def zn25_3 : ZC := ZC.seq zn25_4 zn25_5
def zn25_9 : ZC := ZC.reg [zu 23 (zld 39 3), zu 24 (zcf 72 [Tm 23] [39]), zu 25 (zmv 0), ⟨some 26, .build 131 ⟨[(0, .tmp 24), (1, .tmp 25)]⟩, none, false⟩, zu 27 (.box 131 (Tm 26)), zv 7 (zas 27)]
def zn25_12 : ZC := ZC.reg [zu 29 (zmv 7), ⟨some 30, .makeFunc (.func 74) ⟨[Tm 29]⟩ ⟨[]⟩, none, false⟩, zu 31 (zcf 73 [Tm 30] [1]), zu 28 (zmv 31), zu 32 (.extract (Tm 28) 0), zu 33 (.extract (Tm 28) 1), zu 8 (.alloc 44), zu0 (.store 44 (Tm 8) (Tm 32)), zv 9 (zas 33)]
def zn25_14 : ZC := ZC.reg [zv 34 (zmv 9)]
def zn25_17 : ZC := ZC.draw 6 [] [zdd 0 35 (zld 39 3) false [] [] false, zdd 1 36 (zcf 72 [Tm 35] [39]) false [] [] true, zdd 2 37 (zld 44 8) false [1] [3] false, zd0 3 (.store 39 (Tm 4) (Tm 36)) true [] [] false, zd0 4 (.store 44 (Tm 5) (Tm 37)) true [] [] false, zdd 5 6 (.assign (.const (.bool false))) true [] [] false]
def zn25_16 : ZC := ZC.seq zn25_17 ZC.ret
def zn25_15 : ZC := ZC.cond (Tm 34) zn25_16 ZC.skip
def zn25_13 : ZC := ZC.seq zn25_14 zn25_15
def zn25_11 : ZC := ZC.seq zn25_12 zn25_13
def zn25_19 : ZC := ZC.reg [zu 38 (zmv 7), zu 39 (.nilCheck (Tm 38)), zu 40 (zfa 131 39 0), zu 41 (zld 39 40), ⟨some 42, .build 44 ⟨[]⟩, none, false⟩, zu0 (.store 39 (Tm 4) (Tm 41)), zu0 (.store 44 (Tm 5) (Tm 42)), zv 6 (.assign (.const (.bool true)))]
def zn25_18 : ZC := ZC.seq zn25_19 ZC.ret
def zn25_10 : ZC := ZC.seq zn25_11 zn25_18
def zn25_8 : ZC := ZC.seq zn25_9 zn25_10
def zn25_2 : ZC := ZC.seq zn25_3 zn25_8
def zn25_0 : ZC := ZC.seq zn25_1 zn25_2
def zc25 : ZC := zn25_0
theorem zc25_ok : zcode (xfOf Try.f25).code = some zc25 := by kernel_rfl
set_option linter.defProp false in
def zw25 := And.intro (zunf C zc25.eq_1) <| And.intro (zunf C zn25_1.eq_1) <| And.intro (zunf C zn25_4.eq_1) <| And.intro (zunf C zn25_7.eq_1) <| And.intro (zunf C zn25_6.eq_1) <| And.intro (zunf C zn25_5.eq_1) <| And.intro (zunf C zn25_3.eq_1) <| And.intro (zunf C zn25_9.eq_1) <| And.intro (zunf C zn25_12.eq_1) <| And.intro (zunf C zn25_14.eq_1) <| And.intro (zunf C zn25_17.eq_1) <| And.intro (zunf C zn25_16.eq_1) <| And.intro (zunf C zn25_15.eq_1) <| And.intro (zunf C zn25_13.eq_1) <| And.intro (zunf C zn25_11.eq_1) <| And.intro (zunf C zn25_19.eq_1) <| And.intro (zunf C zn25_18.eq_1) <| And.intro (zunf C zn25_10.eq_1) <| And.intro (zunf C zn25_8.eq_1) <| And.intro (zunf C zn25_2.eq_1) <| (zunf C zn25_0.eq_1)
theorem rs25 : (xfOf Try.f25).rs = [.cell 4 39, .cell 5 44, .tmp 6] := by kernel_rfl
theorem xf25 : XFok C 25 (xfOf Try.f25) := by refine ⟨Try.f25, ?_, ?_, ?_, ?_, ?_, ?_, ?_⟩ <;> kernel_rfl
def zn72_1 : ZC := ZC.reg [zu 1 (.box 39 (Tm 0)), zv 2 (.alloc 39)]
def zn72_3 : ZC := ZC.reg [zu 3 (zfa 39 1 4), zu 4 (zld 37 3), zu 5 (zcf 148 [Tm 4] [37]), zu 6 (zfa 39 1 4), zv0 (.store 37 (Tm 6) (Tm 5))]
def zn72_5 : ZC := ZC.reg [zu 7 (zld 39 1), zv0 (.store 39 (Tm 2) (Tm 7))]
def zn72_4 : ZC := ZC.seq zn72_5 ZC.ret
def zn72_2 : ZC := ZC.seq zn72_3 zn72_4
def zn72_0 : ZC := ZC.seq zn72_1 zn72_2
def zc72 : ZC := zn72_0
theorem zc72_ok : zcode (xfOf Try.f72).code = some zc72 := by kernel_rfl
set_option linter.defProp false in
def zw72 := And.intro (zunf C zc72.eq_1) <| And.intro (zunf C zn72_1.eq_1) <| And.intro (zunf C zn72_3.eq_1) <| And.intro (zunf C zn72_5.eq_1) <| And.intro (zunf C zn72_4.eq_1) <| And.intro (zunf C zn72_2.eq_1) <| (zunf C zn72_0.eq_1)
theorem rs72 : (xfOf Try.f72).rs = [.cell 2 39] := by kernel_rfl
theorem xf72 : XFok C 72 (xfOf Try.f72) := by refine ⟨Try.f72, ?_, ?_, ?_, ?_, ?_, ?_, ?_⟩ <;> kernel_rfl
def zn74_1 : ZC := ZC.reg [zv 2 (.assign (Kn 0))]
def zn74_6 : ZC := ZC.draw 10 [] [zdd 0 3 (zmv 0) false [] [] false, zdd 1 4 (.nilCheck (Tm 3)) false [] [] false, zdd 2 5 (zfa 131 4 2) false [] [] false, zdd 3 6 (zld 3 5) false [] [] false, zdd 4 7 (zmv 0) true [] [] false, zdd 5 8 (.nilCheck (Tm 7)) true [] [] false, zdd 6 9 (zfa 131 8 1) true [] [] false, zdd 7 10 (zld 23 9) true [] [] false, zdd 8 11 (zcb .len [Tm 10] [23]) true [] [] false, zdd 9 12 (.binOp .lss 3 (Tm 6) (Tm 11) 3) true [] [] false]
def zn74_7 : ZC := ZC.cond (Tm 12) ZC.skip (ZC.exit 0)
def zn74_5 : ZC := ZC.seq zn74_6 zn74_7
def zn74_11 : ZC := ZC.reg [zu 15 (zmv 0), zu 16 (zmv 2), zu 17 (.binOp .lss 3 (Tm 16) (Kn 64) 3), zv 18 (zcf 150 [Tm 15, Tm 17, Kn 5] [129, 4, 3])]
def zn74_12 : ZC := ZC.draw 16 [] [zdd 0 19 (zmv 0) false [] [] false, zdd 1 20 (zmv 0) false [] [] false, zdd 2 21 (zmv 0) false [] [] false, zdd 3 22 (.nilCheck (Tm 21)) false [] [] false, zdd 4 23 (zfa 131 22 1) false [] [] false, zdd 5 24 (zld 23 23) false [] [] false, zdd 6 25 (zmv 0) true [] [] false, zdd 7 26 (.nilCheck (Tm 25)) true [] [] false, zdd 8 27 (zfa 131 26 2) true [] [] false, zdd 9 28 (zld 3 27) true [] [] false, zdd 10 29 (zia 23 24 28) true [] [] false, zdd 11 30 (zld 29 29) true [] [] false, zdd 12 31 (zcf 151 [Tm 20, Tm 30] [129, 29]) true [] [] false, zdd 13 32 (.nilCheck (Tm 19)) true [] [] false, zdd 14 33 (zfa 131 32 2) true [] [] false, zd0 15 (.store 3 (Tm 33) (Tm 31)) true [] [] false]
def zn74_10 : ZC := ZC.seq zn74_11 zn74_12
def zn74_9 : ZC := ZC.block 1 zn74_10
def zn74_13 : ZC := ZC.reg [zu 13 (zmv 2), zu 14 (.binOp .add 3 (Tm 13) (Kn 1) 3), zv 2 (zas 14)]
def zn74_8 : ZC := ZC.seq zn74_9 zn74_13
def zn74_4 : ZC := ZC.seq zn74_5 zn74_8
def zn74_3 : ZC := ZC.loop zn74_4
def zn74_2 : ZC := ZC.block 0 zn74_3
def zn74_0 : ZC := ZC.seq zn74_1 zn74_2
def zc74 : ZC := zn74_0
theorem zc74_ok : zcode (xfOf Try.f74).code = some zc74 := by kernel_rfl
set_option linter.defProp false in
def zw74 := And.intro (zunf C zc74.eq_1) <| And.intro (zunf C zn74_1.eq_1) <| And.intro (zunf C zn74_6.eq_1) <| And.intro (zunf C zn74_7.eq_1) <| And.intro (zunf C zn74_5.eq_1) <| And.intro (zunf C zn74_11.eq_1) <| And.intro (zunf C zn74_12.eq_1) <| And.intro (zunf C zn74_10.eq_1) <| And.intro (zunf C zn74_9.eq_1) <| And.intro (zunf C zn74_13.eq_1) <| And.intro (zunf C zn74_8.eq_1) <| And.intro (zunf C zn74_4.eq_1) <| And.intro (zunf C zn74_2.eq_1) <| (zunf C zn74_0.eq_1)
theorem rs74 : (xfOf Try.f74).rs = [] := by kernel_rfl
theorem xf74 : XFok C 74 (xfOf Try.f74) := by refine ⟨Try.f74, ?_, ?_, ?_, ?_, ?_, ?_, ?_⟩ <;> kernel_rfl
def zn151_1 : ZC := ZC.reg [zu 3 (.box 29 (Tm 1)), zv 4 (.assign (Kn 0))]
def zn151_3 : ZC := ZC.reg [zu 5 (zmv 0), zu 6 (zfa 29 3 0), zu 7 (zld 3 6), zu 8 (zcf 84 [Tm 7, Kn 1, Kn 13] [3, 3, 3]), zv 9 (zcf 150 [Tm 5, Tm 8, Kn 4] [129, 4, 3])]
def zn151_5 : ZC := ZC.reg [zu 10 (zmv 0), zu 11 (zld 29 3), zv 12 (zcf 182 [Tm 10, Tm 11] [129, 29])]
def zn151_8 : ZC := ZC.reg [zu 13 (zfa 29 3 0), zv 14 (zld 3 13)]
def zn151_11 : ZC := ZC.reg [zu 19 (.binOp .eql 3 (Tm 14) (Kn 1) 3), zv 18 (zas 19)]
def zn151_13 : ZC := ZC.reg [zu 20 (zmv 0), zu 21 (zfa 29 3 1), zu 22 (zld 3 21), zu 23 (zfa 29 3 2), zu 24 (zld 3 23), zv 25 (zcf 183 [Tm 20, Tm 22, Tm 24] [129, 3, 3])]
def zn151_15 : ZC := ZC.reg [zu 27 (.binOp .eql 3 (Tm 14) (Kn 7) 3), zv 26 (zas 27)]
def zn151_17 : ZC := ZC.draw 8 [] [zdd 0 28 (zmv 0) false [] [] false, zdd 1 29 (zfa 29 3 1) false [] [6] false, zdd 2 30 (zld 3 29) false [] [6] false, zdd 3 31 (zmv 0) false [] [] false, zdd 4 32 (zfa 29 3 2) true [] [] false, zdd 5 33 (zld 3 32) true [] [] false, zdd 6 34 (zcf 184 [Tm 31, Tm 33] [129, 3]) true [] [] false, zdd 7 35 (zcf 183 [Tm 28, Tm 30, Tm 34] [129, 3, 3]) true [] [] false]
def zn151_19 : ZC := ZC.reg [zu 37 (.binOp .eql 3 (Tm 14) (Kn 8) 3), zv 36 (zas 37)]
def zn151_21 : ZC := ZC.draw 8 [] [zdd 0 38 (zmv 0) false [] [] false, zdd 1 39 (zfa 29 3 1) false [] [6] false, zdd 2 40 (zld 3 39) false [] [6] false, zdd 3 41 (zmv 0) false [] [] false, zdd 4 42 (zfa 29 3 2) true [] [] false, zdd 5 43 (zld 3 42) true [] [] false, zdd 6 44 (zcf 186 [Tm 41, Tm 43] [129, 3]) true [] [] false, zdd 7 45 (zcf 185 [Tm 38, Tm 40, Tm 44] [129, 3, 3]) true [] [] false]
def zn151_23 : ZC := ZC.reg [zu 47 (.binOp .eql 3 (Tm 14) (Kn 9) 3), zv 46 (zas 47)]
def zn151_26 : ZC := ZC.reg [zu 48 (zmv 0), zu 49 (zfa 29 3 1), zu 50 (zld 3 49), zu 51 (zcf 186 [Tm 48, Tm 50] [129, 3]), zv 52 (.binOp .eql 3 (Tm 51) (Kn 0) 3)]
def zn151_29 : ZC := ZC.reg [zu 53 (zmv 0), zu 54 (zfa 29 3 2), zu 55 (zld 3 54), zu 56 (zcf 187 [Tm 53, Tm 55] [129, 3]), zv 4 (zas 56)]
def zn151_28 : ZC := ZC.seq zn151_29 ZC.ret
def zn151_27 : ZC := ZC.cond (Tm 52) zn151_28 ZC.skip
def zn151_25 : ZC := ZC.seq zn151_26 zn151_27
def zn151_31 : ZC := ZC.reg [zu 58 (.binOp .eql 3 (Tm 14) (Kn 10) 3), zv 57 (zas 58)]
def zn151_34 : ZC := ZC.reg [zu 59 (zmv 0), zu 60 (zfa 29 3 2), zu 61 (zld 3 60), zu 62 (zcf 187 [Tm 59, Tm 61] [129, 3]), zv 4 (zas 62)]
def zn151_33 : ZC := ZC.seq zn151_34 ZC.ret
def zn151_36 : ZC := ZC.reg [zu 64 (.binOp .eql 3 (Tm 14) (Kn 13) 3), zv 63 (zas 64)]
def zn151_39 : ZC := ZC.reg [zu 65 (zmv 0), zu 66 (.nilCheck (Tm 65)), zu 67 (zfa 131 66 1), zu 68 (zld 23 67), zu 69 (zcb .len [Tm 68] [23]), zv 4 (zas 69)]
def zn151_38 : ZC := ZC.seq zn151_39 ZC.ret
def zn151_40 : ZC := ZC.reg [zu 15 (zmv 0), zu 16 (zld 29 3), zv 17 (zcf 188 [Tm 15, Tm 16] [129, 29])]
def zn151_37 : ZC := ZC.cond (Tm 63) zn151_38 zn151_40
def zn151_35 : ZC := ZC.seq zn151_36 zn151_37
def zn151_32 : ZC := ZC.cond (Tm 57) zn151_33 zn151_35
def zn151_30 : ZC := ZC.seq zn151_31 zn151_32
def zn151_24 : ZC := ZC.cond (Tm 46) zn151_25 zn151_30
def zn151_22 : ZC := ZC.seq zn151_23 zn151_24
def zn151_20 : ZC := ZC.cond (Tm 36) zn151_21 zn151_22
def zn151_18 : ZC := ZC.seq zn151_19 zn151_20
def zn151_16 : ZC := ZC.cond (Tm 26) zn151_17 zn151_18
def zn151_14 : ZC := ZC.seq zn151_15 zn151_16
def zn151_12 : ZC := ZC.cond (Tm 18) zn151_13 zn151_14
def zn151_10 : ZC := ZC.seq zn151_11 zn151_12
def zn151_9 : ZC := ZC.block 0 zn151_10
def zn151_7 : ZC := ZC.seq zn151_8 zn151_9
def zn151_42 : ZC := ZC.reg [zu 70 (zmv 0), zu 71 (.nilCheck (Tm 70)), zu 72 (zfa 131 71 2), zu 73 (zld 3 72), zu 74 (.binOp .add 3 (Tm 73) (Kn 1) 3), zv 4 (zas 74)]
def zn151_41 : ZC := ZC.seq zn151_42 ZC.ret
def zn151_6 : ZC := ZC.seq zn151_7 zn151_41
def zn151_4 : ZC := ZC.seq zn151_5 zn151_6
def zn151_2 : ZC := ZC.seq zn151_3 zn151_4
def zn151_0 : ZC := ZC.seq zn151_1 zn151_2
def zc151 : ZC := zn151_0
theorem zc151_ok : zcode (xfOf Try.f151).code = some zc151 := by kernel_rfl
set_option linter.defProp false in
def zw151 := And.intro (zunf C zc151.eq_1) <| And.intro (zunf C zn151_1.eq_1) <| And.intro (zunf C zn151_3.eq_1) <| And.intro (zunf C zn151_5.eq_1) <| And.intro (zunf C zn151_8.eq_1) <| And.intro (zunf C zn151_11.eq_1) <| And.intro (zunf C zn151_13.eq_1) <| And.intro (zunf C zn151_15.eq_1) <| And.intro (zunf C zn151_17.eq_1) <| And.intro (zunf C zn151_19.eq_1) <| And.intro (zunf C zn151_21.eq_1) <| And.intro (zunf C zn151_23.eq_1) <| And.intro (zunf C zn151_26.eq_1) <| And.intro (zunf C zn151_29.eq_1) <| And.intro (zunf C zn151_28.eq_1) <| And.intro (zunf C zn151_27.eq_1) <| And.intro (zunf C zn151_25.eq_1) <| And.intro (zunf C zn151_31.eq_1) <| And.intro (zunf C zn151_34.eq_1) <| And.intro (zunf C zn151_33.eq_1) <| And.intro (zunf C zn151_36.eq_1) <| And.intro (zunf C zn151_39.eq_1) <| And.intro (zunf C zn151_38.eq_1) <| And.intro (zunf C zn151_40.eq_1) <| And.intro (zunf C zn151_37.eq_1) <| And.intro (zunf C zn151_35.eq_1) <| And.intro (zunf C zn151_32.eq_1) <| And.intro (zunf C zn151_30.eq_1) <| And.intro (zunf C zn151_24.eq_1) <| And.intro (zunf C zn151_22.eq_1) <| And.intro (zunf C zn151_20.eq_1) <| And.intro (zunf C zn151_18.eq_1) <| And.intro (zunf C zn151_16.eq_1) <| And.intro (zunf C zn151_14.eq_1) <| And.intro (zunf C zn151_12.eq_1) <| And.intro (zunf C zn151_10.eq_1) <| And.intro (zunf C zn151_9.eq_1) <| And.intro (zunf C zn151_7.eq_1) <| And.intro (zunf C zn151_42.eq_1) <| And.intro (zunf C zn151_41.eq_1) <| And.intro (zunf C zn151_6.eq_1) <| And.intro (zunf C zn151_4.eq_1) <| And.intro (zunf C zn151_2.eq_1) <| (zunf C zn151_0.eq_1)
theorem rs151 : (xfOf Try.f151).rs = [.tmp 4] := by kernel_rfl
theorem xf151 : XFok C 151 (xfOf Try.f151) := by refine ⟨Try.f151, ?_, ?_, ?_, ?_, ?_, ?_, ?_⟩ <;> kernel_rfl
def zn148_1 : ZC := ZC.reg [zv 2 (.assign (.const (.slice none 0 0)))]
def zn148_4 : ZC := ZC.reg [zu 3 (zmv 0), zv 4 (.binOp .eql 37 (Tm 3) (.const (.slice none 0 0)) 37)]
def zn148_7 : ZC := ZC.reg [zv 2 (.assign (.const (.slice none 0 0)))]
def zn148_6 : ZC := ZC.seq zn148_7 ZC.ret
def zn148_5 : ZC := ZC.cond (Tm 4) zn148_6 ZC.skip
def zn148_3 : ZC := ZC.seq zn148_4 zn148_5
def zn148_9 : ZC := ZC.reg [⟨some 5, .buildSlice 37 0 ⟨[]⟩, none, false⟩, zu 6 (zmv 0), zu 7 (zcb .append [Tm 5, Tm 6] [37, 37]), zv 2 (zas 7)]
def zn148_8 : ZC := ZC.seq zn148_9 ZC.ret
def zn148_2 : ZC := ZC.seq zn148_3 zn148_8
def zn148_0 : ZC := ZC.seq zn148_1 zn148_2
def zc148 : ZC := zn148_0
theorem zc148_ok : zcode (xfOf Try.f148).code = some zc148 := by kernel_rfl
set_option linter.defProp false in
def zw148 := And.intro (zunf C zc148.eq_1) <| And.intro (zunf C zn148_1.eq_1) <| And.intro (zunf C zn148_4.eq_1) <| And.intro (zunf C zn148_7.eq_1) <| And.intro (zunf C zn148_6.eq_1) <| And.intro (zunf C zn148_5.eq_1) <| And.intro (zunf C zn148_3.eq_1) <| And.intro (zunf C zn148_9.eq_1) <| And.intro (zunf C zn148_8.eq_1) <| And.intro (zunf C zn148_2.eq_1) <| (zunf C zn148_0.eq_1)
theorem rs148 : (xfOf Try.f148).rs = [.tmp 2] := by kernel_rfl
theorem xf148 : XFok C 148 (xfOf Try.f148) := by refine ⟨Try.f148, ?_, ?_, ?_, ?_, ?_, ?_, ?_⟩ <;> kernel_rfl
def zn22_1 : ZC := ZC.reg [zu 1 (.box 27 (Tm 0)), zv 2 (.alloc 39)]
def zn22_3 : ZC := ZC.draw 17 [(15, .alloc 39)] [zdd 0 5 (zfa 27 1 0) false [] [] false, zdd 1 6 (zld 3 5) false [] [] false, zdd 2 7 (zcf 37 [Tm 6, Kn 4] [3, 3]) false [] [] true, zdd 3 8 (zcf 64 [Tm 7, Kn 4] [3, 3]) false [] [] true, zdd 4 9 (zfa 27 1 3) false [2, 3] [] false, zdd 5 10 (zld 3 9) false [2, 3] [] false, zdd 6 11 (zfa 27 1 4) false [2, 3] [] false, zdd 7 12 (zld 3 11) false [2, 3] [] false, zdd 8 13 (zcf 69 [Tm 10, Tm 12] [3, 3]) false [] [] true, zdd 9 14 (zfa 27 1 7) false [2, 3, 8] [13] false, zdd 10 15 (zld 25 14) false [2, 3, 8] [13] false, zdd 11 16 (zfa 27 1 5) false [2, 3, 8] [] false, zdd 12 17 (zld 3 16) false [2, 3, 8] [] false, zdd 13 18 (zcf 37 [Tm 17, Kn 8] [3, 3]) false [] [] true, ⟨14, some 19, .build 39 ⟨[(0, .tmp 8), (1, .tmp 13), (2, .tmp 15), (3, .tmp 18)]⟩, none, false, [], [], false⟩, zdd 15 3 (.alloc 39) true [2, 3, 8, 13] [] false, zd0 16 (.store 39 (Tm 3) (Tm 19)) true [] [] false]
def zn22_5 : ZC := ZC.reg [zu 20 (zfa 27 1 0), zu 21 (zld 3 20), zu 22 (zcf 37 [Tm 21, Kn 4096] [3, 3]), zu 23 (zfa 39 3 0), zu 24 (zfa 34 23 2), zv0 (.store 3 (Tm 24) (Tm 22))]
def zn22_7 : ZC := ZC.reg [zu 25 (zfa 27 1 1), zu 26 (zld 3 25), zu 27 (zcf 37 [Tm 26, Kn 4096] [3, 3]), zu 28 (zfa 39 3 0), zu 29 (zfa 34 28 3), zv0 (.store 3 (Tm 29) (Tm 27))]
def zn22_9 : ZC := ZC.reg [zu 30 (zfa 27 1 2), zu 31 (zld 3 30), zu 32 (zcf 37 [Tm 31, Kn 129] [3, 3]), zu 33 (.binOp .sub 3 (Tm 32) (Kn 64) 3), zu 34 (zfa 39 3 0), zu 35 (zfa 34 34 4), zv0 (.store 3 (Tm 35) (Tm 33))]
def zn22_12 : ZC := ZC.reg [zv 4 (.assign (Kn 0))]
def zn22_17 : ZC := ZC.reg [zu 36 (zmv 4), zu 37 (zfa 27 1 6), zu 38 (zld 24 37), zu 39 (zcb .len [Tm 38] [24]), zu 40 (.binOp .lss 3 (Tm 36) (Tm 39) 3), zu 41 (zmv 40), zug 42 (zmv 4) 41 true false, zug 43 (.binOp .lss 3 (Tm 42) (Kn 4) 3) 41 true false, zv 44 (.pick (Tm 41) (Tm 43) (.const (.bool false)))]
def zn22_18 : ZC := ZC.cond (Tm 44) ZC.skip (ZC.exit 0)
def zn22_16 : ZC := ZC.seq zn22_17 zn22_18
def zn22_22 : ZC := ZC.reg [zu 47 (zmv 4), zu 48 (zfa 27 1 6), zu 49 (zld 24 48), zu 50 (zmv 4), zu 51 (zia 24 49 50), zu 52 (zld 3 51), zu 53 (zcf 37 [Tm 52, Kn 41] [3, 3]), zu 54 (.binOp .sub 3 (Tm 53) (Kn 20) 3), zu 55 (zfa 39 3 0), zu 56 (zfa 34 55 7), zu 57 (zia 32 56 47), zv0 (.store 3 (Tm 57) (Tm 54))]
def zn22_24 : ZC := ZC.reg [zu 58 (zfa 27 1 6), zu 59 (zld 24 58), zu 60 (zmv 4), zu 61 (zia 24 59 60), zu 62 (zld 3 61), zu 63 (.binOp .rem 3 (Tm 62) (Kn 9) 3), zv 64 (.binOp .eql 3 (Tm 63) (Kn 8) 3)]
def zn22_26 : ZC := ZC.reg [zu 65 (zmv 4), zu 66 (zfa 27 1 6), zu 67 (zld 24 66), zu 68 (zmv 4), zu 69 (zia 24 67 68), zu 70 (zld 3 69), zu 71 (zcf 37 [Tm 70, Kn 2000001] [3, 3]), zu 72 (.binOp .sub 3 (Tm 71) (Kn 1000000) 3), zu 73 (zfa 39 3 0), zu 74 (zfa 34 73 7), zu 75 (zia 32 74 65), zv0 (.store 3 (Tm 75) (Tm 72))]
def zn22_25 : ZC := ZC.cond (Tm 64) zn22_26 ZC.skip
def zn22_23 : ZC := ZC.seq zn22_24 zn22_25
def zn22_21 : ZC := ZC.seq zn22_22 zn22_23
def zn22_20 : ZC := ZC.block 1 zn22_21
def zn22_27 : ZC := ZC.reg [zu 45 (zmv 4), zu 46 (.binOp .add 3 (Tm 45) (Kn 1) 3), zv 4 (zas 46)]
def zn22_19 : ZC := ZC.seq zn22_20 zn22_27
def zn22_15 : ZC := ZC.seq zn22_16 zn22_19
def zn22_14 : ZC := ZC.loop zn22_15
def zn22_13 : ZC := ZC.block 0 zn22_14
def zn22_11 : ZC := ZC.seq zn22_12 zn22_13
def zn22_30 : ZC := ZC.reg [zu 76 (zfa 27 1 8), zu 77 (zld 3 76), zu 78 (.binOp .rem 3 (Tm 77) (Kn 23) 3), zv 79 (.binOp .eql 3 (Tm 78) (Kn 22) 3)]
def zn22_32 : ZC := ZC.reg [zu 80 (zfa 27 1 1), zu 81 (zld 3 80), zu 82 (zfa 39 3 0), zu 83 (zfa 34 82 3), zv0 (.store 3 (Tm 83) (Tm 81))]
def zn22_31 : ZC := ZC.cond (Tm 79) zn22_32 ZC.skip
def zn22_29 : ZC := ZC.seq zn22_30 zn22_31
def zn22_34 : ZC := ZC.reg [zu 84 (zld 39 3), zv0 (.store 39 (Tm 2) (Tm 84))]
def zn22_33 : ZC := ZC.seq zn22_34 ZC.ret
def zn22_28 : ZC := ZC.seq zn22_29 zn22_33
def zn22_10 : ZC := ZC.seq zn22_11 zn22_28
def zn22_8 : ZC := ZC.seq zn22_9 zn22_10
def zn22_6 : ZC := ZC.seq zn22_7 zn22_8
def zn22_4 : ZC := ZC.seq zn22_5 zn22_6
def zn22_2 : ZC := ZC.seq zn22_3 zn22_4
def zn22_0 : ZC := ZC.seq zn22_1 zn22_2
def zc22 : ZC := zn22_0
theorem zc22_ok : zcode (xfOf Try.f22).code = some zc22 := by kernel_rfl
set_option linter.defProp false in
def zw22 := And.intro (zunf C zc22.eq_1) <| And.intro (zunf C zn22_1.eq_1) <| And.intro (zunf C zn22_3.eq_1) <| And.intro (zunf C zn22_5.eq_1) <| And.intro (zunf C zn22_7.eq_1) <| And.intro (zunf C zn22_9.eq_1) <| And.intro (zunf C zn22_12.eq_1) <| And.intro (zunf C zn22_17.eq_1) <| And.intro (zunf C zn22_18.eq_1) <| And.intro (zunf C zn22_16.eq_1) <| And.intro (zunf C zn22_22.eq_1) <| And.intro (zunf C zn22_24.eq_1) <| And.intro (zunf C zn22_26.eq_1) <| And.intro (zunf C zn22_25.eq_1) <| And.intro (zunf C zn22_23.eq_1) <| And.intro (zunf C zn22_21.eq_1) <| And.intro (zunf C zn22_20.eq_1) <| And.intro (zunf C zn22_27.eq_1) <| And.intro (zunf C zn22_19.eq_1) <| And.intro (zunf C zn22_15.eq_1) <| And.intro (zunf C zn22_13.eq_1) <| And.intro (zunf C zn22_11.eq_1) <| And.intro (zunf C zn22_30.eq_1) <| And.intro (zunf C zn22_32.eq_1) <| And.intro (zunf C zn22_31.eq_1) <| And.intro (zunf C zn22_29.eq_1) <| And.intro (zunf C zn22_34.eq_1) <| And.intro (zunf C zn22_33.eq_1) <| And.intro (zunf C zn22_28.eq_1) <| And.intro (zunf C zn22_10.eq_1) <| And.intro (zunf C zn22_8.eq_1) <| And.intro (zunf C zn22_6.eq_1) <| And.intro (zunf C zn22_4.eq_1) <| And.intro (zunf C zn22_2.eq_1) <| (zunf C zn22_0.eq_1)
theorem rs22 : (xfOf Try.f22).rs = [.cell 2 39] := by kernel_rfl
theorem xf22 : XFok C 22 (xfOf Try.f22) := by refine ⟨Try.f22, ?_, ?_, ?_, ?_, ?_, ?_, ?_⟩ <;> kernel_rfl
def zn37_1 : ZC := ZC.reg [zv 4 (.assign (Kn 0))]
def zn37_3 : ZC := ZC.reg [zu 5 (zmv 0), zu 6 (zmv 1), zu 7 (.binOp .rem 3 (Tm 5) (Tm 6) 3), zv 0 (zas 7)]
def zn37_6 : ZC := ZC.reg [zu 8 (zmv 0), zv 9 (.binOp .lss 3 (Tm 8) (Kn 0) 3)]
def zn37_8 : ZC := ZC.reg [zu 10 (zmv 0), zu 11 (zmv 1), zu 12 (.binOp .add 3 (Tm 10) (Tm 11) 3), zv 0 (zas 12)]
def zn37_7 : ZC := ZC.cond (Tm 9) zn37_8 ZC.skip
def zn37_5 : ZC := ZC.seq zn37_6 zn37_7
def zn37_10 : ZC := ZC.reg [zu 13 (zmv 0), zv 4 (zas 13)]
def zn37_9 : ZC := ZC.seq zn37_10 ZC.ret
def zn37_4 : ZC := ZC.seq zn37_5 zn37_9
def zn37_2 : ZC := ZC.seq zn37_3 zn37_4
def zn37_0 : ZC := ZC.seq zn37_1 zn37_2
def zc37 : ZC := zn37_0
theorem zc37_ok : zcode (xfOf Try.f37).code = some zc37 := by kernel_rfl
set_option linter.defProp false in
def zw37 := And.intro (zunf C zc37.eq_1) <| And.intro (zunf C zn37_1.eq_1) <| And.intro (zunf C zn37_3.eq_1) <| And.intro (zunf C zn37_6.eq_1) <| And.intro (zunf C zn37_8.eq_1) <| And.intro (zunf C zn37_7.eq_1) <| And.intro (zunf C zn37_5.eq_1) <| And.intro (zunf C zn37_10.eq_1) <| And.intro (zunf C zn37_9.eq_1) <| And.intro (zunf C zn37_4.eq_1) <| And.intro (zunf C zn37_2.eq_1) <| (zunf C zn37_0.eq_1)
theorem rs37 : (xfOf Try.f37).rs = [.tmp 4] := by kernel_rfl
theorem xf37 : XFok C 37 (xfOf Try.f37) := by refine ⟨Try.f37, ?_, ?_, ?_, ?_, ?_, ?_, ?_⟩ <;> kernel_rfl
def zn64_1 : ZC := ZC.reg [zv 4 (.alloc 34)]
def zn64_3 : ZC := ZC.reg [zu 5 (zmv 1), zu 6 (zcf 140 [Tm 5, Kn 1, Kn 8] [3, 3, 3]), zv 1 (zas 6)]
def zn64_5 : ZC := ZC.reg [zu 7 (zmv 0), zu 8 (zmv 1), zu 9 (.binOp .sub 3 (Tm 8) (Kn 1) 3), zu 10 (zcf 140 [Tm 7, Kn 0, Tm 9] [3, 3, 3]), zv 0 (zas 10)]
def zn64_7 : ZC := ZC.reg [zu 11 (zmv 0), zu 12 (zmv 0), zu 13 (.binOp .mul 3 (Kn 2) (Tm 12) 3), zu 14 (.binOp .add 3 (Tm 13) (Kn 1) 3), zu 15 (.binOp .mul 3 (Tm 14) (Kn 4096) 3), zu 16 (zmv 1), zu 17 (.binOp .mul 3 (Kn 2) (Tm 16) 3), zu 18 (.binOp .quo 3 (Tm 15) (Tm 17) 3), ⟨some 19, .build 34 ⟨[(0, .const (.int .i64 1)), (1, .tmp 11), (2, .tmp 18), (3, .const (.int .i64 2048))]⟩, none, false⟩, zv0 (.store 34 (Tm 4) (Tm 19))]
def zn64_6 : ZC := ZC.seq zn64_7 ZC.ret
def zn64_4 : ZC := ZC.seq zn64_5 zn64_6
def zn64_2 : ZC := ZC.seq zn64_3 zn64_4
def zn64_0 : ZC := ZC.seq zn64_1 zn64_2
def zc64 : ZC := zn64_0
theorem zc64_ok : zcode (xfOf Try.f64).code = some zc64 := by kernel_rfl
set_option linter.defProp false in
def zw64 := And.intro (zunf C zc64.eq_1) <| And.intro (zunf C zn64_1.eq_1) <| And.intro (zunf C zn64_3.eq_1) <| And.intro (zunf C zn64_5.eq_1) <| And.intro (zunf C zn64_7.eq_1) <| And.intro (zunf C zn64_6.eq_1) <| And.intro (zunf C zn64_4.eq_1) <| And.intro (zunf C zn64_2.eq_1) <| (zunf C zn64_0.eq_1)
theorem rs64 : (xfOf Try.f64).rs = [.cell 4 34] := by kernel_rfl
theorem xf64 : XFok C 64 (xfOf Try.f64) := by refine ⟨Try.f64, ?_, ?_, ?_, ?_, ?_, ?_, ?_⟩ <;> kernel_rfl
def zn69_1 : ZC := ZC.reg [zv 4 (.alloc 36)]
def zn69_3 : ZC := ZC.reg [zu 5 (zmv 0), zu 6 (zcf 37 [Tm 5, Kn 256] [3, 3]), zu 7 (zmv 1), zu 8 (zcf 37 [Tm 7, Kn 129] [3, 3]), zu 9 (.binOp .sub 3 (Tm 8) (Kn 64) 3), zu 10 (zmv 1), zu 11 (.binOp .quo 3 (Tm 10) (Kn 129) 3), zu 12 (zcf 37 [Tm 11, Kn 129] [3, 3]), zu 13 (.binOp .sub 3 (Tm 12) (Kn 64) 3), ⟨some 14, .build 36 ⟨[(0, .tmp 6), (1, .tmp 9), (2, .tmp 13)]⟩, none, false⟩, zv0 (.store 36 (Tm 4) (Tm 14))]
def zn69_2 : ZC := ZC.seq zn69_3 ZC.ret
def zn69_0 : ZC := ZC.seq zn69_1 zn69_2
def zc69 : ZC := zn69_0
theorem zc69_ok : zcode (xfOf Try.f69).code = some zc69 := by kernel_rfl
set_option linter.defProp false in
def zw69 := And.intro (zunf C zc69.eq_1) <| And.intro (zunf C zn69_1.eq_1) <| And.intro (zunf C zn69_3.eq_1) <| And.intro (zunf C zn69_2.eq_1) <| (zunf C zn69_0.eq_1)
theorem rs69 : (xfOf Try.f69).rs = [.cell 4 36] := by kernel_rfl
theorem xf69 : XFok C 69 (xfOf Try.f69) := by refine ⟨Try.f69, ?_, ?_, ?_, ?_, ?_, ?_, ?_⟩ <;> kernel_rfl
def zn21_1 : ZC := ZC.reg [zu 1 (.box 31 (Tm 0)), zv 2 (.alloc 29)]
def zn21_3 : ZC := ZC.draw 13 [(11, .alloc 29)] [zdd 0 4 (zfa 31 1 0) false [] [] false, zdd 1 5 (zld 3 4) false [] [] false, zdd 2 6 (zcf 37 [Tm 5, Kn 13] [3, 3]) false [] [] true, zdd 3 7 (.binOp .add 3 (Kn 1) (Tm 6) 3) false [] [] false, zdd 4 8 (zfa 31 1 1) false [2] [] false, zdd 5 9 (zld 3 8) false [2] [] false, zdd 6 10 (zcf 37 [Tm 9, Kn 4] [3, 3]) false [] [] true, zdd 7 11 (zfa 31 1 2) false [2, 6] [] false, zdd 8 12 (zld 3 11) false [2, 6] [] false, zdd 9 13 (zcf 37 [Tm 12, Kn 4] [3, 3]) false [] [] true, ⟨10, some 14, .build 29 ⟨[(0, .tmp 7), (1, .tmp 10), (2, .tmp 13)]⟩, none, false, [], [], false⟩, zdd 11 3 (.alloc 29) true [2, 6, 9] [] false, zd0 12 (.store 29 (Tm 3) (Tm 14)) true [] [] false]
def zn21_6 : ZC := ZC.reg [zu 15 (zfa 29 3 0), zv 16 (zld 3 15)]
def zn21_9 : ZC := ZC.reg [zu 18 (.binOp .eql 3 (Tm 16) (Kn 1) 3), zv 17 (zas 18)]
def zn21_11 : ZC := ZC.reg [zu 19 (zfa 31 1 2), zu 20 (zld 3 19), zu 21 (zcf 37 [Tm 20, Kn 90] [3, 3]), zu 22 (.binOp .sub 3 (Tm 21) (Kn 30) 3), zu 23 (zfa 29 3 2), zv0 (.store 3 (Tm 23) (Tm 22))]
def zn21_13 : ZC := ZC.reg [zu 25 (.binOp .eql 3 (Tm 16) (Kn 7) 3), zv 24 (zas 25)]
def zn21_15 : ZC := ZC.reg [zu 26 (zfa 31 1 2), zu 27 (zld 3 26), zu 28 (zcf 37 [Tm 27, Kn 8] [3, 3]), zu 29 (zfa 29 3 2), zv0 (.store 3 (Tm 29) (Tm 28))]
def zn21_18 : ZC := ZC.reg [zu 31 (.binOp .eql 3 (Tm 16) (Kn 9) 3), zv 30 (zas 31)]
def zn21_20 : ZC := ZC.reg [zu 32 (.binOp .eql 3 (Tm 16) (Kn 10) 3), zv 30 (zas 32)]
def zn21_19 : ZC := ZC.cond (Tm 30) ZC.skip zn21_20
def zn21_17 : ZC := ZC.seq zn21_18 zn21_19
def zn21_22 : ZC := ZC.reg [zu 33 (zfa 31 1 2), zu 34 (zld 3 33), zu 35 (zcf 37 [Tm 34, Kn 9] [3, 3]), zu 36 (zfa 29 3 2), zv0 (.store 3 (Tm 36) (Tm 35))]
def zn21_21 : ZC := ZC.cond (Tm 30) zn21_22 ZC.skip
def zn21_16 : ZC := ZC.seq zn21_17 zn21_21
def zn21_14 : ZC := ZC.cond (Tm 24) zn21_15 zn21_16
def zn21_12 : ZC := ZC.seq zn21_13 zn21_14
def zn21_10 : ZC := ZC.cond (Tm 17) zn21_11 zn21_12
def zn21_8 : ZC := ZC.seq zn21_9 zn21_10
def zn21_7 : ZC := ZC.block 0 zn21_8
def zn21_5 : ZC := ZC.seq zn21_6 zn21_7
def zn21_25 : ZC := ZC.reg [zu 37 (zfa 31 1 0), zu 38 (zld 3 37), zv 39 (zcf 37 [Tm 38, Kn 101] [3, 3])]
def zn21_28 : ZC := ZC.reg [zu 41 (.binOp .eql 3 (Tm 39) (Kn 97) 3), zv 40 (zas 41)]
def zn21_30 : ZC := ZC.reg [zu 42 (zfa 31 1 1), zu 43 (zld 3 42), zu 44 (zfa 29 3 1), zv0 (.store 3 (Tm 44) (Tm 43))]
def zn21_32 : ZC := ZC.reg [zu 46 (.binOp .eql 3 (Tm 39) (Kn 98) 3), zv 45 (zas 46)]
def zn21_34 : ZC := ZC.reg [zu 47 (zfa 31 1 2), zu 48 (zld 3 47), zu 49 (zfa 29 3 2), zv0 (.store 3 (Tm 49) (Tm 48))]
def zn21_36 : ZC := ZC.reg [zu 51 (.binOp .eql 3 (Tm 39) (Kn 99) 3), zv 50 (zas 51)]
def zn21_38 : ZC := ZC.reg [zu 52 (zfa 31 1 2), zu 53 (zld 3 52), zu 54 (zfa 29 3 0), zv0 (.store 3 (Tm 54) (Tm 53))]
def zn21_40 : ZC := ZC.reg [zu 56 (.binOp .eql 3 (Tm 39) (Kn 100) 3), zv 55 (zas 56)]
def zn21_42 : ZC := ZC.reg [zu 57 (zfa 31 1 1), zu 58 (zld 3 57), zu 59 (zcf 37 [Tm 58, Kn 9] [3, 3]), zu 60 (zfa 29 3 1), zv0 (.store 3 (Tm 60) (Tm 59))]
def zn21_41 : ZC := ZC.cond (Tm 55) zn21_42 ZC.skip
def zn21_39 : ZC := ZC.seq zn21_40 zn21_41
def zn21_37 : ZC := ZC.cond (Tm 50) zn21_38 zn21_39
def zn21_35 : ZC := ZC.seq zn21_36 zn21_37
def zn21_33 : ZC := ZC.cond (Tm 45) zn21_34 zn21_35
def zn21_31 : ZC := ZC.seq zn21_32 zn21_33
def zn21_29 : ZC := ZC.cond (Tm 40) zn21_30 zn21_31
def zn21_27 : ZC := ZC.seq zn21_28 zn21_29
def zn21_26 : ZC := ZC.block 1 zn21_27
def zn21_24 : ZC := ZC.seq zn21_25 zn21_26
def zn21_44 : ZC := ZC.reg [zu 61 (zld 29 3), zv0 (.store 29 (Tm 2) (Tm 61))]
def zn21_43 : ZC := ZC.seq zn21_44 ZC.ret
def zn21_23 : ZC := ZC.seq zn21_24 zn21_43
def zn21_4 : ZC := ZC.seq zn21_5 zn21_23
def zn21_2 : ZC := ZC.seq zn21_3 zn21_4
def zn21_0 : ZC := ZC.seq zn21_1 zn21_2
def zc21 : ZC := zn21_0
theorem zc21_ok : zcode (xfOf Try.f21).code = some zc21 := by kernel_rfl
set_option linter.defProp false in
def zw21 := And.intro (zunf C zc21.eq_1) <| And.intro (zunf C zn21_1.eq_1) <| And.intro (zunf C zn21_3.eq_1) <| And.intro (zunf C zn21_6.eq_1) <| And.intro (zunf C zn21_9.eq_1) <| And.intro (zunf C zn21_11.eq_1) <| And.intro (zunf C zn21_13.eq_1) <| And.intro (zunf C zn21_15.eq_1) <| And.intro (zunf C zn21_18.eq_1) <| And.intro (zunf C zn21_20.eq_1) <| And.intro (zunf C zn21_19.eq_1) <| And.intro (zunf C zn21_17.eq_1) <| And.intro (zunf C zn21_22.eq_1) <| And.intro (zunf C zn21_21.eq_1) <| And.intro (zunf C zn21_16.eq_1) <| And.intro (zunf C zn21_14.eq_1) <| And.intro (zunf C zn21_12.eq_1) <| And.intro (zunf C zn21_10.eq_1) <| And.intro (zunf C zn21_8.eq_1) <| And.intro (zunf C zn21_7.eq_1) <| And.intro (zunf C zn21_5.eq_1) <| And.intro (zunf C zn21_25.eq_1) <| And.intro (zunf C zn21_28.eq_1) <| And.intro (zunf C zn21_30.eq_1) <| And.intro (zunf C zn21_32.eq_1) <| And.intro (zunf C zn21_34.eq_1) <| And.intro (zunf C zn21_36.eq_1) <| And.intro (zunf C zn21_38.eq_1) <| And.intro (zunf C zn21_40.eq_1) <| And.intro (zunf C zn21_42.eq_1) <| And.intro (zunf C zn21_41.eq_1) <| And.intro (zunf C zn21_39.eq_1) <| And.intro (zunf C zn21_37.eq_1) <| And.intro (zunf C zn21_35.eq_1) <| And.intro (zunf C zn21_33.eq_1) <| And.intro (zunf C zn21_31.eq_1) <| And.intro (zunf C zn21_29.eq_1) <| And.intro (zunf C zn21_27.eq_1) <| And.intro (zunf C zn21_26.eq_1) <| And.intro (zunf C zn21_24.eq_1) <| And.intro (zunf C zn21_44.eq_1) <| And.intro (zunf C zn21_43.eq_1) <| And.intro (zunf C zn21_23.eq_1) <| And.intro (zunf C zn21_4.eq_1) <| And.intro (zunf C zn21_2.eq_1) <| (zunf C zn21_0.eq_1)
theorem rs21 : (xfOf Try.f21).rs = [.cell 2 29] := by kernel_rfl
theorem xf21 : XFok C 21 (xfOf Try.f21) := by refine ⟨Try.f21, ?_, ?_, ?_, ?_, ?_, ?_, ?_⟩ <;> kernel_rfl
def zn26_1 : ZC := ZC.reg [zu 2 (.box 39 (Tm 0)), zu 3 (.box 39 (Tm 1)), zv 4 (.assign (.const (.bool false)))]
def zn26_4 : ZC := ZC.reg [zu 6 (zfa 39 2 0), zu 7 (zld 34 6), zu 8 (zfa 39 3 0), zu 9 (zld 34 8), zu 10 (.binOp .neq 34 (Tm 7) (Tm 9) 34), zu 11 (zmv 10), zug 12 (zfa 39 2 1) 11 false false, zug 13 (zld 36 12) 11 false false, zug 14 (zfa 39 3 1) 11 false false, zug 15 (zld 36 14) 11 false false, zug 16 (.binOp .neq 36 (Tm 13) (Tm 15) 36) 11 false false, zu 17 (.pick (Tm 11) (.const (.bool true)) (Tm 16)), zu 18 (zmv 17), zug 19 (zfa 39 2 2) 18 false false, zug 20 (zld 25 19) 18 false false, zug 21 (zfa 39 3 2) 18 false false, zug 22 (zld 25 21) 18 false false, zug 23 (.binOp .neq 25 (Tm 20) (Tm 22) 25) 18 false false, zu 24 (.pick (Tm 18) (.const (.bool true)) (Tm 23)), zu 25 (zmv 24), zug 26 (zfa 39 2 3) 25 false false, zug 27 (zld 3 26) 25 false false, zug 28 (zfa 39 3 3) 25 false false, zug 29 (zld 3 28) 25 false false, zug 30 (.binOp .neq 3 (Tm 27) (Tm 29) 3) 25 false false, zu 31 (.pick (Tm 25) (.const (.bool true)) (Tm 30)), zu 32 (zmv 31), zug 33 (zfa 39 2 4) 32 false false, zug 34 (zld 37 33) 32 false false, zug 35 (zcb .len [Tm 34] [37]) 32 false false, zug 36 (zfa 39 3 4) 32 false false, zug 37 (zld 37 36) 32 false false, zug 38 (zcb .len [Tm 37] [37]) 32 false false, zug 39 (.binOp .neq 3 (Tm 35) (Tm 38) 3) 32 false false, zv 40 (.pick (Tm 32) (.const (.bool true)) (Tm 39))]
def zn26_7 : ZC := ZC.reg [zv 4 (.assign (.const (.bool false)))]
def zn26_6 : ZC := ZC.seq zn26_7 ZC.ret
def zn26_5 : ZC := ZC.cond (Tm 40) zn26_6 ZC.skip
def zn26_3 : ZC := ZC.seq zn26_4 zn26_5
def zn26_10 : ZC := ZC.reg [zu 41 (zfa 39 2 4), zu 42 (zld 37 41), zu 43 (zcb .len [Tm 42] [37]), zv 44 (.move (Kn 0))]
def zn26_14 : ZC := ZC.reg [zv 45 (.binOp .lss 3 (Tm 44) (Tm 43) 3)]
def zn26_16 : ZC := ZC.cond (Tm 45) ZC.skip (ZC.exit 0)
def zn26_20 : ZC := ZC.reg [zu 46 (zmv 44), zv 5 (zas 46)]
def zn26_22 : ZC := ZC.draw 11 [] [zdd 0 47 (zfa 39 2 4) false [] [] false, zdd 1 48 (zld 37 47) false [] [] false, zdd 2 49 (zmv 5) false [] [] false, zdd 3 50 (zia 37 48 49) false [] [] false, zdd 4 51 (zld 34 50) false [] [] false, zdd 5 52 (zfa 39 3 4) false [] [] false, zdd 6 53 (zld 37 52) false [] [] false, zdd 7 54 (zmv 5) true [] [] false, zdd 8 55 (zia 37 53 54) true [] [] false, zdd 9 56 (zld 34 55) true [] [] false, zdd 10 57 (.binOp .neq 34 (Tm 51) (Tm 56) 34) true [] [] false]
def zn26_25 : ZC := ZC.reg [zv 4 (.assign (.const (.bool false)))]
def zn26_24 : ZC := ZC.seq zn26_25 ZC.ret
def zn26_23 : ZC := ZC.cond (Tm 57) zn26_24 ZC.skip
def zn26_21 : ZC := ZC.seq zn26_22 zn26_23
def zn26_19 : ZC := ZC.seq zn26_20 zn26_21
def zn26_18 : ZC := ZC.block 1 zn26_19
def zn26_26 : ZC := ZC.reg [zu 58 (.binOp .add 3 (Tm 44) (Kn 1) 3), zv 44 (zmv 58)]
def zn26_17 : ZC := ZC.seq zn26_18 zn26_26
def zn26_15 : ZC := ZC.seq zn26_16 zn26_17
def zn26_13 : ZC := ZC.seq zn26_14 zn26_15
def zn26_12 : ZC := ZC.loop zn26_13
def zn26_11 : ZC := ZC.block 0 zn26_12
def zn26_9 : ZC := ZC.seq zn26_10 zn26_11
def zn26_28 : ZC := ZC.reg [zv 4 (.assign (.const (.bool true)))]
def zn26_27 : ZC := ZC.seq zn26_28 ZC.ret
def zn26_8 : ZC := ZC.seq zn26_9 zn26_27
def zn26_2 : ZC := ZC.seq zn26_3 zn26_8
def zn26_0 : ZC := ZC.seq zn26_1 zn26_2
def zc26 : ZC := zn26_0
theorem zc26_ok : zcode (xfOf Try.f26).code = some zc26 := by kernel_rfl
set_option linter.defProp false in
def zw26 := And.intro (zunf C zc26.eq_1) <| And.intro (zunf C zn26_1.eq_1) <| And.intro (zunf C zn26_4.eq_1) <| And.intro (zunf C zn26_7.eq_1) <| And.intro (zunf C zn26_6.eq_1) <| And.intro (zunf C zn26_5.eq_1) <| And.intro (zunf C zn26_3.eq_1) <| And.intro (zunf C zn26_10.eq_1) <| And.intro (zunf C zn26_14.eq_1) <| And.intro (zunf C zn26_16.eq_1) <| And.intro (zunf C zn26_20.eq_1) <| And.intro (zunf C zn26_22.eq_1) <| And.intro (zunf C zn26_25.eq_1) <| And.intro (zunf C zn26_24.eq_1) <| And.intro (zunf C zn26_23.eq_1) <| And.intro (zunf C zn26_21.eq_1) <| And.intro (zunf C zn26_19.eq_1) <| And.intro (zunf C zn26_18.eq_1) <| And.intro (zunf C zn26_26.eq_1) <| And.intro (zunf C zn26_17.eq_1) <| And.intro (zunf C zn26_15.eq_1) <| And.intro (zunf C zn26_13.eq_1) <| And.intro (zunf C zn26_11.eq_1) <| And.intro (zunf C zn26_9.eq_1) <| And.intro (zunf C zn26_28.eq_1) <| And.intro (zunf C zn26_27.eq_1) <| And.intro (zunf C zn26_8.eq_1) <| And.intro (zunf C zn26_2.eq_1) <| (zunf C zn26_0.eq_1)
theorem rs26 : (xfOf Try.f26).rs = [.tmp 4] := by kernel_rfl
theorem xf26 : XFok C 26 (xfOf Try.f26) := by refine ⟨Try.f26, ?_, ?_, ?_, ?_, ?_, ?_, ?_⟩ <;> kernel_rfl
def zn29_1 : ZC := ZC.reg [zv 2 (.assign (.const (.bool false)))]
def zn29_3 : ZC := ZC.reg [zu 4 (zmv 0), zu 5 (zcf 82 [Tm 4, .func 83] [23, 142]), zv 3 (zas 5)]
def zn29_5 : ZC := ZC.reg [zu 6 (zmv 0), zu 7 (zcb .len [Tm 6] [23]), zu 8 (.binOp .leq 3 (Tm 7) (Kn 16) 3), zu 9 (zmv 8), zug 10 (zmv 3) 9 true false, zug 11 (.unOp .not 4 (Tm 10)) 9 true false, zu 12 (.pick (Tm 9) (Tm 11) (.const (.bool false))), zv 2 (zas 12)]
def zn29_4 : ZC := ZC.seq zn29_5 ZC.ret
def zn29_2 : ZC := ZC.seq zn29_3 zn29_4
def zn29_0 : ZC := ZC.seq zn29_1 zn29_2
def zc29 : ZC := zn29_0
theorem zc29_ok : zcode (xfOf Try.f29).code = some zc29 := by kernel_rfl
set_option linter.defProp false in
def zw29 := And.intro (zunf C zc29.eq_1) <| And.intro (zunf C zn29_1.eq_1) <| And.intro (zunf C zn29_3.eq_1) <| And.intro (zunf C zn29_5.eq_1) <| And.intro (zunf C zn29_4.eq_1) <| And.intro (zunf C zn29_2.eq_1) <| (zunf C zn29_0.eq_1)
theorem rs29 : (xfOf Try.f29).rs = [.tmp 2] := by kernel_rfl
theorem xf29 : XFok C 29 (xfOf Try.f29) := by refine ⟨Try.f29, ?_, ?_, ?_, ?_, ?_, ?_, ?_⟩ <;> kernel_rfl
def zn82_1 : ZC := ZC.reg [zv 4 (.assign (.const (.bool false)))]
def zn82_3 : ZC := ZC.reg [zu 5 (zmv 0), zu 6 (zmv 1), zu 7 (zcf 155 [Tm 5, Tm 6] [23, 142]), zu 8 (.binOp .geq 3 (Tm 7) (Kn 0) 3), zv 4 (zas 8)]
def zn82_2 : ZC := ZC.seq zn82_3 ZC.ret
def zn82_0 : ZC := ZC.seq zn82_1 zn82_2
def zc82 : ZC := zn82_0
theorem zc82_ok : zcode (xfOf Try.f82).code = some zc82 := by kernel_rfl
set_option linter.defProp false in
def zw82 := And.intro (zunf C zc82.eq_1) <| And.intro (zunf C zn82_1.eq_1) <| And.intro (zunf C zn82_3.eq_1) <| And.intro (zunf C zn82_2.eq_1) <| (zunf C zn82_0.eq_1)
theorem rs82 : (xfOf Try.f82).rs = [.tmp 4] := by kernel_rfl
theorem xf82 : XFok C 82 (xfOf Try.f82) := by refine ⟨Try.f82, ?_, ?_, ?_, ?_, ?_, ?_, ?_⟩ <;> kernel_rfl
def zn83_1 : ZC := ZC.reg [zu 1 (.box 29 (Tm 0)), zv 2 (.assign (.const (.bool false)))]
def zn83_3 : ZC := ZC.reg [zu 3 (zfa 29 1 0), zu 4 (zld 3 3), zu 5 (zcf 84 [Tm 4, Kn 1, Kn 13] [3, 3, 3]), zu 6 (.unOp .not 4 (Tm 5)), zu 7 (zmv 6), zug 8 (zfa 29 1 1) 7 false false, zug 9 (zld 3 8) 7 false false, zug 10 (zcf 84 [Tm 9, Kn (-1000000), Kn 1000000] [3, 3, 3]) 7 false false, zug 11 (.unOp .not 4 (Tm 10)) 7 false false, zu 12 (.pick (Tm 7) (.const (.bool true)) (Tm 11)), zu 13 (zmv 12), zug 14 (zfa 29 1 2) 13 false false, zug 15 (zld 3 14) 13 false false, zug 16 (zcf 84 [Tm 15, Kn (-1000000), Kn 1000000] [3, 3, 3]) 13 false false, zug 17 (.unOp .not 4 (Tm 16)) 13 false false, zu 18 (.pick (Tm 13) (.const (.bool true)) (Tm 17)), zv 2 (zas 18)]
def zn83_2 : ZC := ZC.seq zn83_3 ZC.ret
def zn83_0 : ZC := ZC.seq zn83_1 zn83_2
def zc83 : ZC := zn83_0
theorem zc83_ok : zcode (xfOf Try.f83).code = some zc83 := by kernel_rfl
set_option linter.defProp false in
def zw83 := And.intro (zunf C zc83.eq_1) <| And.intro (zunf C zn83_1.eq_1) <| And.intro (zunf C zn83_3.eq_1) <| And.intro (zunf C zn83_2.eq_1) <| (zunf C zn83_0.eq_1)
theorem rs83 : (xfOf Try.f83).rs = [.tmp 2] := by kernel_rfl
theorem xf83 : XFok C 83 (xfOf Try.f83) := by refine ⟨Try.f83, ?_, ?_, ?_, ?_, ?_, ?_, ?_⟩ <;> kernel_rfl
def zn155_1 : ZC := ZC.reg [zv 4 (.assign (Kn 0))]
def zn155_4 : ZC := ZC.reg [zu 6 (zmv 0), zu 7 (zcb .len [Tm 6] [23]), zv 8 (.move (Kn 0))]
def zn155_8 : ZC := ZC.reg [zv 9 (.binOp .lss 3 (Tm 8) (Tm 7) 3)]
def zn155_10 : ZC := ZC.cond (Tm 9) ZC.skip (ZC.exit 0)
def zn155_14 : ZC := ZC.reg [zu 10 (zmv 8), zv 5 (zas 10)]
def zn155_16 : ZC := ZC.reg [zu 11 (zmv 1), zu 12 (zmv 0), zu 13 (zmv 5), zu 14 (zia 23 12 13), zu 15 (zld 29 14), ⟨some 16, .call ⟨.value (Tm 11), ⟨[Tm 15]⟩, ⟨[29]⟩⟩, none, true⟩]
def zn155_19 : ZC := ZC.reg [zu 17 (zmv 5), zv 4 (zas 17)]
def zn155_18 : ZC := ZC.seq zn155_19 ZC.ret
def zn155_17 : ZC := ZC.cond (Tm 16) zn155_18 ZC.skip
def zn155_15 : ZC := ZC.seq zn155_16 zn155_17
def zn155_13 : ZC := ZC.seq zn155_14 zn155_15
def zn155_12 : ZC := ZC.block 1 zn155_13
def zn155_20 : ZC := ZC.reg [zu 18 (.binOp .add 3 (Tm 8) (Kn 1) 3), zv 8 (zmv 18)]
def zn155_11 : ZC := ZC.seq zn155_12 zn155_20
def zn155_9 : ZC := ZC.seq zn155_10 zn155_11
def zn155_7 : ZC := ZC.seq zn155_8 zn155_9
def zn155_6 : ZC := ZC.loop zn155_7
def zn155_5 : ZC := ZC.block 0 zn155_6
def zn155_3 : ZC := ZC.seq zn155_4 zn155_5
def zn155_22 : ZC := ZC.reg [zv 4 (.assign (Kn (-1)))]
def zn155_21 : ZC := ZC.seq zn155_22 ZC.ret
def zn155_2 : ZC := ZC.seq zn155_3 zn155_21
def zn155_0 : ZC := ZC.seq zn155_1 zn155_2
def zc155 : ZC := zn155_0
theorem zc155_ok : zcode (xfOf Try.f155).code = some zc155 := by kernel_rfl
set_option linter.defProp false in
def zw155 := And.intro (zunf C zc155.eq_1) <| And.intro (zunf C zn155_1.eq_1) <| And.intro (zunf C zn155_4.eq_1) <| And.intro (zunf C zn155_8.eq_1) <| And.intro (zunf C zn155_10.eq_1) <| And.intro (zunf C zn155_14.eq_1) <| And.intro (zunf C zn155_16.eq_1) <| And.intro (zunf C zn155_19.eq_1) <| And.intro (zunf C zn155_18.eq_1) <| And.intro (zunf C zn155_17.eq_1) <| And.intro (zunf C zn155_15.eq_1) <| And.intro (zunf C zn155_13.eq_1) <| And.intro (zunf C zn155_12.eq_1) <| And.intro (zunf C zn155_20.eq_1) <| And.intro (zunf C zn155_11.eq_1) <| And.intro (zunf C zn155_9.eq_1) <| And.intro (zunf C zn155_7.eq_1) <| And.intro (zunf C zn155_5.eq_1) <| And.intro (zunf C zn155_3.eq_1) <| And.intro (zunf C zn155_22.eq_1) <| And.intro (zunf C zn155_21.eq_1) <| And.intro (zunf C zn155_2.eq_1) <| (zunf C zn155_0.eq_1)
theorem rs155 : (xfOf Try.f155).rs = [.tmp 4] := by kernel_rfl
theorem xf155 : XFok C 155 (xfOf Try.f155) := by refine ⟨Try.f155, ?_, ?_, ?_, ?_, ?_, ?_, ?_⟩ <;> kernel_rfl
def zn3_1 : ZC := ZC.reg [zu 5 (.box 27 (Tm 2)), zv 6 (.assign (.const (.bool false)))]
def zn3_3 : ZC := ZC.reg [zv 7 (.assign (.const (.slice none 0 0)))]
def zn3_6 : ZC := ZC.reg [zv 8 (.assign (Kn 0))]
def zn3_11 : ZC := ZC.reg [zu 15 (zmv 8), zu 16 (zmv 0), zu 17 (zcb .len [Tm 16] [22]), zu 18 (.binOp .lss 3 (Tm 15) (Tm 17) 3), zu 19 (zmv 18), zug 20 (zmv 8) 19 true false, zug 21 (.binOp .lss 3 (Tm 20) (Kn 16) 3) 19 true false, zv 22 (.pick (Tm 19) (Tm 21) (.const (.bool false)))]
def zn3_12 : ZC := ZC.cond (Tm 22) ZC.skip (ZC.exit 0)
def zn3_10 : ZC := ZC.seq zn3_11 zn3_12
def zn3_15 : ZC := ZC.reg [zu 25 (zmv 7), zu 26 (zmv 0), zu 27 (zmv 8), zu 28 (zia 22 26 27), zu 29 (zld 31 28), zu 30 (zcf 21 [Tm 29] [31]), ⟨some 31, .buildSlice 23 1 ⟨[(0, .tmp 30)]⟩, none, false⟩, zu 32 (zcb .append [Tm 25, Tm 31] [23, 23]), zv 7 (zas 32)]
def zn3_14 : ZC := ZC.block 1 zn3_15
def zn3_16 : ZC := ZC.reg [zu 23 (zmv 8), zu 24 (.binOp .add 3 (Tm 23) (Kn 1) 3), zv 8 (zas 24)]
def zn3_13 : ZC := ZC.seq zn3_14 zn3_16
def zn3_9 : ZC := ZC.seq zn3_10 zn3_13
def zn3_8 : ZC := ZC.loop zn3_9
def zn3_7 : ZC := ZC.block 0 zn3_8
def zn3_5 : ZC := ZC.seq zn3_6 zn3_7
def zn3_19 : ZC := ZC.reg [zv 9 (.assign (Kn 0))]
def zn3_24 : ZC := ZC.reg [zu 33 (zmv 9), zu 34 (zmv 1), zu 35 (zcb .len [Tm 34] [23]), zu 36 (.binOp .lss 3 (Tm 33) (Tm 35) 3), zu 37 (zmv 36), zug 38 (zmv 9) 37 true false, zug 39 (.binOp .lss 3 (Tm 38) (Kn 4) 3) 37 true false, zv 40 (.pick (Tm 37) (Tm 39) (.const (.bool false)))]
def zn3_25 : ZC := ZC.cond (Tm 40) ZC.skip (ZC.exit 2)
def zn3_23 : ZC := ZC.seq zn3_24 zn3_25
def zn3_28 : ZC := ZC.reg [zu 43 (zmv 7), zu 44 (zmv 1), zu 45 (zmv 9), zu 46 (zia 23 44 45), zu 47 (zld 29 46), ⟨some 48, .buildSlice 23 1 ⟨[(0, .tmp 47)]⟩, none, false⟩, zu 49 (zcb .append [Tm 43, Tm 48] [23, 23]), zv 7 (zas 49)]
def zn3_27 : ZC := ZC.block 3 zn3_28
def zn3_29 : ZC := ZC.reg [zu 41 (zmv 9), zu 42 (.binOp .add 3 (Tm 41) (Kn 1) 3), zv 9 (zas 42)]
def zn3_26 : ZC := ZC.seq zn3_27 zn3_29
def zn3_22 : ZC := ZC.seq zn3_23 zn3_26
def zn3_21 : ZC := ZC.loop zn3_22
def zn3_20 : ZC := ZC.block 2 zn3_21
def zn3_18 : ZC := ZC.seq zn3_19 zn3_20
def zn3_31 : ZC := ZC.reg [zu 50 (zld 27 5), zu 51 (zcf 22 [Tm 50] [27]), zu 10 (.alloc 39), zv0 (.store 39 (Tm 10) (Tm 51))]
def zn3_34 : ZC := ZC.reg [zu 52 (zcf 23 [] []), zu 53 (.unOp .not 4 (Tm 52)), zu 54 (zmv 53), zug 55 (zfa 39 10 0) 54 false false, zug 56 (zld 34 55) 54 false false, zug 57 (zcf 24 [Tm 56] [34]) 54 false false, zug 58 (.unOp .not 4 (Tm 57)) 54 false false, zv 59 (.pick (Tm 54) (.const (.bool true)) (Tm 58))]
def zn3_37 : ZC := ZC.reg [zu 60 (zcf 23 [] []), zv 6 (zas 60)]
def zn3_36 : ZC := ZC.seq zn3_37 ZC.ret
def zn3_35 : ZC := ZC.cond (Tm 59) zn3_36 ZC.skip
def zn3_33 : ZC := ZC.seq zn3_34 zn3_35
def zn3_39 : ZC := ZC.reg [zu 62 (zmv 7), zu 63 (zld 39 10), zu 64 (zcf 25 [Tm 62, Tm 63] [23, 39]), zu 61 (zmv 64), zu 65 (.extract (Tm 61) 0), zu 66 (.extract (Tm 61) 1), zu 67 (.extract (Tm 61) 2), zu 11 (.alloc 39), zu 12 (.alloc 44), zu0 (.store 39 (Tm 11) (Tm 65)), zu0 (.store 44 (Tm 12) (Tm 66)), zv 13 (zas 67)]
def zn3_42 : ZC := ZC.reg [zu 68 (zmv 13), zv 69 (.unOp .not 4 (Tm 68))]
def zn3_45 : ZC := ZC.reg [zu 70 (zfa 44 12 0), zu 71 (zld 3 70), zu 72 (.binOp .geq 3 (Tm 71) (Kn 1) 3), zu 73 (zmv 72), zug 74 (zfa 44 12 0) 73 true false, zug 75 (zld 3 74) 73 true false, zug 76 (.binOp .leq 3 (Tm 75) (Kn 7) 3) 73 true false, zu 77 (.pick (Tm 73) (Tm 76) (.const (.bool false))), zu 78 (zmv 77), zug 79 (zfa 44 12 1) 78 true false, zug 80 (zld 3 79) 78 true false, zug 81 (.binOp .geq 3 (Tm 80) (Kn 0) 3) 78 true false, zu 82 (.pick (Tm 78) (Tm 81) (.const (.bool false))), zu 83 (zmv 82), zug 84 (zfa 44 12 1) 83 true false, zug 85 (zld 3 84) 83 true false, zug 86 (zmv 7) 83 true false, zug 87 (zcb .len [Tm 86] [23]) 83 true false, zug 88 (.binOp .lss 3 (Tm 85) (Tm 87) 3) 83 true false, zu 89 (.pick (Tm 83) (Tm 88) (.const (.bool false))), zu 90 (zmv 89), zug 91 (zld 39 11) 90 true false, zug 92 (zld 39 10) 90 true false, zug 93 (zcf 26 [Tm 91, Tm 92] [39, 39]) 90 true false, zu 94 (.pick (Tm 90) (Tm 93) (.const (.bool false))), zv 6 (zas 94)]
def zn3_44 : ZC := ZC.seq zn3_45 ZC.ret
def zn3_43 : ZC := ZC.cond (Tm 69) zn3_44 ZC.skip
def zn3_41 : ZC := ZC.seq zn3_42 zn3_43
def zn3_48 : ZC := ZC.reg [zu 95 (zld 44 12), ⟨some 96, .build 44 ⟨[]⟩, none, false⟩, zu 97 (.binOp .neq 44 (Tm 95) (Tm 96) 44), zu 98 (zmv 97), zug 99 (zfa 39 11 0) 98 false false, zug 100 (zld 34 99) 98 false false, zug 101 (zcf 24 [Tm 100] [34]) 98 false false, zug 102 (.unOp .not 4 (Tm 101)) 98 false false, zu 103 (.pick (Tm 98) (.const (.bool true)) (Tm 102)), zu 104 (zmv 103), zug 105 (zfa 39 11 0) 104 false false, zug 106 (zfa 34 105 0) 104 false false, zug 107 (zld 3 106) 104 false false, zug 108 (zfa 39 10 0) 104 false false, zug 109 (zfa 34 108 0) 104 false false, zug 110 (zld 3 109) 104 false false, zug 111 (.binOp .neq 3 (Tm 107) (Tm 110) 3) 104 false false, zu 112 (.pick (Tm 104) (.const (.bool true)) (Tm 111)), zu 113 (zmv 112), zug 114 (zfa 39 11 0) 113 false false, zug 115 (zfa 34 114 1) 113 false false, zug 116 (zld 3 115) 113 false false, zug 117 (zfa 39 10 0) 113 false false, zug 118 (zfa 34 117 1) 113 false false, zug 119 (zld 3 118) 113 false false, zug 120 (.binOp .neq 3 (Tm 116) (Tm 119) 3) 113 false false, zu 121 (.pick (Tm 113) (.const (.bool true)) (Tm 120)), zu 122 (zmv 121), zug 123 (zfa 39 11 0) 122 false false, zug 124 (zfa 34 123 6) 122 false false, zug 125 (zld 3 124) 122 false false, zug 126 (zfa 39 10 0) 122 false false, zug 127 (zfa 34 126 6) 122 false false, zug 128 (zld 3 127) 122 false false, zug 129 (.binOp .neq 3 (Tm 125) (Tm 128) 3) 122 false false, zu 130 (.pick (Tm 122) (.const (.bool true)) (Tm 129)), zu 131 (zmv 130), zug 132 (zfa 39 11 0) 131 false false, zug 133 (zfa 34 132 8) 131 false false, zug 134 (zld 3 133) 131 false false, zug 135 (zfa 39 10 0) 131 false false, zug 136 (zfa 34 135 8) 131 false false, zug 137 (zld 3 136) 131 false false, zug 138 (.binOp .neq 3 (Tm 134) (Tm 137) 3) 131 false false, zu 139 (.pick (Tm 131) (.const (.bool true)) (Tm 138)), zu 140 (zmv 139), zug 141 (zfa 39 11 4) 140 false false, zug 142 (zld 37 141) 140 false false, zug 143 (zcb .len [Tm 142] [37]) 140 false false, zug 144 (zfa 39 10 3) 140 false false, zug 145 (zld 3 144) 140 false false, zug 146 (.binOp .gtr 3 (Tm 143) (Tm 145) 3) 140 false false, zu 147 (.pick (Tm 140) (.const (.bool true)) (Tm 146)), zu 148 (zmv 147), zug 149 (zfa 39 11 1) 148 false false, zug 150 (zld 36 149) 148 false false, zug 151 (zfa 39 10 1) 148 false false, zug 152 (zld 36 151) 148 false false, zug 153 (.binOp .neq 36 (Tm 150) (Tm 152) 36) 148 false false, zu 154 (.pick (Tm 148) (.const (.bool true)) (Tm 153)), zu 155 (zmv 154), zug 156 (zfa 39 11 3) 155 false false, zug 157 (zld 3 156) 155 false false, zug 158 (zfa 39 10 3) 155 false false, zug 159 (zld 3 158) 155 false false, zug 160 (.binOp .neq 3 (Tm 157) (Tm 159) 3) 155 false false, zv 161 (.pick (Tm 155) (.const (.bool true)) (Tm 160))]
def zn3_51 : ZC := ZC.reg [zv 6 (.assign (.const (.bool false)))]
def zn3_50 : ZC := ZC.seq zn3_51 ZC.ret
def zn3_49 : ZC := ZC.cond (Tm 161) zn3_50 ZC.skip
def zn3_47 : ZC := ZC.seq zn3_48 zn3_49
def zn3_54 : ZC := ZC.reg [zu 162 (zfa 39 11 4), zu 163 (zld 37 162), zu 164 (zcb .len [Tm 163] [37]), zv 165 (.move (Kn 0))]
def zn3_58 : ZC := ZC.reg [zv 166 (.binOp .lss 3 (Tm 165) (Tm 164) 3)]
def zn3_60 : ZC := ZC.cond (Tm 166) ZC.skip (ZC.exit 4)
def zn3_64 : ZC := ZC.reg [zu 167 (zmv 165), zv 14 (zas 167)]
def zn3_66 : ZC := ZC.draw 28 [] [zdd 0 168 (zfa 39 11 4) false [] [] false, zdd 1 169 (zld 37 168) false [] [] false, zdd 2 170 (zmv 14) true [] [] false, zdd 3 171 (zia 37 169 170) true [] [] false, zdd 4 172 (zld 34 171) true [] [] false, zdd 5 173 (zcf 24 [Tm 172] [34]) true [] [] false, zdd 6 174 (.unOp .not 4 (Tm 173)) true [] [] false, zdd 7 175 (zmv 174) true [] [] false, ⟨8, some 176, zfa 39 11 4, some (175, false), false, [], [], false⟩, ⟨9, some 177, zld 37 176, some (175, false), false, [], [], false⟩, ⟨10, some 178, zmv 14, some (175, false), true, [], [], false⟩, ⟨11, some 179, zia 37 177 178, some (175, false), true, [], [], false⟩, ⟨12, some 180, zfa 34 179 0, some (175, false), true, [], [], false⟩, ⟨13, some 181, zld 3 180, some (175, false), true, [], [], false⟩, ⟨14, some 182, .binOp .neq 3 (Tm 181) (Kn 2) 3, some (175, false), true, [], [], false⟩, zdd 15 183 (.pick (Tm 175) (.const (.bool true)) (Tm 182)) true [] [] false, zdd 16 184 (zmv 183) true [] [] false, ⟨17, some 185, zfa 39 11 4, some (184, false), false, [], [], false⟩, ⟨18, some 186, zld 37 185, some (184, false), false, [], [], false⟩, ⟨19, some 187, zmv 14, some (184, false), false, [], [], false⟩, ⟨20, some 188, zia 37 186 187, some (184, false), false, [], [], false⟩, ⟨21, some 189, zfa 34 188 1, some (184, false), false, [], [], false⟩, ⟨22, some 190, zld 3 189, some (184, false), false, [], [], false⟩, ⟨23, some 191, zfa 39 10 0, some (184, false), true, [], [], false⟩, ⟨24, some 192, zfa 34 191 1, some (184, false), true, [], [], false⟩, ⟨25, some 193, zld 3 192, some (184, false), true, [], [], false⟩, ⟨26, some 194, .binOp .neq 3 (Tm 190) (Tm 193) 3, some (184, false), true, [], [], false⟩, zdd 27 195 (.pick (Tm 184) (.const (.bool true)) (Tm 194)) true [] [] false]
def zn3_69 : ZC := ZC.reg [zv 6 (.assign (.const (.bool false)))]
def zn3_68 : ZC := ZC.seq zn3_69 ZC.ret
def zn3_67 : ZC := ZC.cond (Tm 195) zn3_68 ZC.skip
def zn3_65 : ZC := ZC.seq zn3_66 zn3_67
def zn3_63 : ZC := ZC.seq zn3_64 zn3_65
def zn3_62 : ZC := ZC.block 5 zn3_63
def zn3_70 : ZC := ZC.reg [zu 196 (.binOp .add 3 (Tm 165) (Kn 1) 3), zv 165 (zmv 196)]
def zn3_61 : ZC := ZC.seq zn3_62 zn3_70
def zn3_59 : ZC := ZC.seq zn3_60 zn3_61
def zn3_57 : ZC := ZC.seq zn3_58 zn3_59
def zn3_56 : ZC := ZC.loop zn3_57
def zn3_55 : ZC := ZC.block 4 zn3_56
def zn3_53 : ZC := ZC.seq zn3_54 zn3_55
def zn3_72 : ZC := ZC.reg [zv 6 (.assign (.const (.bool true)))]
def zn3_71 : ZC := ZC.seq zn3_72 ZC.ret
def zn3_52 : ZC := ZC.seq zn3_53 zn3_71
def zn3_46 : ZC := ZC.seq zn3_47 zn3_52
def zn3_40 : ZC := ZC.seq zn3_41 zn3_46
def zn3_38 : ZC := ZC.seq zn3_39 zn3_40
def zn3_32 : ZC := ZC.seq zn3_33 zn3_38
def zn3_30 : ZC := ZC.seq zn3_31 zn3_32
def zn3_17 : ZC := ZC.seq zn3_18 zn3_30
def zn3_4 : ZC := ZC.seq zn3_5 zn3_17
def zn3_2 : ZC := ZC.seq zn3_3 zn3_4
def zn3_0 : ZC := ZC.seq zn3_1 zn3_2
def zc3 : ZC := zn3_0
theorem zc3_ok : zcode (xfOf Try.f3).code = some zc3 := by kernel_rfl
set_option linter.defProp false in
def zw3 := And.intro (zunf C zc3.eq_1) <| And.intro (zunf C zn3_1.eq_1) <| And.intro (zunf C zn3_3.eq_1) <| And.intro (zunf C zn3_6.eq_1) <| And.intro (zunf C zn3_11.eq_1) <| And.intro (zunf C zn3_12.eq_1) <| And.intro (zunf C zn3_10.eq_1) <| And.intro (zunf C zn3_15.eq_1) <| And.intro (zunf C zn3_14.eq_1) <| And.intro (zunf C zn3_16.eq_1) <| And.intro (zunf C zn3_13.eq_1) <| And.intro (zunf C zn3_9.eq_1) <| And.intro (zunf C zn3_7.eq_1) <| And.intro (zunf C zn3_5.eq_1) <| And.intro (zunf C zn3_19.eq_1) <| And.intro (zunf C zn3_24.eq_1) <| And.intro (zunf C zn3_25.eq_1) <| And.intro (zunf C zn3_23.eq_1) <| And.intro (zunf C zn3_28.eq_1) <| And.intro (zunf C zn3_27.eq_1) <| And.intro (zunf C zn3_29.eq_1) <| And.intro (zunf C zn3_26.eq_1) <| And.intro (zunf C zn3_22.eq_1) <| And.intro (zunf C zn3_20.eq_1) <| And.intro (zunf C zn3_18.eq_1) <| And.intro (zunf C zn3_31.eq_1) <| And.intro (zunf C zn3_34.eq_1) <| And.intro (zunf C zn3_37.eq_1) <| And.intro (zunf C zn3_36.eq_1) <| And.intro (zunf C zn3_35.eq_1) <| And.intro (zunf C zn3_33.eq_1) <| And.intro (zunf C zn3_39.eq_1) <| And.intro (zunf C zn3_42.eq_1) <| And.intro (zunf C zn3_45.eq_1) <| And.intro (zunf C zn3_44.eq_1) <| And.intro (zunf C zn3_43.eq_1) <| And.intro (zunf C zn3_41.eq_1) <| And.intro (zunf C zn3_48.eq_1) <| And.intro (zunf C zn3_51.eq_1) <| And.intro (zunf C zn3_50.eq_1) <| And.intro (zunf C zn3_49.eq_1) <| And.intro (zunf C zn3_47.eq_1) <| And.intro (zunf C zn3_54.eq_1) <| And.intro (zunf C zn3_58.eq_1) <| And.intro (zunf C zn3_60.eq_1) <| And.intro (zunf C zn3_64.eq_1) <| And.intro (zunf C zn3_66.eq_1) <| And.intro (zunf C zn3_69.eq_1) <| And.intro (zunf C zn3_68.eq_1) <| And.intro (zunf C zn3_67.eq_1) <| And.intro (zunf C zn3_65.eq_1) <| And.intro (zunf C zn3_63.eq_1) <| And.intro (zunf C zn3_62.eq_1) <| And.intro (zunf C zn3_70.eq_1) <| And.intro (zunf C zn3_61.eq_1) <| And.intro (zunf C zn3_59.eq_1) <| And.intro (zunf C zn3_57.eq_1) <| And.intro (zunf C zn3_55.eq_1) <| And.intro (zunf C zn3_53.eq_1) <| And.intro (zunf C zn3_72.eq_1) <| And.intro (zunf C zn3_71.eq_1) <| And.intro (zunf C zn3_52.eq_1) <| And.intro (zunf C zn3_46.eq_1) <| And.intro (zunf C zn3_40.eq_1) <| And.intro (zunf C zn3_38.eq_1) <| And.intro (zunf C zn3_32.eq_1) <| And.intro (zunf C zn3_30.eq_1) <| And.intro (zunf C zn3_17.eq_1) <| And.intro (zunf C zn3_4.eq_1) <| And.intro (zunf C zn3_2.eq_1) <| (zunf C zn3_0.eq_1)
theorem rs3 : (xfOf Try.f3).rs = [.tmp 6] := by kernel_rfl
theorem xf3 : XFok C 3 (xfOf Try.f3) := by refine ⟨Try.f3, ?_, ?_, ?_, ?_, ?_, ?_, ?_⟩ <;> kernel_rfl
end Go.Proofs.Ytpchcfkebljopaa
end
