import Derived.Test.YtpchcfkebljopaaRows
import Derived.Test.YtpchcfkebljopaaXh
set_option linter.unusedSimpArgs false
set_option linter.unusedVariables false
set_option linter.constructorNameAsVariable false
section
namespace Go.Proofs.Ytpchcfkebljopaa
open Go.Cl Go Go.RowKit
theorem Z0g {n lo hi : Int} (h : lo ≤ hi) : lo ≤ brought n lo hi ∧ brought n lo hi ≤ hi := by unfold brought; omega
theorem K0i {b : Q0a} (h : b.Kind ≠ 0) : Body.right b = true ↔ (∀ n ∈ b.Mem, -1000000 ≤ n ∧ n ≤ 1000000) ∧ (b.Kind = 1 ∨ b.Kind = 2) ∧ (0 ≤ b.Owner ∧ b.Owner ≤ 7) ∧ (0 ≤ b.X ∧ b.X ≤ 4095) ∧ (0 ≤ b.Y ∧ b.Y ≤ 4095) ∧ (-64 ≤ b.VX ∧ b.VX ≤ 64) ∧ (-64 ≤ b.VY ∧ b.VY ≤ 64) ∧ (0 ≤ b.Age ∧ b.Age ≤ 600) ∧ (0 ≤ b.Faults ∧ b.Faults ≤ 65535) := by
  unfold Body.right
  rw [if_neg h]
  simp [within, and_assoc]
theorem right_shoot {b : Q0a} (h : Body.right b = true) (hk : b.Kind ≠ 0) (vx vy : Int) : Body.right (bodyShoot b vx vy) = true ∧ (bodyShoot b vx vy).Kind = 2 ∧ (bodyShoot b vx vy).Owner = b.Owner := by
  have r := (K0i hk).1 h
  have h1 := Z0g (n := vx) (lo := -64) (hi := 64) (by omega)
  have h2 := Z0g (n := vy) (lo := -64) (hi := 64) (by omega)
  unfold bodyShoot
  rw [if_pos ⟨h, hk⟩]
  refine ⟨(K0i (by simp)).2 ⟨?_, .inr rfl, r.2.2.1, r.2.2.2.1, r.2.2.2.2.1, h1, h2, by simp [Q0a.zero], by simp [Q0a.zero]⟩, rfl, rfl⟩
  intro n hn
  have : n = 0 := by simpa [Q0a.zero] using hn
  omega
theorem right_put7 {b : Q0a} (h : Body.right b = true) (hk : b.Kind ≠ 0) (k : Nat) (n : Int) (hn : -1000000 ≤ n ∧ n ≤ 1000000) : Body.right (b.put_7k k n) = true := by
  have r := (K0i hk).1 h
  refine (K0i (b := b.put_7k k n) hk).2 ⟨?_, r.2⟩
  intro x hx
  rcases List.mem_or_eq_of_mem_set hx with h | h
  · exact r.1 x h
  · rw [h]; exact hn
structure InvE (e g : Z0b) : Prop where
  right : Body.right g.Body = true
  kind : g.Body.Kind = e.Body.Kind
  owner : g.Body.Owner = e.Body.Owner
  age : g.Body.Age = e.Body.Age
  faults : g.Body.Faults = e.Body.Faults
  inp : g.In = e.In
  room : g.Room = e.Room
  len : (g.Shots.l.length : Int) ≤ e.Room
  shots : ∀ s ∈ g.Shots.l, Body.right s = true ∧ s.Kind = 2 ∧ s.Owner = e.Body.Owner
theorem InvE.set {e : Z0b} {m : Y0a} (h : InvE e m.e_) (hk : e.Body.Kind ≠ 0) (k : Nat) (n : Int) : InvE e (Mach.set m k n).e_ :=
  ⟨right_put7 h.right (by rw [h.kind]; exact hk) k _ (Z0g (by omega)), h.kind, h.owner, h.age, h.faults, h.inp, h.room, h.len, h.shots⟩
theorem InvE.put {e : Z0b} {m : Y0a} (h : InvE e m.e_) (hk : e.Body.Kind ≠ 0) (k n : Int) : InvE e (Mach.put m k n).e_ := by
  have hk' : m.e_.Body.Kind ≠ 0 := by rw [h.kind]; exact hk
  have r := (K0i hk').1 h.right
  have h1 := Z0g (n := n) (lo := 0) (hi := 4095) (by omega)
  have h2 := Z0g (n := n) (lo := -64) (hi := 64) (by omega)
  obtain ⟨r1, r2, r3, r4, r5, r6, r7, r8, r9⟩ := r
  unfold Mach.put Mach.body
  simp only
  split
  · exact ⟨(K0i (by exact hk')).2 ⟨r1, r2, r3, h1, r5, r6, r7, r8, r9⟩, h.kind, h.owner, h.age, h.faults, h.inp, h.room, h.len, h.shots⟩
  split
  · exact ⟨(K0i (by exact hk')).2 ⟨r1, r2, r3, r4, h1, r6, r7, r8, r9⟩, h.kind, h.owner, h.age, h.faults, h.inp, h.room, h.len, h.shots⟩
  split
  · exact ⟨(K0i (by exact hk')).2 ⟨r1, r2, r3, r4, r5, h2, r7, r8, r9⟩, h.kind, h.owner, h.age, h.faults, h.inp, h.room, h.len, h.shots⟩
  · exact ⟨(K0i (by exact hk')).2 ⟨r1, r2, r3, r4, r5, r6, h2, r8, r9⟩, h.kind, h.owner, h.age, h.faults, h.inp, h.room, h.len, h.shots⟩
theorem InvE.shoot {e : Z0b} {m : Y0a} (h : InvE e m.e_) (hk : e.Body.Kind ≠ 0) (a b : Int) (hlt : (m.e_.Shots.l.length : Int) < m.e_.Room) : InvE e { m.e_ with Shots := ⟨.part, m.e_.Shots.l ++ [bodyShoot m.e_.Body a b], nofun⟩ } := by
  have hs := right_shoot h.right (by rw [h.kind]; exact hk) a b
  refine ⟨h.right, h.kind, h.owner, h.age, h.faults, h.inp, h.room, ?_, ?_⟩
  · have := h.room
    simp only [List.length_append, List.length_cons, List.length_nil]
    omega
  · intro s hs'
    rcases List.mem_append.1 hs' with h' | h'
    · exact h.shots s h'
    · have : s = bodyShoot m.e_.Body a b := by simpa using h'
      rw [this]
      exact ⟨hs.1, hs.2.1, by rw [hs.2.2]; exact h.owner⟩
theorem InvE.dice {e : Z0b} {m : Y0a} (h : InvE e m.e_) (d : Int) : InvE e ({ m with e_ := { m.e_ with Dice := d } } : Y0a).e_ := ⟨h.right, h.kind, h.owner, h.age, h.faults, h.inp, h.room, h.len, h.shots⟩
theorem reckon_inv {e : Z0b} {m m' : Y0a} (h : InvE e m.e_) (hk : e.Body.Kind ≠ 0) {o : X0c} (hr : Mach.reckon m o = .ok m') : InvE e m'.e_ := by
  unfold Mach.reckon at hr
  simp only at hr
  repeat' (split at hr)
  all_goals first
    | (cases hr; done)
    | (cases hr; exact h.set hk _ _)
    | (cases hr; exact InvE.set (h.dice _) hk _ _)
    | (rename_i hlt; cases hr; exact h.shoot hk _ _ hlt)
theorem reckon_err {m : Y0a} {o : X0c} {c : Int} (hr : Mach.reckon m o = .error c) : 1 ≤ c ∧ c ≤ 7 := by
  unfold Mach.reckon at hr
  simp only at hr
  repeat' (split at hr)
  all_goals first
    | (cases hr; done)
    | (cases hr; omega)
theorem doOp_inv {e : Z0b} {m : Y0a} {r : Y0a × Int} (h : InvE e m.e_) (hk : e.Body.Kind ≠ 0) {o : X0c} (hr : Mach.doOp m o = .ok r) : InvE e r.1.e_ := by
  unfold Mach.doOp at hr
  repeat' (split at hr)
  all_goals first
    | (cases hr; done)
    | (cases hr; exact h.set hk _ _)
    | (cases hr; exact h.put hk _ _)
    | (cases hr; exact h)
    | (rename_i hq; cases hr; exact reckon_inv h hk hq)
theorem doOp_err {m : Y0a} {o : X0c} {c : Int} (hr : Mach.doOp m o = .error c) : 1 ≤ c ∧ c ≤ 7 := by
  unfold Mach.doOp at hr
  repeat' (split at hr)
  all_goals first
    | (cases hr; done)
    | (cases hr; omega)
    | (rename_i hq; cases hr; exact reckon_err hq)
theorem run_inv {e : Z0b} (hk : e.Body.Kind ≠ 0) : ∀ (k : Nat) (m : Y0a), InvE e m.e_ → 0 ≤ m.at_ → match Mach.run k m with | .ok m' => InvE e m'.e_ | .error c => 1 ≤ c.1 ∧ c.1 ≤ 7 ∧ 0 ≤ c.2 ∧ c.2 < m.l_.l.length
  | k, m, h, ha => by
    unfold Mach.run
    by_cases hlt : m.at_ < m.l_.l.length
    · rw [if_pos hlt]
      cases k with
      | zero => exact ⟨by omega, by omega, ha, hlt⟩
      | succ k =>
        simp only
        cases hq : Mach.doOp m (nth m.l_.l m.at_.toNat) with
        | error c => exact ⟨(doOp_err hq).1, (doOp_err hq).2, ha, hlt⟩
        | ok r =>
          obtain ⟨m2, n⟩ := r
          have hd := doOp_inv h hk hq
          have kk := Mach.doOp_keeps hq ha hlt
          have ih := run_inv hk k { m2 with at_ := n } hd kk.2.2.2.2.1
          have hl2 : m2.l_ = m.l_ := kk.2.1
          simp only [hl2] at ih ⊢
          exact ih
    · rw [if_neg hlt]; exact h
theorem envOf_kind (x : V0a) : (envOf x).Body.Kind = 1 := by
  have : ∀ (l : List Int) (n : Nat) (b : Q0a), (memN l n b).Kind = b.Kind := by
    intro l n; induction n with
    | zero => intro b; rfl
    | succ n ih => intro b; exact ih b
  unfold envOf
  simp only
  split
  · simp [this, bodyBorn]
  · simp [this, bodyBorn]
theorem rule_total (x : V0a) (l : Lst X0c) (hr : Body.right (envOf x).Body = true) :
    ((ruleRun l (envOf x)).2.2 = true → (ruleRun l (envOf x)).2.1 = ⟨0, 0⟩ ∧ InvE (envOf x) (ruleRun l (envOf x)).1) ∧
    ((ruleRun l (envOf x)).2.2 = false → (1 ≤ (ruleRun l (envOf x)).2.1.Code ∧ (ruleRun l (envOf x)).2.1.Code ≤ 7 ∧ 0 ≤ (ruleRun l (envOf x)).2.1.At ∧ (ruleRun l (envOf x)).2.1.At < l.l.length) ∧ sameE (ruleRun l (envOf x)).1 (envOf x) = true) := by
  have hk := envOf_kind x
  have hi : InvE (envOf x) (copiedE (envOf x)) := by
    have hp := K0x (n := x.Room) (m := 8) (by omega)
    refine ⟨hr, rfl, rfl, rfl, rfl, rfl, rfl, ?_, ?_⟩
    · simp [copiedE, cloneP, envOf, Z0b.zero]; exact hp.1
    · intro s hs; simp [copiedE, cloneP, envOf, Z0b.zero] at hs
  have hrun := run_inv (by omega) 64 ⟨copiedE (envOf x), l, 0⟩ hi (by simp)
  have hsame : sameE (copiedE (envOf x)) (envOf x) = true := by simp [sameE, copiedE, V0t]
  unfold ruleRun
  rw [if_neg (by rw [hr, hk]; simp)]
  cases hq : Mach.run 64 ⟨copiedE (envOf x), l, 0⟩ with
  | ok m => rw [hq] at hrun; exact ⟨fun _ => ⟨rfl, hrun⟩, fun h => (by cases h)⟩
  | error c => rw [hq] at hrun; exact ⟨fun h => (by cases h), fun _ => ⟨hrun, hsame⟩⟩
end Go.Proofs.Ytpchcfkebljopaa
end
section
namespace Go.Proofs.Ytpchcfkebljopaa
open Go.Cl Go Go.RowKit
set_option maxRecDepth 100000
set_option linter.constructorNameAsVariable false
def App {α : Type} (n0 : Nat) (s : Lst α) (q : Hp) : Prop :=
  s.tl = .nil ∨ ∃ j, s.tl = .own j ∧ n0 < j ∧ j < q.n ∧ q.t.get j = some (.tail s.l.length) ∧ 0 < s.l.length
theorem App.nw {α : Type} {n0 m : Nat} {l : List α} {q : Hp} {ok : Tail.own q.n = .nil → l = []} (h : n0 < q.n) (hm : l.length = m) (h0 : 0 < m) : App n0 (⟨.own q.n, l, ok⟩ : Lst α) (q.new (.tail m)) :=
  .inr ⟨q.n, rfl, h, by rw [Hp.znew_n]; omega, by rw [Hp.get_new_self, ← hm], by simp only; omega⟩
theorem App.sw {α : Type} {n0 m j : Nat} {l : List α} {q : Hp} {ok : Tail.own q.n = .nil → l = []} (h : n0 < q.n) (hm : l.length = m) (h0 : 0 < m) : App n0 (⟨.own q.n, l, ok⟩ : Lst α) ((q.set j none).new (.tail m)) :=
  .inr ⟨q.n, rfl, h, by rw [Hp.znew_n, Hp.zset_n]; omega, by rw [← hm]; exact Hp.get_new_self (q.set j none) _, by simp only; omega⟩
theorem X1p {α : Type} [Inhabited α] {l : List α} {k : Nat} (h : k < l.length) : l.take (k + 1) = l.take k ++ [nth l k] := by
  rw [List.take_add_one, Q0s h]; rfl
def J3a (l : Lst Q0c) (raw : Lst X0c) (x : V0a) (p : Hp) (n : Nat) (ρ : Env) (q : Hp) : Prop :=
  ∃ (k : Nat) (acc : Lst X0c), n = 16 - k ∧ k ≤ 16 ∧ k ≤ l.l.length ∧ ρ 0 = l.cv Q0c.cv ∧ ρ 1 = raw.cv X0c.cv ∧ ρ 5 = .ptr p.n [] ∧ ρ 7 = acc.cv X0c.cv ∧ ρ 8 = I k ∧ acc.l = (l.l.take k).map handOp ∧ App p.n acc q ∧ q.t.get p.n = some (.var sh27 x.cv) ∧ p.n < q.n ∧ HpLe p q
def K3a (l : Lst Q0c) (raw : Lst X0c) (x : V0a) (p : Hp) (ρ : Env) (q : Hp) : Prop :=
  ∃ (acc : Lst X0c), ρ 1 = raw.cv X0c.cv ∧ ρ 5 = .ptr p.n [] ∧ ρ 7 = acc.cv X0c.cv ∧ acc.l = (l.l.take 16).map handOp ∧ App p.n acc q ∧ q.t.get p.n = some (.var sh27 x.cv) ∧ p.n < q.n ∧ HpLe p q
def J3b (l : Lst Q0c) (raw : Lst X0c) (x : V0a) (p : Hp) (n : Nat) (ρ : Env) (q : Hp) : Prop :=
  ∃ (k : Nat) (acc : Lst X0c), n = 4 - k ∧ k ≤ 4 ∧ k ≤ raw.l.length ∧ ρ 1 = raw.cv X0c.cv ∧ ρ 5 = .ptr p.n [] ∧ ρ 7 = acc.cv X0c.cv ∧ ρ 9 = I k ∧ acc.l = (l.l.take 16).map handOp ++ raw.l.take k ∧ App p.n acc q ∧ q.t.get p.n = some (.var sh27 x.cv) ∧ p.n < q.n ∧ HpLe p q
def K3b (l : Lst Q0c) (raw : Lst X0c) (x : V0a) (p : Hp) (ρ : Env) (q : Hp) : Prop :=
  ∃ (acc : Lst X0c), ρ 5 = .ptr p.n [] ∧ ρ 7 = acc.cv X0c.cv ∧ acc.l = (l.l.take 16).map handOp ++ raw.l.take 4 ∧ q.t.get p.n = some (.var sh27 x.cv) ∧ p.n < q.n ∧ HpLe p q
def J3c (e g : Z0b) (p : Hp) (a b : Nat) (n : Nat) (ρ : Env) (q : Hp) : Prop :=
  ∃ (k : Nat), n = g.Shots.l.length - k ∧ k ≤ g.Shots.l.length ∧ ρ 10 = .ptr a [] ∧ ρ 11 = .ptr b [] ∧ ρ 164 = I g.Shots.l.length ∧ ρ 165 = I k ∧ q.t.get a = some (.var sh39 e.cv) ∧ q.t.get b = some (.var sh39 g.cv) ∧ HpLe p q
def R3 : Rel := fun args p r => ∃ (l : Lst Q0c) (raw : Lst X0c) (x : V0a), args = [l.cv Q0c.cv, raw.cv X0c.cv, x.cv] ∧ (-9223372036854775808 ≤ x.StickX ∧ x.StickX ≤ 9223372036854775807) ∧ r = .ret (Bo true) p
theorem t3 {T : XCall} (h : Has T 3 R3) (l : Lst Q0c) (raw : Lst X0c) (x : V0a) {p : Hp} (h1 : -9223372036854775808 ≤ x.StickX ∧ x.StickX ≤ 9223372036854775807) : T 3 [l.cv Q0c.cv, raw.cv X0c.cv, x.cv] p = .ret (Bo true) p := h _ _ _ ⟨l, raw, x, rfl, h1, rfl⟩
theorem zq3 {A B : Prop} (h : A = B := by ((try simp -dsimp (disch := first | exact zdis | fail) only [zcore, zall, zopm, zop, zcallOp, qop, qbuiltin, ofOpt, List.map, reduceCtorEq, if_true, if_false, ↓reduceIte, zbin, eqRes, qassert, qnum, qshift, qun, kindOf, allocV, List.nil_append, List.append_nil, List.cons_append, List.length_cons, List.length_nil, Nat.reduceAdd, Nat.reduceEqDiff, Nat.reduceLT, Nat.reduceSub, Nat.reduceMul, Int.reduceToNat, Int.reduceLE, Int.reduceLT, Int.reduceEq, Int.reduceNeg, Int.reduceAdd, Int.reduceSub, beq_self_eq_true, cond_true, cond_false, isConstOpd, xpanic, xconv, isBytes, qconv, List.length_map, List.map_nil, List.map_cons, concrete, Option.some.injEq, exists_eq', Option.map_some, Option.map_none, List.getElem?_cons_zero, List.getElem?_cons_succ, zw3, rs3, tt3, tt22, tt23, tt27, tt29, tt31, tt34, tt36, tt37, tt39, tt44, ti3, ti22, ti23, ti27, ti29, ti31, ti34, ti36, ti37, ti39, ti44, t_21, t_22, t_23, t_24, t_25, t_26, Y0w, Q0h, Y0f, Q0i, Z01, Y0l, X0m, zsl22, zsl23, zsl37, h1, zx, hc]); rfl)) (k : B) : A := h ▸ k
theorem zno3 {P : Prop} (h : P := by intro jj; simp [CV.has, CV.hasL, fault, K0c.nohas, Q0a.nohas, Y0b.nohas, Q0c.nohas, X0c.nohas, V0c.nohas]) : P := h
theorem zge3 {P : Prop} (h : P := by simp (disch := first | exact zdl | fail) only [zheap]; first | done | rfl) : P := h
set_option maxHeartbeats 8000000 in
theorem c3 : Con C 3 R3 := by
  refine Z0f C ?_ ?_ ?_
  · rintro args p r r' ⟨l, raw, x, h, h1, e⟩ ⟨l', raw', x', h', h1', e'⟩
    subst e; subst e'; simp_all [V0a.inj_iff, Z0b.inj_iff, Q0a.inj_iff, Y0b.inj_iff, Q0c.inj_iff, X0c.inj_iff, V0c.inj_iff, sl_inj22, K0m, Z0r]
  · rintro args p r ⟨l, raw, x, h, h1, rfl⟩; first | (split <;> simp; done) | (simp; done) | (simp only [resM]; split <;> simp; done) | (simp only [resD]; split <;> simp; done) 
  · rintro args p r ⟨l, raw, x, rfl, h1, rfl⟩
    refine Z0e C false noExt (tabL C [(21, R21), (22, R22), (23, R23), (24, R24), (25, R25), (26, R26)]) xf3 (Q0f C) (K0f C _) zc3_ok (Nat.le_of_ble_eq_true (by kernel_rfl)) fun hF => ?_
    have t_21 := @t21 (tabL C [(21, R21), (22, R22), (23, R23), (24, R24), (25, R25), (26, R26)]) (Z0d C c21 [(22, R22), (23, R23), (24, R24), (25, R25), (26, R26)])
    have t_22 := @t22 (tabL C [(21, R21), (22, R22), (23, R23), (24, R24), (25, R25), (26, R26)]) (Y0c C _ rfl (Z0d C c22 [(23, R23), (24, R24), (25, R25), (26, R26)]))
    have t_23 := @t23 (tabL C [(21, R21), (22, R22), (23, R23), (24, R24), (25, R25), (26, R26)]) (Y0c C _ rfl (Y0c C _ rfl (Z0d C c23 [(24, R24), (25, R25), (26, R26)])))
    have t_24 := @t24 (tabL C [(21, R21), (22, R22), (23, R23), (24, R24), (25, R25), (26, R26)]) (Y0c C _ rfl (Y0c C _ rfl (Y0c C _ rfl (Z0d C c24 [(25, R25), (26, R26)]))))
    have t_25 := @t25 (tabL C [(21, R21), (22, R22), (23, R23), (24, R24), (25, R25), (26, R26)]) (Y0c C _ rfl (Y0c C _ rfl (Y0c C _ rfl (Y0c C _ rfl (Z0d C c25 [(26, R26)])))))
    have t_26 := @t26 (tabL C [(21, R21), (22, R22), (23, R23), (24, R24), (25, R25), (26, R26)]) (Y0c C _ rfl (Y0c C _ rfl (Y0c C _ rfl (Y0c C _ rfl (Y0c C _ rfl (Z0d C c26 []))))))
    generalize tabL C [(21, R21), (22, R22), (23, R23), (24, R24), (25, R25), (26, R26)] = call at t_21 t_22 t_23 t_24 t_25 t_26 ⊢
    show W C false noExt call zc3 (argE [l.cv Q0c.cv, raw.cv X0c.cv, x.cv]) p (endQ C _ _)
    (have zx := True.intro; have hc := True.intro; refine zq3 (k := ?_); clear hc; try exact True.intro)
    repeat' ((first | refine K0d ?_ ?_ | refine Z0c ?_ ?_ | refine X0d _ _ _ _ ?_ ?_ | refine Q0d ?_ ?_ | refine V0d _ _ _ _ ?_ ?_) <;> intro hc <;> (try simp only [zhd, zhn] at hc) <;> (try have hw := X0b hc) <;> (refine zq3 (k := ?_); try exact True.intro))
    all_goals (try clear zx)
    show W C false noExt call (ZC.block 0 (ZC.loop zn3_9)) _ _ (seqQ _ _)
    refine W_cut C false noExt call _ _ _ _ (K3a l raw x p) ?_ ?_
    · show W C false noExt call (ZC.loop zn3_9) _ _ _
      refine V0n C false noExt call zn3_9 _ _ _ (J3a l raw x p) 16 ⟨0, ⟨.nil, [], fun _ => rfl⟩, rfl, by omega, by omega, (by simp [put_at, Z0a, V0f]), (by simp [put_at, Z0a]; rfl), (by simp [put_at, Z0a, V0f]), by simp [put_at, Z0a, V0f, Lst.cv], (by simp [put_at, Z0a, V0f]), by simp, .inl rfl, zge3, (by simp only [Hp.bump_n, Hp.znew_n, Hp.zset_n]; omega), zle⟩ ?_
      rintro n ρ q ⟨k, acc, rfl, hk, hkl, e0, e1, e5, e7, e8, hacc, happ, g1, hn, hle⟩
      have hal : acc.l.length = k := by rw [hacc]; simp; omega
      by_cases hlt : (k : Int) < l.l.length
      · by_cases h16 : (k : Int) < 16
        · have htk := X1p (l := l.l) (k := k) (by omega)
          obtain ⟨tl, al, ok⟩ := acc
          simp only at hal hacc
          rcases happ with ht | ⟨j, ht, hj1, hj2, hj3, hj4⟩
          · simp only at ht
            subst ht
            (have zx := And.intro e0 (And.intro e1 (And.intro e5 (And.intro e7 (And.intro e8 (And.intro g1 (And.intro hlt h16)))))); have hc := True.intro; refine zq3 (k := ?_); clear hc; try exact True.intro)
            repeat' ((first | refine K0d ?_ ?_ | refine Z0c ?_ ?_ | refine X0d _ _ _ _ ?_ ?_ | refine Q0d ?_ ?_ | refine V0d _ _ _ _ ?_ ?_) <;> intro hc <;> (try simp only [zhd, zhn] at hc) <;> (try have hw := X0b hc) <;> (refine zq3 (k := ?_); try exact True.intro))
            all_goals (try clear zx)
            refine ⟨16 - (k + 1), by omega, k + 1, ⟨.own q.n, al ++ [handOp (nth l.l k)], nofun⟩, rfl, by omega, by omega, by simp [put_at, Z0a, e0], by simp [put_at, Z0a, e1], by simp [put_at, Z0a, e5], by simp [put_at, Z0a], by simp [put_at, Z0a], by simp [htk, hacc], App.nw hn (by simp) (by omega), (by simp (disch := omega) only [Hp.get_new_ne, g1]), (by simp only [Hp.bump_n, Hp.znew_n, Hp.zset_n]; omega), zlq⟩
          · simp only at ht hj3 hj4
            subst ht
            (have zx := And.intro e0 (And.intro e1 (And.intro e5 (And.intro e7 (And.intro e8 (And.intro g1 (And.intro hlt h16)))))); have hc := True.intro; refine zq3 (k := ?_); clear hc; try exact True.intro)
            repeat' ((first | refine K0d ?_ ?_ | refine Z0c ?_ ?_ | refine X0d _ _ _ _ ?_ ?_ | refine Q0d ?_ ?_ | refine V0d _ _ _ _ ?_ ?_) <;> intro hc <;> (try simp only [zhd, zhn] at hc) <;> (try have hw := X0b hc) <;> (refine zq3 (k := ?_); try exact True.intro))
            all_goals (try clear zx)
            refine ⟨16 - (k + 1), by omega, k + 1, ⟨.own q.n, al ++ [handOp (nth l.l k)], nofun⟩, rfl, by omega, by omega, by simp [put_at, Z0a, e0], by simp [put_at, Z0a, e1], by simp [put_at, Z0a, e5], by simp [put_at, Z0a], by simp [put_at, Z0a], by simp [htk, hacc], App.sw hn (by simp) (by omega), (by simp (disch := (first | omega | (simp only [Hp.zset_n]; omega))) only [Hp.get_new_ne, Hp.get_set_ne, g1]), (by simp only [Hp.bump_n, Hp.znew_n, Hp.zset_n]; omega), zlq⟩
        · (have zx := And.intro e0 (And.intro e1 (And.intro e5 (And.intro e7 (And.intro e8 (And.intro g1 (And.intro hlt h16)))))); have hc := True.intro; refine zq3 (k := ?_); clear hc; try exact True.intro)
          repeat' ((first | refine K0d ?_ ?_ | refine Z0c ?_ ?_ | refine X0d _ _ _ _ ?_ ?_ | refine Q0d ?_ ?_ | refine V0d _ _ _ _ ?_ ?_) <;> intro hc <;> (try simp only [zhd, zhn] at hc) <;> (try have hw := X0b hc) <;> (refine zq3 (k := ?_); try exact True.intro))
          all_goals (try clear zx)
          have hk16 : k = 16 := by omega
          subst hk16
          exact ⟨acc, by simp [put_at, Z0a, e1], by simp [put_at, Z0a, e5], by simp [put_at, Z0a, e7], hacc, happ, g1, hn, hle⟩
      · (have zx := And.intro e0 (And.intro e1 (And.intro e5 (And.intro e7 (And.intro e8 (And.intro g1 hlt))))); have hc := True.intro; refine zq3 (k := ?_); clear hc; try exact True.intro)
        repeat' ((first | refine K0d ?_ ?_ | refine Z0c ?_ ?_ | refine X0d _ _ _ _ ?_ ?_ | refine Q0d ?_ ?_ | refine V0d _ _ _ _ ?_ ?_) <;> intro hc <;> (try simp only [zhd, zhn] at hc) <;> (try have hw := X0b hc) <;> (refine zq3 (k := ?_); try exact True.intro))
        all_goals (try clear zx)
        have ht : l.l.take k = l.l.take 16 := by rw [List.take_of_length_le (by omega), List.take_of_length_le (by omega)]
        exact ⟨acc, by simp [put_at, Z0a, e1], by simp [put_at, Z0a, e5], by simp [put_at, Z0a, e7], by rw [hacc, ht], happ, g1, hn, hle⟩
    rintro ρ q ⟨acc, e1, e5, e7, hacc0, happ, g1, hn, hle⟩
    (have zx := And.intro e1 (And.intro e5 (And.intro e7 g1)); have hc := True.intro; refine zq3 (k := ?_); clear hc; try exact True.intro)
    repeat' ((first | refine K0d ?_ ?_ | refine Z0c ?_ ?_ | refine X0d _ _ _ _ ?_ ?_ | refine Q0d ?_ ?_ | refine V0d _ _ _ _ ?_ ?_) <;> intro hc <;> (try simp only [zhd, zhn] at hc) <;> (try have hw := X0b hc) <;> (refine zq3 (k := ?_); try exact True.intro))
    all_goals (try clear zx)
    show W C false noExt call (ZC.block 2 (ZC.loop zn3_22)) _ _ (seqQ _ _)
    refine W_cut C false noExt call _ _ _ _ (K3b l raw x p) ?_ ?_
    · show W C false noExt call (ZC.loop zn3_22) _ _ _
      refine V0n C false noExt call zn3_22 _ _ _ (J3b l raw x p) 4 ⟨0, acc, rfl, by omega, by omega, by simp [put_at, Z0a, e1], by simp [put_at, Z0a, e5], by simp [put_at, Z0a, e7], (by simp [put_at, Z0a, V0f]), by simp [hacc0], happ, g1, hn, hle⟩ ?_
      clear e1 e5 e7 g1 hn hle happ hacc0
      rintro n ρ q ⟨k, acc, rfl, hk, hkl, e1, e5, e7, e9, hacc, happ, g1, hn, hle⟩
      by_cases hlt : (k : Int) < raw.l.length
      · by_cases h4 : (k : Int) < 4
        · have htk := X1p (l := raw.l) (k := k) (by omega)
          have hal : acc.l.length ≤ 20 := by rw [hacc]; simp; omega
          obtain ⟨tl, al, ok⟩ := acc
          simp only at hacc hal
          rcases happ with ht | ⟨j, ht, hj1, hj2, hj3, hj4⟩
          · simp only at ht
            subst ht
            (have zx := And.intro e1 (And.intro e5 (And.intro e7 (And.intro e9 (And.intro g1 (And.intro hlt h4))))); have hc := True.intro; refine zq3 (k := ?_); clear hc; try exact True.intro)
            repeat' ((first | refine K0d ?_ ?_ | refine Z0c ?_ ?_ | refine X0d _ _ _ _ ?_ ?_ | refine Q0d ?_ ?_ | refine V0d _ _ _ _ ?_ ?_) <;> intro hc <;> (try simp only [zhd, zhn] at hc) <;> (try have hw := X0b hc) <;> (refine zq3 (k := ?_); try exact True.intro))
            all_goals (try clear zx)
            refine ⟨4 - (k + 1), by omega, k + 1, ⟨.own q.n, al ++ [nth raw.l k], nofun⟩, rfl, by omega, by omega, by simp [put_at, Z0a, e1], by simp [put_at, Z0a, e5], by simp [put_at, Z0a], by simp [put_at, Z0a], by simp [htk, hacc], App.nw hn (by simp) (by omega), (by simp (disch := omega) only [Hp.get_new_ne, g1]), (by simp only [Hp.bump_n, Hp.znew_n, Hp.zset_n]; omega), zlq⟩
          · simp only at ht hj3 hj4
            subst ht
            (have zx := And.intro e1 (And.intro e5 (And.intro e7 (And.intro e9 (And.intro g1 (And.intro hlt h4))))); have hc := True.intro; refine zq3 (k := ?_); clear hc; try exact True.intro)
            repeat' ((first | refine K0d ?_ ?_ | refine Z0c ?_ ?_ | refine X0d _ _ _ _ ?_ ?_ | refine Q0d ?_ ?_ | refine V0d _ _ _ _ ?_ ?_) <;> intro hc <;> (try simp only [zhd, zhn] at hc) <;> (try have hw := X0b hc) <;> (refine zq3 (k := ?_); try exact True.intro))
            all_goals (try clear zx)
            refine ⟨4 - (k + 1), by omega, k + 1, ⟨.own q.n, al ++ [nth raw.l k], nofun⟩, rfl, by omega, by omega, by simp [put_at, Z0a, e1], by simp [put_at, Z0a, e5], by simp [put_at, Z0a], by simp [put_at, Z0a], by simp [htk, hacc], App.sw hn (by simp) (by omega), (by simp (disch := (first | omega | (simp only [Hp.zset_n]; omega))) only [Hp.get_new_ne, Hp.get_set_ne, g1]), (by simp only [Hp.bump_n, Hp.znew_n, Hp.zset_n]; omega), zlq⟩
        · (have zx := And.intro e1 (And.intro e5 (And.intro e7 (And.intro e9 (And.intro g1 (And.intro hlt h4))))); have hc := True.intro; refine zq3 (k := ?_); clear hc; try exact True.intro)
          repeat' ((first | refine K0d ?_ ?_ | refine Z0c ?_ ?_ | refine X0d _ _ _ _ ?_ ?_ | refine Q0d ?_ ?_ | refine V0d _ _ _ _ ?_ ?_) <;> intro hc <;> (try simp only [zhd, zhn] at hc) <;> (try have hw := X0b hc) <;> (refine zq3 (k := ?_); try exact True.intro))
          all_goals (try clear zx)
          have hk4 : k = 4 := by omega
          subst hk4
          exact ⟨acc, by simp [put_at, Z0a, e5], by simp [put_at, Z0a, e7], hacc, g1, hn, hle⟩
      · (have zx := And.intro e1 (And.intro e5 (And.intro e7 (And.intro e9 (And.intro g1 hlt)))); have hc := True.intro; refine zq3 (k := ?_); clear hc; try exact True.intro)
        repeat' ((first | refine K0d ?_ ?_ | refine Z0c ?_ ?_ | refine X0d _ _ _ _ ?_ ?_ | refine Q0d ?_ ?_ | refine V0d _ _ _ _ ?_ ?_) <;> intro hc <;> (try simp only [zhd, zhn] at hc) <;> (try have hw := X0b hc) <;> (refine zq3 (k := ?_); try exact True.intro))
        all_goals (try clear zx)
        have ht : raw.l.take k = raw.l.take 4 := by rw [List.take_of_length_le (by omega), List.take_of_length_le (by omega)]
        exact ⟨acc, by simp [put_at, Z0a, e5], by simp [put_at, Z0a, e7], by rw [hacc, ht], g1, hn, hle⟩
    clear e1 e5 e7 g1 hn hle happ hacc0
    rintro ρ q ⟨acc, e5, e7, hacc, g1, hn, hle⟩
    have hal : acc.l.length ≤ 100000 := by rw [hacc]; simp; omega
    have hv : (envOf x).Shots.tl ≠ .view := by simp [envOf, Z0b.zero]
    have hv2 : (envOf x).Shots.l.length ≤ 100000 := by simp [envOf, Z0b.zero]
    have hz : V0c.zero = ⟨0, 0⟩ := rfl
    by_cases hr : Body.right (envOf x).Body = true
    · have hT := rule_total x acc hr
      have hR : (ruleRun acc (envOf x)).1.Shots.l.length ≤ 1000000 := by
        cases ho : (ruleRun acc (envOf x)).2.2 with
        | true =>
          have := (hT.1 ho).2.len
          have hp := K0x (n := x.Room) (m := 8) (by omega)
          have : (envOf x).Room = pick x.Room 8 := rfl
          omega
        | false =>
          have := (hT.2 ho).2
          simp only [sameE, Bool.and_eq_true, decide_eq_true_eq] at this
          rw [this.2]; omega
      generalize hgen : ruleRun acc (envOf x) = R at hT hR
      obtain ⟨g, f, ok⟩ := R
      cases ok with
      | false =>
        have h2 := (hT.2 rfl).1
        have h3 := (hT.2 rfl).2
        simp only at h2 h3
        have a1 := h2.1
        have a2 := h2.2.1
        have a3 := h2.2.2.1
        have a4 := h2.2.2.2
        (have zx := And.intro e5 (And.intro e7 (And.intro g1 (And.intro hr (And.intro hgen (And.intro a1 (And.intro a2 (And.intro a3 (And.intro a4 h3)))))))); have hc := True.intro; refine zq3 (k := ?_); clear hc; try exact True.intro)
        repeat' ((first | refine K0d ?_ ?_ | refine Z0c ?_ ?_ | refine X0d _ _ _ _ ?_ ?_ | refine Q0d ?_ ?_ | refine V0d _ _ _ _ ?_ ?_) <;> intro hc <;> (try simp only [zhd, zhn] at hc) <;> (try have hw := X0b hc) <;> (refine zq3 (k := ?_); try exact True.intro))
        all_goals (try clear zx)
        all_goals exact K0e hF zlq (X0e (Y0d zno3))
      | true =>
        have h2 := (hT.1 rfl).1
        have h3 := (hT.1 rfl).2
        simp only at h2 h3
        subst h2
        have a1 := h3.right
        have a2 := h3.kind
        have a3 := h3.owner
        have a4 := h3.age
        have a5 := h3.faults
        have a6 := h3.inp
        have a7 := h3.room
        simp only at hR
        have a8 : ¬ (envOf x).Room < g.Shots.l.length := by have := h3.len; omega
        (have zx := And.intro e5 (And.intro e7 (And.intro g1 (And.intro hr (And.intro hgen (And.intro a1 (And.intro a2 (And.intro a3 (And.intro a4 (And.intro a5 (And.intro a6 (And.intro a7 (And.intro a8 hz)))))))))))); have hc := True.intro; refine zq3 (k := ?_); clear hc; try exact True.intro)
        repeat' ((first | refine K0d ?_ ?_ | refine Z0c ?_ ?_ | refine X0d _ _ _ _ ?_ ?_ | refine Q0d ?_ ?_ | refine V0d _ _ _ _ ?_ ?_) <;> intro hc <;> (try simp only [zhd, zhn] at hc) <;> (try have hw := X0b hc) <;> (refine zq3 (k := ?_); try exact True.intro))
        all_goals (try clear zx)
        show W C false noExt call (ZC.loop zn3_57) _ _ _
        refine V0n C false noExt call zn3_57 _ _ _ (J3c (envOf x) g p q.n (q.n + 1)) g.Shots.l.length ⟨0, rfl, by omega, (by simp [put_at, Z0a, V0f]), (by simp [put_at, Z0a, V0f]), (by simp [put_at, Z0a, V0f]), (by simp [put_at, Z0a, V0f]), zge3, zge3, zlq⟩ ?_
        clear e5 e7 g1 hle
        generalize q.n = i0 at hn
        rintro n ρ q ⟨k, rfl, hk, e10, e11, e164, e165, g2, g3, hle⟩
        by_cases hlt : (k : Int) < g.Shots.l.length
        · have hs := h3.shots (nth g.Shots.l k) (by rw [Y0y (by omega)]; exact List.getElem_mem _)
          have b1 := hs.1
          have b2 := hs.2.1
          have b3 := hs.2.2
          (have zx := And.intro e10 (And.intro e11 (And.intro e164 (And.intro e165 (And.intro g2 (And.intro g3 (And.intro hlt (And.intro b1 (And.intro b2 b3)))))))); have hc := True.intro; refine zq3 (k := ?_); clear hc; try exact True.intro)
          repeat' ((first | refine K0d ?_ ?_ | refine Z0c ?_ ?_ | refine X0d _ _ _ _ ?_ ?_ | refine Q0d ?_ ?_ | refine V0d _ _ _ _ ?_ ?_) <;> intro hc <;> (try simp only [zhd, zhn] at hc) <;> (try have hw := X0b hc) <;> (refine zq3 (k := ?_); try exact True.intro))
          all_goals (try clear zx)
          refine ⟨g.Shots.l.length - (k + 1), by omega, k + 1, rfl, by omega, by simp [put_at, Z0a, e10], by simp [put_at, Z0a, e11], by simp [put_at, Z0a, e164], by simp [put_at, Z0a], g2, g3, hle⟩
        · (have zx := And.intro e10 (And.intro e11 (And.intro e164 (And.intro e165 (And.intro g2 (And.intro g3 hlt))))); have hc := True.intro; refine zq3 (k := ?_); clear hc; try exact True.intro)
          repeat' ((first | refine K0d ?_ ?_ | refine Z0c ?_ ?_ | refine X0d _ _ _ _ ?_ ?_ | refine Q0d ?_ ?_ | refine V0d _ _ _ _ ?_ ?_) <;> intro hc <;> (try simp only [zhd, zhn] at hc) <;> (try have hw := X0b hc) <;> (refine zq3 (k := ?_); try exact True.intro))
          all_goals (try clear zx)
          exact K0e hF zlq (X0e (Y0d zno3))
    · (have zx := And.intro e5 (And.intro e7 (And.intro g1 hr)); have hc := True.intro; refine zq3 (k := ?_); clear hc; try exact True.intro)
      repeat' ((first | refine K0d ?_ ?_ | refine Z0c ?_ ?_ | refine X0d _ _ _ _ ?_ ?_ | refine Q0d ?_ ?_ | refine V0d _ _ _ _ ?_ ?_) <;> intro hc <;> (try simp only [zhd, zhn] at hc) <;> (try have hw := X0b hc) <;> (refine zq3 (k := ?_); try exact True.intro))
      all_goals (try clear zx)
      all_goals exact K0e hF zlq (X0e (Y0d zno3))
end Go.Proofs.Ytpchcfkebljopaa
end
section
namespace Go.Cl
open Go.RowKit Go.ChangeShapes Go.WideShapes Go.ChangeAt
def consB (P : Program) : Nat → List Field → Nat → Bool
  | off, [], tot => off == tot
  | off, f :: l, tot => f.offset == off && consB P (off + P.cellsOf f.type) l tot
def sup (P : Program) : Nat → TypeId → Bool
  | 0, _ => false
  | n + 1, t => match P.underlying t with
    | some (.int _) | some .bool | some (.float _) | some .string => true
    | some (.struct fs) => consB P 0 fs.toList (P.cellsOf t) && fs.toList.all fun f => sup P n f.type
    | some (.array c e) => (P.cellsOf t == c * P.cellsOf e) && sup P n e
    | _ => false
def All2 (r : TypeId → CV → Prop) : List TypeId → List CV → Prop
  | [], [] => True
  | t :: ts, v :: l => r t v ∧ All2 r ts l
  | _, _ => False
def Ty (P : Program) : Nat → TypeId → CV → Prop
  | 0, _, _ => False
  | n + 1, t, v => match P.underlying t with
    | some (.int k) => ∃ i, v = .sc (.int k i) ∧ (Lit.int k i).wf = true
    | some .bool => ∃ b, v = .sc (.bool b)
    | some (.float k) => ∃ b, v = .sc (.float k b) ∧ (Lit.float k b).wf = true
    | some .string => ∃ s, v = .sc (.string s) ∧ s.size ≤ maxLen
    | some (.struct fs) => ∃ l, v = .agg l ∧ All2 (Ty P n) (fs.toList.map (·.type)) l
    | some (.array c e) => ∃ l, v = .agg l ∧ l.length = c ∧ ∀ x ∈ l, Ty P n e x
    | _ => False
variable {H : Type} {enc : TypeId × Value → H} {P : Program} {w : World} {base : Nat} {spare : Nat → Bool} {held : Bool}
theorem K1a {n fuel : Nat} (S : St) (ih : ∀ t cs x, sup P n t = true → DataW.trod enc P w base spare held fuel t cs = some x → ∃ v, FR S v cs ∧ Ty P n t v) (cs : List Value) :
    ∀ (fl : List Field) (off tot : Nat) (xs : List (DataW H × List MemPlace)), consB P off fl tot = true → cs.length = tot → (fl.all fun f => sup P n f.type) = true →
      (fl.mapM fun f => DataW.trod enc P w base spare held fuel f.type ((cs.drop f.offset).take (P.cellsOf f.type))) = some xs → ∃ l, FRs S l (cs.drop off) ∧ All2 (Ty P n) (fl.map (·.type)) l
  | [], off, tot, xs, hc, hl, _, _ => by
    simp only [consB, beq_iff_eq] at hc
    subst hc
    exact ⟨[], by simp [FRs, hl], trivial⟩
  | f :: fl, off, tot, xs, hc, hl, ha, hm => by
    simp only [consB, Bool.and_eq_true, beq_iff_eq] at hc
    simp only [List.all_cons, Bool.and_eq_true] at ha
    simp only [List.mapM_cons, Option.pure_def, Option.bind_eq_bind, Option.bind_eq_some_iff] at hm
    obtain ⟨y, hy, ys, hys, _⟩ := hm
    obtain ⟨v, hv, tv⟩ := ih _ _ _ ha.1 hy
    obtain ⟨l, hl', tl⟩ := K1a S ih cs fl _ tot ys hc.2 hl ha.2 hys
    refine ⟨v :: l, ?_, tv, tl⟩
    simp only [FRs]
    refine ⟨_, _, ?_, hv, hl'⟩
    rw [hc.1, ← List.drop_drop, List.take_append_drop]
theorem Y1j {n fuel sz : Nat} {e : TypeId} (S : St) (ih : ∀ t cs x, sup P n t = true → DataW.trod enc P w base spare held fuel t cs = some x → ∃ v, FR S v cs ∧ Ty P n t v) (he : sup P n e = true) (cs : List Value) :
    ∀ (c k : Nat) (xs : List (DataW H × List MemPlace)), cs.length = (k + c) * sz →
      ((List.range' k c).mapM fun i => DataW.trod enc P w base spare held fuel e ((cs.drop (i * sz)).take sz)) = some xs → ∃ l, FRs S l (cs.drop (k * sz)) ∧ l.length = c ∧ ∀ x ∈ l, Ty P n e x
  | 0, k, xs, hl, _ => ⟨[], by simp [FRs, hl], rfl, by simp⟩
  | c + 1, k, xs, hl, hm => by
    rw [List.range'_succ] at hm
    simp only [List.mapM_cons, Option.pure_def, Option.bind_eq_bind, Option.bind_eq_some_iff] at hm
    obtain ⟨y, hy, ys, hys, _⟩ := hm
    obtain ⟨v, hv, tv⟩ := ih _ _ _ he hy
    obtain ⟨l, hl', hn, tl⟩ := Y1j S ih he cs c (k + 1) ys (by rw [hl]; congr 1; omega) hys
    refine ⟨v :: l, ?_, by simp [hn], by simpa using ⟨tv, tl⟩⟩
    simp only [FRs]
    refine ⟨_, _, ?_, hv, hl'⟩
    rw [Nat.succ_mul, ← List.drop_drop, List.take_append_drop]
theorem read (S : St) : ∀ (n : Nat) (t : TypeId) (fuel : Nat) (cs : List Value) (x : DataW H × List MemPlace), sup P n t = true → DataW.trod enc P w base spare held fuel t cs = some x → ∃ v, FR S v cs ∧ Ty P n t v
  | 0, t, _, _, _, hs, _ => by simp [sup] at hs
  | n + 1, t, 0, _, _, _, h => by simp [DataW.trod] at h
  | n + 1, t, fuel + 1, cs, x, hs, h => by
    have h0 := h
    unfold DataW.trod at h
    simp only [sup] at hs
    cases hu : P.underlying t with
    | none => rw [hu] at hs; simp at hs
    | some u =>
      rw [hu] at hs h
      cases u with
      | int k =>
        obtain ⟨i, rfl, _, hw⟩ := DataW.trod_int hu h0
        exact ⟨.sc (.int k i), by simp [FR, plain], by simp only [Ty, hu]; exact ⟨i, rfl, hw⟩⟩
      | bool =>
        obtain ⟨b, rfl, _⟩ := DataW.trod_bool hu h0
        exact ⟨.sc (.bool b), by simp [FR, plain], by simp only [Ty, hu]; exact ⟨b, rfl⟩⟩
      | string =>
        obtain ⟨s, rfl, _, hw⟩ := DataW.trod_string hu h0
        exact ⟨.sc (.string s), by simp [FR, plain], by simp only [Ty, hu]; exact ⟨s, rfl, hw⟩⟩
      | float k =>
        simp only at h
        have hc : ∃ b, cs = [.float k b] ∧ (Lit.float k b).wf = true := by
          clear hs h0
          split at h <;> try (rename_i e; cases e; done)
          all_goals first | (cases h; done) | skip
          · rename_i k1 k2 b e
            split at h
            · rename_i hk
              cases e
              obtain ⟨rfl, hw⟩ := hk
              exact ⟨b, rfl, hw⟩
            · cases h
        obtain ⟨b, rfl, hw⟩ := hc
        exact ⟨.sc (.float k b), by simp [FR, plain], by simp only [Ty, hu]; exact ⟨b, rfl, hw⟩⟩
      | struct fs =>
        simp only [Bool.and_eq_true] at hs
        simp only at h
        split at h
        · rename_i hlen
          simp only [Option.map_eq_some_iff] at h
          obtain ⟨xs, hx, _⟩ := h
          obtain ⟨l, hl, tl⟩ := K1a S (fun t cs x => read S n t fuel cs x) cs fs.toList 0 _ xs hs.1 hlen hs.2 hx
          exact ⟨.agg l, by simpa [FR] using hl, by simp only [Ty, hu]; exact ⟨l, rfl, tl⟩⟩
        · cases h
      | array c e =>
        simp only [Bool.and_eq_true, beq_iff_eq] at hs
        simp only at h
        split at h
        · rename_i hlen
          simp only [Option.map_eq_some_iff] at h
          obtain ⟨xs, hx, _⟩ := h
          rw [List.range_eq_range'] at hx
          obtain ⟨l, hl, hn, tl⟩ := Y1j S (fun t cs x => read S n t fuel cs x) hs.2 cs c 0 xs (by rw [hlen, hs.1]; simp) hx
          exact ⟨.agg l, by simpa [FR] using hl, by simp only [Ty, hu]; exact ⟨l, rfl, hn, tl⟩⟩
        · cases h
      | _ => simp at hs
theorem Y1r {a : Addr} (ha : a.spot = none) (n : Nat) : a.add n = ⟨a.block, a.off + n, none⟩ := by
  cases a; simp only at ha; subst ha; unfold Addr.add; split <;> simp_all
theorem lies_cells {a : Addr} (ha : a.spot = none) {m : Nat} {cs : List Value} (h : w.cells? base a m = some cs) : (S0 w).lies a.block a.off cs ∧ cs.length = m := by
  unfold World.cells? at h
  split at h
  · refine ⟨fun j u hu => ?_, by simpa using mapM_some_length h⟩
    have hj : j < cs.length := by
      rcases Nat.lt_or_ge j cs.length with q | q
      · exact q
      · rw [List.getElem?_eq_none q] at hu; cases hu
    have hl : cs.length = m := by simpa using mapM_some_length h
    have := mapM_some_get h j j (List.getElem?_range (by omega))
    rw [hu] at this
    simp only [S0]
    rw [← this]
    rw [Y1r ha]
  · cases h
end Go.Cl
end
section
namespace Go.Cl
open Go.RowKit Go.ChangeShapes Go.WideShapes Go.ChangeAt
def sup2 (P : Program) : Nat → TypeId → Bool
  | 0, _ => false
  | n + 1, t => match P.underlying t with
    | some (.int _) | some .bool | some (.float _) | some .string => true
    | some (.slice e) => Nat.blt 0 (P.cellsOf e) && sup2 P n e
    | some (.struct fs) => consB P 0 fs.toList (P.cellsOf t) && fs.toList.all fun f => sup2 P n f.type
    | some (.array c e) => (P.cellsOf t == c * P.cellsOf e) && sup2 P n e
    | _ => false
def Ty2 (P : Program) : Nat → TypeId → CV → Prop
  | 0, _, _ => False
  | n + 1, t, v => match P.underlying t with
    | some (.int k) => ∃ i, v = .sc (.int k i) ∧ (Lit.int k i).wf = true
    | some .bool => ∃ b, v = .sc (.bool b)
    | some (.float k) => ∃ b, v = .sc (.float k b) ∧ (Lit.float k b).wf = true
    | some .string => ∃ s, v = .sc (.string s) ∧ s.size ≤ maxLen
    | some (.slice e) => ∃ tl l, v = .lst tl l ∧ (∀ x ∈ l, Ty2 P n e x) ∧ (tl = .view ∨ tl = .nil ∧ l = [])
    | some (.struct fs) => ∃ l, v = .agg l ∧ All2 (Ty2 P n) (fs.toList.map (·.type)) l
    | some (.array c e) => ∃ l, v = .agg l ∧ l.length = c ∧ ∀ x ∈ l, Ty2 P n e x
    | _ => False
theorem All2.mono {r r' : TypeId → CV → Prop} (h : ∀ t v, r t v → r' t v) : ∀ ts l, All2 r ts l → All2 r' ts l
  | [], [], _ => trivial
  | _ :: ts, _ :: l, ⟨a, b⟩ => ⟨h _ _ a, All2.mono h ts l b⟩
  | [], _ :: _, k => k.elim
  | _ :: _, [], k => k.elim
theorem Ty.up {P : Program} : ∀ (n : Nat) (t : TypeId) (v : CV), Ty P n t v → Ty2 P n t v
  | 0, _, _, h => h.elim
  | n + 1, t, v, h => by
    simp only [Ty] at h
    simp only [Ty2]
    cases hu : P.underlying t with
    | none => rw [hu] at h; exact h.elim
    | some u =>
      rw [hu] at h
      cases u with
      | struct fs =>
        obtain ⟨l, hl, ha⟩ := h
        exact ⟨l, hl, All2.mono (fun t v => Ty.up n t v) _ _ ha⟩
      | array c e =>
        obtain ⟨l, hl, hn, ha⟩ := h
        exact ⟨l, hl, hn, fun x hx => Ty.up n _ x (ha x hx)⟩
      | int k => exact h
      | bool => exact h
      | float k => exact h
      | string => exact h
      | _ => exact h.elim
variable {H : Type} {enc : TypeId × Value → H} {P : Program} {w : World} {base : Nat} {spare : Nat → Bool} {held : Bool}
theorem V1e {α β : Type} {f : α → Option β} {x : α} {l : List α} {ys : List β} (h : (x :: l).mapM f = some ys) : ∃ y, f x = some y := by
  simp only [List.mapM_cons, Option.pure_def, Option.bind_eq_bind, Option.bind_eq_some_iff] at h
  obtain ⟨y, hy, _⟩ := h
  exact ⟨y, hy⟩
theorem spot_of {a : Addr} {m k : Nat} {cs : List Value} (hm : 0 < m) (h : w.cells? base (a.add k) m = some cs) (hk : k = 0) : a.spot = none := by
  subst hk
  obtain ⟨m, rfl⟩ : ∃ j, m = j + 1 := ⟨m - 1, by omega⟩
  unfold World.cells? at h
  split at h
  · rw [List.range_eq_range', List.range'_succ] at h
    obtain ⟨y, hy⟩ := V1e h
    simp only [Addr.add, if_true, World.cell?] at hy
    split at hy
    · split at hy
      · cases hy
      · rename_i q; cases hs : a.spot <;> simp_all
    · cases hy
  · cases h
theorem K09 {n fuel sz : Nat} {e : TypeId} {a : Addr} (ih : ∀ cs x, DataW.trod enc P w base spare held fuel e cs = some x → ∃ v, FR (S0 w) v cs ∧ Ty2 P n e v) (hsz : P.cellsOf e = sz) (ha : a.spot = none) :
    ∀ (c k : Nat) (xs : List (DataW H × List MemPlace)),
      ((List.range' k c).mapM fun i => (w.cells? base (a.add (i * sz)) sz).bind (DataW.trod enc P w base spare held fuel e)) = some xs →
        ∃ l es, FRs (S0 w) l es ∧ l.length = c ∧ (∀ x ∈ l, Ty2 P n e x) ∧ (S0 w).lies a.block (a.off + k * sz) es ∧ es.length = c * sz ∧ ∀ x ∈ l, x.size = sz
  | 0, k, xs, _ => ⟨[], [], by simp [FRs], rfl, by simp, fun j u hu => by simp at hu, by simp, by simp⟩
  | c + 1, k, xs, hm => by
    rw [List.range'_succ] at hm
    simp only [List.mapM_cons, Option.pure_def, Option.bind_eq_bind, Option.bind_eq_some_iff] at hm
    obtain ⟨y, ⟨cs, hcs, hy⟩, ys, hys, _⟩ := hm
    obtain ⟨v, hv, tv⟩ := ih cs y hy
    obtain ⟨l, es, h1, h2, h3, h4, h5, h6⟩ := K09 ih hsz ha c (k + 1) ys hys
    obtain ⟨hl, hn⟩ := lies_cells (a := a.add (k * sz)) (by rw [Y1r ha]) hcs
    rw [Y1r ha] at hl
    refine ⟨v :: l, cs ++ es, by simp only [FRs]; exact ⟨_, _, rfl, hv, h1⟩, by simp [h2], by simpa using ⟨tv, h3⟩, fun j u hu => ?_, by simp [hn, h5, Nat.succ_mul]; omega, ?_⟩
    · rw [List.getElem?_append] at hu
      split at hu
      · have := hl j u hu
        simpa [Nat.add_assoc] using this
      · rename_i hj
        have := h4 _ u hu
        rw [hn] at this hj
        rw [← this]
        congr 1
        rw [Nat.succ_mul]; omega
    · intro x hx
      rcases List.mem_cons.1 hx with rfl | hx
      · rw [← FR.length _ _ hv, hn]
      · exact h6 x hx
theorem Y05 {n fuel : Nat} (S : St) (ih : ∀ t cs x, sup2 P n t = true → DataW.trod enc P w base spare held fuel t cs = some x → ∃ v, FR S v cs ∧ Ty2 P n t v) (cs : List Value) :
    ∀ (fl : List Field) (off tot : Nat) (xs : List (DataW H × List MemPlace)), consB P off fl tot = true → cs.length = tot → (fl.all fun f => sup2 P n f.type) = true →
      (fl.mapM fun f => DataW.trod enc P w base spare held fuel f.type ((cs.drop f.offset).take (P.cellsOf f.type))) = some xs → ∃ l, FRs S l (cs.drop off) ∧ All2 (Ty2 P n) (fl.map (·.type)) l
  | [], off, tot, xs, hc, hl, _, _ => by
    simp only [consB, beq_iff_eq] at hc
    subst hc
    exact ⟨[], by simp [FRs, hl], trivial⟩
  | f :: fl, off, tot, xs, hc, hl, ha, hm => by
    simp only [consB, Bool.and_eq_true, beq_iff_eq] at hc
    simp only [List.all_cons, Bool.and_eq_true] at ha
    simp only [List.mapM_cons, Option.pure_def, Option.bind_eq_bind, Option.bind_eq_some_iff] at hm
    obtain ⟨y, hy, ys, hys, _⟩ := hm
    obtain ⟨v, hv, tv⟩ := ih _ _ _ ha.1 hy
    obtain ⟨l, hl', tl⟩ := Y05 S ih cs fl _ tot ys hc.2 hl ha.2 hys
    refine ⟨v :: l, ?_, tv, tl⟩
    simp only [FRs]
    refine ⟨_, _, ?_, hv, hl'⟩
    rw [hc.1, ← List.drop_drop, List.take_append_drop]
theorem X1c {n fuel sz : Nat} {e : TypeId} (S : St) (ih : ∀ t cs x, sup2 P n t = true → DataW.trod enc P w base spare held fuel t cs = some x → ∃ v, FR S v cs ∧ Ty2 P n t v) (he : sup2 P n e = true) (cs : List Value) :
    ∀ (c k : Nat) (xs : List (DataW H × List MemPlace)), cs.length = (k + c) * sz →
      ((List.range' k c).mapM fun i => DataW.trod enc P w base spare held fuel e ((cs.drop (i * sz)).take sz)) = some xs → ∃ l, FRs S l (cs.drop (k * sz)) ∧ l.length = c ∧ ∀ x ∈ l, Ty2 P n e x
  | 0, k, xs, hl, _ => ⟨[], by simp [FRs, hl], rfl, by simp⟩
  | c + 1, k, xs, hl, hm => by
    rw [List.range'_succ] at hm
    simp only [List.mapM_cons, Option.pure_def, Option.bind_eq_bind, Option.bind_eq_some_iff] at hm
    obtain ⟨y, hy, ys, hys, _⟩ := hm
    obtain ⟨v, hv, tv⟩ := ih _ _ _ he hy
    obtain ⟨l, hl', hn, tl⟩ := X1c S ih he cs c (k + 1) ys (by rw [hl]; congr 1; omega) hys
    refine ⟨v :: l, ?_, by simp [hn], by simpa using ⟨tv, tl⟩⟩
    simp only [FRs]
    refine ⟨_, _, ?_, hv, hl'⟩
    rw [Nat.succ_mul, ← List.drop_drop, List.take_append_drop]
theorem read2 : ∀ (n : Nat) (t : TypeId) (fuel : Nat) (cs : List Value) (x : DataW H × List MemPlace), sup2 P n t = true → DataW.trod enc P w base (fun _ => true) held fuel t cs = some x → ∃ v, FR (S0 w) v cs ∧ Ty2 P n t v
  | 0, t, _, _, _, hs, _ => by simp [sup2] at hs
  | n + 1, t, 0, _, _, _, h => by simp [DataW.trod] at h
  | n + 1, t, fuel + 1, cs, x, hs, h => by
    have h0 := h
    simp only [sup2] at hs
    cases hu : P.underlying t with
    | none => rw [hu] at hs; simp at hs
    | some u =>
      rw [hu] at hs
      cases u with
      | int k =>
        obtain ⟨v, h1, h2⟩ := read (S0 w) (n + 1) t (fuel + 1) cs x (by simp only [sup, hu]) h0
        exact ⟨v, h1, Ty.up _ _ _ h2⟩
      | bool =>
        obtain ⟨v, h1, h2⟩ := read (S0 w) (n + 1) t (fuel + 1) cs x (by simp only [sup, hu]) h0
        exact ⟨v, h1, Ty.up _ _ _ h2⟩
      | string =>
        obtain ⟨v, h1, h2⟩ := read (S0 w) (n + 1) t (fuel + 1) cs x (by simp only [sup, hu]) h0
        exact ⟨v, h1, Ty.up _ _ _ h2⟩
      | float k =>
        obtain ⟨v, h1, h2⟩ := read (S0 w) (n + 1) t (fuel + 1) cs x (by simp only [sup, hu]) h0
        exact ⟨v, h1, Ty.up _ _ _ h2⟩
      | slice e =>
        simp only [Bool.and_eq_true, Nat.blt_eq] at hs
        obtain ⟨hpos, hs⟩ := hs
        simp only [DataW.trod, hu] at h
        split at h <;> try (rename_i e1 _; cases e1; done)
        all_goals try (cases h; done)
        all_goals try (rename_i e1; cases e1; done)
        · exact ⟨.lst .nil [], by simp [FR, Tail.may], by simp only [Ty2, hu]; exact ⟨.nil, [], rfl, by simp, .inr ⟨rfl, rfl⟩⟩⟩
        · rename_i e' a len cap e1
          cases e1
          split at h
          · rename_i hc
            obtain ⟨_, hlc, _⟩ := hc
            rw [Option.bind_eq_some_iff] at h
            obtain ⟨xs, hx, hr⟩ := h
            simp only [if_true, Option.map_eq_some_iff] at hr
            obtain ⟨rs, hr, _⟩ := hr
            by_cases h0 : cap = 0
            · subst h0
              obtain rfl : len = 0 := by omega
              exact ⟨.lst .view [], by simp [FR, Tail.may], by simp only [Ty2, hu]; exact ⟨.view, [], rfl, by simp, .inl rfl⟩⟩
            have ha : a.spot = none := by
              rcases Nat.eq_zero_or_pos len with h1 | h1
              · subst h1
                obtain ⟨c, hc⟩ : ∃ c, cap - 0 = c + 1 := ⟨cap - 1, by omega⟩
                rw [hc, List.range_eq_range', List.range'_succ] at hr
                obtain ⟨y, hy⟩ := V1e hr
                simp only [Option.bind_eq_some_iff] at hy
                obtain ⟨cs', hcs, _⟩ := hy
                exact spot_of hpos hcs (by simp)
              · obtain ⟨c, hc⟩ : ∃ c, len = c + 1 := ⟨len - 1, by omega⟩
                rw [hc, List.range_eq_range', List.range'_succ] at hx
                obtain ⟨y, hy⟩ := V1e hx
                simp only [Option.bind_eq_some_iff] at hy
                obtain ⟨cs', hcs, _⟩ := hy
                exact spot_of hpos hcs (by simp)
            rw [List.range_eq_range'] at hx
            obtain ⟨l, es, h1, h2, h3, h4, h5, h6⟩ := K09 (fun cs x => read2 n e fuel cs x hs) rfl ha len 0 xs hx
            subst h2
            refine ⟨.lst .view l, ?_, by simp only [Ty2, hu]; exact ⟨.view, l, rfl, h3, .inl rfl⟩⟩
            simp only [FR]
            refine .inr ⟨a.block, a.off, cap, P.cellsOf e, es, ?_, hlc, h1, by simpa using h4, h6, trivial⟩
            cases a; simp only at ha; subst ha; rfl
          · cases h
      | struct fs =>
        simp only [Bool.and_eq_true] at hs
        unfold DataW.trod at h
        rw [hu] at h
        simp only at h
        split at h
        · rename_i hlen
          simp only [Option.map_eq_some_iff] at h
          obtain ⟨xs, hx, _⟩ := h
          obtain ⟨l, hl, tl⟩ := Y05 (S0 w) (fun t cs x => read2 n t fuel cs x) cs fs.toList 0 _ xs hs.1 hlen hs.2 hx
          exact ⟨.agg l, by simpa [FR] using hl, by simp only [Ty2, hu]; exact ⟨l, rfl, tl⟩⟩
        · cases h
      | array c e =>
        simp only [Bool.and_eq_true, beq_iff_eq] at hs
        unfold DataW.trod at h
        rw [hu] at h
        simp only at h
        split at h
        · rename_i hlen
          simp only [Option.map_eq_some_iff] at h
          obtain ⟨xs, hx, _⟩ := h
          rw [List.range_eq_range'] at hx
          obtain ⟨l, hl, hn, tl⟩ := X1c (S0 w) (fun t cs x => read2 n t fuel cs x) hs.2 cs c 0 xs (by rw [hlen, hs.1]; simp) hx
          exact ⟨.agg l, by simpa [FR] using hl, by simp only [Ty2, hu]; exact ⟨l, rfl, hn, tl⟩⟩
        · cases h
      | _ => simp at hs
theorem V1t {n : Nat} {t : TypeId} {v : Value} {d : DataW H} {ps : List MemPlace} {r : Reach} {b0 : Nat} (hs : sup2 P n t = true) (hv : Value.okWide P w r b0 t v) (h : DataW.Trod enc P w base (fun _ => true) held t v d ps) : ∃ c, VR (S0 w) c v ∧ Ty2 P n t c := by
  obtain ⟨fuel, hf⟩ := h
  obtain ⟨c, hc, ht⟩ := read2 n t fuel _ _ hs hf
  refine ⟨c, ⟨hc, ?_⟩, ht⟩
  cases n with
  | zero => simp [sup2] at hs
  | succ n =>
    simp only [sup2] at hs
    simp only [Ty2] at ht
    unfold Value.okWide at hv
    cases hu : P.underlying t with
    | none => rw [hu] at hs; simp at hs
    | some u =>
      rw [hu] at hs ht hv
      cases u with
      | int k => obtain ⟨i, rfl, _⟩ := ht; simp only [Cell.okWide, Cell.ok, hu] at hv; cases v <;> simp_all [CV.isAgg]
      | bool => obtain ⟨i, rfl⟩ := ht; simp only [Cell.okWide, Cell.ok, hu] at hv; cases v <;> simp_all [CV.isAgg]
      | float k => obtain ⟨i, rfl, _⟩ := ht; simp only [Cell.okWide, Cell.ok, hu] at hv; cases v <;> simp_all [CV.isAgg]
      | string => obtain ⟨i, rfl, _⟩ := ht; simp only [Cell.okWide, Cell.ok, hu] at hv; cases v <;> simp_all [CV.isAgg]
      | slice e => obtain ⟨tl, l, rfl, _⟩ := ht; simp only [Cell.okWide, Cell.ok, hu] at hv; cases v <;> simp_all [CV.isAgg]
      | struct fs => obtain ⟨l, rfl, _⟩ := ht; obtain ⟨cs, rfl, _⟩ := hv; simp [CV.isAgg]
      | array c e => obtain ⟨l, rfl, _⟩ := ht; obtain ⟨cs, rfl, _⟩ := hv; simp [CV.isAgg]
      | _ => simp at hs
end Go.Cl
end
section
namespace Go.Proofs.Ytpchcfkebljopaa
open Go.Cl Go Go.ChangeShapes Go.WideShapes Go.ChangeAt Go.RowKit
set_option maxRecDepth 100000
set_option linter.constructorNameAsVariable false
theorem of_list {α : Type} {f : α → CV} : ∀ {l : List CV}, (∀ x ∈ l, ∃ y, x = f y) → ∃ ys : List α, l = ys.map f
  | [], _ => ⟨[], rfl⟩
  | v :: l, h => by
    obtain ⟨x, rfl⟩ := h v (.head _)
    obtain ⟨xs, rfl⟩ := of_list (l := l) (fun y hy => h y (.tail _ hy))
    exact ⟨x :: xs, rfl⟩
theorem of_slice {α : Type} {f : α → CV} {P : Program} {n : Nat} {t e : TypeId} {v : CV} (hu : P.underlying t = some (.slice e)) (he : ∀ x, Ty2 P n e x → ∃ y : α, x = f y) (h : Ty2 P (n + 1) t v) : ∃ s : Lst α, v = s.cv f ∧ (s.tl = .view ∨ s.tl = .nil) := by
  simp only [Ty2, hu] at h
  obtain ⟨tl, l, rfl, hl, ht⟩ := h
  obtain ⟨ys, rfl⟩ := of_list (fun x hx => he x (hl x hx))
  rcases ht with rfl | ⟨rfl, h0⟩
  · exact ⟨⟨.view, ys, nofun⟩, rfl, .inl rfl⟩
  · exact ⟨⟨.nil, ys, fun _ => by simpa using h0⟩, rfl, .inr rfl⟩
def inI (i : Int) : Prop := -9223372036854775808 ≤ i ∧ i ≤ 9223372036854775807
theorem of_int {P : Program} {n : Nat} {t : TypeId} {v : CV} (hu : P.underlying t = some (.int .i64)) (h : Ty2 P (n + 1) t v) : ∃ i, v = I i ∧ inI i := by
  simp only [Ty2, hu] at h
  obtain ⟨i, rfl, hw⟩ := h
  simp only [Lit.wf, Bool.and_eq_true, decide_eq_true_eq] at hw
  exact ⟨i, rfl, hw⟩
theorem a3 {n : Nat} {v : CV} (h : Ty2 Try.prog (n + 1) 3 v) : ∃ i, v = I i ∧ inI i := of_int Try.underlying3 h
theorem a24 {n : Nat} {v : CV} (h : Ty2 Try.prog (n + 2) 24 v) : ∃ s : Lst Int, v = s.cv I ∧ (s.tl = .view ∨ s.tl = .nil) := of_slice Try.underlying24 (fun _ h => let ⟨i, e, _⟩ := a3 h; ⟨i, e⟩) h
end Go.Proofs.Ytpchcfkebljopaa
end
section
namespace Go.Proofs.Ytpchcfkebljopaa
open Go.Cl Go Go.ChangeShapes Go.WideShapes Go.ChangeAt Go.RowKit
theorem Try.own : ownKnob Try.prog.godebug = none := by kernel_rfl
theorem Try.laidOut : laidOutB Try.prog = true := by kernel_rfl
theorem con_true {f : FuncId} {R : Rel} (h : Con C f R) {args : List CV} {vals : List Value} {w : World} (hR : R args ⟨0, .e⟩ (.ret (Bo true) ⟨0, .e⟩)) (hV : VRs (S0 w) args vals) :
    Calls C.P f vals.toArray w fun e w' => e = .returned (.bool true) ∧ Below w.heap.size w w' := by
  have r0 : XRel w w.heap.size (S0 w) ⟨0, .e⟩ w := ⟨R_init w, rfl, fun i sh v h => by simp [Cl.T.get_e] at h⟩
  have hc := (h.ok _ _ _ hR).2.2 w w.heap.size (S0 w) w vals r0 hV
  refine Calls.mono hc ?_
  rintro e w' ⟨S', x, _, r, hx, rfl⟩
  exact ⟨by rw [(VR_sc.1 hx).1], r.r.below⟩
end Go.Proofs.Ytpchcfkebljopaa
end
section
namespace Go.Proofs.Ytpchcfkebljopaa
open Go.Cl Go Go.RowKit
set_option maxRecDepth 100000
def zn106_1 : ZC := ZC.reg [zv 6 (.assign (.const (.bool false)))]
def zn106_3 : ZC := ZC.reg [zu 7 (zmv 0), zu 8 (zmv 1), zu 9 (.binOp .geq 3 (Tm 7) (Tm 8) 3), zu 10 (zmv 9), zug 11 (zmv 0) 10 true false, zug 12 (zmv 2) 10 true false, zug 13 (.binOp .leq 3 (Tm 11) (Tm 12) 3) 10 true false, zu 14 (.pick (Tm 10) (Tm 13) (.const (.bool false))), zv 6 (zas 14)]
def zn106_2 : ZC := ZC.seq zn106_3 ZC.ret
def zn106_0 : ZC := ZC.seq zn106_1 zn106_2
def zc106 : ZC := zn106_0
theorem zc106_ok : zcode (xfOf Try.f106).code = some zc106 := by kernel_rfl
set_option linter.defProp false in
def zw106 := And.intro (zunf C zc106.eq_1) <| And.intro (zunf C zn106_1.eq_1) <| And.intro (zunf C zn106_3.eq_1) <| And.intro (zunf C zn106_2.eq_1) <| (zunf C zn106_0.eq_1)
theorem rs106 : (xfOf Try.f106).rs = [.tmp 6] := by kernel_rfl
theorem xf106 : XFok C 106 (xfOf Try.f106) := by refine ⟨Try.f106, ?_, ?_, ?_, ?_, ?_, ?_, ?_⟩ <;> kernel_rfl
def zn206_1 : ZC := ZC.reg [zv 6 (.assign (Kn 0))]
def zn206_3 : ZC := ZC.reg [zu 7 (zmv 1), zu 8 (zmv 0), zu 9 (zmv 2), zu 10 (zcb .min [Tm 8, Tm 9] [3, 3]), zu 11 (zcb .max [Tm 7, Tm 10] [3, 3]), zv 6 (zas 11)]
def zn206_2 : ZC := ZC.seq zn206_3 ZC.ret
def zn206_0 : ZC := ZC.seq zn206_1 zn206_2
def zc206 : ZC := zn206_0
theorem zc206_ok : zcode (xfOf Try.f206).code = some zc206 := by kernel_rfl
set_option linter.defProp false in
def zw206 := And.intro (zunf C zc206.eq_1) <| And.intro (zunf C zn206_1.eq_1) <| And.intro (zunf C zn206_3.eq_1) <| And.intro (zunf C zn206_2.eq_1) <| (zunf C zn206_0.eq_1)
theorem rs206 : (xfOf Try.f206).rs = [.tmp 6] := by kernel_rfl
theorem xf206 : XFok C 206 (xfOf Try.f206) := by refine ⟨Try.f206, ?_, ?_, ?_, ?_, ?_, ?_, ?_⟩ <;> kernel_rfl
def zn198_1 : ZC := ZC.reg [zu 4 (.assign (Kn 0)), zv 5 (.assign (Kn 0))]
def zn198_4 : ZC := ZC.reg [zu 7 (zmv 0), zu 8 (zcf 140 [Tm 7, Kn 0, Kn 4095] [3, 3, 3]), zv 6 (zas 8)]
def zn198_6 : ZC := ZC.reg [zu 9 (zmv 6), zu 10 (zmv 0), zv 11 (.binOp .neq 3 (Tm 9) (Tm 10) 3)]
def zn198_9 : ZC := ZC.reg [zu 12 (zmv 6), zu 13 (zmv 1), zu 14 (.unOp .neg 3 (Tm 13)), zu 4 (zas 12), zv 5 (zas 14)]
def zn198_8 : ZC := ZC.seq zn198_9 ZC.ret
def zn198_7 : ZC := ZC.cond (Tm 11) zn198_8 ZC.skip
def zn198_5 : ZC := ZC.seq zn198_6 zn198_7
def zn198_3 : ZC := ZC.seq zn198_4 zn198_5
def zn198_11 : ZC := ZC.reg [zu 15 (zmv 0), zu 16 (zmv 1), zu 4 (zas 15), zv 5 (zas 16)]
def zn198_10 : ZC := ZC.seq zn198_11 ZC.ret
def zn198_2 : ZC := ZC.seq zn198_3 zn198_10
def zn198_0 : ZC := ZC.seq zn198_1 zn198_2
def zc198 : ZC := zn198_0
theorem zc198_ok : zcode (xfOf Try.f198).code = some zc198 := by kernel_rfl
set_option linter.defProp false in
def zw198 := And.intro (zunf C zc198.eq_1) <| And.intro (zunf C zn198_1.eq_1) <| And.intro (zunf C zn198_4.eq_1) <| And.intro (zunf C zn198_6.eq_1) <| And.intro (zunf C zn198_9.eq_1) <| And.intro (zunf C zn198_8.eq_1) <| And.intro (zunf C zn198_7.eq_1) <| And.intro (zunf C zn198_5.eq_1) <| And.intro (zunf C zn198_3.eq_1) <| And.intro (zunf C zn198_11.eq_1) <| And.intro (zunf C zn198_10.eq_1) <| And.intro (zunf C zn198_2.eq_1) <| (zunf C zn198_0.eq_1)
theorem rs198 : (xfOf Try.f198).rs = [.tmp 4, .tmp 5] := by kernel_rfl
theorem xf198 : XFok C 198 (xfOf Try.f198) := by refine ⟨Try.f198, ?_, ?_, ?_, ?_, ?_, ?_, ?_⟩ <;> kernel_rfl
def zn178_1 : ZC := ZC.reg [zu 1 (.box 34 (Tm 0)), zu 2 (.alloc 34), zv 3 (.assign (.const (.bool false)))]
def zn178_4 : ZC := ZC.reg [zu 4 (zld 34 1), zu 5 (zcf 24 [Tm 4] [34]), zu 6 (.unOp .not 4 (Tm 5)), zu 7 (zmv 6), zug 8 (zfa 34 1 0) 7 false false, zug 9 (zld 3 8) 7 false false, zug 10 (.binOp .eql 3 (Tm 9) (Kn 0) 3) 7 false false, zv 11 (.pick (Tm 7) (.const (.bool true)) (Tm 10))]
def zn178_7 : ZC := ZC.reg [⟨some 12, .build 34 ⟨[]⟩, none, false⟩, zu0 (.store 34 (Tm 2) (Tm 12)), zv 3 (.assign (.const (.bool false)))]
def zn178_6 : ZC := ZC.seq zn178_7 ZC.ret
def zn178_5 : ZC := ZC.cond (Tm 11) zn178_6 ZC.skip
def zn178_3 : ZC := ZC.seq zn178_4 zn178_5
def zn178_9 : ZC := ZC.reg [zu 13 (zfa 34 1 6), zu 14 (zld 3 13), zu 15 (.binOp .add 3 (Tm 14) (Kn 1) 3), zu 16 (zcb .min [Tm 15, Kn 600] [3, 3]), zu 17 (zfa 34 1 6), zv0 (.store 3 (Tm 17) (Tm 16))]
def zn178_11 : ZC := ZC.reg [zu 18 (zfa 34 1 2), zu 19 (zld 3 18), zu 20 (zfa 34 1 4), zu 21 (zld 3 20), zu 22 (.binOp .add 3 (Tm 19) (Tm 21) 3), zu 23 (zfa 34 1 3), zu 24 (zld 3 23), zu 25 (zfa 34 1 5), zu 26 (zld 3 25), zu 27 (.binOp .add 3 (Tm 24) (Tm 26) 3), zu 28 (zfa 34 1 2), zu0 (.store 3 (Tm 28) (Tm 22)), zu 29 (zfa 34 1 3), zv0 (.store 3 (Tm 29) (Tm 27))]
def zn178_14 : ZC := ZC.reg [zu 30 (zfa 34 1 0), zu 31 (zld 3 30), zv 32 (.binOp .eql 3 (Tm 31) (Kn 1) 3)]
def zn178_17 : ZC := ZC.reg [zu 34 (zfa 34 1 2), zu 35 (zld 3 34), zu 36 (zfa 34 1 4), zu 37 (zld 3 36), zu 38 (zcf 198 [Tm 35, Tm 37] [3, 3]), zu 33 (zmv 38), zu 39 (.extract (Tm 33) 0), zu 40 (.extract (Tm 33) 1), zu 41 (zfa 34 1 2), zu0 (.store 3 (Tm 41) (Tm 39)), zu 42 (zfa 34 1 4), zv0 (.store 3 (Tm 42) (Tm 40))]
def zn178_19 : ZC := ZC.reg [zu 44 (zfa 34 1 3), zu 45 (zld 3 44), zu 46 (zfa 34 1 5), zu 47 (zld 3 46), zu 48 (zcf 198 [Tm 45, Tm 47] [3, 3]), zu 43 (zmv 48), zu 49 (.extract (Tm 43) 0), zu 50 (.extract (Tm 43) 1), zu 51 (zfa 34 1 3), zu0 (.store 3 (Tm 51) (Tm 49)), zu 52 (zfa 34 1 5), zv0 (.store 3 (Tm 52) (Tm 50))]
def zn178_21 : ZC := ZC.reg [zu 53 (zld 34 1), zu0 (.store 34 (Tm 2) (Tm 53)), zv 3 (.assign (.const (.bool true)))]
def zn178_20 : ZC := ZC.seq zn178_21 ZC.ret
def zn178_18 : ZC := ZC.seq zn178_19 zn178_20
def zn178_16 : ZC := ZC.seq zn178_17 zn178_18
def zn178_15 : ZC := ZC.cond (Tm 32) zn178_16 ZC.skip
def zn178_13 : ZC := ZC.seq zn178_14 zn178_15
def zn178_24 : ZC := ZC.reg [zu 54 (zfa 34 1 6), zu 55 (zld 3 54), zu 56 (.binOp .gtr 3 (Tm 55) (Kn 40) 3), zu 57 (zmv 56), zug 58 (zfa 34 1 2) 57 false false, zug 59 (zld 3 58) 57 false false, zug 60 (zcf 71 [Tm 59, Kn 0, Kn 4095] [3, 3, 3]) 57 false false, zug 61 (.unOp .not 4 (Tm 60)) 57 false false, zu 62 (.pick (Tm 57) (.const (.bool true)) (Tm 61)), zu 63 (zmv 62), zug 64 (zfa 34 1 3) 63 false false, zug 65 (zld 3 64) 63 false false, zug 66 (zcf 71 [Tm 65, Kn 0, Kn 4095] [3, 3, 3]) 63 false false, zug 67 (.unOp .not 4 (Tm 66)) 63 false false, zv 68 (.pick (Tm 63) (.const (.bool true)) (Tm 67))]
def zn178_27 : ZC := ZC.reg [⟨some 69, .build 34 ⟨[]⟩, none, false⟩, zu0 (.store 34 (Tm 2) (Tm 69)), zv 3 (.assign (.const (.bool false)))]
def zn178_26 : ZC := ZC.seq zn178_27 ZC.ret
def zn178_25 : ZC := ZC.cond (Tm 68) zn178_26 ZC.skip
def zn178_23 : ZC := ZC.seq zn178_24 zn178_25
def zn178_29 : ZC := ZC.reg [zu 70 (zld 34 1), zu0 (.store 34 (Tm 2) (Tm 70)), zv 3 (.assign (.const (.bool true)))]
def zn178_28 : ZC := ZC.seq zn178_29 ZC.ret
def zn178_22 : ZC := ZC.seq zn178_23 zn178_28
def zn178_12 : ZC := ZC.seq zn178_13 zn178_22
def zn178_10 : ZC := ZC.seq zn178_11 zn178_12
def zn178_8 : ZC := ZC.seq zn178_9 zn178_10
def zn178_2 : ZC := ZC.seq zn178_3 zn178_8
def zn178_0 : ZC := ZC.seq zn178_1 zn178_2
def zc178 : ZC := zn178_0
theorem zc178_ok : zcode (xfOf Try.f178).code = some zc178 := by kernel_rfl
set_option linter.defProp false in
def zw178 := And.intro (zunf C zc178.eq_1) <| And.intro (zunf C zn178_1.eq_1) <| And.intro (zunf C zn178_4.eq_1) <| And.intro (zunf C zn178_7.eq_1) <| And.intro (zunf C zn178_6.eq_1) <| And.intro (zunf C zn178_5.eq_1) <| And.intro (zunf C zn178_3.eq_1) <| And.intro (zunf C zn178_9.eq_1) <| And.intro (zunf C zn178_11.eq_1) <| And.intro (zunf C zn178_14.eq_1) <| And.intro (zunf C zn178_17.eq_1) <| And.intro (zunf C zn178_19.eq_1) <| And.intro (zunf C zn178_21.eq_1) <| And.intro (zunf C zn178_20.eq_1) <| And.intro (zunf C zn178_18.eq_1) <| And.intro (zunf C zn178_16.eq_1) <| And.intro (zunf C zn178_15.eq_1) <| And.intro (zunf C zn178_13.eq_1) <| And.intro (zunf C zn178_24.eq_1) <| And.intro (zunf C zn178_27.eq_1) <| And.intro (zunf C zn178_26.eq_1) <| And.intro (zunf C zn178_25.eq_1) <| And.intro (zunf C zn178_23.eq_1) <| And.intro (zunf C zn178_29.eq_1) <| And.intro (zunf C zn178_28.eq_1) <| And.intro (zunf C zn178_22.eq_1) <| And.intro (zunf C zn178_12.eq_1) <| And.intro (zunf C zn178_10.eq_1) <| And.intro (zunf C zn178_8.eq_1) <| And.intro (zunf C zn178_2.eq_1) <| (zunf C zn178_0.eq_1)
theorem rs178 : (xfOf Try.f178).rs = [.cell 2 34, .tmp 3] := by kernel_rfl
theorem xf178 : XFok C 178 (xfOf Try.f178) := by refine ⟨Try.f178, ?_, ?_, ?_, ?_, ?_, ?_, ?_⟩ <;> kernel_rfl
def zn199_1 : ZC := ZC.reg [zu 2 (.box 34 (Tm 0)), zu 3 (.box 34 (Tm 1)), zv 4 (.assign (.const (.bool false)))]
def zn199_4 : ZC := ZC.reg [zu 5 (zfa 34 2 0), zu 6 (zld 3 5), zv 7 (.binOp .eql 3 (Tm 6) (Kn 2) 3)]
def zn199_6 : ZC := ZC.reg [zu 8 (zld 34 3), zu 9 (zld 34 2), zu0 (.store 34 (Tm 2) (Tm 8)), zv0 (.store 34 (Tm 3) (Tm 9))]
def zn199_5 : ZC := ZC.cond (Tm 7) zn199_6 ZC.skip
def zn199_3 : ZC := ZC.seq zn199_4 zn199_5
def zn199_8 : ZC := ZC.reg [zu 10 (zld 34 2), zu 11 (zcf 24 [Tm 10] [34]), zu 12 (zmv 11), zug 13 (zld 34 3) 12 true false, zug 14 (zcf 24 [Tm 13] [34]) 12 true false, zu 15 (.pick (Tm 12) (Tm 14) (.const (.bool false))), zu 16 (zmv 15), zug 17 (zfa 34 2 0) 16 true false, zug 18 (zld 3 17) 16 true false, zug 19 (.binOp .eql 3 (Tm 18) (Kn 1) 3) 16 true false, zu 20 (.pick (Tm 16) (Tm 19) (.const (.bool false))), zu 21 (zmv 20), zug 22 (zfa 34 3 0) 21 true false, zug 23 (zld 3 22) 21 true false, zug 24 (.binOp .eql 3 (Tm 23) (Kn 2) 3) 21 true false, zu 25 (.pick (Tm 21) (Tm 24) (.const (.bool false))), zu 26 (zmv 25), zug 27 (zfa 34 2 1) 26 true false, zug 28 (zld 3 27) 26 true false, zug 29 (zfa 34 3 1) 26 true false, zug 30 (zld 3 29) 26 true false, zug 31 (.binOp .neq 3 (Tm 28) (Tm 30) 3) 26 true false, zu 32 (.pick (Tm 26) (Tm 31) (.const (.bool false))), zu 33 (zmv 32), zug 34 (zfa 34 2 2) 33 true false, zug 35 (zld 3 34) 33 true false, zug 36 (zfa 34 3 2) 33 true false, zug 37 (zld 3 36) 33 true false, zug 38 (.binOp .sub 3 (Tm 35) (Tm 37) 3) 33 true false, zug 39 (zcf 71 [Tm 38, Kn (-32), Kn 32] [3, 3, 3]) 33 true false, zu 40 (.pick (Tm 33) (Tm 39) (.const (.bool false))), zu 41 (zmv 40), zug 42 (zfa 34 2 3) 41 true false, zug 43 (zld 3 42) 41 true false, zug 44 (zfa 34 3 3) 41 true false, zug 45 (zld 3 44) 41 true false, zug 46 (.binOp .sub 3 (Tm 43) (Tm 45) 3) 41 true false, zug 47 (zcf 71 [Tm 46, Kn (-32), Kn 32] [3, 3, 3]) 41 true false, zu 48 (.pick (Tm 41) (Tm 47) (.const (.bool false))), zv 4 (zas 48)]
def zn199_7 : ZC := ZC.seq zn199_8 ZC.ret
def zn199_2 : ZC := ZC.seq zn199_3 zn199_7
def zn199_0 : ZC := ZC.seq zn199_1 zn199_2
def zc199 : ZC := zn199_0
theorem zc199_ok : zcode (xfOf Try.f199).code = some zc199 := by kernel_rfl
set_option linter.defProp false in
def zw199 := And.intro (zunf C zc199.eq_1) <| And.intro (zunf C zn199_1.eq_1) <| And.intro (zunf C zn199_4.eq_1) <| And.intro (zunf C zn199_6.eq_1) <| And.intro (zunf C zn199_5.eq_1) <| And.intro (zunf C zn199_3.eq_1) <| And.intro (zunf C zn199_8.eq_1) <| And.intro (zunf C zn199_7.eq_1) <| And.intro (zunf C zn199_2.eq_1) <| (zunf C zn199_0.eq_1)
theorem rs199 : (xfOf Try.f199).rs = [.tmp 4] := by kernel_rfl
theorem xf199 : XFok C 199 (xfOf Try.f199) := by refine ⟨Try.f199, ?_, ?_, ?_, ?_, ?_, ?_, ?_⟩ <;> kernel_rfl
def zn105_1 : ZC := ZC.reg [zu 3 (.box 61 (Tm 0)), zu 5 (.box 34 (Tm 2)), zv 6 (.assign (.const (.bool false)))]
def zn105_5 : ZC := ZC.reg [zu 8 (zld 34 5), zu 9 (zcf 24 [Tm 8] [34]), zu 10 (.unOp .not 4 (Tm 9)), zv 7 (zas 10)]
def zn105_8 : ZC := ZC.reg [zv 6 (.assign (.const (.bool false)))]
def zn105_7 : ZC := ZC.seq zn105_8 ZC.ret
def zn105_10 : ZC := ZC.reg [zu 12 (zmv 1), zu 13 (zfa 61 3 0), zu 14 (zld 3 13), zu 15 (.binOp .lss 3 (Tm 12) (Tm 14) 3), zv 11 (zas 15)]
def zn105_13 : ZC := ZC.reg [zu 16 (zfa 34 5 0), zu 17 (zld 3 16), zu 18 (.binOp .eql 3 (Tm 17) (Kn 1) 3), zu 19 (zmv 18), zug 20 (zfa 34 5 1) 19 true false, zug 21 (zld 3 20) 19 true false, zug 22 (zmv 1) 19 true false, zug 23 (.binOp .eql 3 (Tm 21) (Tm 22) 3) 19 true false, zu 24 (.pick (Tm 19) (Tm 23) (.const (.bool false))), zv 6 (zas 24)]
def zn105_12 : ZC := ZC.seq zn105_13 ZC.ret
def zn105_11 : ZC := ZC.cond (Tm 11) zn105_12 ZC.skip
def zn105_9 : ZC := ZC.seq zn105_10 zn105_11
def zn105_6 : ZC := ZC.cond (Tm 7) zn105_7 zn105_9
def zn105_4 : ZC := ZC.seq zn105_5 zn105_6
def zn105_3 : ZC := ZC.block 0 zn105_4
def zn105_15 : ZC := ZC.reg [zu 25 (zfa 34 5 0), zu 26 (zld 3 25), zu 27 (.binOp .eql 3 (Tm 26) (Kn 0) 3), zu 28 (zmv 27), zug 29 (zfa 34 5 0) 28 false false, zug 30 (zld 3 29) 28 false false, zug 31 (.binOp .eql 3 (Tm 30) (Kn 2) 3) 28 false false, zug 32 (zmv 31) 28 false false, zug 33 (zfa 34 5 1) 32 true false, zug 34 (zld 3 33) 32 true false, zug 35 (zfa 61 3 0) 32 true false, zug 36 (zld 3 35) 32 true false, zug 37 (.binOp .lss 3 (Tm 34) (Tm 36) 3) 32 true false, zug 38 (.pick (Tm 32) (Tm 37) (.const (.bool false))) 28 false false, zu 39 (.pick (Tm 28) (.const (.bool true)) (Tm 38)), zv 6 (zas 39)]
def zn105_14 : ZC := ZC.seq zn105_15 ZC.ret
def zn105_2 : ZC := ZC.seq zn105_3 zn105_14
def zn105_0 : ZC := ZC.seq zn105_1 zn105_2
def zc105 : ZC := zn105_0
theorem zc105_ok : zcode (xfOf Try.f105).code = some zc105 := by kernel_rfl
set_option linter.defProp false in
def zw105 := And.intro (zunf C zc105.eq_1) <| And.intro (zunf C zn105_1.eq_1) <| And.intro (zunf C zn105_5.eq_1) <| And.intro (zunf C zn105_8.eq_1) <| And.intro (zunf C zn105_7.eq_1) <| And.intro (zunf C zn105_10.eq_1) <| And.intro (zunf C zn105_13.eq_1) <| And.intro (zunf C zn105_12.eq_1) <| And.intro (zunf C zn105_11.eq_1) <| And.intro (zunf C zn105_9.eq_1) <| And.intro (zunf C zn105_6.eq_1) <| And.intro (zunf C zn105_4.eq_1) <| And.intro (zunf C zn105_3.eq_1) <| And.intro (zunf C zn105_15.eq_1) <| And.intro (zunf C zn105_14.eq_1) <| And.intro (zunf C zn105_2.eq_1) <| (zunf C zn105_0.eq_1)
theorem rs105 : (xfOf Try.f105).rs = [.tmp 6] := by kernel_rfl
theorem xf105 : XFok C 105 (xfOf Try.f105) := by refine ⟨Try.f105, ?_, ?_, ?_, ?_, ?_, ?_, ?_⟩ <;> kernel_rfl
def zn176_1 : ZC := ZC.reg [zv 2 (.assign (.const (.bool false)))]
def zn176_3 : ZC := ZC.reg [zu 3 (zmv 0), zu 4 (zcf 193 [Tm 3] [59]), zu 5 (zmv 4), zug 6 (zmv 0) 5 false false, zug 7 (zcf 194 [Tm 6, Kn 0] [59, 3]) 5 false false, zu 8 (.pick (Tm 5) (.const (.bool true)) (Tm 7)), zv 2 (zas 8)]
def zn176_2 : ZC := ZC.seq zn176_3 ZC.ret
def zn176_0 : ZC := ZC.seq zn176_1 zn176_2
def zc176 : ZC := zn176_0
theorem zc176_ok : zcode (xfOf Try.f176).code = some zc176 := by kernel_rfl
set_option linter.defProp false in
def zw176 := And.intro (zunf C zc176.eq_1) <| And.intro (zunf C zn176_1.eq_1) <| And.intro (zunf C zn176_3.eq_1) <| And.intro (zunf C zn176_2.eq_1) <| (zunf C zn176_0.eq_1)
theorem rs176 : (xfOf Try.f176).rs = [.tmp 2] := by kernel_rfl
theorem xf176 : XFok C 176 (xfOf Try.f176) := by refine ⟨Try.f176, ?_, ?_, ?_, ?_, ?_, ?_, ?_⟩ <;> kernel_rfl
def zn193_1 : ZC := ZC.reg [zv 2 (.assign (.const (.bool false)))]
def zn193_3 : ZC := ZC.reg [zu 3 (zmv 0), zu 4 (zmv 0), zu 5 (.binOp .neq 59 (Tm 3) (Tm 4) 59), zv 2 (zas 5)]
def zn193_2 : ZC := ZC.seq zn193_3 ZC.ret
def zn193_0 : ZC := ZC.seq zn193_1 zn193_2
def zc193 : ZC := zn193_0
theorem zc193_ok : zcode (xfOf Try.f193).code = some zc193 := by kernel_rfl
set_option linter.defProp false in
def zw193 := And.intro (zunf C zc193.eq_1) <| And.intro (zunf C zn193_1.eq_1) <| And.intro (zunf C zn193_3.eq_1) <| And.intro (zunf C zn193_2.eq_1) <| (zunf C zn193_0.eq_1)
theorem rs193 : (xfOf Try.f193).rs = [.tmp 2] := by kernel_rfl
theorem xf193 : XFok C 193 (xfOf Try.f193) := by refine ⟨Try.f193, ?_, ?_, ?_, ?_, ?_, ?_, ?_⟩ <;> kernel_rfl
def zn194_1 : ZC := ZC.reg [zv 4 (.assign (.const (.bool false)))]
def zn194_4 : ZC := ZC.reg [zu 5 (zmv 1), zv 6 (.binOp .eql 3 (Tm 5) (Kn 0) 3)]
def zn194_6 : ZC := ZC.reg [zu 7 (zmv 0), zu 8 (zcf 205 [Tm 7] [59]), zv 0 (zas 8)]
def zn194_8 : ZC := ZC.reg [zu 9 (zmv 1), zv 10 (.binOp .lss 3 (Tm 9) (Kn 0) 3)]
def zn194_10 : ZC := ZC.reg [zu 11 (zmv 0), zu 12 (.unOp .neg 59 (Tm 11)), zv 0 (zas 12)]
def zn194_9 : ZC := ZC.cond (Tm 10) zn194_10 ZC.skip
def zn194_7 : ZC := ZC.seq zn194_8 zn194_9
def zn194_5 : ZC := ZC.cond (Tm 6) zn194_6 zn194_7
def zn194_3 : ZC := ZC.seq zn194_4 zn194_5
def zn194_12 : ZC := ZC.reg [zu 13 (zmv 0), zu 14 (.binOp .gtr 59 (Tm 13) (.const (.float .f64 9218868437227405311)) 59), zv 4 (zas 14)]
def zn194_11 : ZC := ZC.seq zn194_12 ZC.ret
def zn194_2 : ZC := ZC.seq zn194_3 zn194_11
def zn194_0 : ZC := ZC.seq zn194_1 zn194_2
def zc194 : ZC := zn194_0
theorem zc194_ok : zcode (xfOf Try.f194).code = some zc194 := by kernel_rfl
set_option linter.defProp false in
def zw194 := And.intro (zunf C zc194.eq_1) <| And.intro (zunf C zn194_1.eq_1) <| And.intro (zunf C zn194_4.eq_1) <| And.intro (zunf C zn194_6.eq_1) <| And.intro (zunf C zn194_8.eq_1) <| And.intro (zunf C zn194_10.eq_1) <| And.intro (zunf C zn194_9.eq_1) <| And.intro (zunf C zn194_7.eq_1) <| And.intro (zunf C zn194_5.eq_1) <| And.intro (zunf C zn194_3.eq_1) <| And.intro (zunf C zn194_12.eq_1) <| And.intro (zunf C zn194_11.eq_1) <| And.intro (zunf C zn194_2.eq_1) <| (zunf C zn194_0.eq_1)
theorem rs194 : (xfOf Try.f194).rs = [.tmp 4] := by kernel_rfl
theorem xf194 : XFok C 194 (xfOf Try.f194) := by refine ⟨Try.f194, ?_, ?_, ?_, ?_, ?_, ?_, ?_⟩ <;> kernel_rfl
def zn205_1 : ZC := ZC.reg [zv 2 (.assign (.const (.float .f64 0)))]
def zn205_3 : ZC := ZC.reg [zu 3 (zmv 0), zu 4 (zcf 209 [Tm 3] [59]), zu 5 (.binOp .andNot 25 (Tm 4) (.const (.int .u64 9223372036854775808)) 25), zu 6 (zcf 208 [Tm 5] [25]), zv 2 (zas 6)]
def zn205_2 : ZC := ZC.seq zn205_3 ZC.ret
def zn205_0 : ZC := ZC.seq zn205_1 zn205_2
def zc205 : ZC := zn205_0
theorem zc205_ok : zcode (xfOf Try.f205).code = some zc205 := by kernel_rfl
set_option linter.defProp false in
def zw205 := And.intro (zunf C zc205.eq_1) <| And.intro (zunf C zn205_1.eq_1) <| And.intro (zunf C zn205_3.eq_1) <| And.intro (zunf C zn205_2.eq_1) <| (zunf C zn205_0.eq_1)
theorem rs205 : (xfOf Try.f205).rs = [.tmp 2] := by kernel_rfl
theorem xf205 : XFok C 205 (xfOf Try.f205) := by refine ⟨Try.f205, ?_, ?_, ?_, ?_, ?_, ?_, ?_⟩ <;> kernel_rfl
def zn135_1 : ZC := ZC.reg [zu 4 (.assign (.const (.pointer none))), zv 5 (.assign (Kn 0))]
def zn135_4 : ZC := ZC.reg [zu 6 (zmv 0), zu 7 (zcf 176 [Tm 6] [59]), zu 8 (zmv 7), zug 9 (zmv 1) 8 false false, zug 10 (zcf 176 [Tm 9] [59]) 8 false false, zu 11 (.pick (Tm 8) (.const (.bool true)) (Tm 10)), zu 12 (zmv 11), zug 13 (zmv 0) 12 false false, zug 14 (.binOp .lss 59 (Tm 13) (.const (.float .f64 0)) 59) 12 false false, zu 15 (.pick (Tm 12) (.const (.bool true)) (Tm 14)), zu 16 (zmv 15), zug 17 (zmv 1) 16 false false, zug 18 (.binOp .lss 59 (Tm 17) (.const (.float .f64 4607182418800017408)) 59) 16 false false, zu 19 (.pick (Tm 16) (.const (.bool true)) (Tm 18)), zu 20 (zmv 19), zug 21 (zmv 1) 20 false false, zug 22 (.binOp .gtr 59 (Tm 21) (.const (.float .f64 4652007308841189376)) 59) 20 false false, zv 23 (.pick (Tm 20) (.const (.bool true)) (Tm 22))]
def zn135_7 : ZC := ZC.reg [zu 4 (.assign (.const (.pointer none))), zv 5 (.assign (Kn 1))]
def zn135_6 : ZC := ZC.seq zn135_7 ZC.ret
def zn135_5 : ZC := ZC.cond (Tm 23) zn135_6 ZC.skip
def zn135_3 : ZC := ZC.seq zn135_4 zn135_5
def zn135_9 : ZC := ZC.reg [zu 24 (zmv 0), zu 25 (zmv 1), zu 26 (zmv 1), ⟨some 27, .build 223 ⟨[(0, .tmp 24), (1, .tmp 25), (2, .tmp 26)]⟩, none, false⟩, zu 28 (.box 223 (Tm 27)), zu 4 (zas 28), zv 5 (.assign (Kn 0))]
def zn135_8 : ZC := ZC.seq zn135_9 ZC.ret
def zn135_2 : ZC := ZC.seq zn135_3 zn135_8
def zn135_0 : ZC := ZC.seq zn135_1 zn135_2
def zc135 : ZC := zn135_0
theorem zc135_ok : zcode (xfOf Try.f135).code = some zc135 := by kernel_rfl
set_option linter.defProp false in
def zw135 := And.intro (zunf C zc135.eq_1) <| And.intro (zunf C zn135_1.eq_1) <| And.intro (zunf C zn135_4.eq_1) <| And.intro (zunf C zn135_7.eq_1) <| And.intro (zunf C zn135_6.eq_1) <| And.intro (zunf C zn135_5.eq_1) <| And.intro (zunf C zn135_3.eq_1) <| And.intro (zunf C zn135_9.eq_1) <| And.intro (zunf C zn135_8.eq_1) <| And.intro (zunf C zn135_2.eq_1) <| (zunf C zn135_0.eq_1)
theorem rs135 : (xfOf Try.f135).rs = [.tmp 4, .tmp 5] := by kernel_rfl
theorem xf135 : XFok C 135 (xfOf Try.f135) := by refine ⟨Try.f135, ?_, ?_, ?_, ?_, ?_, ?_, ?_⟩ <;> kernel_rfl
def zn136_1 : ZC := ZC.reg [zu 1 (.box 61 (Tm 0)), zv 2 (.assign (.const (.bool false)))]
def zn136_3 : ZC := ZC.reg [zu 6 (.makeMap 224 none), zv 3 (zas 6)]
def zn136_6 : ZC := ZC.reg [zu 7 (zfa 61 1 9), zu 8 (zld 24 7), zu 9 (zcb .len [Tm 8] [24]), zv 10 (.move (Kn 0))]
def zn136_10 : ZC := ZC.reg [zv 11 (.binOp .lss 3 (Tm 10) (Tm 9) 3)]
def zn136_12 : ZC := ZC.cond (Tm 11) ZC.skip (ZC.exit 0)
def zn136_16 : ZC := ZC.reg [zu 12 (zia 24 8 10), zu 13 (zld 3 12), zv 5 (zas 13)]
def zn136_19 : ZC := ZC.reg [zu 14 (zmv 5), zu 15 (zcf 106 [Tm 14, Kn 0, Kn 2147483646] [3, 3, 3]), zu 16 (.unOp .not 4 (Tm 15)), zu 17 (zmv 16), zug 18 (zmv 3) 17 false false, zug 19 (zmv 5) 17 false false, zug 20 (.lookup 224 (Tm 18) (Tm 19) false) 17 false false, zv 21 (.pick (Tm 17) (.const (.bool true)) (Tm 20))]
def zn136_22 : ZC := ZC.reg [zv 2 (.assign (.const (.bool false)))]
def zn136_21 : ZC := ZC.seq zn136_22 ZC.ret
def zn136_20 : ZC := ZC.cond (Tm 21) zn136_21 ZC.skip
def zn136_18 : ZC := ZC.seq zn136_19 zn136_20
def zn136_23 : ZC := ZC.reg [zu 22 (zmv 3), zu 23 (zmv 5), zv0 (.mapUpdate 224 (Tm 22) (Tm 23) (.const (.bool true)))]
def zn136_17 : ZC := ZC.seq zn136_18 zn136_23
def zn136_15 : ZC := ZC.seq zn136_16 zn136_17
def zn136_14 : ZC := ZC.block 1 zn136_15
def zn136_24 : ZC := ZC.reg [zu 24 (.binOp .add 3 (Tm 10) (Kn 1) 3), zv 10 (zmv 24)]
def zn136_13 : ZC := ZC.seq zn136_14 zn136_24
def zn136_11 : ZC := ZC.seq zn136_12 zn136_13
def zn136_9 : ZC := ZC.seq zn136_10 zn136_11
def zn136_8 : ZC := ZC.loop zn136_9
def zn136_7 : ZC := ZC.block 0 zn136_8
def zn136_5 : ZC := ZC.seq zn136_6 zn136_7
def zn136_26 : ZC := ZC.reg [zu 25 (zfa 61 1 9), zu 26 (zld 24 25), zu 27 (zcb .len [Tm 26] [24]), zu 28 (zfa 61 1 0), zu 29 (zld 3 28), zu 30 (.binOp .eql 3 (Tm 27) (Tm 29) 3), zv 2 (zas 30)]
def zn136_25 : ZC := ZC.seq zn136_26 ZC.ret
def zn136_4 : ZC := ZC.seq zn136_5 zn136_25
def zn136_2 : ZC := ZC.seq zn136_3 zn136_4
def zn136_0 : ZC := ZC.seq zn136_1 zn136_2
def zc136 : ZC := zn136_0
theorem zc136_ok : zcode (xfOf Try.f136).code = some zc136 := by kernel_rfl
set_option linter.defProp false in
def zw136 := And.intro (zunf C zc136.eq_1) <| And.intro (zunf C zn136_1.eq_1) <| And.intro (zunf C zn136_3.eq_1) <| And.intro (zunf C zn136_6.eq_1) <| And.intro (zunf C zn136_10.eq_1) <| And.intro (zunf C zn136_12.eq_1) <| And.intro (zunf C zn136_16.eq_1) <| And.intro (zunf C zn136_19.eq_1) <| And.intro (zunf C zn136_22.eq_1) <| And.intro (zunf C zn136_21.eq_1) <| And.intro (zunf C zn136_20.eq_1) <| And.intro (zunf C zn136_18.eq_1) <| And.intro (zunf C zn136_23.eq_1) <| And.intro (zunf C zn136_17.eq_1) <| And.intro (zunf C zn136_15.eq_1) <| And.intro (zunf C zn136_14.eq_1) <| And.intro (zunf C zn136_24.eq_1) <| And.intro (zunf C zn136_13.eq_1) <| And.intro (zunf C zn136_11.eq_1) <| And.intro (zunf C zn136_9.eq_1) <| And.intro (zunf C zn136_7.eq_1) <| And.intro (zunf C zn136_5.eq_1) <| And.intro (zunf C zn136_26.eq_1) <| And.intro (zunf C zn136_25.eq_1) <| And.intro (zunf C zn136_4.eq_1) <| And.intro (zunf C zn136_2.eq_1) <| (zunf C zn136_0.eq_1)
theorem rs136 : (xfOf Try.f136).rs = [.tmp 2] := by kernel_rfl
theorem xf136 : XFok C 136 (xfOf Try.f136) := by refine ⟨Try.f136, ?_, ?_, ?_, ?_, ?_, ?_, ?_⟩ <;> kernel_rfl
def zn133_1 : ZC := ZC.reg [zv 2 (.assign (.const (.int .u64 0)))]
def zn133_3 : ZC := ZC.reg [zu 3 (zmv 0), zu 4 (.convert 3 25 (Tm 3)), zu 5 (.binOp .mul 25 (Tm 4) (.const (.int .u64 2)) 25), zu 6 (.binOp .add 25 (Tm 5) (.const (.int .u64 1)) 25), zv 2 (zas 6)]
def zn133_2 : ZC := ZC.seq zn133_3 ZC.ret
def zn133_0 : ZC := ZC.seq zn133_1 zn133_2
def zc133 : ZC := zn133_0
theorem zc133_ok : zcode (xfOf Try.f133).code = some zc133 := by kernel_rfl
set_option linter.defProp false in
def zw133 := And.intro (zunf C zc133.eq_1) <| And.intro (zunf C zn133_1.eq_1) <| And.intro (zunf C zn133_3.eq_1) <| And.intro (zunf C zn133_2.eq_1) <| (zunf C zn133_0.eq_1)
theorem rs133 : (xfOf Try.f133).rs = [.tmp 2] := by kernel_rfl
theorem xf133 : XFok C 133 (xfOf Try.f133) := by refine ⟨Try.f133, ?_, ?_, ?_, ?_, ?_, ?_, ?_⟩ <;> kernel_rfl
def zn60_1 : ZC := ZC.reg [zu 1 (.box 61 (Tm 0)), zv 2 (.assign (.const (.bool false)))]
def zn60_3 : ZC := ZC.reg [zu 6 (zfa 61 1 1), zu 7 (zld 3 6), zu 8 (zcf 106 [Tm 7, Kn 1, Kn 8] [3, 3, 3]), zu 9 (zmv 8), zug 10 (zfa 61 1 2) 9 true false, zug 11 (zld 3 10) 9 true false, zug 12 (zcf 106 [Tm 11, Kn 0, Kn 60] [3, 3, 3]) 9 true false, zu 13 (.pick (Tm 9) (Tm 12) (.const (.bool false))), zu 14 (zmv 13), zug 15 (zfa 61 1 3) 14 true false, zug 16 (zld 3 15) 14 true false, zug 17 (zcf 106 [Tm 16, Kn 0, Kn 100] [3, 3, 3]) 14 true false, zu 18 (.pick (Tm 14) (Tm 17) (.const (.bool false))), zu 19 (zmv 18), zug 20 (zfa 61 1 4) 19 true false, zug 21 (zld 3 20) 19 true false, zug 22 (zcf 106 [Tm 21, Kn 1, Kn 600] [3, 3, 3]) 19 true false, zu 23 (.pick (Tm 19) (Tm 22) (.const (.bool false))), zv 3 (zas 23)]
def zn60_5 : ZC := ZC.reg [zu 25 (zfa 61 1 6), zu 26 (zld 59 25), zu 27 (zfa 61 1 7), zu 28 (zld 59 27), zu 29 (zcf 135 [Tm 26, Tm 28] [59, 59]), zu 24 (zmv 29), zu 30 (.extract (Tm 24) 0), zu 31 (.extract (Tm 24) 1), zu 4 (zas 30), zv 5 (zas 31)]
def zn60_7 : ZC := ZC.reg [zu 32 (zfa 61 1 0), zu 33 (zld 3 32), zu 34 (zcf 106 [Tm 33, Kn 1, Kn 8] [3, 3, 3]), zu 35 (zmv 34), zug 36 (zmv 3) 35 true false, zu 37 (.pick (Tm 35) (Tm 36) (.const (.bool false))), zu 38 (zmv 37), zug 39 (zfa 61 1 5) 38 true false, zug 40 (zld 3 39) 38 true false, zug 41 (zcf 106 [Tm 40, Kn 0, Kn 2147483647] [3, 3, 3]) 38 true false, zu 42 (.pick (Tm 38) (Tm 41) (.const (.bool false))), zu 43 (zmv 42), zug 44 (zmv 5) 43 true false, zug 45 (.binOp .eql 69 (Tm 44) (Kn 0) 69) 43 true false, zu 46 (.pick (Tm 43) (Tm 45) (.const (.bool false))), zu 47 (zmv 46), zug 48 (zfa 61 1 8) 47 true false, zug 49 (zld 23 48) 47 true false, zug 50 (zcf 29 [Tm 49] [23]) 47 true false, zu 51 (.pick (Tm 47) (Tm 50) (.const (.bool false))), zu 52 (zmv 51), zug 53 (zld 61 1) 52 true false, zug 54 (zcf 136 [Tm 53] [61]) 52 true false, zu 55 (.pick (Tm 52) (Tm 54) (.const (.bool false))), zv 2 (zas 55)]
def zn60_6 : ZC := ZC.seq zn60_7 ZC.ret
def zn60_4 : ZC := ZC.seq zn60_5 zn60_6
def zn60_2 : ZC := ZC.seq zn60_3 zn60_4
def zn60_0 : ZC := ZC.seq zn60_1 zn60_2
def zc60 : ZC := zn60_0
theorem zc60_ok : zcode (xfOf Try.f60).code = some zc60 := by kernel_rfl
set_option linter.defProp false in
def zw60 := And.intro (zunf C zc60.eq_1) <| And.intro (zunf C zn60_1.eq_1) <| And.intro (zunf C zn60_3.eq_1) <| And.intro (zunf C zn60_5.eq_1) <| And.intro (zunf C zn60_7.eq_1) <| And.intro (zunf C zn60_6.eq_1) <| And.intro (zunf C zn60_4.eq_1) <| And.intro (zunf C zn60_2.eq_1) <| (zunf C zn60_0.eq_1)
theorem rs60 : (xfOf Try.f60).rs = [.tmp 2] := by kernel_rfl
theorem xf60 : XFok C 60 (xfOf Try.f60) := by refine ⟨Try.f60, ?_, ?_, ?_, ?_, ?_, ?_, ?_⟩ <;> kernel_rfl
def zn58_1 : ZC := ZC.reg [zu 1 (.box 61 (Tm 0)), zv 2 (.alloc 66)]
def zn58_4 : ZC := ZC.reg [zu 5 (zld 61 1), zu 6 (zcf 60 [Tm 5] [61]), zv 7 (.unOp .not 4 (Tm 6))]
def zn58_7 : ZC := ZC.reg [⟨some 8, .build 66 ⟨[]⟩, none, false⟩, zv0 (.store 66 (Tm 2) (Tm 8))]
def zn58_6 : ZC := ZC.seq zn58_7 ZC.ret
def zn58_5 : ZC := ZC.cond (Tm 7) zn58_6 ZC.skip
def zn58_3 : ZC := ZC.seq zn58_4 zn58_5
def zn58_9 : ZC := ZC.reg [zu 9 (zfa 61 1 5), zu 10 (zld 3 9), zu 11 (zcf 133 [Tm 10] [3]), ⟨some 12, .build 66 ⟨[(1, .tmp 11)]⟩, none, false⟩, zu 3 (.alloc 66), zv0 (.store 66 (Tm 3) (Tm 12))]
def zn58_12 : ZC := ZC.reg [zu 13 (zfa 61 1 0), zu 14 (zld 3 13), zv 15 (.move (Kn 0))]
def zn58_16 : ZC := ZC.reg [zv 16 (.binOp .lss 3 (Tm 15) (Tm 14) 3)]
def zn58_18 : ZC := ZC.cond (Tm 16) ZC.skip (ZC.exit 0)
def zn58_22 : ZC := ZC.reg [zu 17 (zmv 15), zv 4 (zas 17)]
def zn58_23 : ZC := ZC.reg [zu 18 (zmv 4), zu 19 (zmv 4), zu 20 (zfa 61 1 0), zu 21 (zld 3 20), zu 22 (zcf 64 [Tm 19, Tm 21] [3, 3]), zu 23 (zfa 66 3 2), zu 24 (zia 63 23 18), zv0 (.store 34 (Tm 24) (Tm 22))]
def zn58_21 : ZC := ZC.seq zn58_22 zn58_23
def zn58_20 : ZC := ZC.block 1 zn58_21
def zn58_24 : ZC := ZC.reg [zu 25 (.binOp .add 3 (Tm 15) (Kn 1) 3), zv 15 (zmv 25)]
def zn58_19 : ZC := ZC.seq zn58_20 zn58_24
def zn58_17 : ZC := ZC.seq zn58_18 zn58_19
def zn58_15 : ZC := ZC.seq zn58_16 zn58_17
def zn58_14 : ZC := ZC.loop zn58_15
def zn58_13 : ZC := ZC.block 0 zn58_14
def zn58_11 : ZC := ZC.seq zn58_12 zn58_13
def zn58_26 : ZC := ZC.reg [zu 26 (zld 66 3), zv0 (.store 66 (Tm 2) (Tm 26))]
def zn58_25 : ZC := ZC.seq zn58_26 ZC.ret
def zn58_10 : ZC := ZC.seq zn58_11 zn58_25
def zn58_8 : ZC := ZC.seq zn58_9 zn58_10
def zn58_2 : ZC := ZC.seq zn58_3 zn58_8
def zn58_0 : ZC := ZC.seq zn58_1 zn58_2
def zc58 : ZC := zn58_0
theorem zc58_ok : zcode (xfOf Try.f58).code = some zc58 := by kernel_rfl
set_option linter.defProp false in
def zw58 := And.intro (zunf C zc58.eq_1) <| And.intro (zunf C zn58_1.eq_1) <| And.intro (zunf C zn58_4.eq_1) <| And.intro (zunf C zn58_7.eq_1) <| And.intro (zunf C zn58_6.eq_1) <| And.intro (zunf C zn58_5.eq_1) <| And.intro (zunf C zn58_3.eq_1) <| And.intro (zunf C zn58_9.eq_1) <| And.intro (zunf C zn58_12.eq_1) <| And.intro (zunf C zn58_16.eq_1) <| And.intro (zunf C zn58_18.eq_1) <| And.intro (zunf C zn58_22.eq_1) <| And.intro (zunf C zn58_23.eq_1) <| And.intro (zunf C zn58_21.eq_1) <| And.intro (zunf C zn58_20.eq_1) <| And.intro (zunf C zn58_24.eq_1) <| And.intro (zunf C zn58_19.eq_1) <| And.intro (zunf C zn58_17.eq_1) <| And.intro (zunf C zn58_15.eq_1) <| And.intro (zunf C zn58_13.eq_1) <| And.intro (zunf C zn58_11.eq_1) <| And.intro (zunf C zn58_26.eq_1) <| And.intro (zunf C zn58_25.eq_1) <| And.intro (zunf C zn58_10.eq_1) <| And.intro (zunf C zn58_8.eq_1) <| And.intro (zunf C zn58_2.eq_1) <| (zunf C zn58_0.eq_1)
theorem rs58 : (xfOf Try.f58).rs = [.cell 2 66] := by kernel_rfl
theorem xf58 : XFok C 58 (xfOf Try.f58) := by refine ⟨Try.f58, ?_, ?_, ?_, ?_, ?_, ?_, ?_⟩ <;> kernel_rfl
def zn44_1 : ZC := ZC.reg [zu 2 (.box 61 (Tm 0)), zu 3 (.box 66 (Tm 1)), zv 4 (.assign (.const (.bool false)))]
def zn44_4 : ZC := ZC.reg [zu 9 (zfa 66 3 2), zu 10 (zld 63 9), zv 11 (.move (Kn 0))]
def zn44_8 : ZC := ZC.reg [zv 12 (.binOp .lss 3 (Tm 11) (Kn 16) 3)]
def zn44_10 : ZC := ZC.cond (Tm 12) ZC.skip (ZC.exit 0)
def zn44_14 : ZC := ZC.reg [zu 13 (zmv 11), zu 14 (.index 63 (Tm 10) (Tm 11)), zu 6 (.alloc 34), zu 5 (zas 13), zv0 (.store 34 (Tm 6) (Tm 14))]
def zn44_16 : ZC := ZC.reg [zu 15 (zld 61 2), zu 16 (zmv 5), zu 17 (zld 34 6), zu 18 (zcf 105 [Tm 15, Tm 16, Tm 17] [61, 3, 34]), zv 19 (.unOp .not 4 (Tm 18))]
def zn44_19 : ZC := ZC.reg [zv 4 (.assign (.const (.bool false)))]
def zn44_18 : ZC := ZC.seq zn44_19 ZC.ret
def zn44_17 : ZC := ZC.cond (Tm 19) zn44_18 ZC.skip
def zn44_15 : ZC := ZC.seq zn44_16 zn44_17
def zn44_13 : ZC := ZC.seq zn44_14 zn44_15
def zn44_12 : ZC := ZC.block 1 zn44_13
def zn44_20 : ZC := ZC.reg [zu 20 (.binOp .add 3 (Tm 11) (Kn 1) 3), zv 11 (zmv 20)]
def zn44_11 : ZC := ZC.seq zn44_12 zn44_20
def zn44_9 : ZC := ZC.seq zn44_10 zn44_11
def zn44_7 : ZC := ZC.seq zn44_8 zn44_9
def zn44_6 : ZC := ZC.loop zn44_7
def zn44_5 : ZC := ZC.block 0 zn44_6
def zn44_3 : ZC := ZC.seq zn44_4 zn44_5
def zn44_23 : ZC := ZC.reg [zu 21 (zfa 66 3 3), zu 22 (zld 64 21), zv 23 (.move (Kn 0))]
def zn44_27 : ZC := ZC.reg [zv 24 (.binOp .lss 3 (Tm 23) (Kn 8) 3)]
def zn44_29 : ZC := ZC.cond (Tm 24) ZC.skip (ZC.exit 2)
def zn44_33 : ZC := ZC.reg [zu 25 (zmv 23), zu 26 (.index 64 (Tm 22) (Tm 23)), zu 7 (zas 25), zv 8 (zas 26)]
def zn44_35 : ZC := ZC.reg [zu 27 (zmv 8), zu 28 (zcf 106 [Tm 27, Kn 0, Kn 2147483647] [3, 3, 3]), zu 29 (.unOp .not 4 (Tm 28)), zu 30 (zmv 29), zug 31 (zmv 7) 30 false false, zug 32 (zfa 61 2 0) 30 false false, zug 33 (zld 3 32) 30 false false, zug 34 (.binOp .geq 3 (Tm 31) (Tm 33) 3) 30 false false, zug 35 (zmv 34) 30 false false, zug 36 (zmv 8) 35 true false, zug 37 (.binOp .neq 3 (Tm 36) (Kn 0) 3) 35 true false, zug 38 (.pick (Tm 35) (Tm 37) (.const (.bool false))) 30 false false, zv 39 (.pick (Tm 30) (.const (.bool true)) (Tm 38))]
def zn44_38 : ZC := ZC.reg [zv 4 (.assign (.const (.bool false)))]
def zn44_37 : ZC := ZC.seq zn44_38 ZC.ret
def zn44_36 : ZC := ZC.cond (Tm 39) zn44_37 ZC.skip
def zn44_34 : ZC := ZC.seq zn44_35 zn44_36
def zn44_32 : ZC := ZC.seq zn44_33 zn44_34
def zn44_31 : ZC := ZC.block 3 zn44_32
def zn44_39 : ZC := ZC.reg [zu 40 (.binOp .add 3 (Tm 23) (Kn 1) 3), zv 23 (zmv 40)]
def zn44_30 : ZC := ZC.seq zn44_31 zn44_39
def zn44_28 : ZC := ZC.seq zn44_29 zn44_30
def zn44_26 : ZC := ZC.seq zn44_27 zn44_28
def zn44_25 : ZC := ZC.loop zn44_26
def zn44_24 : ZC := ZC.block 2 zn44_25
def zn44_22 : ZC := ZC.seq zn44_23 zn44_24
def zn44_41 : ZC := ZC.reg [zu 41 (zld 61 2), zu 42 (zcf 60 [Tm 41] [61]), zu 43 (zmv 42), zug 44 (zfa 66 3 0) 43 true false, zug 45 (zld 3 44) 43 true false, zug 46 (zcf 106 [Tm 45, Kn 0, Kn 600] [3, 3, 3]) 43 true false, zu 47 (.pick (Tm 43) (Tm 46) (.const (.bool false))), zv 4 (zas 47)]
def zn44_40 : ZC := ZC.seq zn44_41 ZC.ret
def zn44_21 : ZC := ZC.seq zn44_22 zn44_40
def zn44_2 : ZC := ZC.seq zn44_3 zn44_21
def zn44_0 : ZC := ZC.seq zn44_1 zn44_2
def zc44 : ZC := zn44_0
theorem zc44_ok : zcode (xfOf Try.f44).code = some zc44 := by kernel_rfl
set_option linter.defProp false in
def zw44 := And.intro (zunf C zc44.eq_1) <| And.intro (zunf C zn44_1.eq_1) <| And.intro (zunf C zn44_4.eq_1) <| And.intro (zunf C zn44_8.eq_1) <| And.intro (zunf C zn44_10.eq_1) <| And.intro (zunf C zn44_14.eq_1) <| And.intro (zunf C zn44_16.eq_1) <| And.intro (zunf C zn44_19.eq_1) <| And.intro (zunf C zn44_18.eq_1) <| And.intro (zunf C zn44_17.eq_1) <| And.intro (zunf C zn44_15.eq_1) <| And.intro (zunf C zn44_13.eq_1) <| And.intro (zunf C zn44_12.eq_1) <| And.intro (zunf C zn44_20.eq_1) <| And.intro (zunf C zn44_11.eq_1) <| And.intro (zunf C zn44_9.eq_1) <| And.intro (zunf C zn44_7.eq_1) <| And.intro (zunf C zn44_5.eq_1) <| And.intro (zunf C zn44_3.eq_1) <| And.intro (zunf C zn44_23.eq_1) <| And.intro (zunf C zn44_27.eq_1) <| And.intro (zunf C zn44_29.eq_1) <| And.intro (zunf C zn44_33.eq_1) <| And.intro (zunf C zn44_35.eq_1) <| And.intro (zunf C zn44_38.eq_1) <| And.intro (zunf C zn44_37.eq_1) <| And.intro (zunf C zn44_36.eq_1) <| And.intro (zunf C zn44_34.eq_1) <| And.intro (zunf C zn44_32.eq_1) <| And.intro (zunf C zn44_31.eq_1) <| And.intro (zunf C zn44_39.eq_1) <| And.intro (zunf C zn44_30.eq_1) <| And.intro (zunf C zn44_28.eq_1) <| And.intro (zunf C zn44_26.eq_1) <| And.intro (zunf C zn44_24.eq_1) <| And.intro (zunf C zn44_22.eq_1) <| And.intro (zunf C zn44_41.eq_1) <| And.intro (zunf C zn44_40.eq_1) <| And.intro (zunf C zn44_21.eq_1) <| And.intro (zunf C zn44_2.eq_1) <| (zunf C zn44_0.eq_1)
theorem rs44 : (xfOf Try.f44).rs = [.tmp 4] := by kernel_rfl
theorem xf44 : XFok C 44 (xfOf Try.f44) := by refine ⟨Try.f44, ?_, ?_, ?_, ?_, ?_, ?_, ?_⟩ <;> kernel_rfl
def zn195_1 : ZC := ZC.reg [zv 4 (.alloc 36)]
def zn195_4 : ZC := ZC.reg [zu 6 (zmv 1), zu 7 (zmv 0), zu 8 (.nilCheck (Tm 7)), zu 9 (zfa 186 8 2), zu 10 (zld 108 9), zu 11 (zcb .len [Tm 10] [108]), zv 12 (.binOp .geq 3 (Tm 6) (Tm 11) 3)]
def zn195_7 : ZC := ZC.reg [⟨some 13, .build 36 ⟨[]⟩, none, false⟩, zv0 (.store 36 (Tm 4) (Tm 13))]
def zn195_6 : ZC := ZC.seq zn195_7 ZC.ret
def zn195_5 : ZC := ZC.cond (Tm 12) zn195_6 ZC.skip
def zn195_3 : ZC := ZC.seq zn195_4 zn195_5
def zn195_9 : ZC := ZC.reg [zu 14 (zmv 0), zu 15 (.nilCheck (Tm 14)), zu 16 (zfa 186 15 2), zu 17 (zld 108 16), zu 18 (zmv 1), zu 19 (zia 108 17 18), zu 20 (zfa 110 19 1), zu 21 (zld 36 20), zu 5 (.alloc 36), zv0 (.store 36 (Tm 5) (Tm 21))]
def zn195_11 : ZC := ZC.draw 11 [] [zdd 0 22 (zfa 36 5 0) false [] [] false, zdd 1 23 (zld 3 22) false [] [] false, zdd 2 24 (zcf 206 [Tm 23, Kn 0, Kn 255] [3, 3, 3]) false [] [] true, zdd 3 25 (zfa 36 5 1) false [2] [] false, zdd 4 26 (zld 3 25) false [2] [] false, zdd 5 27 (zcf 206 [Tm 26, Kn (-64), Kn 64] [3, 3, 3]) false [] [] true, zdd 6 28 (zfa 36 5 2) true [2, 5] [] false, zdd 7 29 (zld 3 28) true [2, 5] [] false, zdd 8 30 (zcf 206 [Tm 29, Kn (-64), Kn 64] [3, 3, 3]) true [] [] false, ⟨9, some 31, .build 36 ⟨[(0, .tmp 24), (1, .tmp 27), (2, .tmp 30)]⟩, none, true, [], [], false⟩, zd0 10 (.store 36 (Tm 4) (Tm 31)) true [] [] false]
def zn195_10 : ZC := ZC.seq zn195_11 ZC.ret
def zn195_8 : ZC := ZC.seq zn195_9 zn195_10
def zn195_2 : ZC := ZC.seq zn195_3 zn195_8
def zn195_0 : ZC := ZC.seq zn195_1 zn195_2
def zc195 : ZC := zn195_0
theorem zc195_ok : zcode (xfOf Try.f195).code = some zc195 := by kernel_rfl
set_option linter.defProp false in
def zw195 := And.intro (zunf C zc195.eq_1) <| And.intro (zunf C zn195_1.eq_1) <| And.intro (zunf C zn195_4.eq_1) <| And.intro (zunf C zn195_7.eq_1) <| And.intro (zunf C zn195_6.eq_1) <| And.intro (zunf C zn195_5.eq_1) <| And.intro (zunf C zn195_3.eq_1) <| And.intro (zunf C zn195_9.eq_1) <| And.intro (zunf C zn195_11.eq_1) <| And.intro (zunf C zn195_10.eq_1) <| And.intro (zunf C zn195_8.eq_1) <| And.intro (zunf C zn195_2.eq_1) <| (zunf C zn195_0.eq_1)
theorem rs195 : (xfOf Try.f195).rs = [.cell 4 36] := by kernel_rfl
theorem xf195 : XFok C 195 (xfOf Try.f195) := by refine ⟨Try.f195, ?_, ?_, ?_, ?_, ?_, ?_, ?_⟩ <;> kernel_rfl
def zn197_1 : ZC := ZC.reg [zv 2 (.assign (Kn 0))]
def zn197_3 : ZC := ZC.reg [zv 3 (.assign (Kn 0))]
def zn197_6 : ZC := ZC.reg [zu 6 (zmv 0), zu 7 (.nilCheck (Tm 6)), zu 8 (zfa 186 7 1), zu 9 (zfa 66 8 2), zu 10 (zld 63 9), zv 11 (.move (Kn 0))]
def zn197_10 : ZC := ZC.reg [zv 12 (.binOp .lss 3 (Tm 11) (Kn 16) 3)]
def zn197_12 : ZC := ZC.cond (Tm 12) ZC.skip (ZC.exit 0)
def zn197_16 : ZC := ZC.reg [zu 13 (.index 63 (Tm 10) (Tm 11)), zu 5 (.alloc 34), zv0 (.store 34 (Tm 5) (Tm 13))]
def zn197_18 : ZC := ZC.reg [zu 14 (zfa 34 5 0), zu 15 (zld 3 14), zv 16 (.binOp .eql 3 (Tm 15) (Kn 0) 3)]
def zn197_20 : ZC := ZC.reg [zu 17 (zmv 3), zu 18 (.binOp .add 3 (Tm 17) (Kn 1) 3), zv 3 (zas 18)]
def zn197_19 : ZC := ZC.cond (Tm 16) zn197_20 ZC.skip
def zn197_17 : ZC := ZC.seq zn197_18 zn197_19
def zn197_15 : ZC := ZC.seq zn197_16 zn197_17
def zn197_14 : ZC := ZC.block 1 zn197_15
def zn197_21 : ZC := ZC.reg [zu 19 (.binOp .add 3 (Tm 11) (Kn 1) 3), zv 11 (zmv 19)]
def zn197_13 : ZC := ZC.seq zn197_14 zn197_21
def zn197_11 : ZC := ZC.seq zn197_12 zn197_13
def zn197_9 : ZC := ZC.seq zn197_10 zn197_11
def zn197_8 : ZC := ZC.loop zn197_9
def zn197_7 : ZC := ZC.block 0 zn197_8
def zn197_5 : ZC := ZC.seq zn197_6 zn197_7
def zn197_23 : ZC := ZC.reg [zu 20 (zmv 3), zu 21 (zmv 0), zu 22 (.nilCheck (Tm 21)), zu 23 (zfa 186 22 3), zu 24 (zld 37 23), zu 25 (zcb .len [Tm 24] [37]), zu 26 (.binOp .sub 3 (Tm 20) (Tm 25) 3), zv 2 (zas 26)]
def zn197_22 : ZC := ZC.seq zn197_23 ZC.ret
def zn197_4 : ZC := ZC.seq zn197_5 zn197_22
def zn197_2 : ZC := ZC.seq zn197_3 zn197_4
def zn197_0 : ZC := ZC.seq zn197_1 zn197_2
def zc197 : ZC := zn197_0
theorem zc197_ok : zcode (xfOf Try.f197).code = some zc197 := by kernel_rfl
set_option linter.defProp false in
def zw197 := And.intro (zunf C zc197.eq_1) <| And.intro (zunf C zn197_1.eq_1) <| And.intro (zunf C zn197_3.eq_1) <| And.intro (zunf C zn197_6.eq_1) <| And.intro (zunf C zn197_10.eq_1) <| And.intro (zunf C zn197_12.eq_1) <| And.intro (zunf C zn197_16.eq_1) <| And.intro (zunf C zn197_18.eq_1) <| And.intro (zunf C zn197_20.eq_1) <| And.intro (zunf C zn197_19.eq_1) <| And.intro (zunf C zn197_17.eq_1) <| And.intro (zunf C zn197_15.eq_1) <| And.intro (zunf C zn197_14.eq_1) <| And.intro (zunf C zn197_21.eq_1) <| And.intro (zunf C zn197_13.eq_1) <| And.intro (zunf C zn197_11.eq_1) <| And.intro (zunf C zn197_9.eq_1) <| And.intro (zunf C zn197_7.eq_1) <| And.intro (zunf C zn197_5.eq_1) <| And.intro (zunf C zn197_23.eq_1) <| And.intro (zunf C zn197_22.eq_1) <| And.intro (zunf C zn197_4.eq_1) <| And.intro (zunf C zn197_2.eq_1) <| (zunf C zn197_0.eq_1)
theorem rs197 : (xfOf Try.f197).rs = [.tmp 2] := by kernel_rfl
theorem xf197 : XFok C 197 (xfOf Try.f197) := by refine ⟨Try.f197, ?_, ?_, ?_, ?_, ?_, ?_, ?_⟩ <;> kernel_rfl
def zn177_1 : ZC := ZC.reg [zu 3 (.box 34 (Tm 1)), zv 4 (.alloc 34)]
def zn177_3 : ZC := ZC.reg [zu 9 (zmv 0), zu 10 (zfa 34 3 1), zu 11 (zld 3 10), zu 12 (zcf 195 [Tm 9, Tm 11] [184, 3]), zu 5 (.alloc 36), zv0 (.store 36 (Tm 5) (Tm 12))]
def zn177_5 : ZC := ZC.draw 19 [(17, .alloc 39)] [zdd 0 13 (zld 34 3) false [] [] false, zdd 1 14 (zfa 36 5 1) false [] [] false, zdd 2 15 (zld 3 14) false [] [] false, zdd 3 16 (.binOp .quo 3 (Tm 15) (Kn 16) 3) false [] [] false, zdd 4 17 (zfa 36 5 2) false [] [] false, zdd 5 18 (zld 3 17) false [] [] false, zdd 6 19 (.binOp .quo 3 (Tm 18) (Kn 16) 3) false [] [] false, zdd 7 20 (zcf 196 [Tm 13, Tm 16, Tm 19] [34, 3, 3]) false [] [] true, zdd 8 21 (zld 36 5) false [7] [15] false, zdd 9 22 (zmv 0) false [] [] false, zdd 10 23 (.nilCheck (Tm 22)) false [] [] false, zdd 11 24 (zfa 186 23 1) false [7] [15] false, zdd 12 25 (zfa 66 24 1) false [7] [15] false, zdd 13 26 (zld 25 25) false [7] [15] false, zdd 14 27 (zmv 0) false [] [] false, zdd 15 28 (zcf 197 [Tm 27] [184]) false [] [] true, ⟨16, some 29, .build 39 ⟨[(0, .tmp 20), (1, .tmp 21), (2, .tmp 26), (3, .tmp 28)]⟩, none, false, [], [], false⟩, zdd 17 6 (.alloc 39) true [7, 15] [] false, zd0 18 (.store 39 (Tm 6) (Tm 29)) true [] [] false]
def zn177_7 : ZC := ZC.draw 15 [(11, .alloc 44)] [zdd 0 31 (zmv 0) false [] [] false, zdd 1 32 (.nilCheck (Tm 31)) false [] [] false, zdd 2 33 (zfa 186 32 0) false [] [] false, zdd 3 34 (zfa 61 33 8) false [] [] false, zdd 4 35 (zld 23 34) false [] [] false, zdd 5 36 (zld 39 6) false [] [] false, zdd 6 37 (zcf 25 [Tm 35, Tm 36] [23, 39]) false [] [] true, zdd 7 30 (zmv 37) false [] [] false, zdd 8 38 (.extract (Tm 30) 0) false [] [] false, zdd 9 39 (.extract (Tm 30) 1) false [] [] false, zdd 10 40 (.extract (Tm 30) 2) false [] [] false, zdd 11 7 (.alloc 44) true [6] [] false, zd0 12 (.store 39 (Tm 6) (Tm 38)) true [] [] false, zd0 13 (.store 44 (Tm 7) (Tm 39)) true [] [] false, zdd 14 8 (zas 40) true [] [] false]
def zn177_10 : ZC := ZC.reg [zu 41 (zmv 8), zv 42 (.unOp .not 4 (Tm 41))]
def zn177_13 : ZC := ZC.reg [zu 43 (zfa 34 3 8), zu 44 (zld 3 43), zu 45 (.binOp .add 3 (Tm 44) (Kn 1) 3), zu 46 (zcb .min [Tm 45, Kn 65535] [3, 3]), zu 47 (zfa 34 3 8), zv0 (.store 3 (Tm 47) (Tm 46))]
def zn177_15 : ZC := ZC.reg [zu 48 (zld 34 3), zv0 (.store 34 (Tm 4) (Tm 48))]
def zn177_14 : ZC := ZC.seq zn177_15 ZC.ret
def zn177_12 : ZC := ZC.seq zn177_13 zn177_14
def zn177_11 : ZC := ZC.cond (Tm 42) zn177_12 ZC.skip
def zn177_9 : ZC := ZC.seq zn177_10 zn177_11
def zn177_17 : ZC := ZC.reg [zu 49 (zmv 0), zu 50 (zfa 39 6 2), zu 51 (zld 25 50), zu 52 (.nilCheck (Tm 49)), zu 53 (zfa 186 52 1), zu 54 (zfa 66 53 1), zv0 (.store 25 (Tm 54) (Tm 51))]
def zn177_19 : ZC := ZC.draw 11 [] [zdd 0 55 (zmv 0) false [] [] false, zdd 1 56 (zmv 0) false [] [] false, zdd 2 57 (.nilCheck (Tm 56)) false [] [] false, zdd 3 58 (zfa 186 57 3) false [] [] false, zdd 4 59 (zld 37 58) false [] [] false, zdd 5 60 (zfa 39 6 4) true [] [] false, zdd 6 61 (zld 37 60) true [] [] false, zdd 7 62 (zcb .append [Tm 59, Tm 61] [37, 37]) true [] [] false, zdd 8 63 (.nilCheck (Tm 55)) true [] [] false, zdd 9 64 (zfa 186 63 3) true [] [] false, zd0 10 (.store 37 (Tm 64) (Tm 62)) true [] [] false]
def zn177_21 : ZC := ZC.reg [zu 65 (zfa 39 6 0), zu 66 (zld 34 65), zv0 (.store 34 (Tm 4) (Tm 66))]
def zn177_20 : ZC := ZC.seq zn177_21 ZC.ret
def zn177_18 : ZC := ZC.seq zn177_19 zn177_20
def zn177_16 : ZC := ZC.seq zn177_17 zn177_18
def zn177_8 : ZC := ZC.seq zn177_9 zn177_16
def zn177_6 : ZC := ZC.seq zn177_7 zn177_8
def zn177_4 : ZC := ZC.seq zn177_5 zn177_6
def zn177_2 : ZC := ZC.seq zn177_3 zn177_4
def zn177_0 : ZC := ZC.seq zn177_1 zn177_2
def zc177 : ZC := zn177_0
theorem zc177_ok : zcode (xfOf Try.f177).code = some zc177 := by kernel_rfl
set_option linter.defProp false in
def zw177 := And.intro (zunf C zc177.eq_1) <| And.intro (zunf C zn177_1.eq_1) <| And.intro (zunf C zn177_3.eq_1) <| And.intro (zunf C zn177_5.eq_1) <| And.intro (zunf C zn177_7.eq_1) <| And.intro (zunf C zn177_10.eq_1) <| And.intro (zunf C zn177_13.eq_1) <| And.intro (zunf C zn177_15.eq_1) <| And.intro (zunf C zn177_14.eq_1) <| And.intro (zunf C zn177_12.eq_1) <| And.intro (zunf C zn177_11.eq_1) <| And.intro (zunf C zn177_9.eq_1) <| And.intro (zunf C zn177_17.eq_1) <| And.intro (zunf C zn177_19.eq_1) <| And.intro (zunf C zn177_21.eq_1) <| And.intro (zunf C zn177_20.eq_1) <| And.intro (zunf C zn177_18.eq_1) <| And.intro (zunf C zn177_16.eq_1) <| And.intro (zunf C zn177_8.eq_1) <| And.intro (zunf C zn177_6.eq_1) <| And.intro (zunf C zn177_4.eq_1) <| And.intro (zunf C zn177_2.eq_1) <| (zunf C zn177_0.eq_1)
theorem rs177 : (xfOf Try.f177).rs = [.cell 4 34] := by kernel_rfl
theorem xf177 : XFok C 177 (xfOf Try.f177) := by refine ⟨Try.f177, ?_, ?_, ?_, ?_, ?_, ?_, ?_⟩ <;> kernel_rfl
def zn137_1 : ZC := ZC.reg [zu 4 (zmv 0), zu 5 (.nilCheck (Tm 4)), zu 6 (zfa 186 5 1), zu 7 (zfa 66 6 2), zu 8 (zld 63 7), zv 9 (.move (Kn 0))]
def zn137_5 : ZC := ZC.reg [zv 10 (.binOp .lss 3 (Tm 9) (Kn 16) 3)]
def zn137_7 : ZC := ZC.cond (Tm 10) ZC.skip (ZC.exit 0)
def zn137_11 : ZC := ZC.reg [zu 11 (zmv 9), zu 12 (.index 63 (Tm 8) (Tm 9)), zu 3 (.alloc 34), zu 2 (zas 11), zv0 (.store 34 (Tm 3) (Tm 12))]
def zn137_14 : ZC := ZC.reg [zu 13 (zfa 34 3 0), zu 14 (zld 3 13), zv 15 (.binOp .eql 3 (Tm 14) (Kn 1) 3)]
def zn137_16 : ZC := ZC.reg [zu 16 (zmv 0), zu 17 (zld 34 3), zu 18 (zcf 177 [Tm 16, Tm 17] [184, 34]), zv0 (.store 34 (Tm 3) (Tm 18))]
def zn137_15 : ZC := ZC.cond (Tm 15) zn137_16 ZC.skip
def zn137_13 : ZC := ZC.seq zn137_14 zn137_15
def zn137_17 : ZC := ZC.draw 12 [] [zdd 0 20 (zmv 0) false [] [] false, zdd 1 21 (zmv 2) false [] [] false, zdd 2 22 (zld 34 3) false [] [] false, zdd 3 23 (zcf 178 [Tm 22] [34]) false [] [] true, zdd 4 19 (zmv 23) false [] [] false, zdd 5 24 (.extract (Tm 19) 0) false [] [] false, zdd 6 25 (.extract (Tm 19) 1) false [] [] false, zdd 7 26 (.nilCheck (Tm 20)) true [] [] false, zdd 8 27 (zfa 186 26 1) true [3] [] false, zdd 9 28 (zfa 66 27 2) true [3] [] false, zdd 10 29 (zia 63 28 21) true [] [] false, zd0 11 (.store 34 (Tm 29) (Tm 24)) true [] [] false]
def zn137_12 : ZC := ZC.seq zn137_13 zn137_17
def zn137_10 : ZC := ZC.seq zn137_11 zn137_12
def zn137_9 : ZC := ZC.block 1 zn137_10
def zn137_18 : ZC := ZC.reg [zu 30 (.binOp .add 3 (Tm 9) (Kn 1) 3), zv 9 (zmv 30)]
def zn137_8 : ZC := ZC.seq zn137_9 zn137_18
def zn137_6 : ZC := ZC.seq zn137_7 zn137_8
def zn137_4 : ZC := ZC.seq zn137_5 zn137_6
def zn137_3 : ZC := ZC.loop zn137_4
def zn137_2 : ZC := ZC.block 0 zn137_3
def zn137_0 : ZC := ZC.seq zn137_1 zn137_2
def zc137 : ZC := zn137_0
theorem zc137_ok : zcode (xfOf Try.f137).code = some zc137 := by kernel_rfl
set_option linter.defProp false in
def zw137 := And.intro (zunf C zc137.eq_1) <| And.intro (zunf C zn137_1.eq_1) <| And.intro (zunf C zn137_5.eq_1) <| And.intro (zunf C zn137_7.eq_1) <| And.intro (zunf C zn137_11.eq_1) <| And.intro (zunf C zn137_14.eq_1) <| And.intro (zunf C zn137_16.eq_1) <| And.intro (zunf C zn137_15.eq_1) <| And.intro (zunf C zn137_13.eq_1) <| And.intro (zunf C zn137_17.eq_1) <| And.intro (zunf C zn137_12.eq_1) <| And.intro (zunf C zn137_10.eq_1) <| And.intro (zunf C zn137_9.eq_1) <| And.intro (zunf C zn137_18.eq_1) <| And.intro (zunf C zn137_8.eq_1) <| And.intro (zunf C zn137_6.eq_1) <| And.intro (zunf C zn137_4.eq_1) <| And.intro (zunf C zn137_2.eq_1) <| (zunf C zn137_0.eq_1)
theorem rs137 : (xfOf Try.f137).rs = [] := by kernel_rfl
theorem xf137 : XFok C 137 (xfOf Try.f137) := by refine ⟨Try.f137, ?_, ?_, ?_, ?_, ?_, ?_, ?_⟩ <;> kernel_rfl
def zn138_1 : ZC := ZC.reg [zu 4 (zmv 0), zu 5 (.nilCheck (Tm 4)), zu 6 (zfa 186 5 1), zu 7 (zfa 66 6 2), zu 8 (zld 63 7), zv 9 (.move (Kn 0))]
def zn138_5 : ZC := ZC.reg [zv 10 (.binOp .lss 3 (Tm 9) (Kn 16) 3)]
def zn138_7 : ZC := ZC.cond (Tm 10) ZC.skip (ZC.exit 0)
def zn138_11 : ZC := ZC.reg [zu 11 (zmv 9), zu 12 (.index 63 (Tm 8) (Tm 9)), zu 3 (.alloc 34), zu 2 (zas 11), zv0 (.store 34 (Tm 3) (Tm 12))]
def zn138_13 : ZC := ZC.reg [zu 13 (zfa 34 3 0), zu 14 (zld 3 13), zu 15 (.binOp .eql 3 (Tm 14) (Kn 0) 3), zu 16 (zmv 15), zug 17 (zmv 0) 16 true false, zug 18 (.nilCheck (Tm 17)) 16 true false, zug 19 (zfa 186 18 3) 16 true false, zug 20 (zld 37 19) 16 true false, zug 21 (zcb .len [Tm 20] [37]) 16 true false, zug 22 (.binOp .gtr 3 (Tm 21) (Kn 0) 3) 16 true false, zv 23 (.pick (Tm 16) (Tm 22) (.const (.bool false)))]
def zn138_15 : ZC := ZC.draw 22 [] [zdd 0 24 (zmv 0) false [] [] false, zdd 1 25 (zmv 2) false [] [] false, zdd 2 26 (zmv 0) false [] [] false, zdd 3 27 (zmv 0) false [] [] false, zdd 4 28 (.nilCheck (Tm 27)) false [] [] false, zdd 5 29 (zfa 186 28 3) false [] [] false, zdd 6 30 (zld 37 29) false [] [] false, zdd 7 31 (.indexAddr 37 (Tm 30) (Kn 0)) false [] [] false, zdd 8 32 (zld 34 31) false [] [] false, zdd 9 33 (zmv 0) false [] [] false, zdd 10 34 (.nilCheck (Tm 33)) false [] [] false, zdd 11 35 (zfa 186 34 3) false [] [] false, zdd 12 36 (zld 37 35) false [] [] false, zdd 13 37 (.slice 37 (Tm 36) (some (Kn 1)) none none) false [] [18] false, zdd 14 38 (.nilCheck (Tm 24)) true [] [] false, zdd 15 39 (zfa 186 38 1) true [] [] false, zdd 16 40 (zfa 66 39 2) true [] [] false, zdd 17 41 (zia 63 40 25) true [] [] false, zd0 18 (.store 34 (Tm 41) (Tm 32)) true [] [] false, zdd 19 42 (.nilCheck (Tm 26)) true [] [] false, zdd 20 43 (zfa 186 42 3) true [] [] false, zd0 21 (.store 37 (Tm 43) (Tm 37)) true [] [] false]
def zn138_14 : ZC := ZC.cond (Tm 23) zn138_15 ZC.skip
def zn138_12 : ZC := ZC.seq zn138_13 zn138_14
def zn138_10 : ZC := ZC.seq zn138_11 zn138_12
def zn138_9 : ZC := ZC.block 1 zn138_10
def zn138_16 : ZC := ZC.reg [zu 44 (.binOp .add 3 (Tm 9) (Kn 1) 3), zv 9 (zmv 44)]
def zn138_8 : ZC := ZC.seq zn138_9 zn138_16
def zn138_6 : ZC := ZC.seq zn138_7 zn138_8
def zn138_4 : ZC := ZC.seq zn138_5 zn138_6
def zn138_3 : ZC := ZC.loop zn138_4
def zn138_2 : ZC := ZC.block 0 zn138_3
def zn138_0 : ZC := ZC.seq zn138_1 zn138_2
def zc138 : ZC := zn138_0
theorem zc138_ok : zcode (xfOf Try.f138).code = some zc138 := by kernel_rfl
set_option linter.defProp false in
def zw138 := And.intro (zunf C zc138.eq_1) <| And.intro (zunf C zn138_1.eq_1) <| And.intro (zunf C zn138_5.eq_1) <| And.intro (zunf C zn138_7.eq_1) <| And.intro (zunf C zn138_11.eq_1) <| And.intro (zunf C zn138_13.eq_1) <| And.intro (zunf C zn138_15.eq_1) <| And.intro (zunf C zn138_14.eq_1) <| And.intro (zunf C zn138_12.eq_1) <| And.intro (zunf C zn138_10.eq_1) <| And.intro (zunf C zn138_9.eq_1) <| And.intro (zunf C zn138_16.eq_1) <| And.intro (zunf C zn138_8.eq_1) <| And.intro (zunf C zn138_6.eq_1) <| And.intro (zunf C zn138_4.eq_1) <| And.intro (zunf C zn138_2.eq_1) <| (zunf C zn138_0.eq_1)
theorem rs138 : (xfOf Try.f138).rs = [] := by kernel_rfl
theorem xf138 : XFok C 138 (xfOf Try.f138) := by refine ⟨Try.f138, ?_, ?_, ?_, ?_, ?_, ?_, ?_⟩ <;> kernel_rfl
def zn179_1 : ZC := ZC.reg [zu 3 (.box 34 (Tm 1)), zv 4 (.assign (Kn 0))]
def zn179_4 : ZC := ZC.reg [zu 7 (zmv 0), zu 8 (.nilCheck (Tm 7)), zu 9 (zfa 186 8 1), zu 10 (zfa 66 9 2), zu 11 (zld 63 10), zv 12 (.move (Kn 0))]
def zn179_8 : ZC := ZC.reg [zv 13 (.binOp .lss 3 (Tm 12) (Kn 16) 3)]
def zn179_10 : ZC := ZC.cond (Tm 13) ZC.skip (ZC.exit 0)
def zn179_14 : ZC := ZC.reg [zu 14 (zmv 12), zu 15 (.index 63 (Tm 11) (Tm 12)), zu 6 (.alloc 34), zu 5 (zas 14), zv0 (.store 34 (Tm 6) (Tm 15))]
def zn179_16 : ZC := ZC.reg [zu 16 (zfa 34 6 0), zu 17 (zld 3 16), zu 18 (.binOp .eql 3 (Tm 17) (Kn 1) 3), zu 19 (zmv 18), zug 20 (zld 34 6) 19 true false, zug 21 (zld 34 3) 19 true false, zug 22 (zcf 199 [Tm 20, Tm 21] [34, 34]) 19 true false, zv 23 (.pick (Tm 19) (Tm 22) (.const (.bool false)))]
def zn179_19 : ZC := ZC.reg [zu 24 (zmv 5), zv 4 (zas 24)]
def zn179_18 : ZC := ZC.seq zn179_19 ZC.ret
def zn179_17 : ZC := ZC.cond (Tm 23) zn179_18 ZC.skip
def zn179_15 : ZC := ZC.seq zn179_16 zn179_17
def zn179_13 : ZC := ZC.seq zn179_14 zn179_15
def zn179_12 : ZC := ZC.block 1 zn179_13
def zn179_20 : ZC := ZC.reg [zu 25 (.binOp .add 3 (Tm 12) (Kn 1) 3), zv 12 (zmv 25)]
def zn179_11 : ZC := ZC.seq zn179_12 zn179_20
def zn179_9 : ZC := ZC.seq zn179_10 zn179_11
def zn179_7 : ZC := ZC.seq zn179_8 zn179_9
def zn179_6 : ZC := ZC.loop zn179_7
def zn179_5 : ZC := ZC.block 0 zn179_6
def zn179_3 : ZC := ZC.seq zn179_4 zn179_5
def zn179_22 : ZC := ZC.reg [zv 4 (.assign (Kn (-1)))]
def zn179_21 : ZC := ZC.seq zn179_22 ZC.ret
def zn179_2 : ZC := ZC.seq zn179_3 zn179_21
def zn179_0 : ZC := ZC.seq zn179_1 zn179_2
def zc179 : ZC := zn179_0
theorem zc179_ok : zcode (xfOf Try.f179).code = some zc179 := by kernel_rfl
set_option linter.defProp false in
def zw179 := And.intro (zunf C zc179.eq_1) <| And.intro (zunf C zn179_1.eq_1) <| And.intro (zunf C zn179_4.eq_1) <| And.intro (zunf C zn179_8.eq_1) <| And.intro (zunf C zn179_10.eq_1) <| And.intro (zunf C zn179_14.eq_1) <| And.intro (zunf C zn179_16.eq_1) <| And.intro (zunf C zn179_19.eq_1) <| And.intro (zunf C zn179_18.eq_1) <| And.intro (zunf C zn179_17.eq_1) <| And.intro (zunf C zn179_15.eq_1) <| And.intro (zunf C zn179_13.eq_1) <| And.intro (zunf C zn179_12.eq_1) <| And.intro (zunf C zn179_20.eq_1) <| And.intro (zunf C zn179_11.eq_1) <| And.intro (zunf C zn179_9.eq_1) <| And.intro (zunf C zn179_7.eq_1) <| And.intro (zunf C zn179_5.eq_1) <| And.intro (zunf C zn179_3.eq_1) <| And.intro (zunf C zn179_22.eq_1) <| And.intro (zunf C zn179_21.eq_1) <| And.intro (zunf C zn179_2.eq_1) <| (zunf C zn179_0.eq_1)
theorem rs179 : (xfOf Try.f179).rs = [.tmp 4] := by kernel_rfl
theorem xf179 : XFok C 179 (xfOf Try.f179) := by refine ⟨Try.f179, ?_, ?_, ?_, ?_, ?_, ?_, ?_⟩ <;> kernel_rfl
def zn139_1 : ZC := ZC.reg [zv 6 (.move (Kn 0))]
def zn139_5 : ZC := ZC.reg [zv 7 (.binOp .lss 3 (Tm 6) (Kn 16) 3)]
def zn139_7 : ZC := ZC.cond (Tm 7) ZC.skip (ZC.exit 0)
def zn139_11 : ZC := ZC.reg [zu 8 (zmv 6), zv 2 (zas 8)]
def zn139_13 : ZC := ZC.reg [zu 9 (zmv 0), zu 10 (zmv 2), zu 11 (.nilCheck (Tm 9)), zu 12 (zfa 186 11 1), zu 13 (zfa 66 12 2), zu 14 (zia 63 13 10), zu 15 (zld 34 14), zu 3 (.alloc 34), zv0 (.store 34 (Tm 3) (Tm 15))]
def zn139_16 : ZC := ZC.reg [zu 16 (zfa 34 3 0), zu 17 (zld 3 16), zv 18 (.binOp .neq 3 (Tm 17) (Kn 2) 3)]
def zn139_17 : ZC := ZC.cond (Tm 18) (ZC.exit 1) ZC.skip
def zn139_15 : ZC := ZC.seq zn139_16 zn139_17
def zn139_19 : ZC := ZC.reg [zu 19 (zmv 0), zu 20 (zld 34 3), zu 21 (zcf 179 [Tm 19, Tm 20] [184, 34]), zv 4 (zas 21)]
def zn139_22 : ZC := ZC.reg [zu 22 (zmv 4), zv 23 (.binOp .lss 3 (Tm 22) (Kn 0) 3)]
def zn139_23 : ZC := ZC.cond (Tm 23) (ZC.exit 1) ZC.skip
def zn139_21 : ZC := ZC.seq zn139_22 zn139_23
def zn139_25 : ZC := ZC.draw 18 [] [zdd 0 24 (zmv 0) false [] [] false, zdd 1 25 (zfa 34 3 1) false [] [] false, zdd 2 26 (zld 3 25) false [] [] false, zdd 3 27 (zmv 0) false [] [] false, zdd 4 28 (zfa 34 3 1) false [] [] false, zdd 5 29 (zld 3 28) false [] [] false, zdd 6 30 (.nilCheck (Tm 27)) false [] [] false, zdd 7 31 (zfa 186 30 1) false [] [] false, zdd 8 32 (zfa 66 31 3) false [] [] false, zdd 9 33 (zia 64 32 29) false [] [] false, zdd 10 34 (zld 3 33) false [] [] false, zdd 11 35 (.binOp .add 3 (Tm 34) (Kn 1) 3) false [] [] false, zdd 12 36 (zcb .min [Tm 35, Kn 2147483647] [3, 3]) false [] [] false, zdd 13 37 (.nilCheck (Tm 24)) true [] [] false, zdd 14 38 (zfa 186 37 1) true [] [] false, zdd 15 39 (zfa 66 38 3) true [] [] false, zdd 16 40 (zia 64 39 26) true [] [] false, zd0 17 (.store 3 (Tm 40) (Tm 36)) true [] [] false]
def zn139_27 : ZC := ZC.reg [zu 41 (zmv 0), zu 42 (zmv 2), ⟨some 43, .build 34 ⟨[]⟩, none, false⟩, zu 44 (.nilCheck (Tm 41)), zu 45 (zfa 186 44 1), zu 46 (zfa 66 45 2), zu 47 (zia 63 46 42), zv0 (.store 34 (Tm 47) (Tm 43))]
def zn139_29 : ZC := ZC.draw 16 [(14, .alloc 34)] [zdd 0 48 (zmv 0) false [] [] false, zdd 1 49 (zmv 4) false [] [] false, zdd 2 50 (.nilCheck (Tm 48)) false [] [] false, zdd 3 51 (zfa 186 50 1) false [] [] false, zdd 4 52 (zfa 66 51 2) false [] [] false, zdd 5 53 (zia 63 52 49) false [] [] false, zdd 6 54 (zfa 34 53 1) false [] [] false, zdd 7 55 (zld 3 54) false [] [] false, zdd 8 56 (zmv 0) false [] [] false, zdd 9 57 (.nilCheck (Tm 56)) false [] [] false, zdd 10 58 (zfa 186 57 0) false [] [] false, zdd 11 59 (zfa 61 58 0) false [] [] false, zdd 12 60 (zld 3 59) false [] [] false, zdd 13 61 (zcf 64 [Tm 55, Tm 60] [3, 3]) false [] [] true, zdd 14 5 (.alloc 34) true [13] [] false, zd0 15 (.store 34 (Tm 5) (Tm 61)) true [] [] false]
def zn139_31 : ZC := ZC.reg [zu 62 (zmv 0), zu 63 (zmv 4), zu 64 (.nilCheck (Tm 62)), zu 65 (zfa 186 64 1), zu 66 (zfa 66 65 2), zu 67 (zia 63 66 63), zu 68 (zfa 34 67 8), zu 69 (zld 3 68), zu 70 (zfa 34 5 8), zv0 (.store 3 (Tm 70) (Tm 69))]
def zn139_32 : ZC := ZC.draw 8 [] [zdd 0 71 (zmv 0) false [] [] false, zdd 1 72 (zmv 4) false [] [] false, zdd 2 73 (zld 34 5) false [] [] false, zdd 3 74 (.nilCheck (Tm 71)) true [] [] false, zdd 4 75 (zfa 186 74 1) true [] [] false, zdd 5 76 (zfa 66 75 2) true [] [] false, zdd 6 77 (zia 63 76 72) true [] [] false, zd0 7 (.store 34 (Tm 77) (Tm 73)) true [] [] false]
def zn139_30 : ZC := ZC.seq zn139_31 zn139_32
def zn139_28 : ZC := ZC.seq zn139_29 zn139_30
def zn139_26 : ZC := ZC.seq zn139_27 zn139_28
def zn139_24 : ZC := ZC.seq zn139_25 zn139_26
def zn139_20 : ZC := ZC.seq zn139_21 zn139_24
def zn139_18 : ZC := ZC.seq zn139_19 zn139_20
def zn139_14 : ZC := ZC.seq zn139_15 zn139_18
def zn139_12 : ZC := ZC.seq zn139_13 zn139_14
def zn139_10 : ZC := ZC.seq zn139_11 zn139_12
def zn139_9 : ZC := ZC.block 1 zn139_10
def zn139_33 : ZC := ZC.reg [zu 78 (.binOp .add 3 (Tm 6) (Kn 1) 3), zv 6 (zmv 78)]
def zn139_8 : ZC := ZC.seq zn139_9 zn139_33
def zn139_6 : ZC := ZC.seq zn139_7 zn139_8
def zn139_4 : ZC := ZC.seq zn139_5 zn139_6
def zn139_3 : ZC := ZC.loop zn139_4
def zn139_2 : ZC := ZC.block 0 zn139_3
def zn139_0 : ZC := ZC.seq zn139_1 zn139_2
def zc139 : ZC := zn139_0
theorem zc139_ok : zcode (xfOf Try.f139).code = some zc139 := by kernel_rfl
set_option linter.defProp false in
def zw139 := And.intro (zunf C zc139.eq_1) <| And.intro (zunf C zn139_1.eq_1) <| And.intro (zunf C zn139_5.eq_1) <| And.intro (zunf C zn139_7.eq_1) <| And.intro (zunf C zn139_11.eq_1) <| And.intro (zunf C zn139_13.eq_1) <| And.intro (zunf C zn139_16.eq_1) <| And.intro (zunf C zn139_17.eq_1) <| And.intro (zunf C zn139_15.eq_1) <| And.intro (zunf C zn139_19.eq_1) <| And.intro (zunf C zn139_22.eq_1) <| And.intro (zunf C zn139_23.eq_1) <| And.intro (zunf C zn139_21.eq_1) <| And.intro (zunf C zn139_25.eq_1) <| And.intro (zunf C zn139_27.eq_1) <| And.intro (zunf C zn139_29.eq_1) <| And.intro (zunf C zn139_31.eq_1) <| And.intro (zunf C zn139_32.eq_1) <| And.intro (zunf C zn139_30.eq_1) <| And.intro (zunf C zn139_28.eq_1) <| And.intro (zunf C zn139_26.eq_1) <| And.intro (zunf C zn139_24.eq_1) <| And.intro (zunf C zn139_20.eq_1) <| And.intro (zunf C zn139_18.eq_1) <| And.intro (zunf C zn139_14.eq_1) <| And.intro (zunf C zn139_12.eq_1) <| And.intro (zunf C zn139_10.eq_1) <| And.intro (zunf C zn139_9.eq_1) <| And.intro (zunf C zn139_33.eq_1) <| And.intro (zunf C zn139_8.eq_1) <| And.intro (zunf C zn139_6.eq_1) <| And.intro (zunf C zn139_4.eq_1) <| And.intro (zunf C zn139_2.eq_1) <| (zunf C zn139_0.eq_1)
theorem rs139 : (xfOf Try.f139).rs = [] := by kernel_rfl
theorem xf139 : XFok C 139 (xfOf Try.f139) := by refine ⟨Try.f139, ?_, ?_, ?_, ?_, ?_, ?_, ?_⟩ <;> kernel_rfl
def zn62_1 : ZC := ZC.reg [zu 3 (.box 61 (Tm 0)), zu 4 (.box 66 (Tm 1)), zv 6 (.alloc 66)]
def zn62_4 : ZC := ZC.reg [zu 8 (zld 61 3), zu 9 (zld 66 4), zu 10 (zcf 44 [Tm 8, Tm 9] [61, 66]), zv 11 (.unOp .not 4 (Tm 10))]
def zn62_7 : ZC := ZC.reg [⟨some 12, .build 66 ⟨[]⟩, none, false⟩, zv0 (.store 66 (Tm 6) (Tm 12))]
def zn62_6 : ZC := ZC.seq zn62_7 ZC.ret
def zn62_5 : ZC := ZC.cond (Tm 11) zn62_6 ZC.skip
def zn62_3 : ZC := ZC.seq zn62_4 zn62_5
def zn62_9 : ZC := ZC.reg [zu 13 (zld 61 3), zu 14 (zld 66 4), zu 15 (zmv 2), ⟨some 16, .build 186 ⟨[(0, .tmp 13), (1, .tmp 14), (2, .tmp 15)]⟩, none, false⟩, zu 17 (.box 186 (Tm 16)), zv 7 (zas 17)]
def zn62_11 : ZC := ZC.reg [zu 18 (zmv 7), zv 19 (zcf 137 [Tm 18] [184])]
def zn62_13 : ZC := ZC.reg [zu 20 (zmv 7), zv 21 (zcf 138 [Tm 20] [184])]
def zn62_15 : ZC := ZC.reg [zu 22 (zmv 7), zv 23 (zcf 139 [Tm 22] [184])]
def zn62_17 : ZC := ZC.reg [zu 24 (zmv 7), zu 25 (zmv 7), zu 26 (.nilCheck (Tm 25)), zu 27 (zfa 186 26 1), zu 28 (zfa 66 27 0), zu 29 (zld 3 28), zu 30 (.binOp .add 3 (Tm 29) (Kn 1) 3), zu 31 (zcb .min [Tm 30, Kn 600] [3, 3]), zu 32 (.nilCheck (Tm 24)), zu 33 (zfa 186 32 1), zu 34 (zfa 66 33 0), zv0 (.store 3 (Tm 34) (Tm 31))]
def zn62_19 : ZC := ZC.reg [zu 35 (zmv 7), zu 36 (.nilCheck (Tm 35)), zu 37 (zfa 186 36 1), zu 38 (zld 66 37), zv0 (.store 66 (Tm 6) (Tm 38))]
def zn62_18 : ZC := ZC.seq zn62_19 ZC.ret
def zn62_16 : ZC := ZC.seq zn62_17 zn62_18
def zn62_14 : ZC := ZC.seq zn62_15 zn62_16
def zn62_12 : ZC := ZC.seq zn62_13 zn62_14
def zn62_10 : ZC := ZC.seq zn62_11 zn62_12
def zn62_8 : ZC := ZC.seq zn62_9 zn62_10
def zn62_2 : ZC := ZC.seq zn62_3 zn62_8
def zn62_0 : ZC := ZC.seq zn62_1 zn62_2
def zc62 : ZC := zn62_0
theorem zc62_ok : zcode (xfOf Try.f62).code = some zc62 := by kernel_rfl
set_option linter.defProp false in
def zw62 := And.intro (zunf C zc62.eq_1) <| And.intro (zunf C zn62_1.eq_1) <| And.intro (zunf C zn62_4.eq_1) <| And.intro (zunf C zn62_7.eq_1) <| And.intro (zunf C zn62_6.eq_1) <| And.intro (zunf C zn62_5.eq_1) <| And.intro (zunf C zn62_3.eq_1) <| And.intro (zunf C zn62_9.eq_1) <| And.intro (zunf C zn62_11.eq_1) <| And.intro (zunf C zn62_13.eq_1) <| And.intro (zunf C zn62_15.eq_1) <| And.intro (zunf C zn62_17.eq_1) <| And.intro (zunf C zn62_19.eq_1) <| And.intro (zunf C zn62_18.eq_1) <| And.intro (zunf C zn62_16.eq_1) <| And.intro (zunf C zn62_14.eq_1) <| And.intro (zunf C zn62_12.eq_1) <| And.intro (zunf C zn62_10.eq_1) <| And.intro (zunf C zn62_8.eq_1) <| And.intro (zunf C zn62_2.eq_1) <| (zunf C zn62_0.eq_1)
theorem rs62 : (xfOf Try.f62).rs = [.cell 6 66] := by kernel_rfl
theorem xf62 : XFok C 62 (xfOf Try.f62) := by refine ⟨Try.f62, ?_, ?_, ?_, ?_, ?_, ?_, ?_⟩ <;> kernel_rfl
def zn65_1 : ZC := ZC.reg [zv 4 (.assign (.const (.slice none 0 0)))]
def zn65_3 : ZC := ZC.reg [zu 7 (zmv 0), zu 8 (.makeSlice 108 (Tm 7) (Tm 7)), zv 5 (zas 8)]
def zn65_6 : ZC := ZC.reg [zv 6 (.assign (Kn 0))]
def zn65_11 : ZC := ZC.reg [zu 9 (zmv 6), zu 10 (zmv 0), zu 11 (.binOp .lss 3 (Tm 9) (Tm 10) 3), zu 12 (zmv 11), zug 13 (zmv 6) 12 true false, zug 14 (zmv 1) 12 true false, zug 15 (zcb .len [Tm 14] [24]) 12 true false, zug 16 (.binOp .lss 3 (Tm 13) (Tm 15) 3) 12 true false, zv 17 (.pick (Tm 12) (Tm 16) (.const (.bool false)))]
def zn65_12 : ZC := ZC.cond (Tm 17) ZC.skip (ZC.exit 0)
def zn65_10 : ZC := ZC.seq zn65_11 zn65_12
def zn65_16 : ZC := ZC.reg [zu 20 (zmv 1), zu 21 (zmv 6), zu 22 (zia 24 20 21), zu 23 (zld 3 22), zu 24 (.binOp .rem 3 (Tm 23) (Kn 4) 3), zv 25 (.binOp .gtr 3 (Tm 24) (Kn 0) 3)]
def zn65_18 : ZC := ZC.draw 16 [] [zdd 0 26 (zmv 5) false [] [] false, zdd 1 27 (zmv 6) false [] [] false, zdd 2 28 (zmv 1) false [] [] false, zdd 3 29 (zmv 6) false [] [] false, zdd 4 30 (zia 24 28 29) false [] [] false, zdd 5 31 (zld 3 30) false [] [] false, zdd 6 32 (.binOp .quo 3 (Tm 31) (Kn 4) 3) false [] [] false, zdd 7 33 (zmv 1) false [] [] false, zdd 8 34 (zmv 6) true [] [] false, zdd 9 35 (zia 24 33 34) true [] [] false, zdd 10 36 (zld 3 35) true [] [] false, zdd 11 37 (.binOp .quo 3 (Tm 36) (Kn 7) 3) true [] [] false, zdd 12 38 (zcf 69 [Tm 32, Tm 37] [3, 3]) true [] [] false, ⟨13, some 39, .build 110 ⟨[(0, .const (.bool true)), (1, .tmp 38)]⟩, none, true, [], [], false⟩, zdd 14 40 (zia 108 26 27) true [] [] false, zd0 15 (.store 110 (Tm 40) (Tm 39)) true [] [] false]
def zn65_17 : ZC := ZC.cond (Tm 25) zn65_18 ZC.skip
def zn65_15 : ZC := ZC.seq zn65_16 zn65_17
def zn65_14 : ZC := ZC.block 1 zn65_15
def zn65_19 : ZC := ZC.reg [zu 18 (zmv 6), zu 19 (.binOp .add 3 (Tm 18) (Kn 1) 3), zv 6 (zas 19)]
def zn65_13 : ZC := ZC.seq zn65_14 zn65_19
def zn65_9 : ZC := ZC.seq zn65_10 zn65_13
def zn65_8 : ZC := ZC.loop zn65_9
def zn65_7 : ZC := ZC.block 0 zn65_8
def zn65_5 : ZC := ZC.seq zn65_6 zn65_7
def zn65_21 : ZC := ZC.reg [zu 41 (zmv 5), zv 4 (zas 41)]
def zn65_20 : ZC := ZC.seq zn65_21 ZC.ret
def zn65_4 : ZC := ZC.seq zn65_5 zn65_20
def zn65_2 : ZC := ZC.seq zn65_3 zn65_4
def zn65_0 : ZC := ZC.seq zn65_1 zn65_2
def zc65 : ZC := zn65_0
theorem zc65_ok : zcode (xfOf Try.f65).code = some zc65 := by kernel_rfl
set_option linter.defProp false in
def zw65 := And.intro (zunf C zc65.eq_1) <| And.intro (zunf C zn65_1.eq_1) <| And.intro (zunf C zn65_3.eq_1) <| And.intro (zunf C zn65_6.eq_1) <| And.intro (zunf C zn65_11.eq_1) <| And.intro (zunf C zn65_12.eq_1) <| And.intro (zunf C zn65_10.eq_1) <| And.intro (zunf C zn65_16.eq_1) <| And.intro (zunf C zn65_18.eq_1) <| And.intro (zunf C zn65_17.eq_1) <| And.intro (zunf C zn65_15.eq_1) <| And.intro (zunf C zn65_14.eq_1) <| And.intro (zunf C zn65_19.eq_1) <| And.intro (zunf C zn65_13.eq_1) <| And.intro (zunf C zn65_9.eq_1) <| And.intro (zunf C zn65_7.eq_1) <| And.intro (zunf C zn65_5.eq_1) <| And.intro (zunf C zn65_21.eq_1) <| And.intro (zunf C zn65_20.eq_1) <| And.intro (zunf C zn65_4.eq_1) <| And.intro (zunf C zn65_2.eq_1) <| (zunf C zn65_0.eq_1)
theorem rs65 : (xfOf Try.f65).rs = [.tmp 4] := by kernel_rfl
theorem xf65 : XFok C 65 (xfOf Try.f65) := by refine ⟨Try.f65, ?_, ?_, ?_, ?_, ?_, ?_, ?_⟩ <;> kernel_rfl
def zn61_1 : ZC := ZC.reg [zv 4 (.assign (.const (.slice none 0 0)))]
def zn61_3 : ZC := ZC.reg [zv 5 (.assign (.const (.slice none 0 0)))]
def zn61_6 : ZC := ZC.reg [zv 6 (.assign (Kn 0))]
def zn61_11 : ZC := ZC.reg [zu 7 (zmv 6), zu 8 (zmv 1), zu 9 (zcb .len [Tm 8] [58]), zu 10 (.binOp .lss 3 (Tm 7) (Tm 9) 3), zu 11 (zmv 10), zug 12 (zmv 6) 11 true false, zug 13 (.binOp .lss 3 (Tm 12) (Kn 40) 3) 11 true false, zv 14 (.pick (Tm 11) (Tm 13) (.const (.bool false)))]
def zn61_12 : ZC := ZC.cond (Tm 14) ZC.skip (ZC.exit 0)
def zn61_10 : ZC := ZC.seq zn61_11 zn61_12
def zn61_15 : ZC := ZC.reg [zu 17 (zmv 5), zu 18 (zmv 0), zu 19 (zmv 1), zu 20 (zmv 6), zu 21 (zia 58 19 20), zu 22 (zld 24 21), zu 23 (zcf 65 [Tm 18, Tm 22] [3, 24]), ⟨some 24, .buildSlice 92 1 ⟨[(0, .tmp 23)]⟩, none, false⟩, zu 25 (zcb .append [Tm 17, Tm 24] [92, 92]), zv 5 (zas 25)]
def zn61_14 : ZC := ZC.block 1 zn61_15
def zn61_16 : ZC := ZC.reg [zu 15 (zmv 6), zu 16 (.binOp .add 3 (Tm 15) (Kn 1) 3), zv 6 (zas 16)]
def zn61_13 : ZC := ZC.seq zn61_14 zn61_16
def zn61_9 : ZC := ZC.seq zn61_10 zn61_13
def zn61_8 : ZC := ZC.loop zn61_9
def zn61_7 : ZC := ZC.block 0 zn61_8
def zn61_5 : ZC := ZC.seq zn61_6 zn61_7
def zn61_18 : ZC := ZC.reg [zu 26 (zmv 5), zv 4 (zas 26)]
def zn61_17 : ZC := ZC.seq zn61_18 ZC.ret
def zn61_4 : ZC := ZC.seq zn61_5 zn61_17
def zn61_2 : ZC := ZC.seq zn61_3 zn61_4
def zn61_0 : ZC := ZC.seq zn61_1 zn61_2
def zc61 : ZC := zn61_0
theorem zc61_ok : zcode (xfOf Try.f61).code = some zc61 := by kernel_rfl
set_option linter.defProp false in
def zw61 := And.intro (zunf C zc61.eq_1) <| And.intro (zunf C zn61_1.eq_1) <| And.intro (zunf C zn61_3.eq_1) <| And.intro (zunf C zn61_6.eq_1) <| And.intro (zunf C zn61_11.eq_1) <| And.intro (zunf C zn61_12.eq_1) <| And.intro (zunf C zn61_10.eq_1) <| And.intro (zunf C zn61_15.eq_1) <| And.intro (zunf C zn61_14.eq_1) <| And.intro (zunf C zn61_16.eq_1) <| And.intro (zunf C zn61_13.eq_1) <| And.intro (zunf C zn61_9.eq_1) <| And.intro (zunf C zn61_7.eq_1) <| And.intro (zunf C zn61_5.eq_1) <| And.intro (zunf C zn61_18.eq_1) <| And.intro (zunf C zn61_17.eq_1) <| And.intro (zunf C zn61_4.eq_1) <| And.intro (zunf C zn61_2.eq_1) <| (zunf C zn61_0.eq_1)
theorem rs61 : (xfOf Try.f61).rs = [.tmp 4] := by kernel_rfl
theorem xf61 : XFok C 61 (xfOf Try.f61) := by refine ⟨Try.f61, ?_, ?_, ?_, ?_, ?_, ?_, ?_⟩ <;> kernel_rfl
def zn59_1 : ZC := ZC.reg [zv 0 (.assign (.const (.bool false)))]
def zn59_3 : ZC := ZC.reg [zu 3 (zcf 63 [Kn 1, .const (.slice none 0 0)] [3, 23]), zu 1 (.alloc 61), zv0 (.store 61 (Tm 1) (Tm 3))]
def zn59_5 : ZC := ZC.draw 8 [(6, .alloc 66)] [zdd 0 4 (zld 61 1) false [] [2, 3] false, zdd 1 5 (zld 61 1) false [] [] false, zdd 2 6 (zcf 58 [Tm 5] [61]) false [] [] true, zdd 3 7 (zcf 134 [Kn 0, Kn 64, Kn 0] [3, 3, 3]) false [] [] true, ⟨4, some 8, .buildSlice 108 1 ⟨[(0, .tmp 7)]⟩, none, false, [], [], false⟩, zdd 5 9 (zcf 62 [Tm 4, Tm 6, Tm 8] [61, 66, 108]) false [] [] true, zdd 6 2 (.alloc 66) true [2, 3, 5] [] false, zd0 7 (.store 66 (Tm 2) (Tm 9)) true [] [] false]
def zn59_7 : ZC := ZC.reg [zu 10 (zld 61 1), zu 11 (zcf 60 [Tm 10] [61]), zu 12 (zmv 11), zug 13 (zfa 66 2 2) 12 true false, zug 14 (.indexAddr 63 (Tm 13) (Kn 0)) 12 true false, zug 15 (zfa 34 14 2) 12 true false, zug 16 (zld 3 15) 12 true false, zug 17 (.binOp .eql 3 (Tm 16) (Kn 2052) 3) 12 true false, zu 18 (.pick (Tm 12) (Tm 17) (.const (.bool false))), zu 19 (zmv 18), zug 20 (zfa 66 2 0) 19 true false, zug 21 (zld 3 20) 19 true false, zug 22 (.binOp .eql 3 (Tm 21) (Kn 1) 3) 19 true false, zu 23 (.pick (Tm 19) (Tm 22) (.const (.bool false))), zu 24 (zmv 23), zug 25 (zfa 66 2 2) 24 true false, zug 26 (.indexAddr 63 (Tm 25) (Kn 0)) 24 true false, zug 27 (zfa 34 26 0) 24 true false, zug 28 (zld 3 27) 24 true false, zug 29 (.binOp .eql 3 (Tm 28) (Kn 1) 3) 24 true false, zu 30 (.pick (Tm 24) (Tm 29) (.const (.bool false))), zv 0 (zas 30)]
def zn59_6 : ZC := ZC.seq zn59_7 ZC.ret
def zn59_4 : ZC := ZC.seq zn59_5 zn59_6
def zn59_2 : ZC := ZC.seq zn59_3 zn59_4
def zn59_0 : ZC := ZC.seq zn59_1 zn59_2
def zc59 : ZC := zn59_0
theorem zc59_ok : zcode (xfOf Try.f59).code = some zc59 := by kernel_rfl
set_option linter.defProp false in
def zw59 := And.intro (zunf C zc59.eq_1) <| And.intro (zunf C zn59_1.eq_1) <| And.intro (zunf C zn59_3.eq_1) <| And.intro (zunf C zn59_5.eq_1) <| And.intro (zunf C zn59_7.eq_1) <| And.intro (zunf C zn59_6.eq_1) <| And.intro (zunf C zn59_4.eq_1) <| And.intro (zunf C zn59_2.eq_1) <| (zunf C zn59_0.eq_1)
theorem rs59 : (xfOf Try.f59).rs = [.tmp 0] := by kernel_rfl
theorem xf59 : XFok C 59 (xfOf Try.f59) := by refine ⟨Try.f59, ?_, ?_, ?_, ?_, ?_, ?_, ?_⟩ <;> kernel_rfl
def zn63_1 : ZC := ZC.reg [zv 4 (.alloc 61)]
def zn63_3 : ZC := ZC.reg [zu 7 (zmv 0), zu 8 (zmv 1), ⟨some 9, .build 61 ⟨[(0, .tmp 7), (1, .const (.int .i64 1)), (4, .const (.int .i64 50)), (6, .const (.float .f64 4607182418800017408)), (7, .const (.float .f64 4617315517961601024)), (8, .tmp 8)]⟩, none, false⟩, zu 5 (.alloc 61), zv0 (.store 61 (Tm 5) (Tm 9))]
def zn63_6 : ZC := ZC.reg [zv 6 (.assign (Kn 0))]
def zn63_11 : ZC := ZC.reg [zu 10 (zmv 6), zu 11 (zmv 0), zv 12 (.binOp .lss 3 (Tm 10) (Tm 11) 3)]
def zn63_12 : ZC := ZC.cond (Tm 12) ZC.skip (ZC.exit 0)
def zn63_10 : ZC := ZC.seq zn63_11 zn63_12
def zn63_15 : ZC := ZC.reg [zu 15 (zfa 61 5 9), zu 16 (zld 24 15), zu 17 (zmv 6), ⟨some 18, .buildSlice 24 1 ⟨[(0, .tmp 17)]⟩, none, false⟩, zu 19 (zcb .append [Tm 16, Tm 18] [24, 24]), zu 20 (zfa 61 5 9), zv0 (.store 24 (Tm 20) (Tm 19))]
def zn63_14 : ZC := ZC.block 1 zn63_15
def zn63_16 : ZC := ZC.reg [zu 13 (zmv 6), zu 14 (.binOp .add 3 (Tm 13) (Kn 1) 3), zv 6 (zas 14)]
def zn63_13 : ZC := ZC.seq zn63_14 zn63_16
def zn63_9 : ZC := ZC.seq zn63_10 zn63_13
def zn63_8 : ZC := ZC.loop zn63_9
def zn63_7 : ZC := ZC.block 0 zn63_8
def zn63_5 : ZC := ZC.seq zn63_6 zn63_7
def zn63_18 : ZC := ZC.reg [zu 21 (zld 61 5), zv0 (.store 61 (Tm 4) (Tm 21))]
def zn63_17 : ZC := ZC.seq zn63_18 ZC.ret
def zn63_4 : ZC := ZC.seq zn63_5 zn63_17
def zn63_2 : ZC := ZC.seq zn63_3 zn63_4
def zn63_0 : ZC := ZC.seq zn63_1 zn63_2
def zc63 : ZC := zn63_0
theorem zc63_ok : zcode (xfOf Try.f63).code = some zc63 := by kernel_rfl
set_option linter.defProp false in
def zw63 := And.intro (zunf C zc63.eq_1) <| And.intro (zunf C zn63_1.eq_1) <| And.intro (zunf C zn63_3.eq_1) <| And.intro (zunf C zn63_6.eq_1) <| And.intro (zunf C zn63_11.eq_1) <| And.intro (zunf C zn63_12.eq_1) <| And.intro (zunf C zn63_10.eq_1) <| And.intro (zunf C zn63_15.eq_1) <| And.intro (zunf C zn63_14.eq_1) <| And.intro (zunf C zn63_16.eq_1) <| And.intro (zunf C zn63_13.eq_1) <| And.intro (zunf C zn63_9.eq_1) <| And.intro (zunf C zn63_7.eq_1) <| And.intro (zunf C zn63_5.eq_1) <| And.intro (zunf C zn63_18.eq_1) <| And.intro (zunf C zn63_17.eq_1) <| And.intro (zunf C zn63_4.eq_1) <| And.intro (zunf C zn63_2.eq_1) <| (zunf C zn63_0.eq_1)
theorem rs63 : (xfOf Try.f63).rs = [.cell 4 61] := by kernel_rfl
theorem xf63 : XFok C 63 (xfOf Try.f63) := by refine ⟨Try.f63, ?_, ?_, ?_, ?_, ?_, ?_, ?_⟩ <;> kernel_rfl
def zn134_1 : ZC := ZC.reg [zv 6 (.alloc 110)]
def zn134_3 : ZC := ZC.reg [zu 7 (zmv 0), zu 8 (zmv 1), zu 9 (zmv 2), ⟨some 10, .build 36 ⟨[(0, .tmp 7), (1, .tmp 8), (2, .tmp 9)]⟩, none, false⟩, ⟨some 11, .build 110 ⟨[(0, .const (.bool true)), (1, .tmp 10)]⟩, none, false⟩, zv0 (.store 110 (Tm 6) (Tm 11))]
def zn134_2 : ZC := ZC.seq zn134_3 ZC.ret
def zn134_0 : ZC := ZC.seq zn134_1 zn134_2
def zc134 : ZC := zn134_0
theorem zc134_ok : zcode (xfOf Try.f134).code = some zc134 := by kernel_rfl
set_option linter.defProp false in
def zw134 := And.intro (zunf C zc134.eq_1) <| And.intro (zunf C zn134_1.eq_1) <| And.intro (zunf C zn134_3.eq_1) <| And.intro (zunf C zn134_2.eq_1) <| (zunf C zn134_0.eq_1)
theorem rs134 : (xfOf Try.f134).rs = [.cell 6 110] := by kernel_rfl
theorem xf134 : XFok C 134 (xfOf Try.f134) := by refine ⟨Try.f134, ?_, ?_, ?_, ?_, ?_, ?_, ?_⟩ <;> kernel_rfl
end Go.Proofs.Ytpchcfkebljopaa
end
section
namespace Go.Proofs.Ytpchcfkebljopaa
open Go.Cl Go Go.RowKit
def partL {α : Type} (l : List α) : Lst α := if h : l = [] then ⟨.nil, [], fun _ => rfl⟩ else ⟨.part, l, nofun⟩
theorem K1m {α : Type} {f : α → CV} (hf : ∀ x j, ¬ (f x).has j) (s : Lst α) (k : Nat) (h : s.tl = .nil ∨ (∃ j, s.tl = .own j) ∧ 0 < s.l.length) : CV.weak (fun k => k) k (Lst.cv f s) (Lst.cv f (partL s.l)) := by
  have hl : ∀ l : List α, CV.weakL (fun k => k) k (l.map f) (l.map f) := fun l => CV.weakL_refl _ fun j hj => (V0p hf l j hj).elim
  obtain ⟨tl, l, o⟩ := s
  rcases h with h | ⟨⟨j, h⟩, h0⟩
  · simp only at h
    subst h
    have : l = [] := o rfl
    subst this
    simp [partL, Lst.cv, CV.weak, Tail.weak, CV.weakL]
  · simp only at h
    subst h
    have hne : l ≠ [] := by intro e; subst e; simp at h0
    simp only [partL, dif_neg hne, Lst.cv, CV.weak, Tail.weak, true_and]
    exact hl _
def eff (e : Z0b) (o : X0c) : Except Int Z0b :=
  match Mach.doOp ⟨e, ⟨.nil, [], fun _ => rfl⟩, 0⟩ o with
  | .error c => .error c
  | .ok r => .ok r.1.e_
theorem run_end {m : Y0a} (k : Nat) (h : ¬ m.at_ < m.l_.l.length) : Mach.run k m = .ok m := by
  unfold Mach.run; rw [if_neg h]
def Mach.withL (m : Y0a) (s : Lst X0c) : Y0a := { m with l_ := s }
theorem reckon_withL (m : Y0a) (s : Lst X0c) (o : X0c) : Mach.reckon (Mach.withL m s) o = match Mach.reckon m o with | .ok r => .ok (Mach.withL r s) | .error c => .error c := by
  have h1 : ∀ k, Mach.reg (Mach.withL m s) k = Mach.reg m k := fun _ => rfl
  unfold Mach.reckon
  simp only [h1]
  by_cases c2 : o.Code = 2
  · simp only [if_pos c2]; rfl
  by_cases c3 : o.Code = 3
  · simp only [if_neg c2, if_pos c3]; rfl
  by_cases c4 : o.Code = 4
  · simp only [if_neg c2, if_neg c3, if_pos c4]; rfl
  by_cases c5 : o.Code = 5
  · simp only [if_neg c2, if_neg c3, if_neg c4, if_pos c5]; rfl
  by_cases c6 : o.Code = 6
  · simp only [if_neg c2, if_neg c3, if_neg c4, if_neg c5, if_pos c6]
    by_cases z : Mach.reg m o.B.toNat = 0
    · simp only [if_pos z]
    · simp only [if_neg z]; rfl
  by_cases c11 : o.Code = 11
  · simp only [if_neg c2, if_neg c3, if_neg c4, if_neg c5, if_neg c6, if_pos c11]
    by_cases z : Mach.reg m o.B.toNat < 1
    · simp only [if_pos z]
    · simp only [if_neg z]; rfl
  simp only [if_neg c2, if_neg c3, if_neg c4, if_neg c5, if_neg c6, if_neg c11]
  by_cases z : (m.e_.Shots.l.length : Int) < m.e_.Room
  · rw [if_pos z, if_pos (show ((Mach.withL m s).e_.Shots.l.length : Int) < (Mach.withL m s).e_.Room from z)]; rfl
  · rw [if_neg z, if_neg (show ¬ ((Mach.withL m s).e_.Shots.l.length : Int) < (Mach.withL m s).e_.Room from z)]
theorem doOp_withL (m : Y0a) (s : Lst X0c) (o : X0c) (h : s.l = m.l_.l) : Mach.doOp (Mach.withL m s) o = match Mach.doOp m o with | .ok r => .ok (Mach.withL r.1 s, r.2) | .error c => .error c := by
  have h1 : ∀ k, Mach.reg (Mach.withL m s) k = Mach.reg m k := fun _ => rfl
  have h2 : ∀ k, Mach.field (Mach.withL m s) k = Mach.field m k := fun _ => rfl
  have h3 : (Mach.withL m s).l_.l = m.l_.l := h
  unfold Mach.doOp
  simp only [h1, h2, h3, reckon_withL]
  by_cases c1 : within o.Code 1 13 = false
  · simp only [if_pos c1]
  by_cases c2 : namedOk o = false
  · simp only [if_neg c1, if_pos c2]
  by_cases c3 : o.Code = 1
  · simp only [if_neg c1, if_neg c2, if_pos c3]; rfl
  by_cases c4 : o.Code = 7
  · simp only [if_neg c1, if_neg c2, if_neg c3, if_pos c4]
    by_cases z : within o.B 0 7 = false
    · simp only [if_pos z]
    · simp only [if_neg z]; rfl
  by_cases c5 : o.Code = 8
  · simp only [if_neg c1, if_neg c2, if_neg c3, if_neg c4, if_pos c5]
    by_cases z : within o.A 0 3 = false
    · simp only [if_pos z]
    · simp only [if_neg z]; rfl
  by_cases c6 : o.Code = 9
  · simp only [if_neg c1, if_neg c2, if_neg c3, if_neg c4, if_neg c5, if_pos c6]
    by_cases z : Mach.reg m o.A.toNat = 0
    · simp only [if_pos z]
      by_cases y : within o.B 0 m.l_.l.length = false
      · simp only [if_pos y]
      · simp only [if_neg y]
    · simp only [if_neg z]; rfl
  by_cases c7 : o.Code = 10
  · simp only [if_neg c1, if_neg c2, if_neg c3, if_neg c4, if_neg c5, if_neg c6, if_pos c7]
    by_cases y : within o.B 0 m.l_.l.length = false
    · simp only [if_pos y]
    · simp only [if_neg y]
  by_cases c8 : o.Code = 13
  · simp only [if_neg c1, if_neg c2, if_neg c3, if_neg c4, if_neg c5, if_neg c6, if_neg c7, if_pos c8]
  simp only [if_neg c1, if_neg c2, if_neg c3, if_neg c4, if_neg c5, if_neg c6, if_neg c7, if_neg c8]
  cases Mach.reckon m o <;> rfl
theorem run_withL (s : Lst X0c) : ∀ (k : Nat) (m : Y0a), s.l = m.l_.l → 0 ≤ m.at_ → Mach.run k (Mach.withL m s) = match Mach.run k m with | .ok r => .ok (Mach.withL r s) | .error c => .error c
  | k, m, h, ha => by
    have h3 : (Mach.withL m s).l_.l = m.l_.l := h
    have h4 : (Mach.withL m s).at_ = m.at_ := rfl
    unfold Mach.run
    rw [h3, h4]
    by_cases hlt : m.at_ < m.l_.l.length
    · rw [if_pos hlt, if_pos hlt]
      cases k with
      | zero => rfl
      | succ k =>
        simp only [doOp_withL m s _ h]
        cases hd : Mach.doOp m (nth m.l_.l m.at_.toNat) with
        | error c => rfl
        | ok r =>
          obtain ⟨m2, n⟩ := r
          simp only
          have kk := Mach.doOp_keeps hd ha hlt
          exact run_withL s k { m2 with at_ := n } (by simp only; rw [kk.2.1]; exact h) kk.2.2.2.2.1
    · rw [if_neg hlt, if_neg hlt]
theorem ruleRun_l {l s : Lst X0c} (h : s.l = l.l) (e : Z0b) : ruleRun s e = ruleRun l e := by
  have := run_withL s 64 ⟨copiedE e, l, 0⟩ h (by simp)
  unfold ruleRun
  rw [show (⟨copiedE e, s, 0⟩ : Y0a) = Mach.withL ⟨copiedE e, l, 0⟩ s from rfl, this]
  cases Mach.run 64 ⟨copiedE e, l, 0⟩ <;> rfl
def runL (L : List X0c) (e : Z0b) : Z0b × V0c × Bool := ruleRun ⟨.view, L, nofun⟩ e
def firstW {α : Type} (f : α → Bool) : List α → Nat → Int
  | [], _ => -1
  | x :: l, k => if f x = true then k else firstW f l (k + 1)
theorem V1i {α : Type} (f : α → Bool) : ∀ (l : List α) (k : Nat), decide (0 ≤ firstW f l k) = l.any f
  | [], k => rfl
  | x :: l, k => by
    simp only [firstW, List.any_cons]
    by_cases h : f x = true
    · simp [h]
    · have := V1i f l (k + 1); simp [h, ← this]
theorem Z06 {α : Type} [Inhabited α] {l : List α} {k : Nat} (h : k < l.length) : l.drop k = nth l k :: l.drop (k + 1) := by
  rw [Y0y h]; exact List.drop_eq_getElem_cons h
def opRight (o : X0c) : Bool := within o.Code 1 13 && within o.A (-1000000) 1000000 && within o.B (-1000000) 1000000
def ruleRight (l : List X0c) : Bool := decide (l.length ≤ 16) && l.all opRight
theorem any_opRight (l : List X0c) : (l.any fun o => !opRight o) = !l.all opRight := by
  induction l with
  | nil => rfl
  | cons x l ih => simp [ih]
def bounce (a v : Int) : Int × Int := if brought a 0 4095 = a then (a, v) else (brought a 0 4095, w64 (-v))
def bodyPush (b : Q0a) (x y : Int) : Q0a :=
  if Body.right b = true ∧ b.Kind ≠ 0 then { b with VX := brought (b.VX + brought x (-1000) 1000) (-64) 64, VY := brought (b.VY + brought y (-1000) 1000) (-64) 64 } else Q0a.zero
def bodyMove (b : Q0a) : Q0a × Bool :=
  if Body.right b = true ∧ b.Kind ≠ 0 then
    if b.Kind = 1 then ({ b with Age := min (b.Age + 1) 600, X := (bounce (b.X + b.VX) b.VX).1, VX := (bounce (b.X + b.VX) b.VX).2, Y := (bounce (b.Y + b.VY) b.VY).1, VY := (bounce (b.Y + b.VY) b.VY).2 }, true)
    else if 40 < min (b.Age + 1) 600 ∨ within (b.X + b.VX) 0 4095 = false ∨ within (b.Y + b.VY) 0 4095 = false then (Q0a.zero, false)
    else ({ b with Age := min (b.Age + 1) 600, X := b.X + b.VX, Y := b.Y + b.VY }, true)
  else (Q0a.zero, false)
def bodyStrikes (a b : Q0a) : Bool :=
  Body.right a && Body.right b && decide (a.Kind = 1) && decide (b.Kind = 2) && decide (a.Owner ≠ b.Owner) && within (a.X - b.X) (-32) 32 && within (a.Y - b.Y) (-32) 32
def bodyHit (a b : Q0a) : Bool := if a.Kind = 2 then bodyStrikes b a else bodyStrikes a b
theorem X0j {b : Q0a} (h : Body.right b = true) (hk : b.Kind ≠ 0) : (0 ≤ b.Owner ∧ b.Owner ≤ 7) ∧ (0 ≤ b.X ∧ b.X ≤ 4095) ∧ (0 ≤ b.Y ∧ b.Y ≤ 4095) ∧ (-64 ≤ b.VX ∧ b.VX ≤ 64) ∧ (-64 ≤ b.VY ∧ b.VY ≤ 64) ∧ (0 ≤ b.Age ∧ b.Age ≤ 600) ∧ (0 ≤ b.Faults ∧ b.Faults ≤ 65535) ∧ (b.Kind = 1 ∨ b.Kind = 2) := by
  have r := (K0i hk).1 h
  exact ⟨r.2.2.1, r.2.2.2.1, r.2.2.2.2.1, r.2.2.2.2.2.1, r.2.2.2.2.2.2.1, r.2.2.2.2.2.2.2.1, r.2.2.2.2.2.2.2.2, r.2.1⟩
end Go.Proofs.Ytpchcfkebljopaa
end
section
-- @nole
namespace Go.Proofs.Ytpchcfkebljopaa
open Go.Cl Go Go.RowKit
set_option maxRecDepth 100000
set_option linter.constructorNameAsVariable false
def R106 : Rel := fun args p r => ∃ (n lo hi : Int), args = [I n, I lo, I hi] ∧ r = .ret (Bo (within n lo hi)) p
theorem t106 {T : XCall} (h : Has T 106 R106) (n lo hi : Int) {p : Hp}  : T 106 [I n, I lo, I hi] p = .ret (Bo (within n lo hi)) p := h _ _ _ ⟨n, lo, hi, rfl, rfl⟩
theorem zq106 {A B : Prop} (h : A = B := by ((try simp -dsimp (disch := first | exact zdis | fail) only [zcore, zall, zopm, zop, zcallOp, qop, qbuiltin, ofOpt, List.map, reduceCtorEq, if_true, if_false, ↓reduceIte, zbin, eqRes, qassert, qnum, qshift, qun, kindOf, allocV, List.nil_append, List.append_nil, List.cons_append, List.length_cons, List.length_nil, Nat.reduceAdd, Nat.reduceEqDiff, Nat.reduceLT, Nat.reduceSub, Nat.reduceMul, Int.reduceToNat, Int.reduceLE, Int.reduceLT, Int.reduceEq, Int.reduceNeg, Int.reduceAdd, Int.reduceSub, beq_self_eq_true, cond_true, cond_false, isConstOpd, xpanic, xconv, isBytes, qconv, List.length_map, List.map_nil, List.map_cons, concrete, Option.some.injEq, exists_eq', Option.map_some, Option.map_none, List.getElem?_cons_zero, List.getElem?_cons_succ, zw106, rs106, tt3, ti3, zx, hc]); rfl)) (k : B) : A := h ▸ k
theorem zno106 {P : Prop} (h : P := by intro jj; simp [CV.has, CV.hasL, fault, K0c.nohas]) : P := h
set_option maxHeartbeats 8000000 in
theorem c106 : Con C 106 R106 := by
  refine Z0f C ?_ ?_ ?_
  · rintro args p r r' ⟨n, lo, hi, h, e⟩ ⟨n', lo', hi', h', e'⟩
    subst e; subst e'; simp_all
  · rintro args p r ⟨n, lo, hi, h, rfl⟩; first | (split <;> simp; done) | (simp; done) | (simp only [resM]; split <;> simp; done) | (simp only [resD]; split <;> simp; done) 
  · rintro args p r ⟨n, lo, hi, rfl, rfl⟩
    refine Z0e C false noExt (tabL C []) xf106 (Q0f C) (K0f C _) zc106_ok (Nat.le_of_ble_eq_true (by kernel_rfl)) fun hF => ?_
    generalize tabL C [] = call
    show W C false noExt call zc106 (argE [I n, I lo, I hi]) p (endQ C _ _)
    (have zx := True.intro; have hc := True.intro; refine zq106 (k := ?_); clear hc; try exact True.intro)
    repeat' ((first | refine K0d ?_ ?_ | refine Z0c ?_ ?_ | refine X0d _ _ _ _ ?_ ?_ | refine Q0d ?_ ?_ | refine V0d _ _ _ _ ?_ ?_) <;> intro hc <;> (try simp only [zhd] at hc) <;> (try have hw := X0b hc) <;> (refine zq106 (k := ?_); try exact True.intro))
    all_goals (try clear zx)
    all_goals refine K0e hF zle (Q0e ?_ (Y0d zno106))
    all_goals simp [within, hc]
def R206 : Rel := fun args p r => ∃ (n lo hi : Int), args = [I n, I lo, I hi] ∧ r = .ret (I (brought n lo hi)) p
theorem t206 {T : XCall} (h : Has T 206 R206) (n lo hi : Int) {p : Hp}  : T 206 [I n, I lo, I hi] p = .ret (I (brought n lo hi)) p := h _ _ _ ⟨n, lo, hi, rfl, rfl⟩
theorem zq206 {A B : Prop} (h : A = B := by ((try simp -dsimp (disch := first | exact zdis | fail) only [zcore, zall, zopm, zop, zcallOp, qop, qbuiltin, ofOpt, List.map, reduceCtorEq, if_true, if_false, ↓reduceIte, zbin, eqRes, qassert, qnum, qshift, qun, kindOf, allocV, List.nil_append, List.append_nil, List.cons_append, List.length_cons, List.length_nil, Nat.reduceAdd, Nat.reduceEqDiff, Nat.reduceLT, Nat.reduceSub, Nat.reduceMul, Int.reduceToNat, Int.reduceLE, Int.reduceLT, Int.reduceEq, Int.reduceNeg, Int.reduceAdd, Int.reduceSub, beq_self_eq_true, cond_true, cond_false, isConstOpd, xpanic, xconv, isBytes, qconv, List.length_map, List.map_nil, List.map_cons, concrete, Option.some.injEq, exists_eq', Option.map_some, Option.map_none, List.getElem?_cons_zero, List.getElem?_cons_succ, zw206, rs206, tt3, ti3, zx, hc]); rfl)) (k : B) : A := h ▸ k
theorem zno206 {P : Prop} (h : P := by intro jj; simp [CV.has, CV.hasL, fault, K0c.nohas]) : P := h
set_option maxHeartbeats 8000000 in
theorem c206 : Con C 206 R206 := by
  refine Z0f C ?_ ?_ ?_
  · rintro args p r r' ⟨n, lo, hi, h, e⟩ ⟨n', lo', hi', h', e'⟩
    subst e; subst e'; simp_all
  · rintro args p r ⟨n, lo, hi, h, rfl⟩; first | (split <;> simp; done) | (simp; done) | (simp only [resM]; split <;> simp; done) | (simp only [resD]; split <;> simp; done) 
  · rintro args p r ⟨n, lo, hi, rfl, rfl⟩
    refine Z0e C false noExt (tabL C []) xf206 (Q0f C) (K0f C _) zc206_ok (Nat.le_of_ble_eq_true (by kernel_rfl)) fun hF => ?_
    generalize tabL C [] = call
    show W C false noExt call zc206 (argE [I n, I lo, I hi]) p (endQ C _ _)
    (have zx := True.intro; have hc := True.intro; refine zq206 (k := ?_); clear hc zx; try exact True.intro)
    exact K0e hF zle (Q0e rfl (Y0d zno206))
def R198 : Rel := fun args p r => ∃ (a v : Int), args = [I a, I v] ∧ r = .ret (.tup [I (bounce a v).1, I (bounce a v).2]) p
theorem t198 {T : XCall} (h : Has T 198 R198) (a v : Int) {p : Hp}  : T 198 [I a, I v] p = .ret (.tup [I (bounce a v).1, I (bounce a v).2]) p := h _ _ _ ⟨a, v, rfl, rfl⟩
theorem zq198 {A B : Prop} (h : A = B := by ((try simp -dsimp (disch := first | exact zdis | fail) only [zcore, zall, zopm, zop, zcallOp, qop, qbuiltin, ofOpt, List.map, reduceCtorEq, if_true, if_false, ↓reduceIte, zbin, eqRes, qassert, qnum, qshift, qun, kindOf, allocV, List.nil_append, List.append_nil, List.cons_append, List.length_cons, List.length_nil, Nat.reduceAdd, Nat.reduceEqDiff, Nat.reduceLT, Nat.reduceSub, Nat.reduceMul, Int.reduceToNat, Int.reduceLE, Int.reduceLT, Int.reduceEq, Int.reduceNeg, Int.reduceAdd, Int.reduceSub, beq_self_eq_true, cond_true, cond_false, isConstOpd, xpanic, xconv, isBytes, qconv, List.length_map, List.map_nil, List.map_cons, concrete, Option.some.injEq, exists_eq', Option.map_some, Option.map_none, List.getElem?_cons_zero, List.getElem?_cons_succ, zw198, rs198, tt3, ti3, t_140, zx, hc]); rfl)) (k : B) : A := h ▸ k
theorem zno198 {P : Prop} (h : P := by intro jj; simp [CV.has, CV.hasL, fault, K0c.nohas]) : P := h
set_option maxHeartbeats 8000000 in
theorem c198 : Con C 198 R198 := by
  refine Z0f C ?_ ?_ ?_
  · rintro args p r r' ⟨a, v, h, e⟩ ⟨a', v', h', e'⟩
    subst e; subst e'; simp_all
  · rintro args p r ⟨a, v, h, rfl⟩; first | (split <;> simp; done) | (simp; done) | (simp only [resM]; split <;> simp; done) | (simp only [resD]; split <;> simp; done) 
  · rintro args p r ⟨a, v, rfl, rfl⟩
    refine Z0e C false noExt (tabL C [(140, R140)]) xf198 (Q0f C) (K0f C _) zc198_ok (Nat.le_of_ble_eq_true (by kernel_rfl)) fun hF => ?_
    have t_140 := @t140 (tabL C [(140, R140)]) (Z0d C c140 [])
    generalize tabL C [(140, R140)] = call at t_140 ⊢
    show W C false noExt call zc198 (argE [I a, I v]) p (endQ C _ _)
    (have zx := True.intro; have hc := True.intro; refine zq198 (k := ?_); clear hc; try exact True.intro)
    repeat' ((first | refine K0d ?_ ?_ | refine Z0c ?_ ?_ | refine X0d _ _ _ _ ?_ ?_ | refine Q0d ?_ ?_ | refine V0d _ _ _ _ ?_ ?_) <;> intro hc <;> (try simp only [zhd] at hc) <;> (try have hw := X0b hc) <;> (refine zq198 (k := ?_); try exact True.intro))
    all_goals (try clear zx)
    all_goals refine K0e hF zle (Q0e ?_ (Y0d zno198))
    all_goals simp [bounce, hc]
def R196 : Rel := fun args p r => ∃ (b : Q0a) (x y : Int), args = [b.cv, I x, I y] ∧ r = .ret (bodyPush b x y).cv p
theorem t196 {T : XCall} (h : Has T 196 R196) (b : Q0a) (x y : Int) {p : Hp}  : T 196 [b.cv, I x, I y] p = .ret (bodyPush b x y).cv p := h _ _ _ ⟨b, x, y, rfl, rfl⟩
theorem zq196 {A B : Prop} (h : A = B := by ((try simp -dsimp (disch := first | exact zdis | fail) only [zcore, zall, zopm, zop, zcallOp, qop, qbuiltin, ofOpt, List.map, reduceCtorEq, if_true, if_false, ↓reduceIte, zbin, eqRes, qassert, qnum, qshift, qun, kindOf, allocV, List.nil_append, List.append_nil, List.cons_append, List.length_cons, List.length_nil, Nat.reduceAdd, Nat.reduceEqDiff, Nat.reduceLT, Nat.reduceSub, Nat.reduceMul, Int.reduceToNat, Int.reduceLE, Int.reduceLT, Int.reduceEq, Int.reduceNeg, Int.reduceAdd, Int.reduceSub, beq_self_eq_true, cond_true, cond_false, isConstOpd, xpanic, xconv, isBytes, qconv, List.length_map, List.map_nil, List.map_cons, concrete, Option.some.injEq, exists_eq', Option.map_some, Option.map_none, List.getElem?_cons_zero, List.getElem?_cons_succ, zw196, rs196, tt3, tt34, ti3, ti34, t_24, t_140, Y0f, zx, hc]); rfl)) (k : B) : A := h ▸ k
theorem zno196 {P : Prop} (h : P := by intro jj; simp [CV.has, CV.hasL, fault, K0c.nohas, Q0a.nohas]) : P := h
set_option maxHeartbeats 8000000 in
theorem c196 : Con C 196 R196 := by
  refine Z0f C ?_ ?_ ?_
  · rintro args p r r' ⟨b, x, y, h, e⟩ ⟨b', x', y', h', e'⟩
    subst e; subst e'; simp_all [Q0a.inj_iff]
  · rintro args p r ⟨b, x, y, h, rfl⟩; first | (split <;> simp; done) | (simp; done) | (simp only [resM]; split <;> simp; done) | (simp only [resD]; split <;> simp; done) 
  · rintro args p r ⟨b, x, y, rfl, rfl⟩
    refine Z0e C false noExt (tabL C [(24, R24), (140, R140)]) xf196 (Q0f C) (K0f C _) zc196_ok (Nat.le_of_ble_eq_true (by kernel_rfl)) fun hF => ?_
    have t_24 := @t24 (tabL C [(24, R24), (140, R140)]) (Z0d C c24 [(140, R140)])
    have t_140 := @t140 (tabL C [(24, R24), (140, R140)]) (Y0c C _ rfl (Z0d C c140 []))
    generalize tabL C [(24, R24), (140, R140)] = call at t_24 t_140 ⊢
    show W C false noExt call zc196 (argE [b.cv, I x, I y]) p (endQ C _ _)
    have k1 := Z0g (n := x) (lo := -1000) (hi := 1000) (by omega)
    have k2 := Z0g (n := y) (lo := -1000) (hi := 1000) (by omega)
    by_cases hb : Body.right b = true
    · by_cases hk : b.Kind = 0
      · (have zx := And.intro hb hk; have hc := True.intro; refine zq196 (k := ?_); clear hc; try exact True.intro)
        repeat' ((first | refine K0d ?_ ?_ | refine Z0c ?_ ?_ | refine X0d _ _ _ _ ?_ ?_ | refine Q0d ?_ ?_ | refine V0d _ _ _ _ ?_ ?_) <;> intro hc <;> (try simp only [zhd] at hc) <;> (try have hw := X0b hc) <;> (refine zq196 (k := ?_); try exact True.intro))
        all_goals (try clear zx)
        refine K0e hF zle (Q0e ?_ (Y0d zno196))
        simp [bodyPush, hb, hk]; rfl
      · have hr := X0j hb hk
        (have zx := And.intro hb hk; have hc := True.intro; refine zq196 (k := ?_); clear hc; try exact True.intro)
        repeat' ((first | refine K0d ?_ ?_ | refine Z0c ?_ ?_ | refine X0d _ _ _ _ ?_ ?_ | refine Q0d ?_ ?_ | refine V0d _ _ _ _ ?_ ?_) <;> intro hc <;> (try simp only [zhd] at hc) <;> (try have hw := X0b hc) <;> (refine zq196 (k := ?_); try exact True.intro))
        all_goals (try clear zx)
        refine K0e hF zle (Q0e ?_ (Y0d zno196))
        simp [bodyPush, hb, hk]
    · (have zx := hb; have hc := True.intro; refine zq196 (k := ?_); clear hc; try exact True.intro)
      repeat' ((first | refine K0d ?_ ?_ | refine Z0c ?_ ?_ | refine X0d _ _ _ _ ?_ ?_ | refine Q0d ?_ ?_ | refine V0d _ _ _ _ ?_ ?_) <;> intro hc <;> (try simp only [zhd] at hc) <;> (try have hw := X0b hc) <;> (refine zq196 (k := ?_); try exact True.intro))
      all_goals (try clear zx)
      refine K0e hF zle (Q0e ?_ (Y0d zno196))
      simp [bodyPush, hb]; rfl
def R178 : Rel := fun args p r => ∃ (b : Q0a), args = [b.cv] ∧ r = .ret (.tup [(bodyMove b).1.cv, Bo (bodyMove b).2]) p
theorem t178 {T : XCall} (h : Has T 178 R178) (b : Q0a) {p : Hp}  : T 178 [b.cv] p = .ret (.tup [(bodyMove b).1.cv, Bo (bodyMove b).2]) p := h _ _ _ ⟨b, rfl, rfl⟩
theorem zq178 {A B : Prop} (h : A = B := by ((try simp -dsimp (disch := first | exact zdis | fail) only [zcore, zall, zopm, zop, zcallOp, qop, qbuiltin, ofOpt, List.map, reduceCtorEq, if_true, if_false, ↓reduceIte, zbin, eqRes, qassert, qnum, qshift, qun, kindOf, allocV, List.nil_append, List.append_nil, List.cons_append, List.length_cons, List.length_nil, Nat.reduceAdd, Nat.reduceEqDiff, Nat.reduceLT, Nat.reduceSub, Nat.reduceMul, Int.reduceToNat, Int.reduceLE, Int.reduceLT, Int.reduceEq, Int.reduceNeg, Int.reduceAdd, Int.reduceSub, beq_self_eq_true, cond_true, cond_false, isConstOpd, xpanic, xconv, isBytes, qconv, List.length_map, List.map_nil, List.map_cons, concrete, Option.some.injEq, exists_eq', Option.map_some, Option.map_none, List.getElem?_cons_zero, List.getElem?_cons_succ, zw178, rs178, tt3, tt34, ti3, ti34, t_24, t_71, t_198, Y0f, zx, hc]); rfl)) (k : B) : A := h ▸ k
theorem zno178 {P : Prop} (h : P := by intro jj; simp [CV.has, CV.hasL, fault, K0c.nohas, Q0a.nohas]) : P := h
set_option maxHeartbeats 8000000 in
theorem c178 : Con C 178 R178 := by
  refine Z0f C ?_ ?_ ?_
  · rintro args p r r' ⟨b, h, e⟩ ⟨b', h', e'⟩
    subst e; subst e'; simp_all [Q0a.inj_iff]
  · rintro args p r ⟨b, h, rfl⟩; first | (split <;> simp; done) | (simp; done) | (simp only [resM]; split <;> simp; done) | (simp only [resD]; split <;> simp; done) 
  · rintro args p r ⟨b, rfl, rfl⟩
    refine Z0e C false noExt (tabL C [(24, R24), (71, R71), (198, R198)]) xf178 (Q0f C) (K0f C _) zc178_ok (Nat.le_of_ble_eq_true (by kernel_rfl)) fun hF => ?_
    have t_24 := @t24 (tabL C [(24, R24), (71, R71), (198, R198)]) (Z0d C c24 [(71, R71), (198, R198)])
    have t_71 := @t71 (tabL C [(24, R24), (71, R71), (198, R198)]) (Y0c C _ rfl (Z0d C c71 [(198, R198)]))
    have t_198 := @t198 (tabL C [(24, R24), (71, R71), (198, R198)]) (Y0c C _ rfl (Y0c C _ rfl (Z0d C c198 [])))
    generalize tabL C [(24, R24), (71, R71), (198, R198)] = call at t_24 t_71 t_198 ⊢
    show W C false noExt call zc178 (argE [b.cv]) p (endQ C _ _)
    by_cases hb : Body.right b = true
    · by_cases hk : b.Kind = 0
      · (have zx := And.intro hb hk; have hc := True.intro; refine zq178 (k := ?_); clear hc; try exact True.intro)
        repeat' ((first | refine K0d ?_ ?_ | refine Z0c ?_ ?_ | refine X0d _ _ _ _ ?_ ?_ | refine Q0d ?_ ?_ | refine V0d _ _ _ _ ?_ ?_) <;> intro hc <;> (try simp only [zhd] at hc) <;> (try have hw := X0b hc) <;> (refine zq178 (k := ?_); try exact True.intro))
        all_goals (try clear zx)
        refine K0e hF zle (Q0e ?_ (Y0d zno178))
        simp [bodyMove, hb, hk]; rfl
      · have hr := X0j hb hk
        (have zx := And.intro hb hk; have hc := True.intro; refine zq178 (k := ?_); clear hc; try exact True.intro)
        repeat' ((first | refine K0d ?_ ?_ | refine Z0c ?_ ?_ | refine X0d _ _ _ _ ?_ ?_ | refine Q0d ?_ ?_ | refine V0d _ _ _ _ ?_ ?_) <;> intro hc <;> (try simp only [zhd] at hc) <;> (try have hw := X0b hc) <;> (refine zq178 (k := ?_); try exact True.intro))
        all_goals (try clear zx)
        all_goals refine K0e hF zle (Q0e ?_ (Y0d zno178))
        all_goals first | (simp [bodyMove, hb, hk, *]; done) | (simp [bodyMove, hb, hk, *]; rfl)
    · (have zx := hb; have hc := True.intro; refine zq178 (k := ?_); clear hc; try exact True.intro)
      repeat' ((first | refine K0d ?_ ?_ | refine Z0c ?_ ?_ | refine X0d _ _ _ _ ?_ ?_ | refine Q0d ?_ ?_ | refine V0d _ _ _ _ ?_ ?_) <;> intro hc <;> (try simp only [zhd] at hc) <;> (try have hw := X0b hc) <;> (refine zq178 (k := ?_); try exact True.intro))
      all_goals (try clear zx)
      refine K0e hF zle (Q0e ?_ (Y0d zno178))
      simp [bodyMove, hb]; rfl
def R199 : Rel := fun args p r => ∃ (a b : Q0a), args = [a.cv, b.cv] ∧ r = .ret (Bo (bodyHit a b)) p
theorem t199 {T : XCall} (h : Has T 199 R199) (a b : Q0a) {p : Hp}  : T 199 [a.cv, b.cv] p = .ret (Bo (bodyHit a b)) p := h _ _ _ ⟨a, b, rfl, rfl⟩
theorem zq199 {A B : Prop} (h : A = B := by ((try simp -dsimp (disch := first | exact zdis | fail) only [zcore, zall, zopm, zop, zcallOp, qop, qbuiltin, ofOpt, List.map, reduceCtorEq, if_true, if_false, ↓reduceIte, zbin, eqRes, qassert, qnum, qshift, qun, kindOf, allocV, List.nil_append, List.append_nil, List.cons_append, List.length_cons, List.length_nil, Nat.reduceAdd, Nat.reduceEqDiff, Nat.reduceLT, Nat.reduceSub, Nat.reduceMul, Int.reduceToNat, Int.reduceLE, Int.reduceLT, Int.reduceEq, Int.reduceNeg, Int.reduceAdd, Int.reduceSub, beq_self_eq_true, cond_true, cond_false, isConstOpd, xpanic, xconv, isBytes, qconv, List.length_map, List.map_nil, List.map_cons, concrete, Option.some.injEq, exists_eq', Option.map_some, Option.map_none, List.getElem?_cons_zero, List.getElem?_cons_succ, zw199, rs199, tt3, tt34, ti3, ti34, t_24, t_71, Y0f, zx, hc]); rfl)) (k : B) : A := h ▸ k
theorem zno199 {P : Prop} (h : P := by intro jj; simp [CV.has, CV.hasL, fault, K0c.nohas, Q0a.nohas]) : P := h
set_option maxHeartbeats 8000000 in
theorem c199 : Con C 199 R199 := by
  refine Z0f C ?_ ?_ ?_
  · rintro args p r r' ⟨a, b, h, e⟩ ⟨a', b', h', e'⟩
    subst e; subst e'; simp_all [Q0a.inj_iff]
  · rintro args p r ⟨a, b, h, rfl⟩; first | (split <;> simp; done) | (simp; done) | (simp only [resM]; split <;> simp; done) | (simp only [resD]; split <;> simp; done) 
  · rintro args p r ⟨a, b, rfl, rfl⟩
    refine Z0e C false noExt (tabL C [(24, R24), (71, R71)]) xf199 (Q0f C) (K0f C _) zc199_ok (Nat.le_of_ble_eq_true (by kernel_rfl)) fun hF => ?_
    have t_24 := @t24 (tabL C [(24, R24), (71, R71)]) (Z0d C c24 [(71, R71)])
    have t_71 := @t71 (tabL C [(24, R24), (71, R71)]) (Y0c C _ rfl (Z0d C c71 []))
    generalize tabL C [(24, R24), (71, R71)] = call at t_24 t_71 ⊢
    show W C false noExt call zc199 (argE [a.cv, b.cv]) p (endQ C _ _)
    by_cases hk : a.Kind = 2
    · by_cases h1 : Body.right b = true
      · by_cases h2 : Body.right a = true
        · by_cases h3 : b.Kind = 1
          · have r1 := X0j h1 (by omega)
            have r2 := X0j h2 (by omega)
            (have zx := And.intro hk (And.intro h1 (And.intro h2 h3)); have hc := True.intro; refine zq199 (k := ?_); clear hc; try exact True.intro)
            repeat' ((first | refine K0d ?_ ?_ | refine Z0c ?_ ?_ | refine X0d _ _ _ _ ?_ ?_ | refine Q0d ?_ ?_ | refine V0d _ _ _ _ ?_ ?_) <;> intro hc <;> (try simp only [zhd] at hc) <;> (try have hw := X0b hc) <;> (refine zq199 (k := ?_); try exact True.intro))
            all_goals (try clear zx)
            all_goals refine K0e hF zle (Q0e ?_ (Y0d zno199))
            all_goals simp [bodyHit, bodyStrikes, hk, *]
          · (have zx := And.intro hk (And.intro h1 (And.intro h2 h3)); have hc := True.intro; refine zq199 (k := ?_); clear hc; try exact True.intro)
            repeat' ((first | refine K0d ?_ ?_ | refine Z0c ?_ ?_ | refine X0d _ _ _ _ ?_ ?_ | refine Q0d ?_ ?_ | refine V0d _ _ _ _ ?_ ?_) <;> intro hc <;> (try simp only [zhd] at hc) <;> (try have hw := X0b hc) <;> (refine zq199 (k := ?_); try exact True.intro))
            all_goals (try clear zx)
            all_goals refine K0e hF zle (Q0e ?_ (Y0d zno199))
            all_goals simp [bodyHit, bodyStrikes, hk, *]
        · (have zx := And.intro hk (And.intro h1 h2); have hc := True.intro; refine zq199 (k := ?_); clear hc; try exact True.intro)
          repeat' ((first | refine K0d ?_ ?_ | refine Z0c ?_ ?_ | refine X0d _ _ _ _ ?_ ?_ | refine Q0d ?_ ?_ | refine V0d _ _ _ _ ?_ ?_) <;> intro hc <;> (try simp only [zhd] at hc) <;> (try have hw := X0b hc) <;> (refine zq199 (k := ?_); try exact True.intro))
          all_goals (try clear zx)
          all_goals refine K0e hF zle (Q0e ?_ (Y0d zno199))
          all_goals simp [bodyHit, bodyStrikes, hk, *]
      · (have zx := And.intro hk h1; have hc := True.intro; refine zq199 (k := ?_); clear hc; try exact True.intro)
        repeat' ((first | refine K0d ?_ ?_ | refine Z0c ?_ ?_ | refine X0d _ _ _ _ ?_ ?_ | refine Q0d ?_ ?_ | refine V0d _ _ _ _ ?_ ?_) <;> intro hc <;> (try simp only [zhd] at hc) <;> (try have hw := X0b hc) <;> (refine zq199 (k := ?_); try exact True.intro))
        all_goals (try clear zx)
        all_goals refine K0e hF zle (Q0e ?_ (Y0d zno199))
        all_goals simp [bodyHit, bodyStrikes, hk, *]
    · by_cases h1 : Body.right a = true
      · by_cases h2 : Body.right b = true
        · by_cases h3 : a.Kind = 1
          · by_cases h4 : b.Kind = 2
            · have r1 := X0j h1 (by omega)
              have r2 := X0j h2 (by omega)
              (have zx := And.intro hk (And.intro h1 (And.intro h2 (And.intro h3 h4))); have hc := True.intro; refine zq199 (k := ?_); clear hc; try exact True.intro)
              repeat' ((first | refine K0d ?_ ?_ | refine Z0c ?_ ?_ | refine X0d _ _ _ _ ?_ ?_ | refine Q0d ?_ ?_ | refine V0d _ _ _ _ ?_ ?_) <;> intro hc <;> (try simp only [zhd] at hc) <;> (try have hw := X0b hc) <;> (refine zq199 (k := ?_); try exact True.intro))
              all_goals (try clear zx)
              all_goals refine K0e hF zle (Q0e ?_ (Y0d zno199))
              all_goals simp [bodyHit, bodyStrikes, *]
            · (have zx := And.intro hk (And.intro h1 (And.intro h2 (And.intro h3 h4))); have hc := True.intro; refine zq199 (k := ?_); clear hc; try exact True.intro)
              repeat' ((first | refine K0d ?_ ?_ | refine Z0c ?_ ?_ | refine X0d _ _ _ _ ?_ ?_ | refine Q0d ?_ ?_ | refine V0d _ _ _ _ ?_ ?_) <;> intro hc <;> (try simp only [zhd] at hc) <;> (try have hw := X0b hc) <;> (refine zq199 (k := ?_); try exact True.intro))
              all_goals (try clear zx)
              all_goals refine K0e hF zle (Q0e ?_ (Y0d zno199))
              all_goals simp [bodyHit, bodyStrikes, *]
          · (have zx := And.intro hk (And.intro h1 (And.intro h2 h3)); have hc := True.intro; refine zq199 (k := ?_); clear hc; try exact True.intro)
            repeat' ((first | refine K0d ?_ ?_ | refine Z0c ?_ ?_ | refine X0d _ _ _ _ ?_ ?_ | refine Q0d ?_ ?_ | refine V0d _ _ _ _ ?_ ?_) <;> intro hc <;> (try simp only [zhd] at hc) <;> (try have hw := X0b hc) <;> (refine zq199 (k := ?_); try exact True.intro))
            all_goals (try clear zx)
            all_goals refine K0e hF zle (Q0e ?_ (Y0d zno199))
            all_goals simp [bodyHit, bodyStrikes, *]
        · (have zx := And.intro hk (And.intro h1 h2); have hc := True.intro; refine zq199 (k := ?_); clear hc; try exact True.intro)
          repeat' ((first | refine K0d ?_ ?_ | refine Z0c ?_ ?_ | refine X0d _ _ _ _ ?_ ?_ | refine Q0d ?_ ?_ | refine V0d _ _ _ _ ?_ ?_) <;> intro hc <;> (try simp only [zhd] at hc) <;> (try have hw := X0b hc) <;> (refine zq199 (k := ?_); try exact True.intro))
          all_goals (try clear zx)
          all_goals refine K0e hF zle (Q0e ?_ (Y0d zno199))
          all_goals simp [bodyHit, bodyStrikes, *]
      · (have zx := And.intro hk h1; have hc := True.intro; refine zq199 (k := ?_); clear hc; try exact True.intro)
        repeat' ((first | refine K0d ?_ ?_ | refine Z0c ?_ ?_ | refine X0d _ _ _ _ ?_ ?_ | refine Q0d ?_ ?_ | refine V0d _ _ _ _ ?_ ?_) <;> intro hc <;> (try simp only [zhd] at hc) <;> (try have hw := X0b hc) <;> (refine zq199 (k := ?_); try exact True.intro))
        all_goals (try clear zx)
        all_goals refine K0e hF zle (Q0e ?_ (Y0d zno199))
        all_goals simp [bodyHit, bodyStrikes, *]
end Go.Proofs.Ytpchcfkebljopaa
end
section
namespace Go.Proofs.Ytpchcfkebljopaa
open Go.Cl Go Go.RowKit
abbrev f64 := FloatKind.f64.format
def nanF (n : Nat) : Bool := f64.order n n != some .eq
def absF (n : Nat) : Nat := (IntKind.u64.wrap (BitVec.ofInt IntKind.u64.bits (n : Int) &&& ~~~BitVec.ofInt IntKind.u64.bits (9223372036854775808 : Int)).toNat).toNat
def infF (n : Nat) : Bool := f64.order (absF n) 9218868437227405311 == some .gt
def oddF (n : Nat) : Bool := nanF n || infF n
def bucketOk (r d : Nat) : Bool := !(oddF r || oddF d || (f64.order r 0 == some .lt) || (f64.order d 4607182418800017408 == some .lt) || (f64.order d 4652007308841189376 == some .gt))
def seedOf (n : Int) : Int := IntKind.u64.wrap (IntKind.u64.wrap (IntKind.u64.wrap n * 2) + 1)
def tokGo (seen : List Int) : List Int → Bool
  | [] => true
  | n :: l => within n 0 2147483646 && !seen.contains n && tokGo (seen ++ [n]) l
def legalC (c : K0a) : Bool :=
  within c.Players 1 8 && (within c.Period 1 8 && within c.Grace 0 60 && within c.Start 0 100 && within c.Frames 1 600) && within c.Seed 0 2147483647 && bucketOk c.Rate c.Depth && ruleRight c.Rules.l && (tokGo [] c.Tokens.l && decide ((c.Tokens.l.length : Int) = c.Players))
def rightAt (players : Int) (k : Nat) (b : Q0a) : Bool :=
  Body.right b && (if (k : Int) < players then decide (b.Kind = 1) && decide (b.Owner = k) else decide (b.Kind = 0) || decide (b.Kind = 2) && decide (b.Owner < players))
def scoreAt (players : Int) (k : Nat) (n : Int) : Bool := within n 0 2147483647 && !(decide (players ≤ k) && decide (n ≠ 0))
def allFrom {α : Type} (f : Nat → α → Bool) : List α → Nat → Bool
  | [], _ => true
  | x :: l, k => f k x && allFrom f l (k + 1)
def stateRight (c : K0a) (s : X0a) : Bool :=
  allFrom (rightAt c.Players) s.Bodies 0 && allFrom (scoreAt c.Players) s.Score 0 && legalC c && within s.Frame 0 600
def freeN (l : List Q0a) : Nat := (l.filter fun b => decide (b.Kind = 0)).length
def clampIn (x : Y0b) : Y0b := ⟨brought x.Buttons 0 255, brought x.X (-64) 64, brought x.Y (-64) 64⟩
def rowInput (row : List V0b) (o : Int) : Y0b := if (row.length : Int) ≤ o then Y0b.zero else clampIn (nth row o.toNat).In
structure Turn where
  dice : Int
  shots : List Q0a
  body : Q0a
def playerEnv (row : List V0b) (dice room : Int) (b : Q0a) : Z0b :=
  ⟨bodyPush b ((rowInput row b.Owner).X.tdiv 16) ((rowInput row b.Owner).Y.tdiv 16), rowInput row b.Owner, dice, room, ⟨.nil, [], fun _ => rfl⟩⟩
def playerTurn (rules : List X0c) (row : List V0b) (dice room : Int) (b : Q0a) : Turn :=
  if (runL rules (playerEnv row dice room b)).2.2 = true then ⟨(runL rules (playerEnv row dice room b)).1.Dice, (runL rules (playerEnv row dice room b)).1.Shots.l, (runL rules (playerEnv row dice room b)).1.Body⟩
  else ⟨dice, [], { b with Faults := min (b.Faults + 1) 65535 }⟩
def bodyTurn (rules : List X0c) (row : List V0b) (dice room : Int) (b : Q0a) : Turn :=
  if b.Kind = 1 then playerTurn rules row dice room b else ⟨dice, [], b⟩
def turnStep (rules : List X0c) (row : List V0b) (was : List Q0a) (st : X0a × List Q0a) (k : Nat) : X0a × List Q0a :=
  let t := bodyTurn rules row st.1.Dice (freeN st.1.Bodies - st.2.length) (nth was k)
  (({ st.1 with Dice := t.dice } : X0a).put_2k k (bodyMove t.body).1, st.2 ++ t.shots)
def turnsS (rules : List X0c) (row : List V0b) (s : X0a) : Nat → X0a × List Q0a
  | 0 => (s, [])
  | k + 1 => turnStep rules row s.Bodies (turnsS rules row s k) k
def setStep (st : X0a × List Q0a) (k : Nat) : X0a × List Q0a :=
  match st.2 with
  | [] => st
  | x :: sh => if (nth st.1.Bodies k).Kind = 0 then (st.1.put_2k k x, sh) else st
def setsS (st : X0a × List Q0a) : Nat → X0a × List Q0a
  | 0 => st
  | k + 1 => setStep (setsS st k) k
def struckL (bodies : List Q0a) (shot : Q0a) : Int := firstW (fun b => decide (b.Kind = 1) && bodyHit b shot) bodies 0
def again (players : Int) (v : Q0a) : Q0a := { bodyBorn v.Owner players with Faults := v.Faults }
def hitStep (players : Int) (s : X0a) (k : Nat) : X0a :=
  let shot := nth s.Bodies k
  if shot.Kind ≠ 2 then s else
  let at_ := struckL s.Bodies shot
  if at_ < 0 then s else
  let s2 := (s.put_3k shot.Owner.toNat (min (nth s.Score shot.Owner.toNat + 1) 2147483647)).put_2k k Q0a.zero
  s2.put_2k at_.toNat (again players (nth s2.Bodies at_.toNat))
def hitsS (players : Int) (s : X0a) : Nat → X0a
  | 0 => s
  | k + 1 => hitStep players (hitsS players s k) k
def stepS (c : K0a) (row : List V0b) (s : X0a) : X0a :=
  if stateRight c s = false then X0a.zero else
  let h := hitsS c.Players (setsS (turnsS c.Rules.l row s 16) 16).1 16
  { h with Frame := min (h.Frame + 1) 600 }
theorem Y0r {α : Type} [Inhabited α] (f : Nat → α → Bool) : ∀ (l : List α) (k : Nat), allFrom f l k = true ↔ ∀ j, j < l.length → f (k + j) (nth l j) = true
  | [], k => by simp [allFrom]
  | x :: l, k => by
    simp only [allFrom, Bool.and_eq_true, Y0r f l (k + 1), List.length_cons]
    constructor
    · rintro ⟨h1, h2⟩ j hj
      cases j with
      | zero => simpa [nth] using h1
      | succ j => have := h2 j (by omega); rw [show k + (j + 1) = k + 1 + j by omega]; simpa [nth] using this
    · intro h
      refine ⟨by simpa [nth] using h 0 (by omega), fun j hj => ?_⟩
      have := h (j + 1) (by omega)
      rw [show k + (j + 1) = k + 1 + j by omega] at this; simpa [nth] using this
theorem Y04 {α : Type} [Inhabited α] (f : Nat → α → Bool) {l : List α} {k : Nat} (h : k < l.length) : allFrom f (l.drop k) k = (f k (nth l k) && allFrom f (l.drop (k + 1)) (k + 1)) := by
  rw [Z06 h]; rfl
end Go.Proofs.Ytpchcfkebljopaa
end
section
-- @nole
namespace Go.Proofs.Ytpchcfkebljopaa
open Go.Cl Go Go.RowKit
set_option maxRecDepth 100000
set_option linter.constructorNameAsVariable false
def extF : FuncId → List CV → Option CV := extBits 209 208
theorem ext_a : ExtFn C.P 209 Extern.MathFloatBits.float64bits := ⟨Try.f209, Try.func209, by kernel_rfl, by kernel_rfl, by kernel_rfl, by kernel_rfl⟩
theorem ext_b : ExtFn C.P 208 Extern.MathFloatBits.float64frombits := ⟨Try.f208, Try.func208, by kernel_rfl, by kernel_rfl, by kernel_rfl, by kernel_rfl⟩
theorem ext_ok : ExtOk C extF := extBits_ok ext_a ext_b
theorem extF_a (n : Nat) : extF 209 [Fl n] = some (U n) := rfl
theorem extF_b (n : Int) : extF 208 [U n] = some (Fl n.toNat) := rfl
def R193 : Rel := fun args p r => ∃ (n : Nat), args = [Fl n] ∧ r = .ret (Bo (nanF n)) p
theorem t193 {T : XCall} (h : Has T 193 R193) (n : Nat) {p : Hp}  : T 193 [Fl n] p = .ret (Bo (nanF n)) p := h _ _ _ ⟨n, rfl, rfl⟩
theorem zq193 {A B : Prop} (h : A = B := by ((try simp -dsimp (disch := first | exact zdis | fail) only [zcore, zall, zopm, zop, zcallOp, qop, qbuiltin, ofOpt, List.map, reduceCtorEq, if_true, if_false, ↓reduceIte, zbin, eqRes, qassert, qnum, qshift, qun, kindOf, allocV, List.nil_append, List.append_nil, List.cons_append, List.length_cons, List.length_nil, Nat.reduceAdd, Nat.reduceEqDiff, Nat.reduceLT, Nat.reduceSub, Nat.reduceMul, Int.reduceToNat, Int.reduceLE, Int.reduceLT, Int.reduceEq, Int.reduceNeg, Int.reduceAdd, Int.reduceSub, beq_self_eq_true, cond_true, cond_false, isConstOpd, xpanic, xconv, isBytes, qconv, List.length_map, List.map_nil, List.map_cons, concrete, Option.some.injEq, exists_eq', Option.map_some, Option.map_none, List.getElem?_cons_zero, List.getElem?_cons_succ, zw193, rs193, tt59, ti59, qfloat, zx, hc]); rfl)) (k : B) : A := h ▸ k
theorem zno193 {P : Prop} (h : P := by intro jj; simp [CV.has, CV.hasL, fault, K0c.nohas]) : P := h
set_option maxHeartbeats 8000000 in
theorem c193 : Con C 193 R193 := by
  refine Z0f C ?_ ?_ ?_
  · rintro args p r r' ⟨n, h, e⟩ ⟨n', h', e'⟩
    subst e; subst e'; simp_all
  · rintro args p r ⟨n, h, rfl⟩; first | (split <;> simp; done) | (simp; done) | (simp only [resM]; split <;> simp; done) | (simp only [resD]; split <;> simp; done) 
  · rintro args p r ⟨n, rfl, rfl⟩
    refine Z0e C false noExt (tabL C []) xf193 (Q0f C) (K0f C _) zc193_ok (Nat.le_of_ble_eq_true (by kernel_rfl)) fun hF => ?_
    generalize tabL C [] = call
    show W C false noExt call zc193 (argE [Fl n]) p (endQ C _ _)
    (have zx := True.intro; have hc := True.intro; refine zq193 (k := ?_); clear hc; try exact True.intro)
    repeat' ((first | refine K0d ?_ ?_ | refine Z0c ?_ ?_ | refine X0d _ _ _ _ ?_ ?_ | refine Q0d ?_ ?_ | refine V0d _ _ _ _ ?_ ?_) <;> intro hc <;> (try simp only [zhd] at hc) <;> (try have hw := X0b hc) <;> (refine zq193 (k := ?_); try exact True.intro))
    all_goals (try clear zx)
    exact K0e hF zle (Q0e rfl (Y0d zno193))
def R205 : Rel := fun args p r => ∃ (n : Nat), args = [Fl n] ∧ r = .ret (Fl (absF n)) p
theorem t205 {T : XCall} (h : Has T 205 R205) (n : Nat) {p : Hp}  : T 205 [Fl n] p = .ret (Fl (absF n)) p := h _ _ _ ⟨n, rfl, rfl⟩
theorem zq205 {A B : Prop} (h : A = B := by ((try simp -dsimp (disch := first | exact zdis | fail) only [zcore, zall, zopm, zop, zcallOp, qop, qbuiltin, ofOpt, List.map, reduceCtorEq, if_true, if_false, ↓reduceIte, zbin, eqRes, qassert, qnum, qshift, qun, kindOf, allocV, List.nil_append, List.append_nil, List.cons_append, List.length_cons, List.length_nil, Nat.reduceAdd, Nat.reduceEqDiff, Nat.reduceLT, Nat.reduceSub, Nat.reduceMul, Int.reduceToNat, Int.reduceLE, Int.reduceLT, Int.reduceEq, Int.reduceNeg, Int.reduceAdd, Int.reduceSub, beq_self_eq_true, cond_true, cond_false, isConstOpd, xpanic, xconv, isBytes, qconv, List.length_map, List.map_nil, List.map_cons, concrete, Option.some.injEq, exists_eq', Option.map_some, Option.map_none, List.getElem?_cons_zero, List.getElem?_cons_succ, zw205, rs205, tt25, ti25, extF_a, extF_b, zx, hc]); rfl)) (k : B) : A := h ▸ k
theorem zno205 {P : Prop} (h : P := by intro jj; simp [CV.has, CV.hasL, fault, K0c.nohas]) : P := h
set_option maxHeartbeats 8000000 in
theorem c205 : Con C 205 R205 := by
  refine Z0f C ?_ ?_ ?_
  · rintro args p r r' ⟨n, h, e⟩ ⟨n', h', e'⟩
    subst e; subst e'; simp_all
  · rintro args p r ⟨n, h, rfl⟩; first | (split <;> simp; done) | (simp; done) | (simp only [resM]; split <;> simp; done) | (simp only [resD]; split <;> simp; done) 
  · rintro args p r ⟨n, rfl, rfl⟩
    refine Z0e C false extF (tabL C []) xf205 ext_ok (K0f C _) zc205_ok (Nat.le_of_ble_eq_true (by kernel_rfl)) fun hF => ?_
    generalize tabL C [] = call
    show W C false extF call zc205 (argE [Fl n]) p (endQ C _ _)
    (have zx := True.intro; have hc := True.intro; refine zq205 (k := ?_); clear hc; try exact True.intro)
    repeat' ((first | refine K0d ?_ ?_ | refine Z0c ?_ ?_ | refine X0d _ _ _ _ ?_ ?_ | refine Q0d ?_ ?_ | refine V0d _ _ _ _ ?_ ?_) <;> intro hc <;> (try simp only [zhd] at hc) <;> (try have hw := X0b hc) <;> (refine zq205 (k := ?_); try exact True.intro))
    all_goals (try clear zx)
    exact K0e hF zle (Q0e rfl (Y0d zno205))
def R194 : Rel := fun args p r => ∃ (n : Nat), args = [Fl n, I 0] ∧ r = .ret (Bo (infF n)) p
theorem t194 {T : XCall} (h : Has T 194 R194) (n : Nat) {p : Hp}  : T 194 [Fl n, I 0] p = .ret (Bo (infF n)) p := h _ _ _ ⟨n, rfl, rfl⟩
theorem zq194 {A B : Prop} (h : A = B := by ((try simp -dsimp (disch := first | exact zdis | fail) only [zcore, zall, zopm, zop, zcallOp, qop, qbuiltin, ofOpt, List.map, reduceCtorEq, if_true, if_false, ↓reduceIte, zbin, eqRes, qassert, qnum, qshift, qun, kindOf, allocV, List.nil_append, List.append_nil, List.cons_append, List.length_cons, List.length_nil, Nat.reduceAdd, Nat.reduceEqDiff, Nat.reduceLT, Nat.reduceSub, Nat.reduceMul, Int.reduceToNat, Int.reduceLE, Int.reduceLT, Int.reduceEq, Int.reduceNeg, Int.reduceAdd, Int.reduceSub, beq_self_eq_true, cond_true, cond_false, isConstOpd, xpanic, xconv, isBytes, qconv, List.length_map, List.map_nil, List.map_cons, concrete, Option.some.injEq, exists_eq', Option.map_some, Option.map_none, List.getElem?_cons_zero, List.getElem?_cons_succ, zw194, rs194, tt3, tt59, ti3, ti59, t_205, qfloat, zx, hc]); rfl)) (k : B) : A := h ▸ k
theorem zno194 {P : Prop} (h : P := by intro jj; simp [CV.has, CV.hasL, fault, K0c.nohas]) : P := h
set_option maxHeartbeats 8000000 in
theorem c194 : Con C 194 R194 := by
  refine Z0f C ?_ ?_ ?_
  · rintro args p r r' ⟨n, h, e⟩ ⟨n', h', e'⟩
    subst e; subst e'; simp_all
  · rintro args p r ⟨n, h, rfl⟩; first | (split <;> simp; done) | (simp; done) | (simp only [resM]; split <;> simp; done) | (simp only [resD]; split <;> simp; done) 
  · rintro args p r ⟨n, rfl, rfl⟩
    refine Z0e C false noExt (tabL C [(205, R205)]) xf194 (Q0f C) (K0f C _) zc194_ok (Nat.le_of_ble_eq_true (by kernel_rfl)) fun hF => ?_
    have t_205 := @t205 (tabL C [(205, R205)]) (Z0d C c205 [])
    generalize tabL C [(205, R205)] = call at t_205 ⊢
    show W C false noExt call zc194 (argE [Fl n, I 0]) p (endQ C _ _)
    (have zx := True.intro; have hc := True.intro; refine zq194 (k := ?_); clear hc; try exact True.intro)
    repeat' ((first | refine K0d ?_ ?_ | refine Z0c ?_ ?_ | refine X0d _ _ _ _ ?_ ?_ | refine Q0d ?_ ?_ | refine V0d _ _ _ _ ?_ ?_) <;> intro hc <;> (try simp only [zhd] at hc) <;> (try have hw := X0b hc) <;> (refine zq194 (k := ?_); try exact True.intro))
    all_goals (try clear zx)
    exact K0e hF zle (Q0e rfl (Y0d zno194))
def R176 : Rel := fun args p r => ∃ (n : Nat), args = [Fl n] ∧ r = .ret (Bo (oddF n)) p
theorem t176 {T : XCall} (h : Has T 176 R176) (n : Nat) {p : Hp}  : T 176 [Fl n] p = .ret (Bo (oddF n)) p := h _ _ _ ⟨n, rfl, rfl⟩
theorem zq176 {A B : Prop} (h : A = B := by ((try simp -dsimp (disch := first | exact zdis | fail) only [zcore, zall, zopm, zop, zcallOp, qop, qbuiltin, ofOpt, List.map, reduceCtorEq, if_true, if_false, ↓reduceIte, zbin, eqRes, qassert, qnum, qshift, qun, kindOf, allocV, List.nil_append, List.append_nil, List.cons_append, List.length_cons, List.length_nil, Nat.reduceAdd, Nat.reduceEqDiff, Nat.reduceLT, Nat.reduceSub, Nat.reduceMul, Int.reduceToNat, Int.reduceLE, Int.reduceLT, Int.reduceEq, Int.reduceNeg, Int.reduceAdd, Int.reduceSub, beq_self_eq_true, cond_true, cond_false, isConstOpd, xpanic, xconv, isBytes, qconv, List.length_map, List.map_nil, List.map_cons, concrete, Option.some.injEq, exists_eq', Option.map_some, Option.map_none, List.getElem?_cons_zero, List.getElem?_cons_succ, zw176, rs176, t_193, t_194, zx, hc]); rfl)) (k : B) : A := h ▸ k
theorem zno176 {P : Prop} (h : P := by intro jj; simp [CV.has, CV.hasL, fault, K0c.nohas]) : P := h
set_option maxHeartbeats 8000000 in
theorem c176 : Con C 176 R176 := by
  refine Z0f C ?_ ?_ ?_
  · rintro args p r r' ⟨n, h, e⟩ ⟨n', h', e'⟩
    subst e; subst e'; simp_all
  · rintro args p r ⟨n, h, rfl⟩; first | (split <;> simp; done) | (simp; done) | (simp only [resM]; split <;> simp; done) | (simp only [resD]; split <;> simp; done) 
  · rintro args p r ⟨n, rfl, rfl⟩
    refine Z0e C false noExt (tabL C [(193, R193), (194, R194)]) xf176 (Q0f C) (K0f C _) zc176_ok (Nat.le_of_ble_eq_true (by kernel_rfl)) fun hF => ?_
    have t_193 := @t193 (tabL C [(193, R193), (194, R194)]) (Z0d C c193 [(194, R194)])
    have t_194 := @t194 (tabL C [(193, R193), (194, R194)]) (Y0c C _ rfl (Z0d C c194 []))
    generalize tabL C [(193, R193), (194, R194)] = call at t_193 t_194 ⊢
    show W C false noExt call zc176 (argE [Fl n]) p (endQ C _ _)
    (have zx := True.intro; have hc := True.intro; refine zq176 (k := ?_); clear hc; try exact True.intro)
    repeat' ((first | refine K0d ?_ ?_ | refine Z0c ?_ ?_ | refine X0d _ _ _ _ ?_ ?_ | refine Q0d ?_ ?_ | refine V0d _ _ _ _ ?_ ?_) <;> intro hc <;> (try simp only [zhd] at hc) <;> (try have hw := X0b hc) <;> (refine zq176 (k := ?_); try exact True.intro))
    all_goals (try clear zx)
    all_goals refine K0e hF zle (Q0e ?_ (Y0d zno176))
    all_goals simp [oddF, hc]
def R133 : Rel := fun args p r => ∃ (n : Int), args = [I n] ∧ r = .ret (U (seedOf n)) p
theorem t133 {T : XCall} (h : Has T 133 R133) (n : Int) {p : Hp}  : T 133 [I n] p = .ret (U (seedOf n)) p := h _ _ _ ⟨n, rfl, rfl⟩
theorem zq133 {A B : Prop} (h : A = B := by ((try simp -dsimp (disch := first | exact zdis | fail) only [zcore, zall, zopm, zop, zcallOp, qop, qbuiltin, ofOpt, List.map, reduceCtorEq, if_true, if_false, ↓reduceIte, zbin, eqRes, qassert, qnum, qshift, qun, kindOf, allocV, List.nil_append, List.append_nil, List.cons_append, List.length_cons, List.length_nil, Nat.reduceAdd, Nat.reduceEqDiff, Nat.reduceLT, Nat.reduceSub, Nat.reduceMul, Int.reduceToNat, Int.reduceLE, Int.reduceLT, Int.reduceEq, Int.reduceNeg, Int.reduceAdd, Int.reduceSub, beq_self_eq_true, cond_true, cond_false, isConstOpd, xpanic, xconv, isBytes, qconv, List.length_map, List.map_nil, List.map_cons, concrete, Option.some.injEq, exists_eq', Option.map_some, Option.map_none, List.getElem?_cons_zero, List.getElem?_cons_succ, zw133, rs133, tt3, tt25, ti3, ti25, zx, hc]); rfl)) (k : B) : A := h ▸ k
theorem zno133 {P : Prop} (h : P := by intro jj; simp [CV.has, CV.hasL, fault, K0c.nohas]) : P := h
set_option maxHeartbeats 8000000 in
theorem c133 : Con C 133 R133 := by
  refine Z0f C ?_ ?_ ?_
  · rintro args p r r' ⟨n, h, e⟩ ⟨n', h', e'⟩
    subst e; subst e'; simp_all
  · rintro args p r ⟨n, h, rfl⟩; first | (split <;> simp; done) | (simp; done) | (simp only [resM]; split <;> simp; done) | (simp only [resD]; split <;> simp; done) 
  · rintro args p r ⟨n, rfl, rfl⟩
    refine Z0e C false noExt (tabL C []) xf133 (Q0f C) (K0f C _) zc133_ok (Nat.le_of_ble_eq_true (by kernel_rfl)) fun hF => ?_
    generalize tabL C [] = call
    show W C false noExt call zc133 (argE [I n]) p (endQ C _ _)
    (have zx := True.intro; have hc := True.intro; refine zq133 (k := ?_); clear hc; try exact True.intro)
    repeat' ((first | refine K0d ?_ ?_ | refine Z0c ?_ ?_ | refine X0d _ _ _ _ ?_ ?_ | refine Q0d ?_ ?_ | refine V0d _ _ _ _ ?_ ?_) <;> intro hc <;> (try simp only [zhd] at hc) <;> (try have hw := X0b hc) <;> (refine zq133 (k := ?_); try exact True.intro))
    all_goals (try clear zx)
    exact K0e hF zle (Q0e rfl (Y0d zno133))
def R135 : Rel := fun args p r => ∃ (ra de : Nat), args = [Fl ra, Fl de] ∧ r = (if bucketOk ra de = true then .ret (.tup [.ptr p.n [], I 0]) (p.bump 1) else .ret (.tup [.sc (.pointer none), I 1]) p)
theorem t135 {T : XCall} (h : Has T 135 R135) (ra de : Nat) {p : Hp}  : T 135 [Fl ra, Fl de] p = (if bucketOk ra de = true then .ret (.tup [.ptr p.n [], I 0]) (p.bump 1) else .ret (.tup [.sc (.pointer none), I 1]) p) := h _ _ _ ⟨ra, de, rfl, rfl⟩
theorem zq135 {A B : Prop} (h : A = B := by ((try simp -dsimp (disch := first | exact zdis | fail) only [zcore, zall, zopm, zop, zcallOp, qop, qbuiltin, ofOpt, List.map, reduceCtorEq, if_true, if_false, ↓reduceIte, zbin, eqRes, qassert, qnum, qshift, qun, kindOf, allocV, List.nil_append, List.append_nil, List.cons_append, List.length_cons, List.length_nil, Nat.reduceAdd, Nat.reduceEqDiff, Nat.reduceLT, Nat.reduceSub, Nat.reduceMul, Int.reduceToNat, Int.reduceLE, Int.reduceLT, Int.reduceEq, Int.reduceNeg, Int.reduceAdd, Int.reduceSub, beq_self_eq_true, cond_true, cond_false, isConstOpd, xpanic, xconv, isBytes, qconv, List.length_map, List.map_nil, List.map_cons, concrete, Option.some.injEq, exists_eq', Option.map_some, Option.map_none, List.getElem?_cons_zero, List.getElem?_cons_succ, zw135, rs135, tt59, tt223, ti59, ti223, t_176, V06, qfloat, zx, hc]); rfl)) (k : B) : A := h ▸ k
theorem zno135 {P : Prop} (h : P := by intro jj; simp [CV.has, CV.hasL, fault, K0c.nohas, Q0b.nohas]) : P := h
set_option maxHeartbeats 8000000 in
theorem c135 : Con C 135 R135 := by
  refine Z0f C ?_ ?_ ?_
  · rintro args p r r' ⟨ra, de, h, e⟩ ⟨ra', de', h', e'⟩
    subst e; subst e'; simp_all [Q0b.inj_iff]
  · rintro args p r ⟨ra, de, h, rfl⟩; first | (split <;> simp; done) | (simp; done) | (simp only [resM]; split <;> simp; done) | (simp only [resD]; split <;> simp; done) 
  · rintro args p r ⟨ra, de, rfl, rfl⟩
    refine Z0e C false noExt (tabL C [(176, R176)]) xf135 (Q0f C) (K0f C _) zc135_ok (Nat.le_of_ble_eq_true (by kernel_rfl)) fun hF => ?_
    have t_176 := @t176 (tabL C [(176, R176)]) (Z0d C c176 [])
    generalize tabL C [(176, R176)] = call at t_176 ⊢
    show W C false noExt call zc135 (argE [Fl ra, Fl de]) p (endQ C _ _)
    (have zx := True.intro; have hc := True.intro; refine zq135 (k := ?_); clear hc; try exact True.intro)
    repeat' ((first | refine K0d ?_ ?_ | refine Z0c ?_ ?_ | refine X0d _ _ _ _ ?_ ?_ | refine Q0d ?_ ?_ | refine V0d _ _ _ _ ?_ ?_) <;> intro hc <;> (try simp only [zhd] at hc) <;> (try have hw := X0b hc) <;> (refine zq135 (k := ?_); try exact True.intro))
    all_goals (try clear zx)
    all_goals first
      | (rw [if_neg (by simp [bucketOk, *])]; exact K0e hF zle (Q0e rfl (Y0d zno135)))
      | (rw [if_pos (by simp [bucketOk, *])]; exact V1m (Nat.le_succ _) (fun k o h => ⟨Nat.lt_succ_of_lt (hF.dom k o h), .inl ⟨hF.dom k o h, h, by rw [Hp.get_new_ne _ _ (Nat.ne_of_lt (hF.dom k o h))]; exact h⟩⟩) (Q0e rfl (fun j hj => by simp [CV.has, CV.hasL] at hj; subst hj; exact Nat.lt_succ_self _)))
def R105 : Rel := fun args p r => ∃ (c : K0a) (k : Int) (b : Q0a), args = [c.cv, I k, b.cv] ∧ (0 ≤ k) ∧ r = .ret (Bo (rightAt c.Players k.toNat b)) p
theorem t105 {T : XCall} (h : Has T 105 R105) (c : K0a) (k : Int) (b : Q0a) {p : Hp} (h1 : 0 ≤ k) : T 105 [c.cv, I k, b.cv] p = .ret (Bo (rightAt c.Players k.toNat b)) p := h _ _ _ ⟨c, k, b, rfl, h1, rfl⟩
theorem zq105 {A B : Prop} (h : A = B := by ((try simp -dsimp (disch := first | exact zdis | fail) only [zcore, zall, zopm, zop, zcallOp, qop, qbuiltin, ofOpt, List.map, reduceCtorEq, if_true, if_false, ↓reduceIte, zbin, eqRes, qassert, qnum, qshift, qun, kindOf, allocV, List.nil_append, List.append_nil, List.cons_append, List.length_cons, List.length_nil, Nat.reduceAdd, Nat.reduceEqDiff, Nat.reduceLT, Nat.reduceSub, Nat.reduceMul, Int.reduceToNat, Int.reduceLE, Int.reduceLT, Int.reduceEq, Int.reduceNeg, Int.reduceAdd, Int.reduceSub, beq_self_eq_true, cond_true, cond_false, isConstOpd, xpanic, xconv, isBytes, qconv, List.length_map, List.map_nil, List.map_cons, concrete, Option.some.injEq, exists_eq', Option.map_some, Option.map_none, List.getElem?_cons_zero, List.getElem?_cons_succ, zw105, rs105, tt3, tt34, tt61, ti3, ti34, ti61, t_24, X0h, Y0f, h1, zx, hc]); rfl)) (k : B) : A := h ▸ k
theorem zno105 {P : Prop} (h : P := by intro jj; simp [CV.has, CV.hasL, fault, K0c.nohas, Q0a.nohas]) : P := h
set_option maxHeartbeats 8000000 in
theorem c105 : Con C 105 R105 := by
  refine Z0f C ?_ ?_ ?_
  · rintro args p r r' ⟨c, k, b, h, h1, e⟩ ⟨c', k', b', h', h1', e'⟩
    subst e; subst e'; simp_all [K0a.inj_iff, Q0a.inj_iff]
  · rintro args p r ⟨c, k, b, h, h1, rfl⟩; first | (split <;> simp; done) | (simp; done) | (simp only [resM]; split <;> simp; done) | (simp only [resD]; split <;> simp; done) 
  · rintro args p r ⟨c, k, b, rfl, h1, rfl⟩
    refine Z0e C false noExt (tabL C [(24, R24)]) xf105 (Q0f C) (K0f C _) zc105_ok (Nat.le_of_ble_eq_true (by kernel_rfl)) fun hF => ?_
    have t_24 := @t24 (tabL C [(24, R24)]) (Z0d C c24 [])
    generalize tabL C [(24, R24)] = call at t_24 ⊢
    show W C false noExt call zc105 (argE [c.cv, I k, b.cv]) p (endQ C _ _)
    have hk : ((k.toNat : Nat) : Int) = k := by omega
    cases hb : Body.right b with
    | false =>
      (have zx := hb; have hc := True.intro; refine zq105 (k := ?_); clear hc; try exact True.intro)
      repeat' ((first | refine K0d ?_ ?_ | refine Z0c ?_ ?_ | refine X0d _ _ _ _ ?_ ?_ | refine Q0d ?_ ?_ | refine V0d _ _ _ _ ?_ ?_) <;> intro hc <;> (try simp only [zhd] at hc) <;> (try have hw := X0b hc) <;> (refine zq105 (k := ?_); try exact True.intro))
      all_goals (try clear zx)
      refine K0e hF zle (Q0e ?_ (Y0d zno105))
      simp [rightAt, hb]
    | true =>
      (have zx := hb; have hc := True.intro; refine zq105 (k := ?_); clear hc; try exact True.intro)
      repeat' ((first | refine K0d ?_ ?_ | refine Z0c ?_ ?_ | refine X0d _ _ _ _ ?_ ?_ | refine Q0d ?_ ?_ | refine V0d _ _ _ _ ?_ ?_) <;> intro hc <;> (try simp only [zhd] at hc) <;> (try have hw := X0b hc) <;> (refine zq105 (k := ?_); try exact True.intro))
      all_goals (try clear zx)
      all_goals refine K0e hF zle (Q0e ?_ (Y0d zno105))
      all_goals simp [rightAt, hb, hk, *]
def R195 : Rel := fun args p r => ∃ (i : Nat) (f : K0b) (o : Int), args = [.ptr i [], I o] ∧ (p.t.get i = some (.var sh186 f.cv)) ∧ (0 ≤ o) ∧ r = .ret (rowInput f.row.l o).cv p
theorem t195 {T : XCall} (h : Has T 195 R195) (i : Nat) (f : K0b) (o : Int) {p : Hp} (h1 : p.t.get i = some (.var sh186 f.cv)) (h2 : 0 ≤ o) : T 195 [.ptr i [], I o] p = .ret (rowInput f.row.l o).cv p := h _ _ _ ⟨i, f, o, rfl, h1, h2, rfl⟩
theorem zq195 {A B : Prop} (h : A = B := by ((try simp -dsimp (disch := first | exact zdis | fail) only [zcore, zall, zopm, zop, zcallOp, qop, qbuiltin, ofOpt, List.map, reduceCtorEq, if_true, if_false, ↓reduceIte, zbin, eqRes, qassert, qnum, qshift, qun, kindOf, allocV, List.nil_append, List.append_nil, List.cons_append, List.length_cons, List.length_nil, Nat.reduceAdd, Nat.reduceEqDiff, Nat.reduceLT, Nat.reduceSub, Nat.reduceMul, Int.reduceToNat, Int.reduceLE, Int.reduceLT, Int.reduceEq, Int.reduceNeg, Int.reduceAdd, Int.reduceSub, beq_self_eq_true, cond_true, cond_false, isConstOpd, xpanic, xconv, isBytes, qconv, List.length_map, List.map_nil, List.map_cons, concrete, Option.some.injEq, exists_eq', Option.map_some, Option.map_none, List.getElem?_cons_zero, List.getElem?_cons_succ, zw195, rs195, tt3, tt36, tt108, tt110, tt186, ti3, ti36, ti108, ti110, ti186, t_206, Q0k, Q0i, K0p, zsl108, h1, h2, zx, hc]); rfl)) (k : B) : A := h ▸ k
theorem zno195 {P : Prop} (h : P := by intro jj; simp [CV.has, CV.hasL, fault, K0c.nohas, Y0b.nohas, V0b.nohas]) : P := h
set_option maxHeartbeats 8000000 in
theorem c195 : Con C 195 R195 := by
  refine Z0f C ?_ ?_ ?_
  · rintro args p r r' ⟨i, f, o, h, h1, h2, e⟩ ⟨i', f', o', h', h1', h2', e'⟩
    subst e; subst e'; simp_all [K0b.inj_iff, Y0b.inj_iff, V0b.inj_iff, Q0w]
  · rintro args p r ⟨i, f, o, h, h1, h2, rfl⟩; first | (split <;> simp; done) | (simp; done) | (simp only [resM]; split <;> simp; done) | (simp only [resD]; split <;> simp; done) 
  · rintro args p r ⟨i, f, o, rfl, h1, h2, rfl⟩
    refine Z0e C false noExt (tabL C [(206, R206)]) xf195 (Q0f C) (K0f C _) zc195_ok (Nat.le_of_ble_eq_true (by kernel_rfl)) fun hF => ?_
    have t_206 := @t206 (tabL C [(206, R206)]) (Z0d C c206 [])
    generalize tabL C [(206, R206)] = call at t_206 ⊢
    have hd_h1 := hF.dom _ _ h1
    show W C false noExt call zc195 (argE [.ptr i [], I o]) p (endQ C _ _)
    by_cases h : (f.row.l.length : Int) ≤ o
    · (have zx := And.intro h h1; have hc := True.intro; refine zq195 (k := ?_); clear hc; try exact True.intro)
      repeat' ((first | refine K0d ?_ ?_ | refine Z0c ?_ ?_ | refine X0d _ _ _ _ ?_ ?_ | refine Q0d ?_ ?_ | refine V0d _ _ _ _ ?_ ?_) <;> intro hc <;> (try simp only [zhd] at hc) <;> (try have hw := X0b hc) <;> (refine zq195 (k := ?_); try exact True.intro))
      all_goals (try clear zx)
      refine K0e hF zle (Q0e ?_ (Y0d zno195))
      simp [rowInput, h]; rfl
    · (have zx := And.intro h h1; have hc := True.intro; refine zq195 (k := ?_); clear hc; try exact True.intro)
      repeat' ((first | refine K0d ?_ ?_ | refine Z0c ?_ ?_ | refine X0d _ _ _ _ ?_ ?_ | refine Q0d ?_ ?_ | refine V0d _ _ _ _ ?_ ?_) <;> intro hc <;> (try simp only [zhd] at hc) <;> (try have hw := X0b hc) <;> (refine zq195 (k := ?_); try exact True.intro))
      all_goals (try clear zx)
      refine K0e hF zle (Q0e ?_ (Y0d zno195))
      simp [rowInput, h]; rfl
end Go.Proofs.Ytpchcfkebljopaa
end
section
-- @nole
namespace Go.Proofs.Ytpchcfkebljopaa
open Go.Cl Go Go.RowKit
set_option maxRecDepth 100000
set_option linter.constructorNameAsVariable false
theorem freeN_take {l : List Q0a} {k : Nat} (h : k < l.length) : freeN (l.take (k + 1)) = if (nth l k).Kind = 0 then freeN (l.take k) + 1 else freeN (l.take k) := by
  unfold freeN
  rw [List.take_add_one, Q0s h, List.filter_append, List.length_append]
  by_cases hk : (nth l k).Kind = 0 <;> simp [hk]
def frRoom (f : K0b) : Int := freeN f.s_.Bodies - f.shots.l.length
def J197 (i : Nat) (f : K0b) (p : Hp) (n : Nat) (ρ : Env) (q : Hp) : Prop :=
  ∃ (k : Nat), n = 16 - k ∧ k ≤ 16 ∧ ρ 0 = .ptr i [] ∧ ρ 3 = I (freeN (f.s_.Bodies.take k)) ∧ ρ 10 = .agg (f.s_.Bodies.map Q0a.cv) ∧ ρ 11 = I k ∧ q.t.get i = some (.var sh186 f.cv) ∧ freeN (f.s_.Bodies.take k) ≤ k ∧ p.n ≤ q.n ∧ HpLe p q
def R197 : Rel := fun args p r => ∃ (i : Nat) (f : K0b), args = [.ptr i []] ∧ (p.t.get i = some (.var sh186 f.cv)) ∧ (f.shots.l.length ≤ 1000000) ∧ r = .ret (I (frRoom f)) p
theorem t197 {T : XCall} (h : Has T 197 R197) (i : Nat) (f : K0b) {p : Hp} (h1 : p.t.get i = some (.var sh186 f.cv)) (h2 : f.shots.l.length ≤ 1000000) : T 197 [.ptr i []] p = .ret (I (frRoom f)) p := h _ _ _ ⟨i, f, rfl, h1, h2, rfl⟩
theorem zq197 {A B : Prop} (h : A = B := by ((try simp -dsimp (disch := first | exact zdis | fail) only [zcore, zall, zopm, zop, zcallOp, qop, qbuiltin, ofOpt, List.map, reduceCtorEq, if_true, if_false, ↓reduceIte, zbin, eqRes, qassert, qnum, qshift, qun, kindOf, allocV, List.nil_append, List.append_nil, List.cons_append, List.length_cons, List.length_nil, Nat.reduceAdd, Nat.reduceEqDiff, Nat.reduceLT, Nat.reduceSub, Nat.reduceMul, Int.reduceToNat, Int.reduceLE, Int.reduceLT, Int.reduceEq, Int.reduceNeg, Int.reduceAdd, Int.reduceSub, beq_self_eq_true, cond_true, cond_false, isConstOpd, xpanic, xconv, isBytes, qconv, List.length_map, List.map_nil, List.map_cons, concrete, Option.some.injEq, exists_eq', Option.map_some, Option.map_none, List.getElem?_cons_zero, List.getElem?_cons_succ, zw197, rs197, tt3, tt34, tt37, tt63, tt66, tt186, ti3, ti34, ti37, ti63, ti66, ti186, Q0k, Z0i, Y0f, zsl37, zsl63, h1, h2, zx, hc]); rfl)) (k : B) : A := h ▸ k
theorem zno197 {P : Prop} (h : P := by intro jj; simp [CV.has, CV.hasL, fault, K0c.nohas, X0a.nohas, Q0a.nohas]) : P := h
set_option maxHeartbeats 8000000 in
theorem c197 : Con C 197 R197 := by
  refine Z0f C ?_ ?_ ?_
  · rintro args p r r' ⟨i, f, h, h1, h2, e⟩ ⟨i', f', h', h1', h2', e'⟩
    subst e; subst e'; simp_all [K0b.inj_iff, X0a.inj_iff, Q0a.inj_iff, Z0r]
  · rintro args p r ⟨i, f, h, h1, h2, rfl⟩; first | (split <;> simp; done) | (simp; done) | (simp only [resM]; split <;> simp; done) | (simp only [resD]; split <;> simp; done) 
  · rintro args p r ⟨i, f, rfl, h1, h2, rfl⟩
    refine Z0e C false noExt (tabL C []) xf197 (Q0f C) (K0f C _) zc197_ok (Nat.le_of_ble_eq_true (by kernel_rfl)) fun hF => ?_
    generalize tabL C [] = call
    have hd_h1 := hF.dom _ _ h1
    show W C false noExt call zc197 (argE [.ptr i []]) p (endQ C _ _)
    have hb := f.s_.hBodies
    (have zx := h1; have hc := True.intro; refine zq197 (k := ?_); clear hc; try exact True.intro)
    repeat' ((first | refine K0d ?_ ?_ | refine Z0c ?_ ?_ | refine X0d _ _ _ _ ?_ ?_ | refine Q0d ?_ ?_ | refine V0d _ _ _ _ ?_ ?_) <;> intro hc <;> (try simp only [zhd] at hc) <;> (try have hw := X0b hc) <;> (refine zq197 (k := ?_); try exact True.intro))
    all_goals (try clear zx)
    (show W C false noExt call (ZC.loop zn197_9) _ _ _); refine V0n C false noExt call zn197_9 _ _ _ (J197 i f p) 16 ⟨0, rfl, by omega, (by simp [put_at, Z0a, V0f]), by simp [put_at, Z0a, freeN], (by simp [put_at, Z0a, V0f]), (by simp [put_at, Z0a, V0f]), h1, by simp [freeN], Nat.le_refl _, zle⟩ ?_
    rintro n ρ q ⟨k, rfl, hk, e0, e3, e10, e11, g1, hfr, hn, hle⟩
    have hi : i < q.n := Nat.lt_of_lt_of_le hd_h1 hn
    by_cases hlt : (k : Int) < 16
    · have hs := freeN_take (l := f.s_.Bodies) (k := k) (by omega)
      by_cases h0 : (nth f.s_.Bodies k).Kind = 0
      · rw [if_pos h0] at hs
        (have zx := And.intro e0 (And.intro e3 (And.intro e10 (And.intro e11 (And.intro g1 (And.intro hlt (And.intro h0 h1)))))); have hc := True.intro; refine zq197 (k := ?_); clear hc; try exact True.intro)
        repeat' ((first | refine K0d ?_ ?_ | refine Z0c ?_ ?_ | refine X0d _ _ _ _ ?_ ?_ | refine Q0d ?_ ?_ | refine V0d _ _ _ _ ?_ ?_) <;> intro hc <;> (try simp only [zhd] at hc) <;> (try have hw := X0b hc) <;> (refine zq197 (k := ?_); try exact True.intro))
        all_goals (try clear zx)
        exact ⟨16 - (k + 1), by omega, k + 1, rfl, by omega, by simp [put_at, Z0a, e0], by simp [put_at, Z0a, hs], by simp [put_at, Z0a, e10], by simp [put_at, Z0a], (by simp (disch := (first | omega | (simp only [Hp.znew_n]; omega))) only [Hp.get_set_ne, Hp.get_new_ne, g1]), by omega, (by simp only [Hp.znew_n, Hp.zset_n]; omega), zlq⟩
      · rw [if_neg h0] at hs
        (have zx := And.intro e0 (And.intro e3 (And.intro e10 (And.intro e11 (And.intro g1 (And.intro hlt (And.intro h0 h1)))))); have hc := True.intro; refine zq197 (k := ?_); clear hc; try exact True.intro)
        repeat' ((first | refine K0d ?_ ?_ | refine Z0c ?_ ?_ | refine X0d _ _ _ _ ?_ ?_ | refine Q0d ?_ ?_ | refine V0d _ _ _ _ ?_ ?_) <;> intro hc <;> (try simp only [zhd] at hc) <;> (try have hw := X0b hc) <;> (refine zq197 (k := ?_); try exact True.intro))
        all_goals (try clear zx)
        exact ⟨16 - (k + 1), by omega, k + 1, rfl, by omega, by simp [put_at, Z0a, e0], by simp [put_at, Z0a, e3, hs], by simp [put_at, Z0a, e10], by simp [put_at, Z0a], (by simp (disch := (first | omega | (simp only [Hp.znew_n]; omega))) only [Hp.get_set_ne, Hp.get_new_ne, g1]), by omega, (by simp only [Hp.znew_n, Hp.zset_n]; omega), zlq⟩
    · have hk16 : k = 16 := by omega
      subst hk16
      have ht : f.s_.Bodies.take 16 = f.s_.Bodies := List.take_of_length_le (by omega)
      rw [ht] at e3 hfr
      (have zx := And.intro e0 (And.intro e3 (And.intro e10 (And.intro e11 (And.intro g1 (And.intro hlt h1))))); have hc := True.intro; refine zq197 (k := ?_); clear hc; try exact True.intro)
      repeat' ((first | refine K0d ?_ ?_ | refine Z0c ?_ ?_ | refine X0d _ _ _ _ ?_ ?_ | refine Q0d ?_ ?_ | refine V0d _ _ _ _ ?_ ?_) <;> intro hc <;> (try simp only [zhd] at hc) <;> (try have hw := X0b hc) <;> (refine zq197 (k := ?_); try exact True.intro))
      all_goals (try clear zx)
      exact K0e hF zlq (Q0e rfl (Y0d zno197))
def J179 (i : Nat) (f : K0b) (b : Q0a) (p : Hp) (n : Nat) (ρ : Env) (q : Hp) : Prop :=
  ∃ (k : Nat), n = 16 - k ∧ k ≤ 16 ∧ ρ 0 = .ptr i [] ∧ ρ 3 = .ptr p.n [] ∧ ρ 11 = .agg (f.s_.Bodies.map Q0a.cv) ∧ ρ 12 = I k ∧ q.t.get p.n = some (.var sh34 b.cv) ∧ firstW (fun a => decide (a.Kind = 1) && bodyHit a b) (f.s_.Bodies.drop k) k = struckL f.s_.Bodies b ∧ p.n < q.n ∧ HpLe p q
def R179 : Rel := fun args p r => ∃ (i : Nat) (f : K0b) (b : Q0a), args = [.ptr i [], b.cv] ∧ (p.t.get i = some (.var sh186 f.cv)) ∧ r = .ret (I (struckL f.s_.Bodies b)) p
theorem t179 {T : XCall} (h : Has T 179 R179) (i : Nat) (f : K0b) (b : Q0a) {p : Hp} (h1 : p.t.get i = some (.var sh186 f.cv)) : T 179 [.ptr i [], b.cv] p = .ret (I (struckL f.s_.Bodies b)) p := h _ _ _ ⟨i, f, b, rfl, h1, rfl⟩
theorem zq179 {A B : Prop} (h : A = B := by ((try simp -dsimp (disch := first | exact zdis | fail) only [zcore, zall, zopm, zop, zcallOp, qop, qbuiltin, ofOpt, List.map, reduceCtorEq, if_true, if_false, ↓reduceIte, zbin, eqRes, qassert, qnum, qshift, qun, kindOf, allocV, List.nil_append, List.append_nil, List.cons_append, List.length_cons, List.length_nil, Nat.reduceAdd, Nat.reduceEqDiff, Nat.reduceLT, Nat.reduceSub, Nat.reduceMul, Int.reduceToNat, Int.reduceLE, Int.reduceLT, Int.reduceEq, Int.reduceNeg, Int.reduceAdd, Int.reduceSub, beq_self_eq_true, cond_true, cond_false, isConstOpd, xpanic, xconv, isBytes, qconv, List.length_map, List.map_nil, List.map_cons, concrete, Option.some.injEq, exists_eq', Option.map_some, Option.map_none, List.getElem?_cons_zero, List.getElem?_cons_succ, zw179, rs179, tt3, tt34, tt63, tt66, tt186, ti3, ti34, ti63, ti66, ti186, t_199, Q0k, Z0i, Y0f, zsl63, h1, zx, hc]); rfl)) (k : B) : A := h ▸ k
theorem zno179 {P : Prop} (h : P := by intro jj; simp [CV.has, CV.hasL, fault, K0c.nohas, X0a.nohas, Q0a.nohas]) : P := h
theorem zge179 {P : Prop} (h : P := by simp (disch := first | exact zdl | fail) only [zheap, h1]; first | done | rfl) : P := h
set_option maxHeartbeats 8000000 in
theorem c179 : Con C 179 R179 := by
  refine Z0f C ?_ ?_ ?_
  · rintro args p r r' ⟨i, f, b, h, h1, e⟩ ⟨i', f', b', h', h1', e'⟩
    subst e; subst e'; simp_all [K0b.inj_iff, X0a.inj_iff, Q0a.inj_iff]
  · rintro args p r ⟨i, f, b, h, h1, rfl⟩; first | (split <;> simp; done) | (simp; done) | (simp only [resM]; split <;> simp; done) | (simp only [resD]; split <;> simp; done) 
  · rintro args p r ⟨i, f, b, rfl, h1, rfl⟩
    refine Z0e C false noExt (tabL C [(199, R199)]) xf179 (Q0f C) (K0f C _) zc179_ok (Nat.le_of_ble_eq_true (by kernel_rfl)) fun hF => ?_
    have t_199 := @t199 (tabL C [(199, R199)]) (Z0d C c199 [])
    generalize tabL C [(199, R199)] = call at t_199 ⊢
    have hd_h1 := hF.dom _ _ h1
    show W C false noExt call zc179 (argE [.ptr i [], b.cv]) p (endQ C _ _)
    have hb := f.s_.hBodies
    (have zx := h1; have hc := True.intro; refine zq179 (k := ?_); clear hc; try exact True.intro)
    repeat' ((first | refine K0d ?_ ?_ | refine Z0c ?_ ?_ | refine X0d _ _ _ _ ?_ ?_ | refine Q0d ?_ ?_ | refine V0d _ _ _ _ ?_ ?_) <;> intro hc <;> (try simp only [zhd] at hc) <;> (try have hw := X0b hc) <;> (refine zq179 (k := ?_); try exact True.intro))
    all_goals (try clear zx)
    (show W C false noExt call (ZC.loop zn179_7) _ _ _); refine V0n C false noExt call zn179_7 _ _ _ (J179 i f b p) 16 ⟨0, rfl, by omega, (by simp [put_at, Z0a, V0f]), (by simp [put_at, Z0a, V0f]), (by simp [put_at, Z0a, V0f]), (by simp [put_at, Z0a, V0f]), zge179, rfl, (by simp only [Hp.znew_n]; omega), zle⟩ ?_
    rintro n ρ q ⟨k, rfl, hk, e0, e3, e11, e12, g1, hj, hn, hle⟩
    by_cases hlt : (k : Int) < 16
    · rw [Z06 (l := f.s_.Bodies) (k := k) (by omega)] at hj
      simp only [firstW] at hj
      by_cases h0 : (nth f.s_.Bodies k).Kind = 1
      · cases hh : bodyHit (nth f.s_.Bodies k) b with
        | true =>
          rw [if_pos (by simp [h0, hh])] at hj
          (have zx := And.intro e0 (And.intro e3 (And.intro e11 (And.intro e12 (And.intro g1 (And.intro hlt (And.intro h0 (And.intro hh h1))))))); have hc := True.intro; refine zq179 (k := ?_); clear hc; try exact True.intro)
          repeat' ((first | refine K0d ?_ ?_ | refine Z0c ?_ ?_ | refine X0d _ _ _ _ ?_ ?_ | refine Q0d ?_ ?_ | refine V0d _ _ _ _ ?_ ?_) <;> intro hc <;> (try simp only [zhd] at hc) <;> (try have hw := X0b hc) <;> (refine zq179 (k := ?_); try exact True.intro))
          all_goals (try clear zx)
          refine K0e hF zlq (Q0e ?_ (Y0d zno179))
          rw [← hj]
        | false =>
          rw [if_neg (by simp [h0, hh])] at hj
          (have zx := And.intro e0 (And.intro e3 (And.intro e11 (And.intro e12 (And.intro g1 (And.intro hlt (And.intro h0 (And.intro hh h1))))))); have hc := True.intro; refine zq179 (k := ?_); clear hc; try exact True.intro)
          repeat' ((first | refine K0d ?_ ?_ | refine Z0c ?_ ?_ | refine X0d _ _ _ _ ?_ ?_ | refine Q0d ?_ ?_ | refine V0d _ _ _ _ ?_ ?_) <;> intro hc <;> (try simp only [zhd] at hc) <;> (try have hw := X0b hc) <;> (refine zq179 (k := ?_); try exact True.intro))
          all_goals (try clear zx)
          exact ⟨16 - (k + 1), by omega, k + 1, rfl, by omega, by simp [put_at, Z0a, e0], by simp [put_at, Z0a, e3], by simp [put_at, Z0a, e11], by simp [put_at, Z0a], (by simp (disch := (first | omega | (simp only [Hp.znew_n]; omega))) only [Hp.get_set_ne, Hp.get_new_ne, g1]), hj, (by simp only [Hp.znew_n, Hp.zset_n]; omega), zlq⟩
      · rw [if_neg (by simp [h0])] at hj
        (have zx := And.intro e0 (And.intro e3 (And.intro e11 (And.intro e12 (And.intro g1 (And.intro hlt (And.intro h0 h1)))))); have hc := True.intro; refine zq179 (k := ?_); clear hc; try exact True.intro)
        repeat' ((first | refine K0d ?_ ?_ | refine Z0c ?_ ?_ | refine X0d _ _ _ _ ?_ ?_ | refine Q0d ?_ ?_ | refine V0d _ _ _ _ ?_ ?_) <;> intro hc <;> (try simp only [zhd] at hc) <;> (try have hw := X0b hc) <;> (refine zq179 (k := ?_); try exact True.intro))
        all_goals (try clear zx)
        exact ⟨16 - (k + 1), by omega, k + 1, rfl, by omega, by simp [put_at, Z0a, e0], by simp [put_at, Z0a, e3], by simp [put_at, Z0a, e11], by simp [put_at, Z0a], (by simp (disch := (first | omega | (simp only [Hp.znew_n]; omega))) only [Hp.get_set_ne, Hp.get_new_ne, g1]), hj, (by simp only [Hp.znew_n, Hp.zset_n]; omega), zlq⟩
    · have hk16 : k = 16 := by omega
      subst hk16
      rw [List.drop_eq_nil_of_le (by omega)] at hj
      (have zx := And.intro e0 (And.intro e3 (And.intro e11 (And.intro e12 (And.intro g1 (And.intro hlt h1))))); have hc := True.intro; refine zq179 (k := ?_); clear hc; try exact True.intro)
      repeat' ((first | refine K0d ?_ ?_ | refine Z0c ?_ ?_ | refine X0d _ _ _ _ ?_ ?_ | refine Q0d ?_ ?_ | refine V0d _ _ _ _ ?_ ?_) <;> intro hc <;> (try simp only [zhd] at hc) <;> (try have hw := X0b hc) <;> (refine zq179 (k := ?_); try exact True.intro))
      all_goals (try clear zx)
      refine K0e hF zlq (Q0e ?_ (Y0d zno179))
      rw [← hj]; rfl
end Go.Proofs.Ytpchcfkebljopaa
end
section
namespace Go.Proofs.Ytpchcfkebljopaa
open Go.Cl Go Go.RowKit
def ren (a J k : Nat) : Nat := if k = a then J else k
theorem X1q {args : List CV} {p p' q0 : Hp} {v u : CV} {J : Nat} {oT : XObj} (hF : Fine args p) (hn : q0.n = p.n)
    (hq : ∀ k o, q0.t.get k = some o → k < p.n ∧ k ≠ J ∧ ((p.t.get k = some o ∧ p'.t.get k = some o) ∨ ∃ o', p'.t.get k = some o' ∧ XObj.weak (ren p.n J) (p.n + 1) o' o))
    (hT : ∃ o', p'.t.get J = some o' ∧ XObj.weak (ren p.n J) (p.n + 1) o' oT) (hv : CV.weak (ren p.n J) (p.n + 1) v u) : ShrR p (.ret v p') (.ret u (q0.new oT)) := by
  have hnn : (q0.new oT).n = p.n + 1 := by rw [Hp.znew_n, hn]
  have hs : ∀ k, k < p.n → ren p.n J k = k := fun k hk => if_neg (Nat.ne_of_lt hk)
  have hsp : ren p.n J p.n = J := if_pos rfl
  have hg : ∀ k o, (q0.new oT).t.get k = some o → (k = p.n ∧ o = oT) ∨ (k < p.n ∧ q0.t.get k = some o) := by
    intro k o h
    by_cases hk : k = q0.n
    · subst hk; rw [Hp.get_new_self] at h; cases h; exact .inl ⟨hn, rfl⟩
    · rw [Hp.get_new_ne _ _ hk] at h; exact .inr ⟨(hq k o h).1, h⟩
  refine ⟨ren p.n J, ⟨by rw [hnn]; omega, hs, ?_, ?_⟩, by rw [hnn]; exact hv⟩
  · intro j k oj ok h1 h2 e
    rcases hg j oj h1 with ⟨rfl, _⟩ | ⟨hj, hj'⟩ <;> rcases hg k ok h2 with ⟨rfl, _⟩ | ⟨hk, hk'⟩
    · rfl
    · rw [hsp, hs k hk] at e; exact absurd e.symm (hq k ok hk').2.1
    · rw [hsp, hs j hj] at e; exact absurd e (hq j oj hj').2.1
    · rw [hs j hj, hs k hk] at e; exact e
  · intro k o h
    rw [hnn]
    rcases hg k o h with ⟨rfl, rfl⟩ | ⟨hk, hk'⟩
    · refine ⟨Nat.lt_succ_self _, .inr ?_⟩
      rw [hsp]; exact hT
    · refine ⟨Nat.lt_succ_of_lt hk, ?_⟩
      rcases (hq k o hk').2.2 with h | h
      · exact .inl ⟨hk, h.1, h.2⟩
      · rw [hs k hk]; exact .inr h
noncomputable def dropT (tl : Tail) (p : Hp) : Hp := match tl with | .own j => p.set j none | _ => p
def frDice (f : K0b) (d : Int) : K0b := { f with s_ := { f.s_ with Dice := d } }
def frShots (f : K0b) (j : Nat) (l : List Q0a) : K0b := { f with shots := ⟨.own j, l, nofun⟩ }
theorem weak_frame (f : K0b) (J n : Nat) (l : List Q0a) (h : ∀ j, f.c_.Rules.tl = .own j ∨ f.c_.Tokens.tl = .own j ∨ f.row.tl = .own j → j < n) : CV.weak (ren n J) (n + 1) (frShots f J l).cv (frShots f n l).cv := by
  have hs : ∀ k, k < n → ren n J k = k := fun k hk => if_neg (Nat.ne_of_lt hk)
  have h1 : CV.weak (ren n J) (n + 1) f.c_.cv f.c_.cv := CV.weak_refl _ fun j hj => by
    have := (K0a.has _ j).1 hj
    have : j < n := h j (by rcases this with h | h <;> simp [h])
    exact ⟨hs j this, by omega⟩
  have h2 : CV.weak (ren n J) (n + 1) f.s_.cv f.s_.cv := CV.weak_refl _ fun j hj => absurd hj (X0a.nohas _ j)
  have h3 : CV.weak (ren n J) (n + 1) (Lst.cv V0b.cv f.row) (Lst.cv V0b.cv f.row) := CV.weak_refl _ fun j hj => by
    have := (Lst.has _ V0b.nohas _ j).1 hj
    have : j < n := h j (.inr (.inr this))
    exact ⟨hs j this, by omega⟩
  have h4 : CV.weakL (ren n J) (n + 1) (l.map Q0a.cv) (l.map Q0a.cv) := CV.weakL_refl _ fun j hj => (V0p Q0a.nohas l j hj).elim
  simp only [frShots, K0b.cv, CV.weak, CV.weakL]
  refine ⟨h1, h2, h3, ?_, trivial⟩
  simp only [Lst.cv, CV.weak, Tail.weak]
  exact ⟨⟨(if_pos rfl).symm, Nat.lt_succ_self _⟩, h4⟩
theorem Q1c (f : K0b) (J n : Nat) (l : List Q0a) (h : ∀ j, f.c_.Rules.tl = .own j ∨ f.c_.Tokens.tl = .own j ∨ f.row.tl = .own j → j < n) : XObj.weak (ren n J) (n + 1) (.var sh186 (frShots f J l).cv) (.var sh186 (frShots f n l).cv) := ⟨rfl, weak_frame f J n l h⟩
theorem tdiv16 {x : Int} (h : -64 ≤ x ∧ x ≤ 64) : -4 ≤ x.tdiv 16 ∧ x.tdiv 16 ≤ 4 := by
  rcases Int.le_total 0 x with h0 | h0
  · rw [Int.tdiv_eq_ediv_of_nonneg h0]; omega
  · have : x.tdiv 16 = -((-x).tdiv 16) := by rw [Int.neg_tdiv, Int.neg_neg]
    rw [this, Int.tdiv_eq_ediv_of_nonneg (by omega)]; omega
theorem X1h (row : List V0b) (o : Int) : (0 ≤ (rowInput row o).Buttons ∧ (rowInput row o).Buttons ≤ 255) ∧ (-64 ≤ (rowInput row o).X ∧ (rowInput row o).X ≤ 64) ∧ (-64 ≤ (rowInput row o).Y ∧ (rowInput row o).Y ≤ 64) := by
  unfold rowInput
  split
  · simp [Y0b.zero]
  · exact ⟨Z0g (by omega), Z0g (by omega), Z0g (by omega)⟩
theorem run_len64 : ∀ (k : Nat) (m r : Y0a), Mach.run k m = .ok r → 0 ≤ m.at_ → r.e_.Shots.l.length ≤ m.e_.Shots.l.length + k
  | k, m, r, h, ha => by
    unfold Mach.run at h
    by_cases hlt : m.at_ < m.l_.l.length
    · rw [if_pos hlt] at h
      cases k with
      | zero => cases h
      | succ k =>
        simp only at h
        cases hd : Mach.doOp m (nth m.l_.l m.at_.toNat) with
        | error c => rw [hd] at h; cases h
        | ok x =>
          obtain ⟨m2, n⟩ := x
          rw [hd] at h
          simp only at h
          have kk := Mach.doOp_keeps hd ha hlt
          have := run_len64 k _ r h kk.2.2.2.2.1
          simp only at this
          omega
    · rw [if_neg hlt] at h; cases h; omega
theorem Z1j (L : List X0c) (e : Z0b) : (runL L e).1.Shots.l.length ≤ e.Shots.l.length + 64 := by
  have hc : (copiedE e).Shots.l.length = e.Shots.l.length := by simp [copiedE, V0t]
  unfold runL ruleRun
  split
  · simp only [hc]; omega
  · cases hq : Mach.run 64 ⟨copiedE e, ⟨.view, L, nofun⟩, 0⟩ with
    | error c => simp only [hc]; omega
    | ok m => have := run_len64 64 _ m hq (by simp); simp only [hc] at this; exact this
def OwnT (i : Nat) (s : Lst Q0a) (p : Hp) : Prop := s.tl = .nil ∨ ∃ j, s.tl = .own j ∧ j ≠ i ∧ p.t.get j = some (.tail s.l.length) ∧ 0 < s.l.length
theorem OwnT_nil (i : Nat) (l : List Q0a) (o : _) (p : Hp) : OwnT i ⟨.nil, l, o⟩ p := .inl rfl
theorem OwnT_own {i j : Nat} {l : List Q0a} {o : _} {p : Hp} (h1 : j ≠ i) (h2 : p.t.get j = some (.tail l.length)) (h3 : 0 < l.length) : OwnT i ⟨.own j, l, o⟩ p := .inr ⟨j, rfl, h1, h2, h3⟩
theorem Y1h (rules : List X0c) (row : List V0b) (dice room : Int) (b : Q0a) : (playerTurn rules row dice room b).shots.length ≤ 64 := by
  unfold playerTurn
  split
  · have := Z1j rules (playerEnv row dice room b)
    simpa [playerEnv] using this
  · simp
theorem Q1j (rules : List X0c) (row : List V0b) (s : X0a) : ∀ k, (turnsS rules row s k).2.length ≤ 64 * k
  | 0 => by simp [turnsS]
  | k + 1 => by
    have ih := Q1j rules row s k
    have hb : ∀ d r, (bodyTurn rules row d r (nth s.Bodies k)).shots.length ≤ 64 := by
      intro d r
      unfold bodyTurn
      split
      · exact Y1h ..
      · simp
    simp only [turnsS, turnStep, List.length_append]
    have := hb (turnsS rules row s k).1.Dice (freeN (turnsS rules row s k).1.Bodies - (turnsS rules row s k).2.length)
    omega
noncomputable def frTurns (f : K0b) : K0b := { f with s_ := (turnsS f.c_.Rules.l f.row.l f.s_ 16).1, shots := partL (turnsS f.c_.Rules.l f.row.l f.s_ 16).2 }
theorem X1a (c : K0a) (st : X0a) (row : Lst V0b) (sh : Lst Q0a) (n : Nat) (h : ∀ j, c.Rules.tl = .own j ∨ c.Tokens.tl = .own j ∨ row.tl = .own j → j < n) (happ : sh.tl = .nil ∨ (∃ j, sh.tl = .own j) ∧ 0 < sh.l.length) : XObj.weak (fun k => k) n (.var sh186 (K0b.mk c st row sh).cv) (.var sh186 (K0b.mk c st row (partL sh.l)).cv) := by
  have h1 : CV.weak (fun k => k) n c.cv c.cv := X0e fun j hj => h j (by rcases (K0a.has _ j).1 hj with h | h <;> simp [h])
  have h2 : CV.weak (fun k => k) n st.cv st.cv := X0e (Y0d (X0a.nohas _))
  have h3 : CV.weak (fun k => k) n (Lst.cv V0b.cv row) (Lst.cv V0b.cv row) := X0e fun j hj => h j (.inr (.inr ((Lst.has _ V0b.nohas _ j).1 hj)))
  have h4 := K1m (f := Q0a.cv) Q0a.nohas sh n happ
  refine ⟨rfl, ?_⟩
  simp only [K0b.cv, CV.weak, CV.weakL]
  exact ⟨h1, h2, h3, h4, trivial⟩
end Go.Proofs.Ytpchcfkebljopaa
end
section
-- @nole
namespace Go.Proofs.Ytpchcfkebljopaa
open Go.Cl Go Go.RowKit
set_option maxRecDepth 100000
set_option linter.constructorNameAsVariable false
end Go.Proofs.Ytpchcfkebljopaa
end
section
namespace Go.Proofs.Ytpchcfkebljopaa
open Go.Cl Go Go.RowKit
end Go.Proofs.Ytpchcfkebljopaa
end
section
-- @nole
namespace Go.Proofs.Ytpchcfkebljopaa
open Go.Cl Go Go.RowKit
set_option maxRecDepth 100000
set_option linter.constructorNameAsVariable false
theorem own_nil {α : Type} {s : Lst α} (h : s.tl = .nil) : s.l = [] := s.ok h
end Go.Proofs.Ytpchcfkebljopaa
end
section
-- @nole
namespace Go.Proofs.Ytpchcfkebljopaa
open Go.Cl Go Go.RowKit
set_option maxRecDepth 100000
set_option linter.constructorNameAsVariable false
noncomputable def resP (i : Nat) (f : K0b) (t : Turn) (p : Hp) : XRes :=
  if t.shots = [] then .ret t.body.cv (p.set i (some (.var sh186 (frDice f t.dice).cv)))
  else .ret t.body.cv (((dropT f.shots.tl p).set i (some (.var sh186 (frShots (frDice f t.dice) p.n (f.shots.l ++ t.shots)).cv))).new (.tail (f.shots.l.length + t.shots.length)))
def R177 : Rel := fun args p r => ∃ (i : Nat) (f : K0b) (b : Q0a), args = [.ptr i [], b.cv] ∧ (p.t.get i = some (.var sh186 f.cv)) ∧ (f.shots.l.length ≤ 10000) ∧ (OwnT i f.shots p) ∧ (f.c_.Rules.l.length ≤ 100000) ∧ (0 ≤ b.Owner ∧ b.Faults ≤ 65535 ∧ -1 ≤ b.Faults) ∧ r = resP i f (playerTurn f.c_.Rules.l f.row.l f.s_.Dice (frRoom f) b) p
theorem t177 {T : XCall} (h : Has T 177 R177) (i : Nat) (f : K0b) (b : Q0a) {p : Hp} (h1 : p.t.get i = some (.var sh186 f.cv)) (h2 : f.shots.l.length ≤ 10000) (h3 : OwnT i f.shots p) (h4 : f.c_.Rules.l.length ≤ 100000) (h5 : 0 ≤ b.Owner ∧ b.Faults ≤ 65535 ∧ -1 ≤ b.Faults) : T 177 [.ptr i [], b.cv] p = resP i f (playerTurn f.c_.Rules.l f.row.l f.s_.Dice (frRoom f) b) p := h _ _ _ ⟨i, f, b, rfl, h1, h2, h3, h4, h5, rfl⟩
theorem zq177 {A B : Prop} (h : A = B := by ((try simp -dsimp (disch := first | exact zdis | fail) only [zcore, zall, zopm, zop, zcallOp, qop, qbuiltin, ofOpt, List.map, reduceCtorEq, if_true, if_false, ↓reduceIte, zbin, eqRes, qassert, qnum, qshift, qun, kindOf, allocV, List.nil_append, List.append_nil, List.cons_append, List.length_cons, List.length_nil, Nat.reduceAdd, Nat.reduceEqDiff, Nat.reduceLT, Nat.reduceSub, Nat.reduceMul, Int.reduceToNat, Int.reduceLE, Int.reduceLT, Int.reduceEq, Int.reduceNeg, Int.reduceAdd, Int.reduceSub, beq_self_eq_true, cond_true, cond_false, isConstOpd, xpanic, xconv, isBytes, qconv, List.length_map, List.map_nil, List.map_cons, concrete, Option.some.injEq, exists_eq', Option.map_some, Option.map_none, List.getElem?_cons_zero, List.getElem?_cons_succ, zw177, rs177, tt3, tt23, tt25, tt34, tt36, tt37, tt39, tt44, tt61, tt66, tt186, ti3, ti23, ti25, ti34, ti36, ti37, ti39, ti44, ti61, ti66, ti186, t_25, t_195, t_196, t_197, Q0k, Z0i, X0h, Y0f, Q0i, Q0h, X0m, zsl23, zsl37, h1, h2, h3, h4, h5, zx, hc]); rfl)) (k : B) : A := h ▸ k
theorem zno177 {P : Prop} (h : P := by intro jj; simp [CV.has, CV.hasL, fault, K0c.nohas, X0a.nohas, Q0a.nohas, Y0b.nohas, V0c.nohas]) : P := h
theorem zge177 {P : Prop} (h : P := by simp (disch := first | exact zdl | fail) only [zheap, h1]; first | done | rfl) : P := h
set_option maxHeartbeats 8000000 in
theorem c177 : Con C 177 R177 := by
  refine Z0f C ?_ ?_ ?_
  · rintro args p r r' ⟨i, f, b, h, h1, h2, h3, h4, h5, e⟩ ⟨i', f', b', h', h1', h2', h3', h4', h5', e'⟩
    subst e; subst e'; simp_all [K0b.inj_iff, X0a.inj_iff, K0a.inj_iff, Q0a.inj_iff, Y0b.inj_iff, Z0b.inj_iff, V0c.inj_iff, K0m, Z0r]
  · rintro args p r ⟨i, f, b, h, h1, h2, h3, h4, h5, rfl⟩; first | (split <;> simp; done) | (simp; done) | (simp only [resM]; split <;> simp; done) | (simp only [resD]; split <;> simp; done)  | (unfold resP; split <;> simp; done)
  · rintro args p r ⟨i, f, b, rfl, h1, h2, h3, h4, h5, rfl⟩
    refine Z0e C false noExt (tabL C [(25, R25), (195, R195), (196, R196), (197, R197)]) xf177 (Q0f C) (K0f C _) zc177_ok (Nat.le_of_ble_eq_true (by kernel_rfl)) fun hF => ?_
    have t_25 := @t25 (tabL C [(25, R25), (195, R195), (196, R196), (197, R197)]) (Z0d C c25 [(195, R195), (196, R196), (197, R197)])
    have t_195 := @t195 (tabL C [(25, R25), (195, R195), (196, R196), (197, R197)]) (Y0c C _ rfl (Z0d C c195 [(196, R196), (197, R197)]))
    have t_196 := @t196 (tabL C [(25, R25), (195, R195), (196, R196), (197, R197)]) (Y0c C _ rfl (Y0c C _ rfl (Z0d C c196 [(197, R197)])))
    have t_197 := @t197 (tabL C [(25, R25), (195, R195), (196, R196), (197, R197)]) (Y0c C _ rfl (Y0c C _ rfl (Y0c C _ rfl (Z0d C c197 []))))
    generalize tabL C [(25, R25), (195, R195), (196, R196), (197, R197)] = call at t_25 t_195 t_196 t_197 ⊢
    have hd_h1 := hF.dom _ _ h1
    show W C false noExt call zc177 (argE [.ptr i [], b.cv]) p (endQ C _ _)
    have hx := X1h f.row.l b.Owner
    have hX := tdiv16 hx.2.1
    have hY := tdiv16 hx.2.2
    have hR : ruleRun f.c_.Rules (playerEnv f.row.l f.s_.Dice (frRoom f) b) = runL f.c_.Rules.l (playerEnv f.row.l f.s_.Dice (frRoom f) b) := ruleRun_l (l := ⟨.view, f.c_.Rules.l, nofun⟩) (s := f.c_.Rules) rfl _
    have hlen := Z1j f.c_.Rules.l (playerEnv f.row.l f.s_.Dice (frRoom f) b)
    have hlen : (runL f.c_.Rules.l (playerEnv f.row.l f.s_.Dice (frRoom f) b)).1.Shots.l.length ≤ 64 := by simpa [playerEnv] using hlen
    have hT : playerTurn f.c_.Rules.l f.row.l f.s_.Dice (frRoom f) b = if (runL f.c_.Rules.l (playerEnv f.row.l f.s_.Dice (frRoom f) b)).2.2 = true then ⟨(runL f.c_.Rules.l (playerEnv f.row.l f.s_.Dice (frRoom f) b)).1.Dice, (runL f.c_.Rules.l (playerEnv f.row.l f.s_.Dice (frRoom f) b)).1.Shots.l, (runL f.c_.Rules.l (playerEnv f.row.l f.s_.Dice (frRoom f) b)).1.Body⟩ else ⟨f.s_.Dice, [], { b with Faults := min (b.Faults + 1) 65535 }⟩ := rfl
    rw [hT]
    clear hT
    have hre : ∀ j, f.c_.Rules.tl = .own j ∨ f.c_.Tokens.tl = .own j ∨ f.row.tl = .own j ∨ f.shots.tl = .own j → j < p.n := fun j hj =>
      hF.lt_obj (.arg (a := CV.ptr i []) (by simp) rfl) h1 j (by
        simp only [XObj.has, K0b.has, K0a.has]
        rcases hj with h | h | h | h <;> simp [h])
    generalize runL f.c_.Rules.l (playerEnv f.row.l f.s_.Dice (frRoom f) b) = R at hR hlen
    generalize hE : playerEnv f.row.l f.s_.Dice (frRoom f) b = E at hR
    have hv : E.Shots.tl ≠ .view := by rw [← hE]; simp [playerEnv]
    have hv2 : E.Shots.l.length ≤ 100000 := by rw [← hE]; simp [playerEnv]
    simp only [playerEnv] at hE
    obtain ⟨⟨gb, gi, gd, gr, gt, gl, go⟩, ft, ok⟩ := R
    simp only at hlen
    cases ok with
    | false =>
      (have zx := And.intro hE (And.intro hR h1); have hc := True.intro; refine zq177 (k := ?_); clear hc; try exact True.intro)
      repeat' ((first | refine K0d ?_ ?_ | refine Z0c ?_ ?_ | refine X0d _ _ _ _ ?_ ?_ | refine Q0d ?_ ?_ | refine V0d _ _ _ _ ?_ ?_) <;> intro hc <;> (try simp only [zhd] at hc) <;> (try have hw := X0b hc) <;> (refine zq177 (k := ?_); try exact True.intro))
      all_goals (try clear zx)
      simp only [Bool.false_eq_true, if_false, resP, if_true]
      refine X0l hF hd_h1 zlm ⟨_, zge177, Q0l rfl fun j hj => ?_⟩ (Q0e rfl (Y0d zno177))
      refine hre j ?_
      simp only [XObj.has, K0b.has, K0a.has, frDice] at hj
      rcases hj with (h | h) | h | h <;> simp [h]
    | true =>
      cases gl with
      | nil =>
        (have zx := And.intro hE (And.intro hR h1); have hc := True.intro; refine zq177 (k := ?_); clear hc; try exact True.intro)
        repeat' ((first | refine K0d ?_ ?_ | refine Z0c ?_ ?_ | refine X0d _ _ _ _ ?_ ?_ | refine Q0d ?_ ?_ | refine V0d _ _ _ _ ?_ ?_) <;> intro hc <;> (try simp only [zhd] at hc) <;> (try have hw := X0b hc) <;> (refine zq177 (k := ?_); try exact True.intro))
        all_goals (try clear zx)
        simp only [if_true, resP]
        refine X0l hF hd_h1 zlm ⟨_, zge177, Q0l rfl fun j hj => ?_⟩ (Q0e rfl (Y0d zno177))
        refine hre j ?_
        simp only [XObj.has, K0b.has, K0a.has, frDice] at hj
        rcases hj with (h | h) | h | h <;> simp [h]
      | cons x m =>
        simp only [List.length_cons] at hlen
        rcases hf : f.shots with ⟨ftl, fl, fo⟩
        have h3c := h3
        rcases h3c with k3 | ⟨j, k3, hji, g1, hj0⟩
        · have hs0 := own_nil k3
          rw [hf] at k3 hs0
          simp only at k3 hs0
          subst k3
          subst hs0
          (have zx := And.intro hE (And.intro hR (And.intro hf h1)); have hc := True.intro; refine zq177 (k := ?_); clear hc; try exact True.intro)
          repeat' ((first | refine K0d ?_ ?_ | refine Z0c ?_ ?_ | refine X0d _ _ _ _ ?_ ?_ | refine Q0d ?_ ?_ | refine V0d _ _ _ _ ?_ ?_) <;> intro hc <;> (try simp only [zhd] at hc) <;> (try have hw := X0b hc) <;> (refine zq177 (k := ?_); try exact True.intro))
          all_goals (try clear zx)
          simp only [if_true, resP, hf, dropT, List.nil_append, reduceCtorEq, if_false]
          refine X1q hF (J := p.n + 1 + 1 + 1 + 19 + 15 + 11) rfl (fun k o h => ?_) ⟨_, zge177, by simp [XObj.weak]⟩ (CV.weak_refl _ fun j hj => absurd hj (Q0a.nohas _ j))
          by_cases hk : k = i
          · subst hk
            rw [Hp.get_set_self] at h; cases h
            exact ⟨hd_h1, by omega, .inr ⟨_, zge177, Q1c (frDice f gd) (p.n + 1 + 1 + 1 + 19 + 15 + 11) p.n _ fun j hj => hre j (hj.imp id fun h => h.imp id .inl)⟩⟩
          · rw [Hp.get_set_ne _ _ _ hk] at h
            have hd := hF.dom _ _ h
            exact ⟨hd, by omega, .inl ⟨h, by simp (disch := first | exact zdl | fail) only [Hp.bump_get, Hp.get_set_ne, Hp.get_new_ne]; exact h⟩⟩
        · have hjn : j < p.n := hre j (.inr (.inr (.inr k3)))
          rw [hf] at k3 g1 hj0
          simp only at k3 g1 hj0
          subst k3
          have hfl : fl.length ≤ 10000 := by have := h2; rw [hf] at this; exact this
          (have zx := And.intro hE (And.intro hR (And.intro hf (And.intro g1 h1))); have hc := True.intro; refine zq177 (k := ?_); clear hc; try exact True.intro)
          repeat' ((first | refine K0d ?_ ?_ | refine Z0c ?_ ?_ | refine X0d _ _ _ _ ?_ ?_ | refine Q0d ?_ ?_ | refine V0d _ _ _ _ ?_ ?_) <;> intro hc <;> (try simp only [zhd] at hc) <;> (try have hw := X0b hc) <;> (refine zq177 (k := ?_); try exact True.intro))
          all_goals (try clear zx)
          simp only [if_true, resP, hf, dropT, reduceCtorEq, if_false]
          refine X1q hF (J := p.n + 1 + 1 + 1 + 19 + 15 + 11) rfl (fun k o h => ?_) ⟨_, zge177, by simp [XObj.weak]⟩ (CV.weak_refl _ fun j hj => absurd hj (Q0a.nohas _ j))
          by_cases hk : k = i
          · subst hk
            rw [Hp.get_set_self] at h; cases h
            exact ⟨hd_h1, by omega, .inr ⟨_, zge177, Q1c (frDice f gd) (p.n + 1 + 1 + 1 + 19 + 15 + 11) p.n _ fun j hj => hre j (hj.imp id fun h => h.imp id .inl)⟩⟩
          · rw [Hp.get_set_ne _ _ _ hk] at h
            by_cases hkj : k = j
            · subst hkj; rw [Hp.get_set_self] at h; cases h
            · rw [Hp.get_set_ne _ _ _ hkj] at h
              have hd := hF.dom _ _ h
              exact ⟨hd, by omega, .inl ⟨h, by simp (disch := first | exact zdl | fail) only [Hp.bump_get, Hp.get_set_ne, Hp.get_new_ne]; exact h⟩⟩
end Go.Proofs.Ytpchcfkebljopaa
end
section
-- @nole
namespace Go.Proofs.Ytpchcfkebljopaa
open Go.Cl Go Go.RowKit
set_option maxRecDepth 100000
set_option linter.constructorNameAsVariable false
theorem resP_nil (i : Nat) (f : K0b) (d : Int) (b : Q0a) (p : Hp) : resP i f ⟨d, [], b⟩ p = .ret b.cv (p.set i (some (.var sh186 (frDice f d).cv))) := by simp [resP]
theorem resP_cons (i : Nat) (f : K0b) (d : Int) (x : Q0a) (m : List Q0a) (b : Q0a) (p : Hp) : resP i f ⟨d, x :: m, b⟩ p = .ret b.cv (((dropT f.shots.tl p).set i (some (.var sh186 (frShots (frDice f d) p.n (f.shots.l ++ x :: m)).cv))).new (.tail (f.shots.l.length + (m.length + 1)))) := by simp [resP]
theorem dropT_nil (p : Hp) : dropT .nil p = p := rfl
theorem dropT_own (j : Nat) (p : Hp) : dropT (.own j) p = p.set j none := rfl
def J137 (i : Nat) (f : K0b) (p : Hp) (n : Nat) (ρ : Env) (q : Hp) : Prop :=
  ∃ (k : Nat) (sh : Lst Q0a), n = 16 - k ∧ k ≤ 16 ∧ ρ 0 = .ptr i [] ∧ ρ 8 = .agg (f.s_.Bodies.map Q0a.cv) ∧ ρ 9 = I k ∧ sh.l = (turnsS f.c_.Rules.l f.row.l f.s_ k).2 ∧ q.t.get i = some (.var sh186 (K0b.mk f.c_ (turnsS f.c_.Rules.l f.row.l f.s_ k).1 f.row sh).cv) ∧ (sh.tl = .nil ∨ ∃ j, sh.tl = .own j ∧ p.n ≤ j ∧ j < q.n ∧ q.t.get j = some (.tail sh.l.length) ∧ 0 < sh.l.length) ∧ p.n ≤ q.n ∧ ∀ j o, j ≠ i → p.t.get j = some o → q.t.get j = some o
def R137 : Rel := fun args p r => ∃ (i : Nat) (f : K0b), args = [.ptr i []] ∧ (p.t.get i = some (.var sh186 f.cv)) ∧ (f.shots.tl = .nil) ∧ (f.c_.Rules.l.length ≤ 100000) ∧ (∀ b ∈ f.s_.Bodies, Body.right b = true) ∧ r = .ret (.tup []) (p.set i (some (.var sh186 (frTurns f).cv)))
theorem t137 {T : XCall} (h : Has T 137 R137) (i : Nat) (f : K0b) {p : Hp} (h1 : p.t.get i = some (.var sh186 f.cv)) (h2 : f.shots.tl = .nil) (h3 : f.c_.Rules.l.length ≤ 100000) (h4 : ∀ b ∈ f.s_.Bodies, Body.right b = true) : T 137 [.ptr i []] p = .ret (.tup []) (p.set i (some (.var sh186 (frTurns f).cv))) := h _ _ _ ⟨i, f, rfl, h1, h2, h3, h4, rfl⟩
theorem zdis137 {P : Prop} (h : P := by first | exact zdis | (exact OwnT_nil _ _ _ _) | (refine OwnT_own ?_ ?_ ?_ <;> exact zdis) | (simp only [Hp.bump_n, Hp.znew_n, Hp.zset_n, List.length_nil, List.length_cons, List.length_append, List.length_map]; (first | done | omega)) | (simp (disch := first | exact zd1 | (simp only [Hp.bump_n, Hp.znew_n, Hp.zset_n, List.length_nil, List.length_cons, List.length_append, List.length_map]; (first | done | omega))) only [zheap, zx]; (first | done | rfl)) | fail) : P := h
theorem zq137 {A B : Prop} (h : A = B := by ((try simp -dsimp (disch := first | exact zdis137 | fail) only [zcore, zall, zopm, zop, zcallOp, qop, qbuiltin, ofOpt, List.map, reduceCtorEq, if_true, if_false, ↓reduceIte, zbin, eqRes, qassert, qnum, qshift, qun, kindOf, allocV, List.nil_append, List.append_nil, List.cons_append, List.length_cons, List.length_nil, Nat.reduceAdd, Nat.reduceEqDiff, Nat.reduceLT, Nat.reduceSub, Nat.reduceMul, Int.reduceToNat, Int.reduceLE, Int.reduceLT, Int.reduceEq, Int.reduceNeg, Int.reduceAdd, Int.reduceSub, beq_self_eq_true, cond_true, cond_false, isConstOpd, xpanic, xconv, isBytes, qconv, List.length_map, List.map_nil, List.map_cons, concrete, Option.some.injEq, exists_eq', Option.map_some, Option.map_none, List.getElem?_cons_zero, List.getElem?_cons_succ, zw137, rs137, tt3, tt34, tt63, tt66, tt186, ti3, ti34, ti63, ti66, ti186, t_177, t_178, Q0k, Z0i, Y0f, zsl63, resP_nil, resP_cons, dropT_nil, dropT_own, h1, h2, h3, h4, zx, hc]); rfl)) (k : B) : A := h ▸ k
theorem zno137 {P : Prop} (h : P := by intro jj; simp [CV.has, CV.hasL, fault, K0c.nohas, X0a.nohas, Q0a.nohas]) : P := h
set_option maxHeartbeats 8000000 in
theorem c137 : Con C 137 R137 := by
  refine Z0f C ?_ ?_ ?_
  · rintro args p r r' ⟨i, f, h, h1, h2, h3, h4, e⟩ ⟨i', f', h', h1', h2', h3', h4', e'⟩
    subst e; subst e'; simp_all [K0b.inj_iff, X0a.inj_iff, Q0a.inj_iff]
  · rintro args p r ⟨i, f, h, h1, h2, h3, h4, rfl⟩; first | (split <;> simp; done) | (simp; done) | (simp only [resM]; split <;> simp; done) | (simp only [resD]; split <;> simp; done) 
  · rintro args p r ⟨i, f, rfl, h1, h2, h3, h4, rfl⟩
    refine Z0e C false noExt (tabL C [(177, R177), (178, R178)]) xf137 (Q0f C) (K0f C _) zc137_ok (Nat.le_of_ble_eq_true (by kernel_rfl)) fun hF => ?_
    have t_177 := @t177 (tabL C [(177, R177), (178, R178)]) (Z0d C c177 [(178, R178)])
    have t_178 := @t178 (tabL C [(177, R177), (178, R178)]) (Y0c C _ rfl (Z0d C c178 []))
    generalize tabL C [(177, R177), (178, R178)] = call at t_177 t_178 ⊢
    have hd_h1 := hF.dom _ _ h1
    show W C false noExt call zc137 (argE [.ptr i []]) p (endQ C _ _)
    have hb := f.s_.hBodies
    have hs0 := own_nil h2
    (have zx := h1; have hc := True.intro; refine zq137 (k := ?_); clear hc; try exact True.intro)
    repeat' ((first | refine K0d ?_ ?_ | refine Z0c ?_ ?_ | refine X0d _ _ _ _ ?_ ?_ | refine Q0d ?_ ?_ | refine V0d _ _ _ _ ?_ ?_) <;> intro hc <;> (try simp only [zhd] at hc) <;> (try have hw := X0b hc) <;> (refine zq137 (k := ?_); try exact True.intro))
    all_goals (try clear zx)
    (show W C false noExt call (ZC.loop zn137_4) _ _ _); refine V0n C false noExt call zn137_4 _ _ _ (J137 i f p) 16 ⟨0, f.shots, rfl, by omega, (by simp [put_at, Z0a, V0f]), (by simp [put_at, Z0a, V0f]), (by simp [put_at, Z0a, V0f]), hs0, h1, .inl h2, Nat.le_refl _, fun _ _ _ h => h⟩ ?_
    rintro n ρ q ⟨k, ⟨tl, al, ao⟩, rfl, hk, e0, e8, e9, hal, g1, happ, hn, hle⟩
    have hi : i < q.n := Nat.lt_of_lt_of_le hd_h1 hn
    have hlen := Q1j f.c_.Rules.l f.row.l f.s_ k
    have hroom : frRoom ⟨f.c_, (turnsS f.c_.Rules.l f.row.l f.s_ k).1, f.row, ⟨tl, al, ao⟩⟩ = freeN (turnsS f.c_.Rules.l f.row.l f.s_ k).1.Bodies - (turnsS f.c_.Rules.l f.row.l f.s_ k).2.length := by simp only at hal; simp [frRoom, hal]
    by_cases hlt : (k : Int) < 16
    · have hr : Body.right (nth f.s_.Bodies k) = true := h4 _ (by rw [Y0y (by omega)]; exact List.getElem_mem _)
      have hst : turnsS f.c_.Rules.l f.row.l f.s_ (k + 1) = turnStep f.c_.Rules.l f.row.l f.s_.Bodies (turnsS f.c_.Rules.l f.row.l f.s_ k) k := rfl
      have hbk := (turnsS f.c_.Rules.l f.row.l f.s_ k).1.hBodies
      generalize hTk : turnsS f.c_.Rules.l f.row.l f.s_ k = T at hst hal g1 hlen hroom hbk
      obtain ⟨sk, lk⟩ := T
      simp only at hal g1 hlen hroom hbk
      subst hal
      generalize hbb : nth f.s_.Bodies k = b at hr hst
      by_cases hK : b.Kind = 1
      · have hrb := X0j hr (by omega)
        obtain ⟨⟨td, tsh, tb⟩, ht⟩ : ∃ t, playerTurn f.c_.Rules.l f.row.l sk.Dice (freeN sk.Bodies - al.length) b = t := ⟨_, rfl⟩
        simp only [turnStep, hbb, bodyTurn, hK, if_true, ht] at hst
        cases tsh with
        | nil =>
          rcases happ with k3 | ⟨j, k3, hj1, hj2, g2, hj3⟩
          · simp only at k3
            subst k3
            (have zx := And.intro e0 (And.intro e8 (And.intro e9 (And.intro g1 (And.intro hlt (And.intro hbb (And.intro hK (And.intro hroom (And.intro ht h1)))))))); have hc := True.intro; refine zq137 (k := ?_); clear hc; try exact True.intro)
            repeat' ((first | refine K0d ?_ ?_ | refine Z0c ?_ ?_ | refine X0d _ _ _ _ ?_ ?_ | refine Q0d ?_ ?_ | refine V0d _ _ _ _ ?_ ?_) <;> intro hc <;> (try simp only [zhd] at hc) <;> (try have hw := X0b hc) <;> (refine zq137 (k := ?_); try exact True.intro))
            all_goals (try clear zx)
            exact ⟨16 - (k + 1), by omega, k + 1, ⟨.nil, al, ao⟩, rfl, by omega, by simp [put_at, Z0a, e0], by simp [put_at, Z0a, e8], by simp [put_at, Z0a], by rw [hst]; simp, by rw [hst]; simp (disch := first | exact zdl | fail) only [zheap]; first | done | rfl, .inl rfl, by simp only [Hp.bump_n, Hp.znew_n, Hp.zset_n]; omega, fun a o ha h => by have hd := hF.dom a o h; simp (disch := first | exact zdl | fail) only [Hp.bump_get, Hp.get_set_ne, Hp.get_new_ne]; exact hle a o ha h⟩
          · simp only at k3 g2 hj3
            subst k3
            (have zx := And.intro e0 (And.intro e8 (And.intro e9 (And.intro g1 (And.intro g2 (And.intro hlt (And.intro hbb (And.intro hK (And.intro hroom (And.intro ht h1))))))))); have hc := True.intro; refine zq137 (k := ?_); clear hc; try exact True.intro)
            repeat' ((first | refine K0d ?_ ?_ | refine Z0c ?_ ?_ | refine X0d _ _ _ _ ?_ ?_ | refine Q0d ?_ ?_ | refine V0d _ _ _ _ ?_ ?_) <;> intro hc <;> (try simp only [zhd] at hc) <;> (try have hw := X0b hc) <;> (refine zq137 (k := ?_); try exact True.intro))
            all_goals (try clear zx)
            exact ⟨16 - (k + 1), by omega, k + 1, ⟨.own j, al, ao⟩, rfl, by omega, by simp [put_at, Z0a, e0], by simp [put_at, Z0a, e8], by simp [put_at, Z0a], by rw [hst]; simp, by rw [hst]; simp (disch := first | exact zdl | fail) only [zheap]; first | done | rfl, .inr ⟨j, rfl, hj1, by simp only [Hp.bump_n, Hp.znew_n, Hp.zset_n]; omega, by simp (disch := first | exact zdl | fail) only [zheap, g2], hj3⟩, by simp only [Hp.bump_n, Hp.znew_n, Hp.zset_n]; omega, fun a o ha h => by have hd := hF.dom a o h; simp (disch := first | exact zdl | fail) only [Hp.bump_get, Hp.get_set_ne, Hp.get_new_ne]; exact hle a o ha h⟩
        | cons x m =>
          rcases happ with k3 | ⟨j, k3, hj1, hj2, g2, hj3⟩
          · simp only at k3
            subst k3
            (have zx := And.intro e0 (And.intro e8 (And.intro e9 (And.intro g1 (And.intro hlt (And.intro hbb (And.intro hK (And.intro hroom (And.intro ht h1)))))))); have hc := True.intro; refine zq137 (k := ?_); clear hc; try exact True.intro)
            repeat' ((first | refine K0d ?_ ?_ | refine Z0c ?_ ?_ | refine X0d _ _ _ _ ?_ ?_ | refine Q0d ?_ ?_ | refine V0d _ _ _ _ ?_ ?_) <;> intro hc <;> (try simp only [zhd] at hc) <;> (try have hw := X0b hc) <;> (refine zq137 (k := ?_); try exact True.intro))
            all_goals (try clear zx)
            exact ⟨16 - (k + 1), by omega, k + 1, ⟨.own (q.n + 1), al ++ x :: m, nofun⟩, rfl, by omega, by simp [put_at, Z0a, e0], by simp [put_at, Z0a, e8], by simp [put_at, Z0a], by rw [hst], by rw [hst]; simp (disch := first | exact zdl | fail) only [zheap]; first | done | rfl, .inr ⟨q.n + 1, rfl, by omega, by simp only [Hp.bump_n, Hp.znew_n, Hp.zset_n]; omega, by simp (disch := first | exact zdl | fail) only [zheap, List.length_append, List.length_cons], by simp; omega⟩, by simp only [Hp.bump_n, Hp.znew_n, Hp.zset_n]; omega, fun a o ha h => by have hd := hF.dom a o h; simp (disch := first | exact zdl | fail) only [Hp.bump_get, Hp.get_set_ne, Hp.get_new_ne]; exact hle a o ha h⟩
          · simp only at k3 g2 hj3
            subst k3
            (have zx := And.intro e0 (And.intro e8 (And.intro e9 (And.intro g1 (And.intro g2 (And.intro hlt (And.intro hbb (And.intro hK (And.intro hroom (And.intro ht h1))))))))); have hc := True.intro; refine zq137 (k := ?_); clear hc; try exact True.intro)
            repeat' ((first | refine K0d ?_ ?_ | refine Z0c ?_ ?_ | refine X0d _ _ _ _ ?_ ?_ | refine Q0d ?_ ?_ | refine V0d _ _ _ _ ?_ ?_) <;> intro hc <;> (try simp only [zhd] at hc) <;> (try have hw := X0b hc) <;> (refine zq137 (k := ?_); try exact True.intro))
            all_goals (try clear zx)
            exact ⟨16 - (k + 1), by omega, k + 1, ⟨.own (q.n + 1), al ++ x :: m, nofun⟩, rfl, by omega, by simp [put_at, Z0a, e0], by simp [put_at, Z0a, e8], by simp [put_at, Z0a], by rw [hst], by rw [hst]; simp (disch := first | exact zdl | fail) only [zheap]; first | done | rfl, .inr ⟨q.n + 1, rfl, by omega, by simp only [Hp.bump_n, Hp.znew_n, Hp.zset_n]; omega, by simp (disch := first | exact zdl | fail) only [zheap, List.length_append, List.length_cons], by simp; omega⟩, by simp only [Hp.bump_n, Hp.znew_n, Hp.zset_n]; omega, fun a o ha h => by have hd := hF.dom a o h; simp (disch := first | exact zdl | fail) only [Hp.bump_get, Hp.get_set_ne, Hp.get_new_ne]; exact hle a o ha h⟩
      · simp only [turnStep, hbb, bodyTurn, hK, if_false, List.append_nil] at hst
        have happ2 : tl = .nil ∨ ∃ j, tl = .own j ∧ p.n ≤ j ∧ j < q.n ∧ q.t.get j = some (.tail al.length) ∧ 0 < al.length := happ
        (have zx := And.intro e0 (And.intro e8 (And.intro e9 (And.intro g1 (And.intro hlt (And.intro hbb (And.intro hK h1)))))); have hc := True.intro; refine zq137 (k := ?_); clear hc; try exact True.intro)
        repeat' ((first | refine K0d ?_ ?_ | refine Z0c ?_ ?_ | refine X0d _ _ _ _ ?_ ?_ | refine Q0d ?_ ?_ | refine V0d _ _ _ _ ?_ ?_) <;> intro hc <;> (try simp only [zhd] at hc) <;> (try have hw := X0b hc) <;> (refine zq137 (k := ?_); try exact True.intro))
        all_goals (try clear zx)
        refine ⟨16 - (k + 1), by omega, k + 1, ⟨tl, al, ao⟩, rfl, by omega, by simp [put_at, Z0a, e0], by simp [put_at, Z0a, e8], by simp [put_at, Z0a], by rw [hst], by rw [hst]; simp (disch := first | exact zdl | fail) only [zheap]; first | done | rfl, ?_, by simp only [Hp.bump_n, Hp.znew_n, Hp.zset_n]; omega, fun a o ha h => by have hd := hF.dom a o h; simp (disch := first | exact zdl | fail) only [Hp.bump_get, Hp.get_set_ne, Hp.get_new_ne]; exact hle a o ha h⟩
        rcases happ2 with a1 | ⟨j, a1, a2, a3, a4, a5⟩
        · exact .inl a1
        · have hji : j ≠ i := by omega
          refine .inr ⟨j, a1, a2, by simp only [Hp.bump_n, Hp.znew_n, Hp.zset_n]; omega, ?_, a5⟩
          simp (disch := first | exact zdl | fail) only [zheap, a4]
    · have hk16 : k = 16 := by omega
      subst hk16
      (have zx := And.intro e0 (And.intro e8 (And.intro e9 (And.intro g1 (And.intro hlt h1)))); have hc := True.intro; refine zq137 (k := ?_); clear hc; try exact True.intro)
      repeat' ((first | refine K0d ?_ ?_ | refine Z0c ?_ ?_ | refine X0d _ _ _ _ ?_ ?_ | refine Q0d ?_ ?_ | refine V0d _ _ _ _ ?_ ?_) <;> intro hc <;> (try simp only [zhd] at hc) <;> (try have hw := X0b hc) <;> (refine zq137 (k := ?_); try exact True.intro))
      all_goals (try clear zx)
      refine X0l hF hd_h1 hle ⟨_, g1, ?_⟩ (X0e (Y0d zno137))
      have hre : ∀ j, f.c_.Rules.tl = .own j ∨ f.c_.Tokens.tl = .own j ∨ f.row.tl = .own j → j < p.n := fun j hj =>
        hF.lt_obj (.arg (a := CV.ptr i []) (by simp) rfl) h1 j (by
          simp only [XObj.has, K0b.has, K0a.has]
          rcases hj with h | h | h <;> simp [h])
      simp only at hal
      subst hal
      exact X1a f.c_ (turnsS f.c_.Rules.l f.row.l f.s_ 16).1 f.row ⟨tl, _, ao⟩ p.n hre (happ.imp id fun ⟨j, a1, _, _, _, a5⟩ => ⟨⟨j, a1⟩, a5⟩)
end Go.Proofs.Ytpchcfkebljopaa
end
section
namespace Go.Proofs.Ytpchcfkebljopaa
open Go.Cl Go Go.RowKit
theorem Q0j {α : Type} [Inhabited α] {l : List α} {k j : Nat} {x : α} (h : j ≠ k) : nth (l.set k x) j = nth l j := by
  simp only [nth, List.getElem?_set_ne (Ne.symm h)]
theorem Y0i {α : Type} [Inhabited α] {l : List α} {k : Nat} {x : α} (h : k < l.length) : nth (l.set k x) k = x := by
  simp [nth, h]
theorem Z1k (st : X0a × List Q0a) : ∀ (k j : Nat), k ≤ j → nth (setsS st k).1.Bodies j = nth st.1.Bodies j
  | 0, j, _ => rfl
  | k + 1, j, h => by
    have ih := Z1k st k j (by omega)
    simp only [setsS, setStep]
    split
    · exact ih
    · split
      · simp only [X0a.put_2k]; rw [Q0j (by omega)]; exact ih
      · exact ih
theorem Q1d {α : Type} [Inhabited α] (f : α → Bool) : ∀ (l : List α) (k : Nat), firstW f l k = -1 ∨ ∃ j, j < l.length ∧ firstW f l k = ((k + j : Nat) : Int) ∧ f (nth l j) = true
  | [], k => .inl rfl
  | x :: l, k => by
    by_cases h : f x = true
    · exact .inr ⟨0, by simp, by simp [firstW, h], by simpa [nth] using h⟩
    · rcases Q1d f l (k + 1) with e | ⟨j, hj, e, hf⟩
      · left; simp [firstW, h, e]
      · exact .inr ⟨j + 1, by simp; omega, by rw [show firstW f (x :: l) k = firstW f l (k + 1) by simp [firstW, h], e]; congr 1; omega, by simpa [nth] using hf⟩
theorem Z08 (l : List Q0a) (b : Q0a) : struckL l b = -1 ∨ ∃ j, j < l.length ∧ struckL l b = (j : Int) ∧ (nth l j).Kind = 1 ∧ bodyHit (nth l j) b = true := by
  rcases Q1d (fun a : Q0a => decide (a.Kind = 1) && bodyHit a b) l 0 with h | ⟨j, hj, e, hf⟩
  · exact .inl h
  · refine .inr ⟨j, hj, by unfold struckL; rw [e]; simp, ?_⟩
    simpa using hf
structure HitOk (s : X0a) : Prop where
  own : ∀ j, j < 16 → (nth s.Bodies j).Kind = 2 → 0 ≤ (nth s.Bodies j).Owner ∧ (nth s.Bodies j).Owner ≤ 7
  score : ∀ j, j < 8 → 0 ≤ nth s.Score j ∧ nth s.Score j ≤ 2147483647
theorem HitOk.put {s : X0a} (h : HitOk s) (k : Nat) (b : Q0a) (hb : b.Kind = 2 → 0 ≤ b.Owner ∧ b.Owner ≤ 7) : HitOk (s.put_2k k b) := by
  refine ⟨fun j hj => ?_, h.score⟩
  show (nth (s.Bodies.set k b) j).Kind = 2 → _ ∧ (nth (s.Bodies.set k b) j).Owner ≤ 7
  by_cases e : j = k
  · subst e
    show _ → 0 ≤ (nth (s.Bodies.set j b) j).Owner ∧ _
    rw [Y0i (by rw [s.hBodies]; exact hj)]; exact hb
  · show _ → 0 ≤ (nth (s.Bodies.set k b) j).Owner ∧ _
    rw [Q0j e]; exact h.own j hj
theorem HitOk.putS {s : X0a} (h : HitOk s) (k : Nat) (n : Int) (hn : 0 ≤ n ∧ n ≤ 2147483647) : HitOk (s.put_3k k n) := by
  refine ⟨h.own, fun j hj => ?_⟩
  show 0 ≤ nth (s.Score.set k n) j ∧ nth (s.Score.set k n) j ≤ _
  by_cases e : j = k
  · subst e; rw [Y0i (by rw [s.hScore]; exact hj)]; exact hn
  · rw [Q0j e]; exact h.score j hj
theorem hitStep_ok (players : Int) {s : X0a} (h : HitOk s) {k : Nat} (hk : k < 16) : HitOk (hitStep players s k) := by
  unfold hitStep
  simp only
  split
  · exact h
  · rename_i hK
    have hK : (nth s.Bodies k).Kind = 2 := by simpa using hK
    split
    · exact h
    · have ho := h.own k hk hK
      refine HitOk.put (HitOk.put (HitOk.putS h _ _ ?_) _ _ (by simp [Q0a.zero])) _ _ (by simp [again, bodyBorn])
      have := h.score (nth s.Bodies k).Owner.toNat (by omega)
      omega
theorem hitsS_ok (players : Int) {s : X0a} (h : HitOk s) : ∀ k, k ≤ 16 → HitOk (hitsS players s k)
  | 0, _ => h
  | k + 1, hk => hitStep_ok players (hitsS_ok players h k (by omega)) (by omega)
theorem qslice_tl (C : Ctx) {α : Type} (f : α → CV) {t e : TypeId} {sh : Shape} {b : Nat} {z : CV} {te : TI} (ht : C.tt t = some ⟨.base (.slice e), sh, b, z⟩) (hte : C.tt e = some te) (hsh : ∀ x, (f x).shape = te.sh) (h : Heap) (x : α) (m : List α) (o : _) :
    qslice C h t (Lst.cv f ⟨.part, x :: m, o⟩) (some (I 1)) none none = some (Lst.cv f ⟨.part, m, nofun⟩) := by
  simp only [qslice, ht, hte, Lst.cv]
  rw [if_pos (by simp [hsh])]
  simp only [qbnd, List.length_map, List.length_cons, List.map_cons]
  rw [if_pos (by omega)]
  have : (List.map f m).take m.length = List.map f m := List.take_of_length_le (by simp)
  simp [this]
noncomputable def frSets (f : K0b) : K0b := { f with s_ := (setsS (f.s_, f.shots.l) 16).1, shots := ⟨.view, (setsS (f.s_, f.shots.l) 16).2, nofun⟩ }
noncomputable def frHits (f : K0b) : K0b := { f with s_ := hitsS f.c_.Players f.s_ 16 }
theorem K1b (c : K0a) (st : X0a) (row : Lst V0b) (sh : Lst Q0a) (l : List Q0a) (hl : sh.l = l) (n : Nat) (h : ∀ j, c.Rules.tl = .own j ∨ c.Tokens.tl = .own j ∨ row.tl = .own j → j < n) : XObj.weak (fun k => k) n (.var sh186 (K0b.mk c st row sh).cv) (.var sh186 (K0b.mk c st row ⟨.view, l, nofun⟩).cv) := by
  have h1 : CV.weak (fun k => k) n c.cv c.cv := X0e fun j hj => h j (by rcases (K0a.has _ j).1 hj with h | h <;> simp [h])
  have h2 : CV.weak (fun k => k) n st.cv st.cv := X0e (Y0d (X0a.nohas _))
  have h3 : CV.weak (fun k => k) n (Lst.cv V0b.cv row) (Lst.cv V0b.cv row) := X0e fun j hj => h j (.inr (.inr ((Lst.has _ V0b.nohas _ j).1 hj)))
  have h4 : CV.weakL (fun k => k) n (l.map Q0a.cv) (l.map Q0a.cv) := CV.weakL_refl _ fun j hj => (V0p Q0a.nohas l j hj).elim
  subst hl
  refine ⟨rfl, ?_⟩
  simp only [K0b.cv, CV.weak, CV.weakL]
  refine ⟨h1, h2, h3, ?_, trivial⟩
  simp only [Lst.cv, CV.weak]
  exact ⟨by cases sh.tl <;> simp [Tail.weak], h4⟩
end Go.Proofs.Ytpchcfkebljopaa
end
section
-- @nole
namespace Go.Proofs.Ytpchcfkebljopaa
open Go.Cl Go Go.RowKit
set_option maxRecDepth 100000
set_option linter.constructorNameAsVariable false
theorem zs37 (h : Heap) (x : Q0a) (m : List Q0a) (o : _) : qslice C h 37 (Lst.cv Q0a.cv ⟨.part, x :: m, o⟩) (some (I 1)) none none = some (Lst.cv Q0a.cv ⟨.part, m, nofun⟩) := qslice_tl C Q0a.cv tt37 tt34 Q0a.shape h x m o
theorem nth_cons0 {α : Type} [Inhabited α] (x : α) (l : List α) : nth (x :: l) 0 = x := rfl
def J138 (i : Nat) (f : K0b) (p : Hp) (n : Nat) (ρ : Env) (q : Hp) : Prop :=
  ∃ (k : Nat) (sh : Lst Q0a), n = 16 - k ∧ k ≤ 16 ∧ ρ 0 = .ptr i [] ∧ ρ 8 = .agg (f.s_.Bodies.map Q0a.cv) ∧ ρ 9 = I k ∧ sh.l = (setsS (f.s_, f.shots.l) k).2 ∧ q.t.get i = some (.var sh186 (K0b.mk f.c_ (setsS (f.s_, f.shots.l) k).1 f.row sh).cv) ∧ (sh.tl = .nil ∨ sh.tl = .part) ∧ p.n ≤ q.n ∧ ∀ j o, j ≠ i → p.t.get j = some o → q.t.get j = some o
def R138 : Rel := fun args p r => ∃ (i : Nat) (f : K0b), args = [.ptr i []] ∧ (p.t.get i = some (.var sh186 f.cv)) ∧ (f.shots.tl = .nil ∨ f.shots.tl = .part) ∧ r = .ret (.tup []) (p.set i (some (.var sh186 (frSets f).cv)))
theorem t138 {T : XCall} (h : Has T 138 R138) (i : Nat) (f : K0b) {p : Hp} (h1 : p.t.get i = some (.var sh186 f.cv)) (h2 : f.shots.tl = .nil ∨ f.shots.tl = .part) : T 138 [.ptr i []] p = .ret (.tup []) (p.set i (some (.var sh186 (frSets f).cv))) := h _ _ _ ⟨i, f, rfl, h1, h2, rfl⟩
theorem zq138 {A B : Prop} (h : A = B := by ((try simp -dsimp (disch := first | exact zdis | fail) only [zcore, zall, zopm, zop, zcallOp, qop, qbuiltin, ofOpt, List.map, reduceCtorEq, if_true, if_false, ↓reduceIte, zbin, eqRes, qassert, qnum, qshift, qun, kindOf, allocV, List.nil_append, List.append_nil, List.cons_append, List.length_cons, List.length_nil, Nat.reduceAdd, Nat.reduceEqDiff, Nat.reduceLT, Nat.reduceSub, Nat.reduceMul, Int.reduceToNat, Int.reduceLE, Int.reduceLT, Int.reduceEq, Int.reduceNeg, Int.reduceAdd, Int.reduceSub, beq_self_eq_true, cond_true, cond_false, isConstOpd, xpanic, xconv, isBytes, qconv, List.length_map, List.map_nil, List.map_cons, concrete, Option.some.injEq, exists_eq', Option.map_some, Option.map_none, List.getElem?_cons_zero, List.getElem?_cons_succ, zw138, rs138, tt3, tt34, tt37, tt63, tt66, tt186, ti3, ti34, ti37, ti63, ti66, ti186, Q0k, Z0i, Y0f, zsl37, zsl63, zs37, nth_cons0, h1, h2, zx, hc]); rfl)) (k : B) : A := h ▸ k
theorem zno138 {P : Prop} (h : P := by intro jj; simp [CV.has, CV.hasL, fault, K0c.nohas, X0a.nohas, Q0a.nohas]) : P := h
set_option maxHeartbeats 8000000 in
theorem c138 : Con C 138 R138 := by
  refine Z0f C ?_ ?_ ?_
  · rintro args p r r' ⟨i, f, h, h1, h2, e⟩ ⟨i', f', h', h1', h2', e'⟩
    subst e; subst e'; simp_all [K0b.inj_iff, X0a.inj_iff, Q0a.inj_iff, Z0r]
  · rintro args p r ⟨i, f, h, h1, h2, rfl⟩; first | (split <;> simp; done) | (simp; done) | (simp only [resM]; split <;> simp; done) | (simp only [resD]; split <;> simp; done) 
  · rintro args p r ⟨i, f, rfl, h1, h2, rfl⟩
    refine Z0e C false noExt (tabL C []) xf138 (Q0f C) (K0f C _) zc138_ok (Nat.le_of_ble_eq_true (by kernel_rfl)) fun hF => ?_
    generalize tabL C [] = call
    have hd_h1 := hF.dom _ _ h1
    show W C false noExt call zc138 (argE [.ptr i []]) p (endQ C _ _)
    have hb := f.s_.hBodies
    (have zx := h1; have hc := True.intro; refine zq138 (k := ?_); clear hc; try exact True.intro)
    repeat' ((first | refine K0d ?_ ?_ | refine Z0c ?_ ?_ | refine X0d _ _ _ _ ?_ ?_ | refine Q0d ?_ ?_ | refine V0d _ _ _ _ ?_ ?_) <;> intro hc <;> (try simp only [zhd] at hc) <;> (try have hw := X0b hc) <;> (refine zq138 (k := ?_); try exact True.intro))
    all_goals (try clear zx)
    (show W C false noExt call (ZC.loop zn138_4) _ _ _); refine V0n C false noExt call zn138_4 _ _ _ (J138 i f p) 16 ⟨0, f.shots, rfl, by omega, (by simp [put_at, Z0a, V0f]), (by simp [put_at, Z0a, V0f]), (by simp [put_at, Z0a, V0f]), rfl, h1, h2, Nat.le_refl _, fun _ _ _ h => h⟩ ?_
    rintro n ρ q ⟨k, ⟨tl, al, ao⟩, rfl, hk, e0, e8, e9, hal, g1, htl, hn, hle⟩
    have hi : i < q.n := Nat.lt_of_lt_of_le hd_h1 hn
    by_cases hlt : (k : Int) < 16
    · have hst : setsS (f.s_, f.shots.l) (k + 1) = setStep (setsS (f.s_, f.shots.l) k) k := rfl
      have hkeep : nth (setsS (f.s_, f.shots.l) k).1.Bodies k = nth f.s_.Bodies k := Z1k (f.s_, f.shots.l) k k (Nat.le_refl _)
      have hbk := (setsS (f.s_, f.shots.l) k).1.hBodies
      generalize hTk : setsS (f.s_, f.shots.l) k = T at hst hal g1 hkeep hbk
      obtain ⟨sk, lk⟩ := T
      simp only at hal g1 hkeep hbk
      subst hal
      by_cases hK : (nth f.s_.Bodies k).Kind = 0
      · cases al with
        | nil =>
          simp only [setStep] at hst
          (have zx := And.intro e0 (And.intro e8 (And.intro e9 (And.intro g1 (And.intro hlt (And.intro hK h1))))); have hc := True.intro; refine zq138 (k := ?_); clear hc; try exact True.intro)
          repeat' ((first | refine K0d ?_ ?_ | refine Z0c ?_ ?_ | refine X0d _ _ _ _ ?_ ?_ | refine Q0d ?_ ?_ | refine V0d _ _ _ _ ?_ ?_) <;> intro hc <;> (try simp only [zhd] at hc) <;> (try have hw := X0b hc) <;> (refine zq138 (k := ?_); try exact True.intro))
          all_goals (try clear zx)
          exact ⟨16 - (k + 1), by omega, k + 1, ⟨tl, [], ao⟩, rfl, by omega, by simp [put_at, Z0a, e0], by simp [put_at, Z0a, e8], by simp [put_at, Z0a], by rw [hst], by rw [hst]; simp (disch := first | exact zdl | fail) only [zheap, g1], htl, by simp only [Hp.bump_n, Hp.znew_n, Hp.zset_n]; omega, fun a o ha h => by have hd := hF.dom a o h; simp (disch := first | exact zdl | fail) only [Hp.bump_get, Hp.get_set_ne, Hp.get_new_ne]; exact hle a o ha h⟩
        | cons x m =>
          have htp : tl = .part := by
            rcases htl with h | h
            · simp only at h; subst h; cases (ao rfl)
            · exact h
          subst htp
          simp only [setStep, hkeep, hK, if_true] at hst
          (have zx := And.intro e0 (And.intro e8 (And.intro e9 (And.intro g1 (And.intro hlt (And.intro hK h1))))); have hc := True.intro; refine zq138 (k := ?_); clear hc; try exact True.intro)
          repeat' ((first | refine K0d ?_ ?_ | refine Z0c ?_ ?_ | refine X0d _ _ _ _ ?_ ?_ | refine Q0d ?_ ?_ | refine V0d _ _ _ _ ?_ ?_) <;> intro hc <;> (try simp only [zhd] at hc) <;> (try have hw := X0b hc) <;> (refine zq138 (k := ?_); try exact True.intro))
          all_goals (try clear zx)
          all_goals first | (exfalso; omega) | skip
          exact ⟨16 - (k + 1), by omega, k + 1, ⟨.part, m, nofun⟩, rfl, by omega, by simp [put_at, Z0a, e0], by simp [put_at, Z0a, e8], by simp [put_at, Z0a], by rw [hst], by rw [hst]; simp (disch := first | exact zdl | fail) only [zheap]; first | done | rfl, .inr rfl, by simp only [Hp.bump_n, Hp.znew_n, Hp.zset_n]; omega, fun a o ha h => by have hd := hF.dom a o h; simp (disch := first | exact zdl | fail) only [Hp.bump_get, Hp.get_set_ne, Hp.get_new_ne]; exact hle a o ha h⟩
      · have hst2 : setsS (f.s_, f.shots.l) (k + 1) = (sk, al) := by rw [hst]; simp only [setStep]; cases al <;> simp [hkeep, hK]
        (have zx := And.intro e0 (And.intro e8 (And.intro e9 (And.intro g1 (And.intro hlt (And.intro hK h1))))); have hc := True.intro; refine zq138 (k := ?_); clear hc; try exact True.intro)
        repeat' ((first | refine K0d ?_ ?_ | refine Z0c ?_ ?_ | refine X0d _ _ _ _ ?_ ?_ | refine Q0d ?_ ?_ | refine V0d _ _ _ _ ?_ ?_) <;> intro hc <;> (try simp only [zhd] at hc) <;> (try have hw := X0b hc) <;> (refine zq138 (k := ?_); try exact True.intro))
        all_goals (try clear zx)
        exact ⟨16 - (k + 1), by omega, k + 1, ⟨tl, al, ao⟩, rfl, by omega, by simp [put_at, Z0a, e0], by simp [put_at, Z0a, e8], by simp [put_at, Z0a], by rw [hst2], by rw [hst2]; simp (disch := first | exact zdl | fail) only [zheap, g1], htl, by simp only [Hp.bump_n, Hp.znew_n, Hp.zset_n]; omega, fun a o ha h => by have hd := hF.dom a o h; simp (disch := first | exact zdl | fail) only [Hp.bump_get, Hp.get_set_ne, Hp.get_new_ne]; exact hle a o ha h⟩
    · have hk16 : k = 16 := by omega
      subst hk16
      (have zx := And.intro e0 (And.intro e8 (And.intro e9 (And.intro g1 (And.intro hlt h1)))); have hc := True.intro; refine zq138 (k := ?_); clear hc; try exact True.intro)
      repeat' ((first | refine K0d ?_ ?_ | refine Z0c ?_ ?_ | refine X0d _ _ _ _ ?_ ?_ | refine Q0d ?_ ?_ | refine V0d _ _ _ _ ?_ ?_) <;> intro hc <;> (try simp only [zhd] at hc) <;> (try have hw := X0b hc) <;> (refine zq138 (k := ?_); try exact True.intro))
      all_goals (try clear zx)
      refine X0l hF hd_h1 hle ⟨_, g1, ?_⟩ (X0e (Y0d zno138))
      have hre : ∀ j, f.c_.Rules.tl = .own j ∨ f.c_.Tokens.tl = .own j ∨ f.row.tl = .own j → j < p.n := fun j hj =>
        hF.lt_obj (.arg (a := CV.ptr i []) (by simp) rfl) h1 j (by
          simp only [XObj.has, K0b.has, K0a.has]
          rcases hj with h | h | h <;> simp [h])
      exact K1b f.c_ (setsS (f.s_, f.shots.l) 16).1 f.row ⟨tl, al, ao⟩ _ hal p.n hre
def J139 (i : Nat) (f : K0b) (p : Hp) (n : Nat) (ρ : Env) (q : Hp) : Prop :=
  ∃ (k : Nat), n = 16 - k ∧ k ≤ 16 ∧ ρ 0 = .ptr i [] ∧ ρ 6 = I k ∧ q.t.get i = some (.var sh186 (K0b.mk f.c_ (hitsS f.c_.Players f.s_ k) f.row f.shots).cv) ∧ p.n ≤ q.n ∧ ∀ j o, j ≠ i → p.t.get j = some o → q.t.get j = some o
def R139 : Rel := fun args p r => ∃ (i : Nat) (f : K0b), args = [.ptr i []] ∧ (p.t.get i = some (.var sh186 f.cv)) ∧ (HitOk f.s_) ∧ r = .ret (.tup []) (p.set i (some (.var sh186 (frHits f).cv)))
theorem t139 {T : XCall} (h : Has T 139 R139) (i : Nat) (f : K0b) {p : Hp} (h1 : p.t.get i = some (.var sh186 f.cv)) (h2 : HitOk f.s_) : T 139 [.ptr i []] p = .ret (.tup []) (p.set i (some (.var sh186 (frHits f).cv))) := h _ _ _ ⟨i, f, rfl, h1, h2, rfl⟩
theorem zq139 {A B : Prop} (h : A = B := by ((try simp -dsimp (disch := first | exact zdis | fail) only [zcore, zall, zopm, zop, zcallOp, qop, qbuiltin, ofOpt, List.map, reduceCtorEq, if_true, if_false, ↓reduceIte, zbin, eqRes, qassert, qnum, qshift, qun, kindOf, allocV, List.nil_append, List.append_nil, List.cons_append, List.length_cons, List.length_nil, Nat.reduceAdd, Nat.reduceEqDiff, Nat.reduceLT, Nat.reduceSub, Nat.reduceMul, Int.reduceToNat, Int.reduceLE, Int.reduceLT, Int.reduceEq, Int.reduceNeg, Int.reduceAdd, Int.reduceSub, beq_self_eq_true, cond_true, cond_false, isConstOpd, xpanic, xconv, isBytes, qconv, List.length_map, List.map_nil, List.map_cons, concrete, Option.some.injEq, exists_eq', Option.map_some, Option.map_none, List.getElem?_cons_zero, List.getElem?_cons_succ, zw139, rs139, tt3, tt34, tt61, tt63, tt64, tt66, tt186, ti3, ti34, ti61, ti63, ti64, ti66, ti186, t_179, t_64, Q0k, Z0i, Y0f, X0h, zsl63, zsl64, h1, h2, zx, hc]); rfl)) (k : B) : A := h ▸ k
theorem zno139 {P : Prop} (h : P := by intro jj; simp [CV.has, CV.hasL, fault, K0c.nohas, X0a.nohas, Q0a.nohas]) : P := h
set_option maxHeartbeats 8000000 in
theorem c139 : Con C 139 R139 := by
  refine Z0f C ?_ ?_ ?_
  · rintro args p r r' ⟨i, f, h, h1, h2, e⟩ ⟨i', f', h', h1', h2', e'⟩
    subst e; subst e'; simp_all [K0b.inj_iff, X0a.inj_iff, Q0a.inj_iff, K0a.inj_iff]
  · rintro args p r ⟨i, f, h, h1, h2, rfl⟩; first | (split <;> simp; done) | (simp; done) | (simp only [resM]; split <;> simp; done) | (simp only [resD]; split <;> simp; done) 
  · rintro args p r ⟨i, f, rfl, h1, h2, rfl⟩
    refine Z0e C false noExt (tabL C [(179, R179), (64, R64)]) xf139 (Q0f C) (K0f C _) zc139_ok (Nat.le_of_ble_eq_true (by kernel_rfl)) fun hF => ?_
    have t_179 := @t179 (tabL C [(179, R179), (64, R64)]) (Z0d C c179 [(64, R64)])
    have t_64 := @t64 (tabL C [(179, R179), (64, R64)]) (Y0c C _ rfl (Z0d C c64 []))
    generalize tabL C [(179, R179), (64, R64)] = call at t_179 t_64 ⊢
    have hd_h1 := hF.dom _ _ h1
    show W C false noExt call zc139 (argE [.ptr i []]) p (endQ C _ _)
    (have zx := h1; have hc := True.intro; refine zq139 (k := ?_); clear hc; try exact True.intro)
    repeat' ((first | refine K0d ?_ ?_ | refine Z0c ?_ ?_ | refine X0d _ _ _ _ ?_ ?_ | refine Q0d ?_ ?_ | refine V0d _ _ _ _ ?_ ?_) <;> intro hc <;> (try simp only [zhd] at hc) <;> (try have hw := X0b hc) <;> (refine zq139 (k := ?_); try exact True.intro))
    all_goals (try clear zx)
    (show W C false noExt call (ZC.loop zn139_4) _ _ _); refine V0n C false noExt call zn139_4 _ _ _ (J139 i f p) 16 ⟨0, rfl, by omega, (by simp [put_at, Z0a, V0f]), (by simp [put_at, Z0a, V0f]), h1, Nat.le_refl _, fun _ _ _ h => h⟩ ?_
    rintro n ρ q ⟨k, rfl, hk, e0, e6, g1, hn, hle⟩
    have hi : i < q.n := Nat.lt_of_lt_of_le hd_h1 hn
    by_cases hlt : (k : Int) < 16
    · have hok := hitsS_ok f.c_.Players h2 k hk
      have hst : hitsS f.c_.Players f.s_ (k + 1) = hitStep f.c_.Players (hitsS f.c_.Players f.s_ k) k := rfl
      generalize hTk : hitsS f.c_.Players f.s_ k = s at hst g1 hok
      have hbk := s.hBodies
      have hsc := s.hScore
      by_cases hK : (nth s.Bodies k).Kind = 2
      · have ho := hok.own k (by omega) hK
        have hsv := hok.score (nth s.Bodies k).Owner.toNat (by omega)
        rcases Z08 s.Bodies (nth s.Bodies k) with ha | ⟨at_, ha1, ha, ha2, _⟩
        · have hst2 : hitStep f.c_.Players s k = s := by simp [hitStep, hK, ha]
          (have zx := And.intro e0 (And.intro e6 (And.intro g1 (And.intro hlt (And.intro hK (And.intro ha h1))))); have hc := True.intro; refine zq139 (k := ?_); clear hc; try exact True.intro)
          repeat' ((first | refine K0d ?_ ?_ | refine Z0c ?_ ?_ | refine X0d _ _ _ _ ?_ ?_ | refine Q0d ?_ ?_ | refine V0d _ _ _ _ ?_ ?_) <;> intro hc <;> (try simp only [zhd] at hc) <;> (try have hw := X0b hc) <;> (refine zq139 (k := ?_); try exact True.intro))
          all_goals (try clear zx)
          exact ⟨16 - (k + 1), by omega, k + 1, rfl, by omega, by simp [put_at, Z0a, e0], by simp [put_at, Z0a], by rw [hst, hst2]; simp (disch := first | exact zdl | fail) only [zheap, g1]; first | done | rfl, by simp only [Hp.bump_n, Hp.znew_n, Hp.zset_n]; omega, fun a o ha' h => by have hd := hF.dom a o h; simp (disch := first | exact zdl | fail) only [Hp.bump_get, Hp.get_set_ne, Hp.get_new_ne]; exact hle a o ha' h⟩
        · have hak : at_ ≠ k := by intro e; subst e; omega
          have hst2 : hitStep f.c_.Players s k = ((s.put_3k (nth s.Bodies k).Owner.toNat (min (nth s.Score (nth s.Bodies k).Owner.toNat + 1) 2147483647)).put_2k k Q0a.zero).put_2k at_ (again f.c_.Players (nth ((s.put_3k (nth s.Bodies k).Owner.toNat (min (nth s.Score (nth s.Bodies k).Owner.toNat + 1) 2147483647)).put_2k k Q0a.zero).Bodies at_)) := by
            have hng : ¬ ((at_ : Int) < 0) := by omega
            simp only [hitStep, hK, ha, hng, ne_eq, not_true, if_false, Int.toNat_natCast]
          have hng : ¬ ((at_ : Int) < 0) := by omega
          (have zx := And.intro e0 (And.intro e6 (And.intro g1 (And.intro hlt (And.intro hK (And.intro ha (And.intro hng h1)))))); have hc := True.intro; refine zq139 (k := ?_); clear hc; try exact True.intro)
          repeat' ((first | refine K0d ?_ ?_ | refine Z0c ?_ ?_ | refine X0d _ _ _ _ ?_ ?_ | refine Q0d ?_ ?_ | refine V0d _ _ _ _ ?_ ?_) <;> intro hc <;> (try simp only [zhd] at hc) <;> (try have hw := X0b hc) <;> (refine zq139 (k := ?_); try exact True.intro))
          all_goals (try clear zx)
          exact ⟨16 - (k + 1), by omega, k + 1, rfl, by omega, by simp [put_at, Z0a, e0], by simp [put_at, Z0a], by rw [hst, hst2]; simp (disch := first | exact zdl | fail) only [zheap, g1]; first | done | rfl, by simp only [Hp.bump_n, Hp.znew_n, Hp.zset_n]; omega, fun a o ha' h => by have hd := hF.dom a o h; simp (disch := first | exact zdl | fail) only [Hp.bump_get, Hp.get_set_ne, Hp.get_new_ne]; exact hle a o ha' h⟩
      · have hst2 : hitStep f.c_.Players s k = s := by simp [hitStep, hK]
        (have zx := And.intro e0 (And.intro e6 (And.intro g1 (And.intro hlt (And.intro hK h1)))); have hc := True.intro; refine zq139 (k := ?_); clear hc; try exact True.intro)
        repeat' ((first | refine K0d ?_ ?_ | refine Z0c ?_ ?_ | refine X0d _ _ _ _ ?_ ?_ | refine Q0d ?_ ?_ | refine V0d _ _ _ _ ?_ ?_) <;> intro hc <;> (try simp only [zhd] at hc) <;> (try have hw := X0b hc) <;> (refine zq139 (k := ?_); try exact True.intro))
        all_goals (try clear zx)
        exact ⟨16 - (k + 1), by omega, k + 1, rfl, by omega, by simp [put_at, Z0a, e0], by simp [put_at, Z0a], by rw [hst, hst2]; simp (disch := first | exact zdl | fail) only [zheap, g1]; first | done | rfl, by simp only [Hp.bump_n, Hp.znew_n, Hp.zset_n]; omega, fun a o ha' h => by have hd := hF.dom a o h; simp (disch := first | exact zdl | fail) only [Hp.bump_get, Hp.get_set_ne, Hp.get_new_ne]; exact hle a o ha' h⟩
    · have hk16 : k = 16 := by omega
      subst hk16
      (have zx := And.intro e0 (And.intro e6 (And.intro g1 (And.intro hlt h1))); have hc := True.intro; refine zq139 (k := ?_); clear hc; try exact True.intro)
      repeat' ((first | refine K0d ?_ ?_ | refine Z0c ?_ ?_ | refine X0d _ _ _ _ ?_ ?_ | refine Q0d ?_ ?_ | refine V0d _ _ _ _ ?_ ?_) <;> intro hc <;> (try simp only [zhd] at hc) <;> (try have hw := X0b hc) <;> (refine zq139 (k := ?_); try exact True.intro))
      all_goals (try clear zx)
      refine X0l hF hd_h1 hle ⟨_, g1, Q0l rfl fun j hj => ?_⟩ (X0e (Y0d zno139))
      refine hF.lt_obj (.arg (a := CV.ptr i []) (by simp) rfl) h1 j ?_
      simp only [XObj.has, K0b.has, frHits] at hj ⊢
      exact hj
end Go.Proofs.Ytpchcfkebljopaa
end
section
namespace Go.Proofs.Ytpchcfkebljopaa
open Go.Cl Go Go.RowKit
set_option maxRecDepth 100000
set_option linter.constructorNameAsVariable false
def R83 : Rel := fun args p r => ∃ (o : X0c), args = [o.cv] ∧ r = .ret (Bo (!opRight o)) p
theorem t83 {T : XCall} (h : Has T 83 R83) (o : X0c) {p : Hp}  : T 83 [o.cv] p = .ret (Bo (!opRight o)) p := h _ _ _ ⟨o, rfl, rfl⟩
theorem zq83 {A B : Prop} (h : A = B := by ((try simp -dsimp (disch := first | exact zdis | fail) only [zcore, zall, zopm, zop, zcallOp, qop, qbuiltin, ofOpt, List.map, reduceCtorEq, if_true, if_false, ↓reduceIte, zbin, eqRes, qassert, qnum, qshift, qun, kindOf, allocV, List.nil_append, List.append_nil, List.cons_append, List.length_cons, List.length_nil, Nat.reduceAdd, Nat.reduceEqDiff, Nat.reduceLT, Nat.reduceSub, Nat.reduceMul, Int.reduceToNat, Int.reduceLE, Int.reduceLT, Int.reduceEq, Int.reduceNeg, Int.reduceAdd, Int.reduceSub, beq_self_eq_true, cond_true, cond_false, isConstOpd, xpanic, xconv, isBytes, qconv, List.length_map, List.map_nil, List.map_cons, concrete, Option.some.injEq, exists_eq', Option.map_some, Option.map_none, List.getElem?_cons_zero, List.getElem?_cons_succ, zw83, rs83, tt3, tt29, ti3, ti29, t_84, Y0l, zx, hc]); rfl)) (k : B) : A := h ▸ k
theorem zno83 {P : Prop} (h : P := by intro jj; simp [CV.has, CV.hasL, fault, K0c.nohas, X0c.nohas]) : P := h
set_option maxHeartbeats 8000000 in
theorem c83 : Con C 83 R83 := by
  refine Z0f C ?_ ?_ ?_
  · rintro args p r r' ⟨o, h, e⟩ ⟨o', h', e'⟩
    subst e; subst e'; simp_all [X0c.inj_iff]
  · rintro args p r ⟨o, h, rfl⟩; first | (split <;> simp; done) | (simp; done) | (simp only [resM]; split <;> simp; done) | (simp only [resD]; split <;> simp; done) 
  · rintro args p r ⟨o, rfl, rfl⟩
    refine Z0e C false noExt (tabL C [(84, R84)]) xf83 (Q0f C) (K0f C _) zc83_ok (Nat.le_of_ble_eq_true (by kernel_rfl)) fun hF => ?_
    have t_84 := @t84 (tabL C [(84, R84)]) (Z0d C c84 [])
    generalize tabL C [(84, R84)] = call at t_84 ⊢
    show W C false noExt call zc83 (argE [o.cv]) p (endQ C _ _)
    (have zx := True.intro; have hc := True.intro; refine zq83 (k := ?_); clear hc; try exact True.intro)
    repeat' ((first | refine K0d ?_ ?_ | refine Z0c ?_ ?_ | refine X0d _ _ _ _ ?_ ?_ | refine Q0d ?_ ?_ | refine V0d _ _ _ _ ?_ ?_) <;> intro hc <;> (try simp only [zhd, zhn] at hc) <;> (try have hw := X0b hc) <;> (refine zq83 (k := ?_); try exact True.intro))
    all_goals (try clear zx)
    all_goals refine K0e hF zle (Q0e ?_ (Y0d zno83))
    all_goals simp_all [opRight]
def J155 (l : Lst X0c) (p : Hp) (n : Nat) (ρ : Env) (q : Hp) : Prop :=
  ∃ (k : Nat), n = l.l.length - k ∧ k ≤ l.l.length ∧ ρ 0 = l.cv X0c.cv ∧ ρ 1 = .fn 83 [] [] ∧ ρ 7 = I l.l.length ∧ ρ 8 = I k ∧ firstW (fun o => !opRight o) (l.l.drop k) k = firstW (fun o => !opRight o) l.l 0 ∧ HpLe p q
def R155 : Rel := fun args p r => ∃ (l : Lst X0c), args = [l.cv X0c.cv, .fn 83 [] []] ∧ (l.l.length ≤ 1000000) ∧ r = .ret (I (firstW (fun o => !opRight o) l.l 0)) p
theorem t155 {T : XCall} (h : Has T 155 R155) (l : Lst X0c) {p : Hp} (hl : l.l.length ≤ 1000000) : T 155 [l.cv X0c.cv, .fn 83 [] []] p = .ret (I (firstW (fun o => !opRight o) l.l 0)) p := h _ _ _ ⟨l, rfl, hl, rfl⟩
theorem zq155 {A B : Prop} (h : A = B := by ((try simp -dsimp (disch := first | exact zdis | fail) only [zcore, zall, zopm, zop, zcallOp, qop, qbuiltin, ofOpt, List.map, reduceCtorEq, if_true, if_false, ↓reduceIte, zbin, eqRes, qassert, qnum, qshift, qun, kindOf, allocV, List.nil_append, List.append_nil, List.cons_append, List.length_cons, List.length_nil, Nat.reduceAdd, Nat.reduceEqDiff, Nat.reduceLT, Nat.reduceSub, Nat.reduceMul, Int.reduceToNat, Int.reduceLE, Int.reduceLT, Int.reduceEq, Int.reduceNeg, Int.reduceAdd, Int.reduceSub, beq_self_eq_true, cond_true, cond_false, isConstOpd, xpanic, xconv, isBytes, qconv, List.length_map, List.map_nil, List.map_cons, concrete, Option.some.injEq, exists_eq', Option.map_some, Option.map_none, List.getElem?_cons_zero, List.getElem?_cons_succ, zw155, rs155, tt3, tt23, tt29, ti3, ti23, ti29, t_83, Y0l, zsl23, hl, zx, hc]); rfl)) (k : B) : A := h ▸ k
theorem zno155 {P : Prop} (h : P := by intro jj; simp [CV.has, CV.hasL, fault, K0c.nohas, X0c.nohas]) : P := h
set_option maxHeartbeats 8000000 in
theorem c155 : Con C 155 R155 := by
  refine Z0f C ?_ ?_ ?_
  · rintro args p r r' ⟨l, h, hl, e⟩ ⟨l', h', hl', e'⟩
    subst e; subst e'; simp_all [X0c.inj_iff, K0m]
  · rintro args p r ⟨l, h, hl, rfl⟩; first | (split <;> simp; done) | (simp; done) | (simp only [resM]; split <;> simp; done) | (simp only [resD]; split <;> simp; done) 
  · rintro args p r ⟨l, rfl, hl, rfl⟩
    refine Z0e C false noExt (tabL C [(83, R83)]) xf155 (Q0f C) (K0f C _) zc155_ok (Nat.le_of_ble_eq_true (by kernel_rfl)) fun hF => ?_
    have t_83 := @t83 (tabL C [(83, R83)]) (Z0d C c83 [])
    generalize tabL C [(83, R83)] = call at t_83 ⊢
    show W C false noExt call zc155 (argE [l.cv X0c.cv, .fn 83 [] []]) p (endQ C _ _)
    (have zx := True.intro; have hc := True.intro; refine zq155 (k := ?_); clear hc; try exact True.intro)
    repeat' ((first | refine K0d ?_ ?_ | refine Z0c ?_ ?_ | refine X0d _ _ _ _ ?_ ?_ | refine Q0d ?_ ?_ | refine V0d _ _ _ _ ?_ ?_) <;> intro hc <;> (try simp only [zhd, zhn] at hc) <;> (try have hw := X0b hc) <;> (refine zq155 (k := ?_); try exact True.intro))
    all_goals (try clear zx)
    show W C false noExt call (ZC.block 0 (ZC.loop zn155_7)) _ _ (seqQ _ _)
    show W C false noExt call (ZC.loop zn155_7) _ _ _
    refine V0n C false noExt call zn155_7 _ _ _ (J155 l p) l.l.length ⟨0, rfl, by omega, (by simp [put_at, Z0a, V0f]), (by simp [put_at, Z0a]; rfl), (by simp [put_at, Z0a, V0f]), (by simp [put_at, Z0a, V0f]), by simp, zle⟩ ?_
    rintro n ρ q ⟨k, rfl, hk, e0, e1, e7, e8, hj, hle⟩
    by_cases hlt : (k : Int) < l.l.length
    · have hd := Z06 (l := l.l) (k := k) (by omega)
      rw [hd] at hj
      simp only [firstW] at hj
      cases hr : opRight (nth l.l k) with
      | true =>
        rw [if_neg (by simp [hr])] at hj
        (have zx := And.intro e0 (And.intro e1 (And.intro e7 (And.intro e8 (And.intro hlt hr)))); have hc := True.intro; refine zq155 (k := ?_); clear hc; try exact True.intro)
        repeat' ((first | refine K0d ?_ ?_ | refine Z0c ?_ ?_ | refine X0d _ _ _ _ ?_ ?_ | refine Q0d ?_ ?_ | refine V0d _ _ _ _ ?_ ?_) <;> intro hc <;> (try simp only [zhd, zhn] at hc) <;> (try have hw := X0b hc) <;> (refine zq155 (k := ?_); try exact True.intro))
        all_goals (try clear zx)
        exact ⟨l.l.length - (k + 1), by omega, k + 1, rfl, by omega, by simp [put_at, Z0a, e0], by simp [put_at, Z0a, e1], by simp [put_at, Z0a, e7], by simp [put_at, Z0a], by simpa using hj, zlq⟩
      | false =>
        rw [if_pos (by simp [hr])] at hj
        (have zx := And.intro e0 (And.intro e1 (And.intro e7 (And.intro e8 (And.intro hlt hr)))); have hc := True.intro; refine zq155 (k := ?_); clear hc; try exact True.intro)
        repeat' ((first | refine K0d ?_ ?_ | refine Z0c ?_ ?_ | refine X0d _ _ _ _ ?_ ?_ | refine Q0d ?_ ?_ | refine V0d _ _ _ _ ?_ ?_) <;> intro hc <;> (try simp only [zhd, zhn] at hc) <;> (try have hw := X0b hc) <;> (refine zq155 (k := ?_); try exact True.intro))
        all_goals (try clear zx)
        refine K0e hF zlq (Q0e ?_ (Y0d zno155))
        rw [← hj]
    · (have zx := And.intro e0 (And.intro e1 (And.intro e7 (And.intro e8 hlt))); have hc := True.intro; refine zq155 (k := ?_); clear hc; try exact True.intro)
      repeat' ((first | refine K0d ?_ ?_ | refine Z0c ?_ ?_ | refine X0d _ _ _ _ ?_ ?_ | refine Q0d ?_ ?_ | refine V0d _ _ _ _ ?_ ?_) <;> intro hc <;> (try simp only [zhd, zhn] at hc) <;> (try have hw := X0b hc) <;> (refine zq155 (k := ?_); try exact True.intro))
      all_goals (try clear zx)
      refine K0e hF zlq (Q0e ?_ (Y0d zno155))
      rw [← hj, List.drop_eq_nil_of_le (by omega)]; rfl
def R82 : Rel := fun args p r => ∃ (l : Lst X0c), args = [l.cv X0c.cv, .fn 83 [] []] ∧ (l.l.length ≤ 1000000) ∧ r = .ret (Bo (!l.l.all opRight)) p
theorem t82 {T : XCall} (h : Has T 82 R82) (l : Lst X0c) {p : Hp} (hl : l.l.length ≤ 1000000) : T 82 [l.cv X0c.cv, .fn 83 [] []] p = .ret (Bo (!l.l.all opRight)) p := h _ _ _ ⟨l, rfl, hl, rfl⟩
theorem zq82 {A B : Prop} (h : A = B := by ((try simp -dsimp (disch := first | exact zdis | fail) only [zcore, zall, zopm, zop, zcallOp, qop, qbuiltin, ofOpt, List.map, reduceCtorEq, if_true, if_false, ↓reduceIte, zbin, eqRes, qassert, qnum, qshift, qun, kindOf, allocV, List.nil_append, List.append_nil, List.cons_append, List.length_cons, List.length_nil, Nat.reduceAdd, Nat.reduceEqDiff, Nat.reduceLT, Nat.reduceSub, Nat.reduceMul, Int.reduceToNat, Int.reduceLE, Int.reduceLT, Int.reduceEq, Int.reduceNeg, Int.reduceAdd, Int.reduceSub, beq_self_eq_true, cond_true, cond_false, isConstOpd, xpanic, xconv, isBytes, qconv, List.length_map, List.map_nil, List.map_cons, concrete, Option.some.injEq, exists_eq', Option.map_some, Option.map_none, List.getElem?_cons_zero, List.getElem?_cons_succ, zw82, rs82, tt3, ti3, t_155, hl, zx, hc]); rfl)) (k : B) : A := h ▸ k
theorem zno82 {P : Prop} (h : P := by intro jj; simp [CV.has, CV.hasL, fault, K0c.nohas]) : P := h
set_option maxHeartbeats 8000000 in
theorem c82 : Con C 82 R82 := by
  refine Z0f C ?_ ?_ ?_
  · rintro args p r r' ⟨l, h, hl, e⟩ ⟨l', h', hl', e'⟩
    subst e; subst e'; simp_all [K0m]
  · rintro args p r ⟨l, h, hl, rfl⟩; first | (split <;> simp; done) | (simp; done) | (simp only [resM]; split <;> simp; done) | (simp only [resD]; split <;> simp; done) 
  · rintro args p r ⟨l, rfl, hl, rfl⟩
    refine Z0e C false noExt (tabL C [(155, R155)]) xf82 (Q0f C) (K0f C _) zc82_ok (Nat.le_of_ble_eq_true (by kernel_rfl)) fun hF => ?_
    have t_155 := @t155 (tabL C [(155, R155)]) (Z0d C c155 [])
    generalize tabL C [(155, R155)] = call at t_155 ⊢
    show W C false noExt call zc82 (argE [l.cv X0c.cv, .fn 83 [] []]) p (endQ C _ _)
    (have zx := True.intro; have hc := True.intro; refine zq82 (k := ?_); clear hc; try exact True.intro)
    repeat' ((first | refine K0d ?_ ?_ | refine Z0c ?_ ?_ | refine X0d _ _ _ _ ?_ ?_ | refine Q0d ?_ ?_ | refine V0d _ _ _ _ ?_ ?_) <;> intro hc <;> (try simp only [zhd, zhn] at hc) <;> (try have hw := X0b hc) <;> (refine zq82 (k := ?_); try exact True.intro))
    all_goals (try clear zx)
    refine K0e hF zle (Q0e ?_ (Y0d zno82))
    rw [← any_opRight, ← V1i _ _ 0]
def R29 : Rel := fun args p r => ∃ (l : Lst X0c), args = [l.cv X0c.cv] ∧ (l.l.length ≤ 1000000) ∧ r = .ret (Bo (ruleRight l.l)) p
theorem t29 {T : XCall} (h : Has T 29 R29) (l : Lst X0c) {p : Hp} (hl : l.l.length ≤ 1000000) : T 29 [l.cv X0c.cv] p = .ret (Bo (ruleRight l.l)) p := h _ _ _ ⟨l, rfl, hl, rfl⟩
theorem zq29 {A B : Prop} (h : A = B := by ((try simp -dsimp (disch := first | exact zdis | fail) only [zcore, zall, zopm, zop, zcallOp, qop, qbuiltin, ofOpt, List.map, reduceCtorEq, if_true, if_false, ↓reduceIte, zbin, eqRes, qassert, qnum, qshift, qun, kindOf, allocV, List.nil_append, List.append_nil, List.cons_append, List.length_cons, List.length_nil, Nat.reduceAdd, Nat.reduceEqDiff, Nat.reduceLT, Nat.reduceSub, Nat.reduceMul, Int.reduceToNat, Int.reduceLE, Int.reduceLT, Int.reduceEq, Int.reduceNeg, Int.reduceAdd, Int.reduceSub, beq_self_eq_true, cond_true, cond_false, isConstOpd, xpanic, xconv, isBytes, qconv, List.length_map, List.map_nil, List.map_cons, concrete, Option.some.injEq, exists_eq', Option.map_some, Option.map_none, List.getElem?_cons_zero, List.getElem?_cons_succ, zw29, rs29, tt3, tt23, ti3, ti23, t_82, Y0l, zsl23, hl, zx, hc]); rfl)) (k : B) : A := h ▸ k
theorem zno29 {P : Prop} (h : P := by intro jj; simp [CV.has, CV.hasL, fault, K0c.nohas, X0c.nohas]) : P := h
set_option maxHeartbeats 8000000 in
theorem c29 : Con C 29 R29 := by
  refine Z0f C ?_ ?_ ?_
  · rintro args p r r' ⟨l, h, hl, e⟩ ⟨l', h', hl', e'⟩
    subst e; subst e'; simp_all [X0c.inj_iff, K0m]
  · rintro args p r ⟨l, h, hl, rfl⟩; first | (split <;> simp; done) | (simp; done) | (simp only [resM]; split <;> simp; done) | (simp only [resD]; split <;> simp; done) 
  · rintro args p r ⟨l, rfl, hl, rfl⟩
    refine Z0e C false noExt (tabL C [(82, R82)]) xf29 (Q0f C) (K0f C _) zc29_ok (Nat.le_of_ble_eq_true (by kernel_rfl)) fun hF => ?_
    have t_82 := @t82 (tabL C [(82, R82)]) (Z0d C c82 [])
    generalize tabL C [(82, R82)] = call at t_82 ⊢
    show W C false noExt call zc29 (argE [l.cv X0c.cv]) p (endQ C _ _)
    by_cases h16 : (l.l.length : Int) ≤ 16
    · (have zx := h16; have hc := True.intro; refine zq29 (k := ?_); clear hc; try exact True.intro)
      repeat' ((first | refine K0d ?_ ?_ | refine Z0c ?_ ?_ | refine X0d _ _ _ _ ?_ ?_ | refine Q0d ?_ ?_ | refine V0d _ _ _ _ ?_ ?_) <;> intro hc <;> (try simp only [zhd, zhn] at hc) <;> (try have hw := X0b hc) <;> (refine zq29 (k := ?_); try exact True.intro))
      all_goals (try clear zx)
      refine K0e hF zle (Q0e ?_ (Y0d zno29))
      have h' : l.l.length ≤ 16 := by omega
      simp [ruleRight, h']
    · (have zx := h16; have hc := True.intro; refine zq29 (k := ?_); clear hc; try exact True.intro)
      repeat' ((first | refine K0d ?_ ?_ | refine Z0c ?_ ?_ | refine X0d _ _ _ _ ?_ ?_ | refine Q0d ?_ ?_ | refine V0d _ _ _ _ ?_ ?_) <;> intro hc <;> (try simp only [zhd, zhn] at hc) <;> (try have hw := X0b hc) <;> (refine zq29 (k := ?_); try exact True.intro))
      all_goals (try clear zx)
      refine K0e hF zle (Q0e ?_ (Y0d zno29))
      have h' : ¬ l.l.length ≤ 16 := by omega
      simp [ruleRight, h']
end Go.Proofs.Ytpchcfkebljopaa
end
